/-
  WALKS: tab.Build (16).
-/
import Derived.Test.YgcoajRy19
import Derived.Test.YgcoajSq3
set_option linter.unusedVariables false
set_option linter.unusedSimpArgs false
namespace Go.Proofs.Ygcoaj
open Go.RowKit

/-- a table whose entries in P are right -/
def TabP (C : Array Value) (P : Nat → Prop) : Prop := C.size = 2088 ∧ ∀ i, i < 696 → ∃ h l e, C[i * 2]? = some (.int .u64 h) ∧ C[i * 2 + 1]? = some (.int .u64 l) ∧ C[1392 + i]? = some (.int .i16 e) ∧
  (P i → h = ((tnM ((i : Int) - 348) / 18446744073709551616 : Nat) : Int) ∧ l = ((tnM ((i : Int) - 348) % 18446744073709551616 : Nat) : Int) ∧ e = tnE ((i : Int) - 348))
def putC (C : Array Value) (j : Nat) (h l e : Int) : Array Value := ((C.setIfInBounds (j * 2) (.int .u64 h)).setIfInBounds (j * 2 + 1) (.int .u64 l)).setIfInBounds (1392 + j) (.int .i16 e)

theorem z_eq : Oajg.zeroCells92 = (List.replicate 1392 (Value.int .u64 0) ++ List.replicate 696 (Value.int .i16 0)).toArray := by kernel_rfl
theorem rep_left (a b : Value) (n m i : Nat) (h : i < n) : (List.replicate n a ++ List.replicate m b).toArray[i]? = some a := by
  rw [List.getElem?_toArray, List.getElem?_append_left (by rw [List.length_replicate]; exact h), List.getElem?_replicate_of_lt h]
theorem rep_right (a b : Value) (n m i : Nat) (h : i < m) : (List.replicate n a ++ List.replicate m b).toArray[n + i]? = some b := by
  rw [List.getElem?_toArray, List.getElem?_append_right (by rw [List.length_replicate]; omega), List.length_replicate, show n + i - n = i from by omega, List.getElem?_replicate_of_lt h]
theorem rep_size (a b : Value) (n m : Nat) : (List.replicate n a ++ List.replicate m b).toArray.size = n + m := by
  rw [List.size_toArray, List.length_append, List.length_replicate, List.length_replicate]
theorem tabP_zero : TabP Oajg.zeroCells92 (fun _ => False) := by
  rw [z_eq]
  exact ⟨rep_size _ _ _ _, fun i hi => ⟨0, 0, 0, rep_left _ _ _ _ _ (by omega), rep_left _ _ _ _ _ (by omega), rep_right _ _ _ _ _ hi, fun h => h.elim⟩⟩
theorem tabP_put {C : Array Value} {P : Nat → Prop} {j : Nat} (h : TabP C P) (hj : j < 696) :
    TabP (putC C j ((tnM ((j : Int) - 348) / 18446744073709551616 : Nat) : Int) ((tnM ((j : Int) - 348) % 18446744073709551616 : Nat) : Int) (tnE ((j : Int) - 348))) (fun i => P i ∨ i = j) := by
  refine ⟨by unfold putC; simp [h.1], fun i hi => ?_⟩
  have hs := h.1
  by_cases hij : i = j
  · subst hij
    refine ⟨_, _, _, ?_, ?_, ?_, fun _ => ⟨rfl, rfl, rfl⟩⟩
    · unfold putC; simp only [Array.getElem?_setIfInBounds, Array.size_setIfInBounds]
      rw [if_neg (by omega), if_neg (by omega), if_pos trivial, if_pos (by omega)]
    · unfold putC; simp only [Array.getElem?_setIfInBounds, Array.size_setIfInBounds]
      rw [if_neg (by omega), if_pos trivial, if_pos (by omega)]
    · unfold putC; simp only [Array.getElem?_setIfInBounds, Array.size_setIfInBounds]
      rw [if_pos trivial, if_pos (by omega)]
  · obtain ⟨a, b, c, h1, h2, h3, h4⟩ := h.2 i hi
    refine ⟨a, b, c, ?_, ?_, ?_, fun hp => h4 (hp.resolve_right hij)⟩
    · unfold putC; simp only [Array.getElem?_setIfInBounds, Array.size_setIfInBounds]
      rw [if_neg (by omega), if_neg (by omega), if_neg (by omega)]; exact h1
    · unfold putC; simp only [Array.getElem?_setIfInBounds, Array.size_setIfInBounds]
      rw [if_neg (by omega), if_neg (by omega), if_neg (by omega)]; exact h2
    · unfold putC; simp only [Array.getElem?_setIfInBounds, Array.size_setIfInBounds]
      rw [if_neg (by omega), if_neg (by omega), if_neg (by omega)]; exact h3
theorem tabP_mono {C : Array Value} {P Q : Nat → Prop} (h : TabP C P) (hq : ∀ i, i < 696 → Q i → P i) : TabP C Q :=
  ⟨h.1, fun i hi => by obtain ⟨a, b, c, h1, h2, h3, h4⟩ := h.2 i hi; exact ⟨a, b, c, h1, h2, h3, fun q => h4 (hq i hi q)⟩⟩
theorem tabP_all {C : Array Value} (h : TabP C (fun _ => True)) : TabAt C :=
  ⟨h.1, fun i hi => by obtain ⟨a, b, c, h1, h2, h3, h4⟩ := h.2 i hi; obtain ⟨rfl, rfl, rfl⟩ := h4 trivial; exact ⟨h1, h2, h3⟩⟩

/-- putting an entry: the block, and what is kept -/
theorem put_all {W w : World} {tb t j : Nat} {C : Array Value} {P : Nat → Prop} {h l e : Int} (hb : Blk W tb C t) (hC : TabP C P) (hj : j < 696) (hw : w.heap.size ≤ tb) (hbe : Below w.heap.size w W)
    (eh : h = ((tnM ((j : Int) - 348) / 18446744073709551616 : Nat) : Int)) (el : l = ((tnM ((j : Int) - 348) % 18446744073709551616 : Nat) : Int)) (ee : e = tnE ((j : Int) - 348)) :
    (∃ C', Blk (((W.setCell ⟨tb, j * 2, none⟩ (.int .u64 h)).setCell ⟨tb, j * 2 + 1, none⟩ (.int .u64 l)).setCell ⟨tb, 1392 + j, none⟩ (.int .i16 e)) tb C' t ∧ TabP C' (fun i => P i ∨ i = j)) ∧
    Kp W (((W.setCell ⟨tb, j * 2, none⟩ (.int .u64 h)).setCell ⟨tb, j * 2 + 1, none⟩ (.int .u64 l)).setCell ⟨tb, 1392 + j, none⟩ (.int .i16 e)) ∧
    Below w.heap.size w (((W.setCell ⟨tb, j * 2, none⟩ (.int .u64 h)).setCell ⟨tb, j * 2 + 1, none⟩ (.int .u64 l)).setCell ⟨tb, 1392 + j, none⟩ (.int .i16 e)) := by
  subst eh; subst el; subst ee
  obtain ⟨a, b, c, h1, h2, h3, h4⟩ := hC.2 j hj
  refine ⟨⟨_, ((hb.set _ _).set _ _).set _ _, tabP_put hC hj⟩, ?_, ((hbe.setCell (p := ⟨tb, j * 2, none⟩) hw _).setCell (p := ⟨tb, j * 2 + 1, none⟩) hw _).setCell (p := ⟨tb, 1392 + j, none⟩) hw _⟩
  refine Kp.setCell (Kp.setCell (Kp.setCell (Kp.refl W) ((hb.cell _).trans h1) (not32_u64 _)) (u := .int .u64 b) ?_ (not32_u64 _)) (u := .int .i16 c) ?_ (not32_i16 _)
  · rw [(hb.set _ _).cell, Array.getElem?_setIfInBounds, if_neg (by omega)]; exact h2
  · rw [((hb.set _ _).set _ _).cell, Array.getElem?_setIfInBounds, if_neg (by omega), Array.getElem?_setIfInBounds, if_neg (by omega)]; exact h3
theorem put_cells {W : World} {tb t j : Nat} {C : Array Value} {P : Nat → Prop} (hb : Blk W tb C t) (hC : TabP C P) (hj : j < 696) : ∃ a b c : Int,
    W.cell? ⟨tb, j * 2, none⟩ = some (.int .u64 a) ∧ W.cell? ⟨tb, j * 2 + 1, none⟩ = some (.int .u64 b) ∧ W.cell? ⟨tb, 1392 + j, none⟩ = some (.int .i16 c) ∧ (∀ o, W.frozen? ⟨tb, o, none⟩ = false) ∧ tb < W.heap.size := by
  obtain ⟨a, b, c, h1, h2, h3, h4⟩ := hC.2 j hj
  exact ⟨a, b, c, (hb.cell _).trans h1, (hb.cell _).trans h2, (hb.cell _).trans h3, hb.frozen, hb.lt⟩

theorem p5_lt {q B : Nat} (h : 3 * q < 32 * B) : 5 ^ q < 4294967296 ^ B := by
  have h1 : 5 ^ q ≤ 8 ^ q := Nat.pow_le_pow_left (by decide) q
  rw [show (8 : Nat) = 2 ^ 3 from rfl, ← Nat.pow_mul] at h1
  rw [show (4294967296 : Nat) = 2 ^ 32 from rfl, ← Nat.pow_mul]
  exact Nat.lt_of_le_of_lt h1 (Nat.pow_lt_pow_right (by decide) h)


set_option maxRecDepth 100000 in
set_option maxHeartbeats 4000000 in
theorem build_ok (w : World) :
    Calls Oajg.prog 16 #[] w fun e w' => ∃ tb C t, e = .returned (.pointer (some ⟨tb, 0, none⟩)) ∧ Blk w' tb C t ∧ TabAt C ∧ Below w.heap.size w w' := by
  have hb0 := Blk.made w Oajg.zeroCells92 92
  have HB0 := hid_mk (show Below w.heap.size w (w.alloc (.cells Oajg.zeroCells92 92)) from (Below.refl _ _).alloc (Nat.le_refl _) _)
  have HF1 := hid_mk (fun w => shaped (fromU64_any 1 (by decide) (by decide) w))
  have HF5 := hid_mk (fun w => shaped (fromU64_any 5 (by decide) (by decide) w))
  go_enter Oajg.func16, Oajg.ntmps16
  go_wp2_with fail
  refine Calls.mono (HF1.out _) ?_
  rintro _ w1 ⟨a1, l1, c1, rfl, hN1, hb⟩
  replace hb0 := hb0.next hb
  replace HB0 := hid_mk (below_then HB0.out hb)
  clear hb HF1
  go_wp2_with fail
  refine Calls.mono (HF5.out _) ?_
  rintro _ w2 ⟨a5, l5, c5, rfl, hN5, hb⟩
  replace hb0 := hb0.next hb
  replace HB0 := hid_mk (below_then HB0.out hb)
  replace hN1 := hN1.kept hb
  have HBK := hid_mk hb0
  have HN1 := hid_mk hN1
  have HN5 := hid_mk hN5
  clear hb HF5 hb0 hN1 hN5
  go_wp2_with fail
  go_loopw [2, 4] (fun c2 c4 wr => ∃ (a : Option Addr) (k c q : Nat) (C : Array Value), c2 = .slice a k c ∧ c4 = .int .i16 (q : Int) ∧ q ≤ 349 ∧ NatIs 40 wr (.slice a k c) (5 ^ q) ∧ NatIs 2 wr (.slice a5 l5 c5) 5 ∧ Blk wr w.heap.size C 92 ∧ TabP C (fun i => 348 < i + q ∧ i < 348 + q) ∧ Below w.heap.size w wr) (fun _ c4 _ => 349 - (intOf c4).toNat)
  case atStart => exact ⟨_, _, _, 0, _, rfl, rfl, by omega, by exact HN1.out.mono (by decide), HN5.out, HBK.out, tabP_mono tabP_zero (fun i _ h => absurd h (by omega)), HB0.out⟩
  case round =>
    clear HN1 HN5 HBK HB0
    obtain ⟨a, k, c, q, C, rfl, rfl, hq, hN, hN5, hblk, htab, hbel⟩ := hrel
    by_cases hq8 : q ≤ 348
    · obtain ⟨j, hj⟩ : ∃ j, j + q = 348 := ⟨348 - q, by omega⟩
      have b1 : decide ((q : Int) ≤ 348) = true := decide_eq_true (by omega)
      have kj1 : (348 : Int) - (q : Int) = (j : Int) := by omega
      have kj2 : IntKind.i16.wrap (j : Int) = (j : Int) := by rw [i16_wrap]; omega
      have kq : IntKind.i16.wrap (-(q : Int)) = -(q : Int) := by rw [i16_wrap]; omega
      have kq1 : IntKind.i16.wrap ((q : Int) + 1) = ((q + 1 : Nat) : Int) := by rw [i16_wrap]; omega
      have hj6 : j < 696 := by omega
      have HEN : Hid (∀ W, Below wr.heap.size wr W → Calls Oajg.prog 61 #[.slice a k c, .int .i16 (-(q : Int))] W fun e w' => e = .returned (.tuple #[.agg #[.int .u64 ((tnM (-(q : Int)) / 18446744073709551616 : Nat) : Int), .int .u64 ((tnM (-(q : Int)) % 18446744073709551616 : Nat) : Int)], .int .i16 (tnE (-(q : Int)))]) ∧ Below W.heap.size W w') := fun W hW => entry_ok (-(q : Int)) (by omega) (by omega) 40 (by decide) a k c W (by rw [show (-(q : Int)).natAbs = q from by omega]; exact hN.kept hW)
      obtain ⟨H, HH⟩ : ∃ H : Int, Hid (((tnM (-(q : Int)) / 18446744073709551616 : Nat) : Int) = H) := ⟨_, rfl⟩
      obtain ⟨L, HL⟩ : ∃ L : Int, Hid (((tnM (-(q : Int)) % 18446744073709551616 : Nat) : Int) = L) := ⟨_, rfl⟩
      obtain ⟨E, HE⟩ : ∃ E, Hid (tnE (-(q : Int)) = E) := ⟨_, rfl⟩
      rw [HH.out, HL.out, HE.out] at HEN
      have HN := hid_mk hN
      have HN5 := hid_mk hN5
      have HBK := hid_mk hblk
      have HTB := hid_mk htab
      have HBE := hid_mk hbel
      have hszt := hblk.lt
      clear hN hN5 hblk htab hbel
      go_wp2_with fail
      go_cut [12] (fun s12 W => ∃ C, Blk W w.heap.size C 92 ∧ TabP C (fun i => (348 < i + q ∧ i < 348 + q) ∨ i = j) ∧ NatIs 40 W (.slice a k c) (5 ^ q) ∧ NatIs 2 W (.slice a5 l5 c5) 5 ∧ Below w.heap.size w W)
      case first =>
        have n1 : ¬ 1392 + j = j * 2 := by omega
        have n2 : ¬ 1392 + j = j * 2 + 1 := by omega
        have n3 : ¬ j * 2 = 1392 + j := by omega
        have n4 : ¬ j * 2 + 1 = 1392 + j := by omega
        go_region_with ((refine Calls.mono (HEN.out _ (by first | exact (Below.refl _ _).drew | exact Below.refl _ _)) ?_); rintro _ w1 ⟨rfl, hb⟩; (obtain ⟨o0, o1, o2, p0, p1, p2, p3, p4⟩ := put_cells (HBK.out.next ((Below.refl _ _).drew.trans hb)) HTB.out hj6))
        go_wp2_with fail
        go_meet
        have hbd := (Below.refl wr.heap.size wr).drew.trans hb
        obtain ⟨⟨C2, r1, r2⟩, r3, r4⟩ := put_all (w := w) (HBK.out.next hbd) HTB.out hj6 (Nat.le_refl _) (below_then HBE.out hbd) (show H = ((tnM ((j : Int) - 348) / 18446744073709551616 : Nat) : Int) by rw [show (j : Int) - 348 = -(q : Int) from by omega]; exact HH.out.symm) (show L = ((tnM ((j : Int) - 348) % 18446744073709551616 : Nat) : Int) by rw [show (j : Int) - 348 = -(q : Int) from by omega]; exact HL.out.symm) (show E = tnE ((j : Int) - 348) by rw [show (j : Int) - 348 = -(q : Int) from by omega]; exact HE.out.symm)
        exact ⟨C2, r1, r2, (HN.out.kept hbd).kp r3, (HN5.out.kept hbd).kp r3, r4⟩
      case rest =>
        clear HEN HH HL HE H L E HN HN5 HBK HTB HBE hszt C
        obtain ⟨C, hblk, htab, hN, hN5, hbel⟩ := hcut
        have hszt := hblk.lt
        by_cases hq7 : q ≤ 347
        · obtain ⟨m, hm⟩ : ∃ m, m = 348 + q := ⟨_, rfl⟩
          have b2 : decide ((q : Int) ≤ 347) = true := decide_eq_true (by omega)
          have km1 : (348 : Int) + (q : Int) = (m : Int) := by omega
          have km2 : IntKind.i16.wrap (m : Int) = (m : Int) := by rw [i16_wrap]; omega
          have hm6 : m < 696 := by omega
          have HM := hid_mk hm
          clear hm
          have HEN : Hid (∀ W, Below wc.heap.size wc W → Calls Oajg.prog 61 #[.slice a k c, .int .i16 (q : Int)] W fun e w' => e = .returned (.tuple #[.agg #[.int .u64 ((tnM (q : Int) / 18446744073709551616 : Nat) : Int), .int .u64 ((tnM (q : Int) % 18446744073709551616 : Nat) : Int)], .int .i16 (tnE (q : Int))]) ∧ Below W.heap.size W w') := fun W hW => entry_ok (q : Int) (by omega) (by omega) 40 (by decide) a k c W (by rw [show (q : Int).natAbs = q from by omega]; exact hN.kept hW)
          obtain ⟨H, HH⟩ : ∃ H : Int, Hid (((tnM (q : Int) / 18446744073709551616 : Nat) : Int) = H) := ⟨_, rfl⟩
          obtain ⟨L, HL⟩ : ∃ L : Int, Hid (((tnM (q : Int) % 18446744073709551616 : Nat) : Int) = L) := ⟨_, rfl⟩
          obtain ⟨E, HE⟩ : ∃ E, Hid (tnE (q : Int) = E) := ⟨_, rfl⟩
          rw [HH.out, HL.out, HE.out] at HEN
          have HN := hid_mk hN
          have HN5 := hid_mk hN5
          have HBK := hid_mk hblk
          have HTB := hid_mk htab
          have HBE := hid_mk hbel
          clear hN hN5 hblk htab hbel
          go_wp2_with fail
          go_cut [33] (fun s33 W => ∃ C, Blk W w.heap.size C 92 ∧ TabP C (fun i => ((348 < i + q ∧ i < 348 + q) ∨ i = j) ∨ i = m) ∧ NatIs 40 W (.slice a k c) (5 ^ q) ∧ NatIs 2 W (.slice a5 l5 c5) 5 ∧ Below w.heap.size w W)
          case first =>
            have n1 : ¬ 1392 + m = m * 2 := by omega
            have n2 : ¬ 1392 + m = m * 2 + 1 := by omega
            have n3 : ¬ m * 2 = 1392 + m := by omega
            have n4 : ¬ m * 2 + 1 = 1392 + m := by omega
            go_region_with ((refine Calls.mono (HEN.out _ (by first | exact (Below.refl _ _).drew | exact Below.refl _ _)) ?_); rintro _ w1 ⟨rfl, hb⟩; (obtain ⟨o0, o1, o2, p0, p1, p2, p3, p4⟩ := put_cells (HBK.out.next ((Below.refl _ _).drew.trans hb)) HTB.out hm6))
            go_wp2_with fail
            go_meet
            have hbd := (Below.refl wc.heap.size wc).drew.trans hb
            have hmq : (m : Int) - 348 = (q : Int) := by have := HM.out; omega
            obtain ⟨⟨C2, r1, r2⟩, r3, r4⟩ := put_all (w := w) (HBK.out.next hbd) HTB.out hm6 (Nat.le_refl _) (below_then HBE.out hbd) (show H = ((tnM ((m : Int) - 348) / 18446744073709551616 : Nat) : Int) by rw [hmq]; exact HH.out.symm) (show L = ((tnM ((m : Int) - 348) % 18446744073709551616 : Nat) : Int) by rw [hmq]; exact HL.out.symm) (show E = tnE ((m : Int) - 348) by rw [hmq]; exact HE.out.symm)
            exact ⟨C2, r1, r2, (HN.out.kept hbd).kp r3, (HN5.out.kept hbd).kp r3, r4⟩
          case rest =>
            clear HEN HH HL HE H L E HN HN5 HBK HTB HBE hszt C
            obtain ⟨C, hblk, htab, hN, hN5, hbel⟩ := hcut
            have HBK := hid_mk hblk
            have HTB : Hid (TabP C (fun i => 348 < i + (q + 1) ∧ i < 348 + (q + 1))) := tabP_mono htab (fun i hi h => by have := HM.out; omega)
            have HML := hid_mk (shaped (mul_any 40 2 _ _ _ _ _ hN hN5 (by decide) (by decide)))
            rw [← Nat.pow_succ] at HML
            have HN5 := hid_mk hN5
            have HBE := hid_mk hbel
            clear hN hN5 hblk htab hbel
            go_wp2_with fail
            refine Calls.mono HML.out ?_
            rintro _ w3 ⟨a3, l3, c3, rfl, hN3, hb⟩
            have HNN := hid_mk (hN3.under (B := 40) (p5_lt (by omega)))
            have HN55 := hid_mk (HN5.out.kept hb)
            have HBB := hid_mk (below_then HBE.out hb)
            have HBX := hid_mk (HBK.out.next hb)
            clear hN3 hb HML
            go_wp2_with fail
            go_roundw
            case rel => exact ⟨_, _, _, q + 1, C, rfl, rfl, by omega, HNN.out, HN55.out, HBX.out, HTB.out, HBB.out⟩
            case measure => simp [intOf]; omega
        · have b2 : decide ((q : Int) ≤ 347) = false := decide_eq_false (by omega)
          have HBK := hid_mk hblk
          have HTB : Hid (TabP C (fun i => 348 < i + (q + 1) ∧ i < 348 + (q + 1))) := tabP_mono htab (fun i hi h => by omega)
          have HML := hid_mk (shaped (mul_any 40 2 _ _ _ _ _ hN hN5 (by decide) (by decide)))
          rw [← Nat.pow_succ] at HML
          have HN5 := hid_mk hN5
          have HBE := hid_mk hbel
          clear hN hN5 hblk htab hbel
          go_wp2_with fail
          refine Calls.mono HML.out ?_
          rintro _ w3 ⟨a3, l3, c3, rfl, hN3, hb⟩
          have HNN := hid_mk (hN3.under (B := 40) (p5_lt (by omega)))
          have HN55 := hid_mk (HN5.out.kept hb)
          have HBB := hid_mk (below_then HBE.out hb)
          have HBX := hid_mk (HBK.out.next hb)
          clear hN3 hb HML
          go_wp2_with fail
          go_roundw
          case rel => exact ⟨_, _, _, q + 1, C, rfl, rfl, by omega, HNN.out, HN55.out, HBX.out, HTB.out, HBB.out⟩
          case measure => simp [intOf]; omega
    · have b1 : decide ((q : Int) ≤ 348) = false := decide_eq_false (by omega)
      have HT := hid_mk (tabP_all (tabP_mono htab (fun i hi _ => by omega)))
      have HBK := hid_mk hblk
      have HBE := hid_mk hbel
      clear hN hN5 hblk htab hbel
      go_wp2_with fail
      exact bodyPost_ret (v := .pointer (some ⟨w.heap.size, 0, none⟩)) (by simp [results, Oajg.results16, go_sem]) rfl ⟨_, _, _, rfl, HBK.out, HT.out, HBE.out⟩

end Go.Proofs.Ygcoaj
