/-
  WALKS: nat.DivMod.
-/
import Derived.Test.YgcoajNat9
set_option linter.unusedVariables false
set_option linter.unusedSimpArgs false
namespace Go.Proofs.Ygcoaj
open Go.RowKit

theorem NatIs.len_le {B1 B2 : Nat} {w : World} {a b : List Nat} (la : Limbs a) (lb : Limbs b) (nb : NormL b) (h : valL b ≤ valL a) : b.length ≤ a.length := by
  by_cases hh : b.length ≤ a.length
  · exact hh
  · have := norm_len_le la lb nb (by omega); omega

theorem one_val : ∀ {l : List Nat}, l.length = 1 → l.getD 0 0 = valL l
  | [x], _ => by simp [valL]

set_option maxRecDepth 100000 in
set_option maxHeartbeats 2000000 in
theorem divMod_ok (B1 B2 : Nat) (v1 v2 : Value) (n m : Nat) (w : World) (h1 : NatIs B1 w v1 n) (h2 : NatIs B2 w v2 m) (hB1 : B1 ≤ 100000000) (hB2 : B2 ≤ 100000000) (hm : m ≠ 0) :
    Calls Oajg.prog 113 #[v1, v2] w fun e w' => ∃ ad1 k1 c1 ad2 k2 c2, e = .returned (.tuple #[.slice ad1 k1 c1, .slice ad2 k2 c2, .bool true]) ∧ NatIs (B1 + 2) w' (.slice ad1 k1 c1) (n / m) ∧ NatIs (B1 + 2) w' (.slice ad2 k2 c2) (n % m) ∧ Below w.heap.size w w' := by
  have HT1 : Hid (Calls Oajg.prog 112 #[v1] w fun e w' => e = .returned v1 ∧ w' = w) := trim_norm w h1 (by omega)
  have HT2 : Hid (Calls Oajg.prog 112 #[v2] w fun e w' => e = .returned v2 ∧ w' = w) := trim_norm w h2 (by omega)
  have hnil := eql_nil
  obtain ⟨l2, b2, c2, e2, lm2, n2, hl2, hne2, rfl, hc2, hb2, at2⟩ := h2.of_pos hm
  by_cases hlt : n < m
  · have HC : Hid (Calls Oajg.prog 82 #[v1, .slice (some ⟨b2, 0, none⟩) l2.length c2] w fun e w' => e = .returned (.int .i8 (-1)) ∧ Below w.heap.size w w') := by have := cmp_any B1 B2 v1 _ n m w h1 h2 (by omega) (by omega); rw [cmpZ_lt hlt] at this; exact this
    have HN1 : Hid (NatIs B1 w v1 n) := h1
    have HQ : Hid (n / m = 0 ∧ n % m = n) := ⟨Nat.div_eq_of_lt hlt, Nat.mod_eq_of_lt hlt⟩
    clear h1 h2 hlt at2 lm2 n2
    go_enter Oajg.func113, Oajg.ntmps113
    go_wp2_with fail
    refine Calls.mono HT1.out ?_
    rintro _ w0 ⟨rfl, hw⟩
    subst w0
    go_wp2_with fail
    refine Calls.mono HT2.out ?_
    rintro _ w0 ⟨rfl, hw⟩
    subst w0
    go_wp2_with fail
    refine Calls.mono HC.out ?_
    rintro _ w1 ⟨rfl, hb1⟩
    have HB1 : Hid (Below w.heap.size w w1) := hb1
    have HTK : Hid (Calls Oajg.prog 166 #[v1] w1 fun e w' => ∃ v', e = .returned v' ∧ NatIs B1 w' v' n ∧ Below w1.heap.size w1 w') := take_ok B1 v1 n w1 (HN1.out.kept hb1) (by omega)
    clear hb1
    go_wp2_with fail
    refine Calls.mono HTK.out ?_
    rintro _ w2 ⟨v', rfl, hN, hb2'⟩
    obtain ⟨ad, k, c, rfl⟩ := hN.shape
    have HN : Hid (NatIs (B1 + 2) w2 (.slice ad k c) (n % m)) := by show NatIs _ _ _ _; rw [HQ.out.2]; exact hN.mono (by omega)
    have HN0 : Hid (NatIs (B1 + 2) w2 (.slice none 0 0) (n / m)) := by show NatIs _ _ _ _; rw [HQ.out.1]; exact natIs_nil _ _
    have HB : Hid (Below w.heap.size w w2) := below_then HB1.out hb2'
    clear hN hb2'
    go_wp2_with fail
    go_ret3
    exact ⟨_, _, _, _, _, _, rfl, HN0.out, HN.out, HB.out⟩
  · have hn : n ≠ 0 := by omega
    obtain ⟨l1, b1, c1, e1, lm1, n1, hl1, hne1, rfl, hc1, hb1, at1⟩ := h1.of_pos hn
    have hz : 0 ≤ cmpZ n m := by unfold cmpZ; rw [if_neg (by omega)]; split <;> decide
    have HC : Hid (Calls Oajg.prog 82 #[.slice (some ⟨b1, 0, none⟩) l1.length c1, .slice (some ⟨b2, 0, none⟩) l2.length c2] w fun e w' => e = .returned (.int .i8 (cmpZ n m)) ∧ Below w.heap.size w w') := cmp_any B1 B2 _ _ n m w h1 h2 (by omega) (by omega)
    have hp2 := List.length_pos_iff.2 hne2
    have HH : Hid (LimbsAt w b1 0 l1 ∧ LimbsAt w b2 0 l2 ∧ Limbs l1 ∧ Limbs l2 ∧ NormL l1 ∧ NormL l2 ∧ l2.length ≤ l1.length ∧ valL l1 = n ∧ valL l2 = m) := ⟨at1, at2, lm1, lm2, n1, n2, NatIs.len_le (B1 := 0) (B2 := 0) (w := w) lm1 lm2 n2 (by omega), e1, e2⟩
    by_cases hone : l2.length = 1
    · have hd : l2.getD 0 0 = m := (one_val hone).trans e2
      have hdb := limbs_get l2 0 lm2
      rw [hd] at hdb
      rw [hone] at HT2 HC ⊢
      have x0 := at2 0 _ (get_some l2 0 (by omega))
      rw [Nat.zero_add, hd] at x0
      unfold lv at x0
      clear h1 h2 hlt at1 at2 lm1 lm2 n1 n2 e1 e2 hd hone hl2 hp2 hne2 hc2
      generalize cmpZ n m = Z at *
      go_enter Oajg.func113, Oajg.ntmps113
      go_wp2_with fail
      refine Calls.mono HT1.out ?_
      rintro _ w0 ⟨rfl, hw⟩
      subst w0
      go_wp2_with fail
      refine Calls.mono HT2.out ?_
      rintro _ w0 ⟨rfl, hw⟩
      subst w0
      go_wp2_with fail
      refine Calls.mono HC.out ?_
      rintro _ w1 ⟨rfl, hbl1⟩
      have HB1 : Hid (Below w.heap.size w w1) := hbl1
      have x0' : w1.cell? ⟨b2, 0, none⟩ = some (.int .u32 (m : Int)) := by rw [hbl1.cell (p := ⟨b2, 0, none⟩) hb2]; exact x0
      have hDL := divLimb_ok B1 l1 b1 c1 m HH.out.2.2.1 hl1 w1 (by have := hbl1.size; omega) (HH.out.1.kept hb1 hbl1) (by omega) (by omega) hdb
      rw [HH.out.2.2.2.2.2.2.2.1] at hDL
      have HDL : Hid (Calls Oajg.prog 167 #[.slice (some ⟨b1, 0, none⟩) l1.length c1, .int .u32 (m : Int)] w1 fun e w' => ∃ ad k c, e = .returned (.tuple #[.slice ad k c, .int .u32 ((n % m : Nat) : Int)]) ∧ NatIs B1 w' (.slice ad k c) (n / m) ∧ Below w1.heap.size w1 w') := hDL
      have hrb : n % m < 4294967296 := by have := Nat.mod_lt n (show m > 0 by omega); omega
      clear hbl1 hDL x0
      obtain ⟨R, HRR⟩ : ∃ R, Hid (n % m = R) := ⟨_, rfl⟩
      rw [HRR.out] at HDL hrb
      go_wp2_with fail
      refine Calls.mono HDL.out ?_
      rintro _ w2 ⟨ad, k, c, rfl, hN, hbl2⟩
      have HB2 : Hid (Below w.heap.size w w2) := below_then HB1.out hbl2
      have HNQ : Hid (NatIs B1 w2 (.slice ad k c) (n / m)) := hN
      have HF : Hid (Calls Oajg.prog 60 #[.int .u64 (R : Int)] w2 fun e w' => ∃ v, e = .returned v ∧ NatIs 2 w' v R ∧ Below w2.heap.size w2 w') := by have := fromU64_any (R : Int) (by omega) (by omega) w2; rw [Int.toNat_natCast] at this; exact this
      clear hN hbl2
      go_wp2_with fail
      refine Calls.mono HF.out ?_
      rintro _ w3 ⟨v, rfl, hN3, hbl3⟩
      obtain ⟨ad3, k3, c3, rfl⟩ := hN3.shape
      have HB3 : Hid (Below w.heap.size w w3) := below_then HB2.out hbl3
      have HNQ3 : Hid (NatIs (B1 + 2) w3 (.slice ad k c) (n / m)) := (HNQ.out.kept hbl3).mono (by omega)
      have HNR3 : Hid (NatIs (B1 + 2) w3 (.slice ad3 k3 c3) R) := hN3.mono (by omega)
      clear hN3 hbl3
      go_wp2_with fail
      go_ret3
      exact ⟨_, _, _, _, _, _, rfl, HNQ3.out, by rw [HRR.out]; exact HNR3.out, HB3.out⟩
    · obtain ⟨t, ht⟩ : ∃ t, l2.length = t + 2 := ⟨l2.length - 2, by omega⟩
      rw [ht] at HT2 HC ⊢
      have hc2' : t + 2 ≤ c2 := by omega
      clear h1 h2 hlt at1 at2 lm1 lm2 n1 n2 e1 e2 hone hp2 hne2
      generalize cmpZ n m = Z at *
      have HLT : Hid (l2.length = t + 2 ∧ l1.length ≤ c1 ∧ t + 2 ≤ c2 ∧ l1.length ≤ B1) := ⟨ht, hc1, hc2', hl1⟩
      clear ht hc2
      go_enter Oajg.func113, Oajg.ntmps113
      go_wp2_with fail
      refine Calls.mono HT1.out ?_
      rintro _ w0 ⟨rfl, hw⟩
      subst w0
      go_wp2_with fail
      refine Calls.mono HT2.out ?_
      rintro _ w0 ⟨rfl, hw⟩
      subst w0
      go_wp2_with fail
      refine Calls.mono HC.out ?_
      rintro _ w1 ⟨rfl, hbl1⟩
      have HB1 : Hid (Below w.heap.size w w1) := hbl1
      have HDL : Hid (Calls Oajg.prog 168 #[.slice (some ⟨b1, 0, none⟩) l1.length c1, .slice (some ⟨b2, 0, none⟩) (t + 2) c2] w1 fun e w' => ∃ ad1 k1 c1 ad2 k2 c2, e = .returned (.tuple #[.slice ad1 k1 c1, .slice ad2 k2 c2]) ∧ NatIs (B1 + 1) w' (.slice ad1 k1 c1) (n / m) ∧ NatIs (B1 + 1) w' (.slice ad2 k2 c2) (n % m) ∧ Below w1.heap.size w1 w') := by
        obtain ⟨p1, p2, p3, p4, p5, p6, p7, p8, p9⟩ := HH.out
        obtain ⟨r1, r2, r3, r4⟩ := HLT.out
        have := divLong_ok B1 l1 l2 b1 c1 b2 c2 t p3 p4 p5 p6 r4 r1 p7 r2 (by omega) w1 (by have := hbl1.size; omega) (by have := hbl1.size; omega) (p1.kept hb1 hbl1) (p2.kept hb2 hbl1) (by omega)
        rw [r1, p8, p9] at this
        exact this
      clear hbl1
      go_wp2_with fail
      refine Calls.mono HDL.out ?_
      rintro _ w2 ⟨ad, k, c, ad', k', c', rfl, hN, hN', hbl2⟩
      have HB2 : Hid (Below w.heap.size w w2) := below_then HB1.out hbl2
      have HNQ : Hid (NatIs (B1 + 2) w2 (.slice ad k c) (n / m)) := hN.mono (by omega)
      have HNR : Hid (NatIs (B1 + 2) w2 (.slice ad' k' c') (n % m)) := hN'.mono (by omega)
      clear hN hN' hbl2
      go_wp2_with fail
      go_ret3
      exact ⟨_, _, _, _, _, _, rfl, HNQ.out, HNR.out, HB2.out⟩

end Go.Proofs.Ygcoaj
