/-
  WALKS: exact.rootAt (154).
-/
import Derived.Test.YgcoajSq3
import Derived.Test.YgcoajRnd2
set_option linter.unusedVariables false
set_option linter.unusedSimpArgs false
namespace Go.Proofs.Ygcoaj
open Go.RowKit

def raHf (n num den : Nat) : Int := cmpZ (num * 4) ((n * 2 + 1) * (n * 2 + 1) * den)
def raSm (n num den : Nat) : Bool := !(cmpZ (n * n * den) num == 0)
def raN (mo n num den : Nat) : Nat := n + (if rdX mo false (n % 2 == 1) (raHf n num den) (raSm n num den) then 1 else 0)
theorem cmpZ_range (n m : Nat) : cmpZ n m = -1 ∨ cmpZ n m = 0 ∨ cmpZ n m = 1 := by
  unfold cmpZ
  split
  · exact Or.inl rfl
  · split
    · exact Or.inr (Or.inl rfl)
    · exact Or.inr (Or.inr rfl)

theorem shl_one (B : Nat) (v : Value) (n : Nat) (w : World) (h : NatIs B w v n) (hB : B ≤ 1000000) :
    Calls Oajg.prog 78 #[v, .int .u16 1] w fun e w' => ∃ ad k c, e = .returned (.slice ad k c) ∧ NatIs (B + 2048) w' (.slice ad k c) (n * 2) ∧ Below w.heap.size w w' := by
  have := shaped (shl_any B v n 1 w h (by omega) (by decide) (by decide))
  rw [show (1 : Int).toNat = 1 from rfl, Nat.pow_one] at this
  exact this
theorem shl_two (B : Nat) (v : Value) (n : Nat) (w : World) (h : NatIs B w v n) (hB : B ≤ 1000000) :
    Calls Oajg.prog 78 #[v, .int .u16 2] w fun e w' => ∃ ad k c, e = .returned (.slice ad k c) ∧ NatIs (B + 2048) w' (.slice ad k c) (n * 4) ∧ Below w.heap.size w w' := by
  have := shaped (shl_any B v n 2 w h (by omega) (by decide) (by decide))
  rw [show (2 : Int).toNat = 2 from rfl, show 2 ^ 2 = 4 from rfl] at this
  exact this

set_option maxRecDepth 100000 in
set_option maxHeartbeats 4000000 in
theorem rootAt_ok (E M mo B NUM DEN num den : Nat) (vn : Bool) (a1 a2 : Option Addr) (k1 c1 k2 c2 : Nat) (e J : Int) (hM : M ≤ 52) (he1 : -30000 ≤ e) (he2 : e ≤ 30000) (hJ : J = 2 * ((M : Int) - e)) (hnum : NUM * 2 ^ J.toNat = num) (hden : DEN * 2 ^ (-J).toNat = den) (w : World)
    (h1 : NatIs B w (.slice a1 k1 c1) NUM) (h2 : NatIs B w (.slice a2 k2 c2) DEN) (hB : B ≤ 5000) (hd : den ≠ 0) :
    Calls Oajg.prog 154 #[.agg #[.int .u8 (E : Int), .int .u8 (M : Int)], .int .u8 (mo : Int), .agg #[.bool vn, .slice a1 k1 c1, .slice a2 k2 c2], .int .i64 e] w fun x w' => ∃ b l c n, IsRoot (num / den) n ∧ x = .returned (.tuple #[.slice b l c, .agg #[.int .i8 (raHf n num den), .bool (raSm n num den)]]) ∧ NatIs 20000 w' (.slice b l c) (raN mo n num den) ∧ Below w.heap.size w w' := by
  have hbl : Below w.heap.size w (((w.alloc (.cells #[.int .u8 (E : Int), .int .u8 (M : Int)] 23)).alloc (.cells #[.bool vn, .slice a1 k1 c1, .slice a2 k2 c2] 48)).alloc (.cells #[.int .i8 0, .bool false] 152)) := (((Below.refl _ _).alloc (Nat.le_refl _) _).alloc (by simp) _).alloc (by simp; omega) _
  have HBL : Hid (Below w.heap.size w (((w.alloc (.cells #[.int .u8 (E : Int), .int .u8 (M : Int)] 23)).alloc (.cells #[.bool vn, .slice a1 k1 c1, .slice a2 k2 c2] 48)).alloc (.cells #[.int .i8 0, .bool false] 152))) := hbl
  have hR := bx2_made ((w.alloc (.cells #[.int .u8 (E : Int), .int .u8 (M : Int)] 23)).alloc (.cells #[.bool vn, .slice a1 k1 c1, .slice a2 k2 c2] 48)) (m := w.heap.size + 1 + 1) (.int .i8 0) (.bool false) 152 (by simp)
  have HSH : Hid (Calls Oajg.prog 66 #[.slice a1 k1 c1, .slice a2 k2 c2, .int .i64 J] (((w.alloc (.cells #[.int .u8 (E : Int), .int .u8 (M : Int)] 23)).alloc (.cells #[.bool vn, .slice a1 k1 c1, .slice a2 k2 c2] 48)).alloc (.cells #[.int .i8 0, .bool false] 152)) fun e w' => ∃ b1 l1 e1 b2 l2 e2, e = .returned (.tuple #[.slice b1 l1 e1, .slice b2 l2 e2]) ∧ NatIs (B + 2048) w' (.slice b1 l1 e1) num ∧ NatIs (B + 2048) w' (.slice b2 l2 e2) den ∧ Below (((w.alloc (.cells #[.int .u8 (E : Int), .int .u8 (M : Int)] 23)).alloc (.cells #[.bool vn, .slice a1 k1 c1, .slice a2 k2 c2] 48)).alloc (.cells #[.int .i8 0, .bool false] 152)).heap.size (((w.alloc (.cells #[.int .u8 (E : Int), .int .u8 (M : Int)] 23)).alloc (.cells #[.bool vn, .slice a1 k1 c1, .slice a2 k2 c2] 48)).alloc (.cells #[.int .i8 0, .bool false] 152)) w') := by
    have := shift_ok B NUM DEN a1 a2 k1 c1 k2 c2 J _ (h1.kept hbl) (h2.kept hbl) (by omega) (by omega) (by omega)
    rw [hnum, hden] at this
    exact this
  have kJ : (2 : Int) * ((M : Int) - e) = J := hJ.symm
  have hJ1 : -61000 ≤ J := by omega
  have hJ2 : J ≤ 61000 := by omega
  have HDE : Hid (den ≠ 0) := hd
  clear h1 h2 hbl hnum hden hd hJ
  go_enter Oajg.func154, Oajg.ntmps154
  go_wp2_with fail
  refine Calls.mono HSH.out ?_
  rintro _ w1 ⟨b1, l1, e1, b2, l2, e2, rfl, hN1, hN2, hb⟩
  have HNU : Hid (NatIs (B + 2048) w1 (.slice b1 l1 e1) num) := hN1
  have HDN : Hid (NatIs (B + 2048) w1 (.slice b2 l2 e2) den) := hN2
  replace hR := bx2_next hR hb
  replace HBL := hid_mk (below_then HBL.out hb)
  have HDV : Hid (Calls Oajg.prog 113 #[.slice b1 l1 e1, .slice b2 l2 e2] w1 fun e w' => ∃ ad1 k1 c1 ad2 k2 c2, e = .returned (.tuple #[.slice ad1 k1 c1, .slice ad2 k2 c2, .bool true]) ∧ NatIs (B + 2048 + 2) w' (.slice ad1 k1 c1) (num / den) ∧ NatIs (B + 2048 + 2) w' (.slice ad2 k2 c2) (num % den) ∧ Below w1.heap.size w1 w') :=
    divMod_ok (B + 2048) (B + 2048) _ _ num den w1 hN1 hN2 (by omega) (by omega) HDE.out
  clear hb hN1 hN2 HSH kJ hJ1 hJ2
  go_wp2_with fail
  refine Calls.mono HDV.out ?_
  rintro _ w2 ⟨b3, l3, e3, b4, l4, e4, rfl, hN3, hN4, hb⟩
  replace HNU := hid_mk (HNU.out.kept hb)
  replace HDN := hid_mk (HDN.out.kept hb)
  replace hR := bx2_next hR hb
  replace HBL := hid_mk (below_then HBL.out hb)
  have HSQ : Hid (Calls Oajg.prog 189 #[.slice b3 l3 e3] w2 fun e w' => ∃ ad k c wh r, IsRoot (num / den) r ∧ e = .returned (.tuple #[.slice ad k c, .bool wh]) ∧ NatIs (B + 2048 + 2 + 3) w' (.slice ad k c) r ∧ Below w2.heap.size w2 w') := nsqrt_ok (B + 2048 + 2) b3 l3 e3 (num / den) w2 hN3 (by omega)
  clear hb hN3 hN4 HDV
  go_wp2_with fail
  refine Calls.mono HSQ.out ?_
  rintro _ w3 ⟨bn, ln, en, wh, n, hroot, rfl, hN, hb⟩
  have HRO : Hid (IsRoot (num / den) n) := hroot
  replace HNU := hid_mk (HNU.out.kept hb)
  replace HDN := hid_mk (HDN.out.kept hb)
  replace hR := bx2_next hR hb
  replace HBL := hid_mk (below_then HBL.out hb)
  have HNN : Hid (NatIs (B + 2053) w3 (.slice bn ln en) n) := hN
  clear hb hN hroot HSQ
  have HC3 : Hid (Calls Oajg.prog 78 #[.slice bn ln en, .int .u16 1] w3 fun e w' => ∃ ad k c, e = .returned (.slice ad k c) ∧ NatIs (B + 2053 + 2048) w' (.slice ad k c) (n * 2) ∧ Below w3.heap.size w3 w') := shl_one (B + 2053) _ n w3 HNN.out (by omega)
  go_wp2_with fail
  refine Calls.mono HC3.out ?_
  rintro _ w4 ⟨bT1, lT1, eT1, rfl, hN, hb⟩
  replace HNU := hid_mk (HNU.out.kept hb)
  replace HDN := hid_mk (HDN.out.kept hb)
  replace HNN := hid_mk (HNN.out.kept hb)
  replace hR := bx2_next hR hb
  replace HBL := hid_mk (below_then HBL.out hb)
  have T1 : Hid (NatIs (B + 2053 + 2048) w4 (.slice bT1 lT1 eT1) (n * 2)) := hN
  clear hb hN HC3
  have HC4 : Hid (Calls Oajg.prog 173 #[.slice bT1 lT1 eT1] w4 fun e w' => ∃ ad k c, e = .returned (.slice ad k c) ∧ NatIs (B + 2053 + 2048 + 1) w' (.slice ad k c) (n * 2 + 1) ∧ Below w4.heap.size w4 w') := shaped (succ_ok (B + 2053 + 2048) _ (n * 2) w4 T1.out (by omega))
  go_wp2_with fail
  refine Calls.mono HC4.out ?_
  rintro _ w5 ⟨bT2, lT2, eT2, rfl, hN, hb⟩
  replace HNU := hid_mk (HNU.out.kept hb)
  replace HDN := hid_mk (HDN.out.kept hb)
  replace HNN := hid_mk (HNN.out.kept hb)
  replace T1 := hid_mk (T1.out.kept hb)
  replace hR := bx2_next hR hb
  replace HBL := hid_mk (below_then HBL.out hb)
  have T2 : Hid (NatIs (B + 2053 + 2048 + 1) w5 (.slice bT2 lT2 eT2) (n * 2 + 1)) := hN
  clear hb hN HC4
  clear T1
  have HC5 : Hid (Calls Oajg.prog 78 #[.slice b1 l1 e1, .int .u16 2] w5 fun e w' => ∃ ad k c, e = .returned (.slice ad k c) ∧ NatIs (B + 2048 + 2048) w' (.slice ad k c) (num * 4) ∧ Below w5.heap.size w5 w') := shl_two (B + 2048) _ num w5 HNU.out (by omega)
  go_wp2_with fail
  refine Calls.mono HC5.out ?_
  rintro _ w6 ⟨bT3, lT3, eT3, rfl, hN, hb⟩
  replace HNU := hid_mk (HNU.out.kept hb)
  replace HDN := hid_mk (HDN.out.kept hb)
  replace HNN := hid_mk (HNN.out.kept hb)
  replace T2 := hid_mk (T2.out.kept hb)
  replace hR := bx2_next hR hb
  replace HBL := hid_mk (below_then HBL.out hb)
  have T3 : Hid (NatIs (B + 2048 + 2048) w6 (.slice bT3 lT3 eT3) (num * 4)) := hN
  clear hb hN HC5
  have HC6 : Hid (Calls Oajg.prog 62 #[.slice bT2 lT2 eT2, .slice bT2 lT2 eT2] w6 fun e w' => ∃ ad k c, e = .returned (.slice ad k c) ∧ NatIs ((B + 2053 + 2048 + 1) + (B + 2053 + 2048 + 1)) w' (.slice ad k c) ((n * 2 + 1) * (n * 2 + 1)) ∧ Below w6.heap.size w6 w') := shaped (mul_any (B + 2053 + 2048 + 1) (B + 2053 + 2048 + 1) _ _ (n * 2 + 1) (n * 2 + 1) w6 T2.out T2.out (by omega) (by omega))
  go_wp2_with fail
  refine Calls.mono HC6.out ?_
  rintro _ w7 ⟨bT4, lT4, eT4, rfl, hN, hb⟩
  replace HNU := hid_mk (HNU.out.kept hb)
  replace HDN := hid_mk (HDN.out.kept hb)
  replace HNN := hid_mk (HNN.out.kept hb)
  replace T2 := hid_mk (T2.out.kept hb)
  replace T3 := hid_mk (T3.out.kept hb)
  replace hR := bx2_next hR hb
  replace HBL := hid_mk (below_then HBL.out hb)
  have T4 : Hid (NatIs ((B + 2053 + 2048 + 1) + (B + 2053 + 2048 + 1)) w7 (.slice bT4 lT4 eT4) ((n * 2 + 1) * (n * 2 + 1))) := hN
  clear hb hN HC6
  clear T2
  have HC7 : Hid (Calls Oajg.prog 62 #[.slice bT4 lT4 eT4, .slice b2 l2 e2] w7 fun e w' => ∃ ad k c, e = .returned (.slice ad k c) ∧ NatIs ((B + 2053 + 2048 + 1) + (B + 2053 + 2048 + 1) + (B + 2048)) w' (.slice ad k c) ((n * 2 + 1) * (n * 2 + 1) * den) ∧ Below w7.heap.size w7 w') := shaped (mul_any ((B + 2053 + 2048 + 1) + (B + 2053 + 2048 + 1)) (B + 2048) _ _ ((n * 2 + 1) * (n * 2 + 1)) den w7 T4.out HDN.out (by omega) (by omega))
  go_wp2_with fail
  refine Calls.mono HC7.out ?_
  rintro _ w8 ⟨bT5, lT5, eT5, rfl, hN, hb⟩
  replace HNU := hid_mk (HNU.out.kept hb)
  replace HDN := hid_mk (HDN.out.kept hb)
  replace HNN := hid_mk (HNN.out.kept hb)
  replace T3 := hid_mk (T3.out.kept hb)
  replace T4 := hid_mk (T4.out.kept hb)
  replace hR := bx2_next hR hb
  replace HBL := hid_mk (below_then HBL.out hb)
  have T5 : Hid (NatIs ((B + 2053 + 2048 + 1) + (B + 2053 + 2048 + 1) + (B + 2048)) w8 (.slice bT5 lT5 eT5) ((n * 2 + 1) * (n * 2 + 1) * den)) := hN
  clear hb hN HC7
  clear T4
  have HC8 : Hid (Calls Oajg.prog 82 #[.slice bT3 lT3 eT3, .slice bT5 lT5 eT5] w8 fun e w' => e = .returned (.int .i8 (cmpZ (num * 4) ((n * 2 + 1) * (n * 2 + 1) * den))) ∧ Below w8.heap.size w8 w') := cmp_any (B + 2048 + 2048) ((B + 2053 + 2048 + 1) + (B + 2053 + 2048 + 1) + (B + 2048)) _ _ (num * 4) ((n * 2 + 1) * (n * 2 + 1) * den) w8 T3.out T5.out (by omega) (by omega)
  obtain ⟨ZH, HZH⟩ : ∃ Z, Hid (cmpZ (num * 4) ((n * 2 + 1) * (n * 2 + 1) * den) = Z) := ⟨_, rfl⟩
  rw [HZH.out] at HC8
  go_wp2_with fail
  refine Calls.mono HC8.out ?_
  rintro _ w9 ⟨rfl, hb⟩
  replace HNU := hid_mk (HNU.out.kept hb)
  replace HDN := hid_mk (HDN.out.kept hb)
  replace HNN := hid_mk (HNN.out.kept hb)
  replace T3 := hid_mk (T3.out.kept hb)
  replace T5 := hid_mk (T5.out.kept hb)
  replace hR := bx2_next hR hb
  replace HBL := hid_mk (below_then HBL.out hb)
  clear hb HC8
  clear T3
  clear T5
  have HC9 : Hid (Calls Oajg.prog 62 #[.slice bn ln en, .slice bn ln en] w9 fun e w' => ∃ ad k c, e = .returned (.slice ad k c) ∧ NatIs ((B + 2053) + (B + 2053)) w' (.slice ad k c) (n * n) ∧ Below w9.heap.size w9 w') := shaped (mul_any (B + 2053) (B + 2053) _ _ n n w9 HNN.out HNN.out (by omega) (by omega))
  go_wp2_with fail
  refine Calls.mono HC9.out ?_
  rintro _ w10 ⟨bT6, lT6, eT6, rfl, hN, hb⟩
  replace HNU := hid_mk (HNU.out.kept hb)
  replace HDN := hid_mk (HDN.out.kept hb)
  replace HNN := hid_mk (HNN.out.kept hb)
  replace hR := bx2_next hR hb
  replace HBL := hid_mk (below_then HBL.out hb)
  have T6 : Hid (NatIs ((B + 2053) + (B + 2053)) w10 (.slice bT6 lT6 eT6) (n * n)) := hN
  clear hb hN HC9
  have HC10 : Hid (Calls Oajg.prog 62 #[.slice bT6 lT6 eT6, .slice b2 l2 e2] w10 fun e w' => ∃ ad k c, e = .returned (.slice ad k c) ∧ NatIs ((B + 2053) + (B + 2053) + (B + 2048)) w' (.slice ad k c) (n * n * den) ∧ Below w10.heap.size w10 w') := shaped (mul_any ((B + 2053) + (B + 2053)) (B + 2048) _ _ (n * n) den w10 T6.out HDN.out (by omega) (by omega))
  go_wp2_with fail
  refine Calls.mono HC10.out ?_
  rintro _ w11 ⟨bT7, lT7, eT7, rfl, hN, hb⟩
  replace HNU := hid_mk (HNU.out.kept hb)
  replace HDN := hid_mk (HDN.out.kept hb)
  replace HNN := hid_mk (HNN.out.kept hb)
  replace T6 := hid_mk (T6.out.kept hb)
  replace hR := bx2_next hR hb
  replace HBL := hid_mk (below_then HBL.out hb)
  have T7 : Hid (NatIs ((B + 2053) + (B + 2053) + (B + 2048)) w11 (.slice bT7 lT7 eT7) (n * n * den)) := hN
  clear hb hN HC10
  clear T6
  have HC11 : Hid (Calls Oajg.prog 82 #[.slice bT7 lT7 eT7, .slice b1 l1 e1] w11 fun e w' => e = .returned (.int .i8 (cmpZ (n * n * den) num)) ∧ Below w11.heap.size w11 w') := cmp_any ((B + 2053) + (B + 2053) + (B + 2048)) (B + 2048) _ _ (n * n * den) num w11 T7.out HNU.out (by omega) (by omega)
  obtain ⟨ZS, HZS⟩ : ∃ Z, Hid (cmpZ (n * n * den) num = Z) := ⟨_, rfl⟩
  rw [HZS.out] at HC11
  go_wp2_with fail
  refine Calls.mono HC11.out ?_
  rintro _ w12 ⟨rfl, hb⟩
  replace HNU := hid_mk (HNU.out.kept hb)
  replace HDN := hid_mk (HDN.out.kept hb)
  replace HNN := hid_mk (HNN.out.kept hb)
  replace T7 := hid_mk (T7.out.kept hb)
  replace hR := bx2_next hR hb
  replace HBL := hid_mk (below_then HBL.out hb)
  clear hb HC11
  clear T7
  clear HNU
  clear HDN
  have HHR : Hid (ZH = -1 ∨ ZH = 0 ∨ ZH = 1) := by show _ ∨ _; rw [← HZH.out]; exact cmpZ_range _ _
  obtain ⟨SM, HSM⟩ : ∃ SM, Hid ((!(ZS == 0)) = SM) := ⟨_, rfl⟩
  have hsm1 : (!(ZS == 0)) = SM := HSM.out
  have hsm2 : decide (ZS ≠ 0) = SM := by rw [← hsm1]; by_cases hz : ZS = 0 <;> simp [hz]
  have hsm3 : decide (¬ ZS = 0) = SM := hsm2
  have hsm4 : (ZS != 0) = SM := hsm1
  have HRH : Hid (raHf n num den = ZH) := HZH.out
  have HRM : Hid (raSm n num den = SM) := by show _ = _; unfold raSm; rw [HZS.out]; exact hsm1
  clear HZH HZS HSM
  have HRS : Hid (∀ w, Calls Oajg.prog 171 #[.int .u8 (mo : Int), .bool false, .bool (n % 2 == 1), .agg #[.int .i8 ZH, .bool SM]] w fun e w' => e = .returned (.bool (rdX mo false (n % 2 == 1) ZH SM)) ∧ Below w.heap.size w w') := raisesX_ok mo false _ ZH SM HHR.out
  obtain ⟨OD, HOD⟩ : ∃ OD, Hid ((n % 2 == 1) = OD) := ⟨_, rfl⟩
  rw [HOD.out] at HRS
  have HV : Hid (raN mo n num den = n + (if rdX mo false OD ZH SM then 1 else 0)) := by show _ = _; unfold raN; rw [HRH.out, HRM.out, HOD.out]
  have hS := rz_made (w := w) (W := w12) (n := w.heap.size + 1 + 1) 152 hR HBL.out (.int .i8 ZH) (.bool SM)
  have HBIT : Hid (∀ W, ((W.cell? ⟨w.heap.size + 1 + 1, 0, none⟩ = some (.int .i8 0) ∧ W.cell? ⟨w.heap.size + 1 + 1, 1, none⟩ = some (.bool false) ∧ (∀ o, W.frozen? ⟨w.heap.size + 1 + 1, o, none⟩ = false) ∧ w.heap.size + 1 + 1 < W.heap.size) ∧ (W.cell? ⟨w12.heap.size, 0, none⟩ = some (.int .i8 ZH) ∧ W.cell? ⟨w12.heap.size, 1, none⟩ = some (.bool SM) ∧ (∀ o, W.frozen? ⟨w12.heap.size, o, none⟩ = false) ∧ w12.heap.size < W.heap.size) ∧ Kp w12 W ∧ Below w.heap.size w W) → Calls Oajg.prog 172 #[.slice bn ln en, .int .i64 0] W fun e w' => e = .returned (.bool OD) ∧ Below W.heap.size W w') := fun W hW => by have := bit0_ok (B + 2053) _ n W (HNN.out.kp hW.2.2.1) (by omega); rw [HOD.out] at this; exact this
  have hn11 : Hid (w.heap.size + 1 + 1 < w12.heap.size) := hR.2.2.2
  clear hR HBL HOD HHR
  go_wp2_with fail
  go_region_held3 (fun W => (W.cell? ⟨w.heap.size + 1 + 1, 0, none⟩ = some (.int .i8 0) ∧ W.cell? ⟨w.heap.size + 1 + 1, 1, none⟩ = some (.bool false) ∧ (∀ o, W.frozen? ⟨w.heap.size + 1 + 1, o, none⟩ = false) ∧ w.heap.size + 1 + 1 < W.heap.size) ∧ (W.cell? ⟨w12.heap.size, 0, none⟩ = some (.int .i8 ZH) ∧ W.cell? ⟨w12.heap.size, 1, none⟩ = some (.bool SM) ∧ (∀ o, W.frozen? ⟨w12.heap.size, o, none⟩ = false) ∧ w12.heap.size < W.heap.size) ∧ Kp w12 W ∧ Below w.heap.size w W)
    ((repeat' (first | with_reducible assumption | with_reducible refine rz_drew ?_)))
    ((first | (go_at_call 172; (with_reducible refine Calls.mono (HBIT.out _ ?hh) ?_); (case hh => with_reducible assumption); rintro _ x2 ⟨rfl, hb⟩; have hS2 := rz_next (by with_reducible assumption) hb; clear hb) | (go_at_call 171; refine Calls.mono (HRS.out _) ?_; rintro _ x3 ⟨rfl, hb⟩; have hS3 := rz_next (by with_reducible assumption) hb; clear hb)))
  clear hS hS2 HBIT HRS hsm1 hsm2 hsm3 hsm4
  cases hrd : rdX mo false OD ZH SM with
  | false =>
    have HVV : Hid (raN mo n num den = n) := by show _ = _; have := HV.out; rw [hrd] at this; simpa using this
    clear hrd HV
    have HQ3 : Hid (NatIs 20000 x3 (.slice bn ln en) n) := (HNN.out.kp hS3.2.2.1).mono (by omega)
    have HB3 : Hid (Below w.heap.size w x3) := hS3.2.2.2
    have hX := hS3.2.1
    have hY := hS3.1
    clear hS3
    go_wp2_with fail
    go_region
    go_wp2_with fail
    have hkp := store2 hY (not32_i8 _) (not32_bool _) (.int .i8 ZH) (.bool SM)
    refine bodyPost_ret (v := .tuple #[.slice bn ln en, .agg #[.int .i8 ZH, .bool SM]]) (by simp [results, Oajg.results154, go_sem, hY]) rfl ⟨_, _, _, n, HRO.out, by rw [HRH.out, HRM.out], by rw [HVV.out]; exact HQ3.out.kp hkp.drew, ?_⟩
    exact ((HB3.out.setCell (show w.heap.size ≤ w.heap.size + 1 + 1 by omega) _).setCell (show w.heap.size ≤ w.heap.size + 1 + 1 by omega) _).drew
  | true =>
    have HVV : Hid (raN mo n num den = n + 1) := by show _ = _; have := HV.out; rw [hrd] at this; simpa using this
    clear hrd HV
    have HSU : Hid (Calls Oajg.prog 173 #[.slice bn ln en] x3 fun e w' => ∃ ad k c, e = .returned (.slice ad k c) ∧ NatIs (B + 2053 + 1) w' (.slice ad k c) (n + 1) ∧ Below x3.heap.size x3 w') := shaped (succ_ok (B + 2053) _ n x3 (HNN.out.kp hS3.2.2.1) (by omega))
    go_wp2_with fail
    refine Calls.mono HSU.out ?_
    rintro _ x4 ⟨b2, l2, e2, rfl, hN, hb⟩
    have hS4 := rz_next hS3 hb
    have HQ3 : Hid (NatIs 20000 x4 (.slice b2 l2 e2) (n + 1)) := hN.mono (by omega)
    have HB3 : Hid (Below w.heap.size w x4) := hS4.2.2.2
    have hX := hS4.2.1
    have hY := hS4.1
    clear hS3 hS4 hN hb HSU
    go_wp2_with fail
    go_region
    go_wp2_with fail
    have hkp := store2 hY (not32_i8 _) (not32_bool _) (.int .i8 ZH) (.bool SM)
    refine bodyPost_ret (v := .tuple #[.slice b2 l2 e2, .agg #[.int .i8 ZH, .bool SM]]) (by simp [results, Oajg.results154, go_sem, hY]) rfl ⟨_, _, _, n, HRO.out, by rw [HRH.out, HRM.out], by rw [HVV.out]; exact HQ3.out.kp hkp.drew, ?_⟩
    exact ((HB3.out.setCell (show w.heap.size ≤ w.heap.size + 1 + 1 by omega) _).setCell (show w.heap.size ≤ w.heap.size + 1 + 1 by omega) _).drew

end Go.Proofs.Ygcoaj
