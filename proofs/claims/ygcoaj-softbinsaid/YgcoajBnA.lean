/-
  WALKS: soft.addFinite (182).
-/
import Derived.Test.YgcoajBnP
set_option linter.unusedVariables false
set_option linter.unusedSimpArgs false
namespace Go.Proofs.Ygcoaj
open Go.RowKit

def adX (E M a b : Nat) : Nat := vNum E M a * vDen E M b
def adD (E M a b : Nat) : Nat := vDen E M a * vDen E M b
/-- the sum of finite operands, plain -/
def adF (E M mo a b : Nat) : Nat :=
  if adNum (fNeg E M a) (fNeg E M b) (adX E M a b) (adX E M b a) = 0 then sgnd E M (if fNeg E M a = fNeg E M b then fNeg E M a else decide (mo = 4)) 0
  else rfN E M mo (adNeg (fNeg E M a) (fNeg E M b) (adX E M a b) (adX E M b a)) (adNum (fNeg E M a) (fNeg E M b) (adX E M a b) (adX E M b a)) (adD E M a b)

theorem vNum_zero {E M a : Nat} (h : lbOk E M a = false) : vNum E M a = 0 := by unfold vNum; rw [upM_zero h, Nat.zero_mul]
theorem adD_ne (E M a b : Nat) : adD E M a b ≠ 0 := Nat.mul_ne_zero (vDen_ne _ _ _) (vDen_ne _ _ _)
theorem adX_ne {E M a b : Nat} (h : FOk E M) (ho : lbOk E M a = true) : adX E M a b ≠ 0 := Nat.mul_ne_zero (v_ne h ho) (vDen_ne _ _ _)

theorem adF_zz {E M mo a b : Nat} (h1 : lbOk E M a = false) (h2 : lbOk E M b = false) : adF E M mo a b = sgnd E M (if fNeg E M a = fNeg E M b then fNeg E M a else decide (mo = 4)) 0 := by
  unfold adF adX
  rw [vNum_zero h1, vNum_zero h2, Nat.zero_mul, Nat.zero_mul, if_pos]
  unfold adNum; split <;> simp
theorem adF_zx {E M mo a b : Nat} (h : FOk E M) (h1 : lbOk E M a = false) (h2 : lbOk E M b = true) : adF E M mo a b = rpN E M mo (fNeg E M b) (upE E M b) (upM E M b) := by
  have hy := adX_ne (b := a) h h2
  have hx : adX E M a b = 0 := by unfold adX; rw [vNum_zero h1, Nat.zero_mul]
  have en : adNum (fNeg E M a) (fNeg E M b) (adX E M a b) (adX E M b a) = adX E M b a := by
    unfold adNum
    rw [hx]
    split
    · simp
    · rw [if_neg (by omega)]; simp
  have eg : adNeg (fNeg E M a) (fNeg E M b) (adX E M a b) (adX E M b a) = fNeg E M b := by
    unfold adNeg
    split
    · rename_i e; exact e
    · rw [hx, if_neg (by omega)]
  unfold adF
  rw [en, eg, if_neg hy]
  rw [(rp_rf (n := vNum E M b) (d := vDen E M b) (a0 := (-upE E M b).toNat) (b0 := (upE E M b).toNat) h (upM_lt E M b (by have := h.m52; omega)) (vDen_ne _ _ _) (by omega) (by unfold vNum vDen; grind)).1]
  refine rf_ratio h (adD_ne _ _ _ _) (vDen_ne _ _ _) ?_
  unfold adX adD
  grind
theorem adF_xz {E M mo a b : Nat} (h : FOk E M) (h1 : lbOk E M a = true) (h2 : lbOk E M b = false) : adF E M mo a b = rpN E M mo (fNeg E M a) (upE E M a) (upM E M a) := by
  have hx := adX_ne (b := b) h h1
  have hy : adX E M b a = 0 := by unfold adX; rw [vNum_zero h2, Nat.zero_mul]
  have en : adNum (fNeg E M a) (fNeg E M b) (adX E M a b) (adX E M b a) = adX E M a b := by
    unfold adNum
    rw [hy]
    split
    · simp
    · rw [if_pos (by omega)]; simp
  have eg : adNeg (fNeg E M a) (fNeg E M b) (adX E M a b) (adX E M b a) = fNeg E M a := by
    unfold adNeg
    rw [hy]
    split
    · rfl
    · rw [if_pos (by omega)]
  unfold adF
  rw [en, eg, if_neg hx]
  rw [(rp_rf (n := vNum E M a) (d := vDen E M a) (a0 := (-upE E M a).toNat) (b0 := (upE E M a).toNat) h (upM_lt E M a (by have := h.m52; omega)) (vDen_ne _ _ _) (by omega) (by unfold vNum vDen; grind)).1]
  refine rf_ratio h (adD_ne _ _ _ _) (vDen_ne _ _ _) ?_
  unfold adX adD
  grind

/-- the number of a finite operand above zero -/
def nuM (E M a : Nat) : Nat := upM E M a * 2 ^ (63 - M)
def nuE (E M a : Nat) : Int := upE E M a - ((63 - M : Nat) : Int) - 63
theorem nu_range {E M a : Nat} (h : FOk E M) (ho : lbOk E M a = true) : 2 ^ 63 ≤ nuM E M a ∧ nuM E M a < 2 ^ 64 := by
  obtain ⟨h1, h2⟩ := upM_norm h ho
  have hM := h.m52
  have e1 : (2 : Nat) ^ 63 = 2 ^ M * 2 ^ (63 - M) := by rw [← Nat.pow_add]; congr 1; omega
  have e2 : (2 : Nat) ^ 64 = 2 ^ (M + 1) * 2 ^ (63 - M) := by rw [← Nat.pow_add]; congr 1; omega
  unfold nuM
  rw [e1, e2]
  exact ⟨Nat.mul_le_mul_right _ h1, Nat.mul_lt_mul_of_pos_right h2 (pp _)⟩
theorem nu_even {E M a : Nat} (h : FOk E M) : nuM E M a * 9223372036854775808 % 2 ^ 74 = 0 := by
  have hM := h.m52
  have e : nuM E M a * 9223372036854775808 = upM E M a * 2 ^ (52 - M) * 2 ^ 74 := by
    unfold nuM
    have e1 : (2 : Nat) ^ (63 - M) = 2 ^ (52 - M) * 2 ^ 11 := by rw [← Nat.pow_add]; congr 1; omega
    rw [e1]
    have e2 : (2 : Nat) ^ 11 * 9223372036854775808 = 2 ^ 74 := by decide
    rw [← e2]
    grind
  rw [e]
  exact Nat.mul_mod_left _ _
theorem nu_val {E M a b : Nat} (h : FOk E M) : ∀ a0 b0 : Nat, (b0 : Int) - a0 = nuE E M a → adX E M a b * 2 ^ a0 = adD E M a b * (nuM E M a * 9223372036854775808) * 2 ^ b0 := by
  intro a0 b0 he
  have hM := h.m52
  unfold nuE at he
  unfold adX adD nuM vNum
  have e1 : upM E M a * 2 ^ (upE E M a).toNat * vDen E M b * 2 ^ a0 = upM E M a * vDen E M b * 2 ^ ((upE E M a).toNat + a0) := by rw [Nat.pow_add]; grind
  have e2 : vDen E M a * vDen E M b * (upM E M a * 2 ^ (63 - M) * 9223372036854775808) * 2 ^ b0 = upM E M a * vDen E M b * 2 ^ ((-upE E M a).toNat + (63 - M) + 63 + b0) := by
    unfold vDen
    rw [Nat.pow_add, Nat.pow_add, Nat.pow_add]
    have : (2 : Nat) ^ 63 = 9223372036854775808 := by decide
    rw [this]
    grind
  rw [e1, e2]
  congr 2
  omega
theorem nuE_range {E M a : Nat} (h : FOk E M) : -5000 < nuE E M a ∧ nuE E M a < 5000 := by
  have := upE_range h a
  have := h.m52
  unfold nuE
  omega
theorem adD_comm (E M a b : Nat) : adD E M b a = adD E M a b := by unfold adD; exact Nat.mul_comm _ _

/-- soft.sum of the numbers of two operands -/
theorem sumFin_ok (E M : Nat) (h : FOk E M) (mo a b : Nat) (ho1 : lbOk E M a = true) (ho2 : lbOk E M b = true) (w : World) :
    Calls Oajg.prog 204 #[.agg #[.int .u8 (E : Int), .int .u8 (M : Int)], .int .u8 (mo : Int), .agg #[.bool (fNeg E M a), .int .i16 (nuE E M a), .int .u64 ((nuM E M a / 2 : Nat) : Int), .int .u64 ((nuM E M a * 9223372036854775808 % 18446744073709551616 : Nat) : Int)], .agg #[.bool (fNeg E M b), .int .i16 (nuE E M b), .int .u64 ((nuM E M b / 2 : Nat) : Int), .int .u64 ((nuM E M b * 9223372036854775808 % 18446744073709551616 : Nat) : Int)]] w fun e w' => ∃ fl, e = .returned (.tuple #[.int .u64 (adF E M mo a b : Nat), .int .u8 fl]) ∧ Below w.heap.size w w' := by
  obtain ⟨p1, p2⟩ := nu_range h ho1
  obtain ⟨q1, q2⟩ := nu_range h ho2
  obtain ⟨r1, r2⟩ := nuE_range (a := a) h
  obtain ⟨r3, r4⟩ := nuE_range (a := b) h
  have hWA := num_words p2
  have hWB := num_words q2
  obtain ⟨A, hA⟩ : ∃ A, A = nuM E M a * 9223372036854775808 := ⟨_, rfl⟩
  obtain ⟨B, hB⟩ : ∃ B, B = nuM E M b * 9223372036854775808 := ⟨_, rfl⟩
  have eA := nu_even (a := a) h
  have eB := nu_even (a := b) h
  have vA := nu_val (a := a) (b := b) h
  have vB := nu_val (a := b) (b := a) h
  rw [adD_comm] at vB
  have hA1 : 2 ^ 126 ≤ A := by omega
  have hA2 : A < 2 ^ 127 := by omega
  have hB1 : 2 ^ 126 ≤ B := by omega
  have hB2 : B < 2 ^ 127 := by omega
  rw [← hA] at hWA eA vA ⊢
  rw [← hB] at hWB eB vB ⊢
  have eA2 : A % 2 = 0 := by omega
  have eB2 : B % 2 = 0 := by omega
  have hd := adD_ne E M a b
  have hx0 := adX_ne (b := b) h ho1
  have hy0 := adX_ne (b := a) h ho2
  have same : ∀ {mo : Nat} {n1 n2 : Bool} {num : Nat}, num ≠ 0 → (if num = 0 then sgnd E M (decide (mo = 4)) 0 else rfN E M mo n1 num (adD E M a b)) = rfN E M mo n1 num (adD E M a b) := fun hn => if_neg hn
  by_cases hno : (nuE E M b < nuE E M a) ∨ (nuE E M a = nuE E M b ∧ B ≤ A)
  · obtain ⟨hyx, hl⟩ := sum_law (mo := mo) (na := fNeg E M a) (nb := fNeg E M b) h hA1 hA2 eA2 hB1 hB2 eB hd vA vB (by omega) (by omega)
    have eF : smO E M mo (fNeg E M a) (nuE E M a) A (fNeg E M b) (nuE E M b) B = adF E M mo a b := by
      rw [hl]
      unfold adF adNum adNeg
      by_cases hs : fNeg E M a = fNeg E M b
      · simp only [if_pos hs]
        rw [if_neg (by omega), if_neg (by omega)]
      · simp only [if_neg hs, if_pos hyx]
    rw [← eF]
    rcases hno with hc | ⟨hc, hAB⟩
    · exact sum_gt E M h mo _ _ _ _ _ _ _ _ A B hWA hWB hA1 hA2 hB1 hB2 r1 r2 r3 r4 hc w
    · exact sum_eq E M h mo _ _ _ _ _ _ _ _ A B hWA hWB hA1 hA2 hB1 hB2 r1 r2 r3 r4 hc hAB w
  · have hsw : (nuE E M a < nuE E M b) ∨ (nuE E M a = nuE E M b ∧ A < B) := by omega
    obtain ⟨hyx, hl⟩ := sum_law (mo := mo) (na := fNeg E M b) (nb := fNeg E M a) h hB1 hB2 eB2 hA1 hA2 eA hd vB vA (by omega) (by omega)
    have hlt : ¬ adX E M b a ≤ adX E M a b := by
      intro hle
      -- then the two are the same number
      have k1 := vA (-(nuE E M a)).toNat (nuE E M a).toNat (by omega)
      have k2 := vB (-(nuE E M a)).toNat ((nuE E M a).toNat + (nuE E M b - nuE E M a).toNat) (by omega)
      have k3 := Nat.mul_le_mul_right (2 ^ (-(nuE E M a)).toNat) hle
      rw [k1, k2] at k3
      have e3 : adD E M a b * B * 2 ^ ((nuE E M a).toNat + (nuE E M b - nuE E M a).toNat) = adD E M a b * 2 ^ (nuE E M a).toNat * (B * 2 ^ (nuE E M b - nuE E M a).toNat) := by rw [Nat.pow_add]; grind
      have e4 : adD E M a b * A * 2 ^ (nuE E M a).toNat = adD E M a b * 2 ^ (nuE E M a).toNat * A := by grind
      rw [e3, e4] at k3
      have k4 := Nat.le_of_mul_le_mul_left k3 (Nat.mul_pos (Nat.pos_of_ne_zero hd) (pp _))
      rcases hsw with hc | ⟨hc, hAB⟩
      · have h1 : 2 ^ 1 ≤ 2 ^ (nuE E M b - nuE E M a).toNat := Nat.pow_le_pow_right (by decide) (by omega)
        have h2 := Nat.mul_le_mul_left B h1
        omega
      · have h2 := Nat.mul_le_mul_left B (pp (nuE E M b - nuE E M a).toNat)
        omega
    have eF : smO E M mo (fNeg E M b) (nuE E M b) B (fNeg E M a) (nuE E M a) A = adF E M mo a b := by
      rw [hl]
      unfold adF adNum adNeg
      by_cases hs : fNeg E M a = fNeg E M b
      · simp only [if_pos hs, if_pos hs.symm]
        rw [if_neg (by omega), if_neg (by omega), Nat.add_comm, hs]
      · simp only [if_neg hs, if_neg (fun hc => hs (Eq.symm hc)), if_neg hlt]
    rw [← eF]
    rcases hsw with hc | ⟨hc, hAB⟩
    · exact sum_lt E M h mo _ _ _ _ _ _ _ _ A B hWA hWB hA1 hA2 hB1 hB2 r1 r2 r3 r4 hc w
    · exact sum_eqs E M h mo _ _ _ _ _ _ _ _ A B hWA hWB hA1 hA2 hB1 hB2 r1 r2 r3 r4 hc hAB w

theorem sd_made7 (w : World) (E M : Nat) (x0 x1 x2 x3 y0 y1 y2 y3 : Value) : ((((w.alloc (.cells #[.int .u8 (E : Int), .int .u8 (M : Int)] 23)).alloc (.cells #[x0, x1, x2, x3] 107)).alloc (.cells #[y0, y1, y2, y3] 107)).cell? ⟨w.heap.size, 0, none⟩ = some (.int .u8 (E : Int)) ∧ (((w.alloc (.cells #[.int .u8 (E : Int), .int .u8 (M : Int)] 23)).alloc (.cells #[x0, x1, x2, x3] 107)).alloc (.cells #[y0, y1, y2, y3] 107)).cell? ⟨w.heap.size, 1, none⟩ = some (.int .u8 (M : Int)) ∧ w.heap.size < (((w.alloc (.cells #[.int .u8 (E : Int), .int .u8 (M : Int)] 23)).alloc (.cells #[x0, x1, x2, x3] 107)).alloc (.cells #[y0, y1, y2, y3] 107)).heap.size ∧ Below w.heap.size w (((w.alloc (.cells #[.int .u8 (E : Int), .int .u8 (M : Int)] 23)).alloc (.cells #[x0, x1, x2, x3] 107)).alloc (.cells #[y0, y1, y2, y3] 107))) ∧ ((((w.alloc (.cells #[.int .u8 (E : Int), .int .u8 (M : Int)] 23)).alloc (.cells #[x0, x1, x2, x3] 107)).alloc (.cells #[y0, y1, y2, y3] 107)).cell? ⟨(w.heap.size + 1), 0, none⟩ = some x0 ∧ (((w.alloc (.cells #[.int .u8 (E : Int), .int .u8 (M : Int)] 23)).alloc (.cells #[x0, x1, x2, x3] 107)).alloc (.cells #[y0, y1, y2, y3] 107)).cell? ⟨(w.heap.size + 1), 1, none⟩ = some x1 ∧ (((w.alloc (.cells #[.int .u8 (E : Int), .int .u8 (M : Int)] 23)).alloc (.cells #[x0, x1, x2, x3] 107)).alloc (.cells #[y0, y1, y2, y3] 107)).cell? ⟨(w.heap.size + 1), 2, none⟩ = some x2 ∧ (((w.alloc (.cells #[.int .u8 (E : Int), .int .u8 (M : Int)] 23)).alloc (.cells #[x0, x1, x2, x3] 107)).alloc (.cells #[y0, y1, y2, y3] 107)).cell? ⟨(w.heap.size + 1), 3, none⟩ = some x3 ∧ (∀ o, (((w.alloc (.cells #[.int .u8 (E : Int), .int .u8 (M : Int)] 23)).alloc (.cells #[x0, x1, x2, x3] 107)).alloc (.cells #[y0, y1, y2, y3] 107)).frozen? ⟨(w.heap.size + 1), o, none⟩ = false) ∧ (w.heap.size + 1) < (((w.alloc (.cells #[.int .u8 (E : Int), .int .u8 (M : Int)] 23)).alloc (.cells #[x0, x1, x2, x3] 107)).alloc (.cells #[y0, y1, y2, y3] 107)).heap.size) ∧ ((((w.alloc (.cells #[.int .u8 (E : Int), .int .u8 (M : Int)] 23)).alloc (.cells #[x0, x1, x2, x3] 107)).alloc (.cells #[y0, y1, y2, y3] 107)).cell? ⟨(w.heap.size + 1 + 1), 0, none⟩ = some y0 ∧ (((w.alloc (.cells #[.int .u8 (E : Int), .int .u8 (M : Int)] 23)).alloc (.cells #[x0, x1, x2, x3] 107)).alloc (.cells #[y0, y1, y2, y3] 107)).cell? ⟨(w.heap.size + 1 + 1), 1, none⟩ = some y1 ∧ (((w.alloc (.cells #[.int .u8 (E : Int), .int .u8 (M : Int)] 23)).alloc (.cells #[x0, x1, x2, x3] 107)).alloc (.cells #[y0, y1, y2, y3] 107)).cell? ⟨(w.heap.size + 1 + 1), 2, none⟩ = some y2 ∧ (((w.alloc (.cells #[.int .u8 (E : Int), .int .u8 (M : Int)] 23)).alloc (.cells #[x0, x1, x2, x3] 107)).alloc (.cells #[y0, y1, y2, y3] 107)).cell? ⟨(w.heap.size + 1 + 1), 3, none⟩ = some y3 ∧ (∀ o, (((w.alloc (.cells #[.int .u8 (E : Int), .int .u8 (M : Int)] 23)).alloc (.cells #[x0, x1, x2, x3] 107)).alloc (.cells #[y0, y1, y2, y3] 107)).frozen? ⟨(w.heap.size + 1 + 1), o, none⟩ = false) ∧ (w.heap.size + 1 + 1) < (((w.alloc (.cells #[.int .u8 (E : Int), .int .u8 (M : Int)] 23)).alloc (.cells #[x0, x1, x2, x3] 107)).alloc (.cells #[y0, y1, y2, y3] 107)).heap.size) :=
  ⟨sf_alloc (sf_alloc (sf_box w E M) _) _, bx4_alloc (bx4_made (w.alloc (.cells #[.int .u8 (E : Int), .int .u8 (M : Int)] 23)) (m := w.heap.size + 1) _ _ _ _ 107 (by simp)) _, bx4_made ((w.alloc (.cells #[.int .u8 (E : Int), .int .u8 (M : Int)] 23)).alloc (.cells #[x0, x1, x2, x3] 107)) (m := w.heap.size + 1 + 1) _ _ _ _ 107 (by simp)⟩

set_option maxRecDepth 100000 in
set_option maxHeartbeats 4000000 in
theorem addFin_zz (E M : Nat) (h : FOk E M) (mo : Nat) (N1 N2 : Bool) (C1 C2 V1 V2 : Int) (R1 R2 : Nat) (c1 : C1 = 0) (c2 : C2 = 0) (w : World) :
    Calls Oajg.prog 182 #[.agg #[.int .u8 (E : Int), .int .u8 (M : Int)], .int .u8 (mo : Int), .agg #[.bool N1, .int .i8 C1, .int .i16 V1, .int .u64 (R1 : Int)], .agg #[.bool N2, .int .i8 C2, .int .i16 V2, .int .u64 (R2 : Int)]] w fun e w' => ∃ fl, e = .returned (.tuple #[.int .u64 (sgnd E M (if N1 = N2 then N1 else decide (mo = 4)) 0 : Nat), .int .u8 fl]) ∧ Below w.heap.size w w' := by
  obtain ⟨MB, hMB⟩ : ∃ MB, decide (mo = 4) = MB := ⟨_, rfl⟩
  have kMB : ((mo : Int) == 4) = MB := by
    rw [← hMB]
    by_cases hm : mo = 4
    · simp [hm]
    · have : ¬ (mo : Int) = 4 := by omega
      simp [hm, this]
  rw [hMB]
  obtain ⟨ZB, hZB⟩ : ∃ ZB, (if N1 = N2 then N1 else MB) = ZB := ⟨_, rfl⟩
  have HZ : Hid (∀ w, Calls Oajg.prog 132 #[.agg #[.int .u8 (E : Int), .int .u8 (M : Int)], .bool ZB] w fun e w' => e = .returned (.int .u64 (sgnd E M ZB 0 : Nat)) ∧ Below w.heap.size w w') := zeroS_ok E M h ZB
  rw [hZB]
  have hD := sd_made7 w E M (.bool N1) (.int .i8 C1) (.int .i16 V1) (.int .u64 (R1 : Int)) (.bool N2) (.int .i8 C2) (.int .i16 V2) (.int .u64 (R2 : Int))
  subst c1 c2
  generalize sgnd E M ZB 0 = RZ at *
  clear h hMB
  cases N1 <;> cases N2 <;> simp at hZB <;> subst hZB
  all_goals
    go_enter Oajg.func182, Oajg.ntmps182
    go_wp2_with fail
    refine Calls.mono (HZ.out _) ?_
    rintro _ w1 ⟨rfl, hb⟩
    replace hD := sd_next hD hb
    clear hb
    go_wp2_with fail
    go_ret2
    exact ⟨_, rfl, hD.1.2.2.2⟩

set_option maxRecDepth 100000 in
set_option maxHeartbeats 4000000 in
theorem addFin_zx (E M : Nat) (h : FOk E M) (mo : Nat) (N1 N2 : Bool) (C1 C2 V1 V2 : Int) (R1 R2 : Nat) (c1 : C1 = 0) (c2 : C2 ≠ 0) (hr : R2 < 18446744073709551616) (hv1 : -10000 ≤ V2) (hv2 : V2 ≤ 10000) (w : World) :
    Calls Oajg.prog 182 #[.agg #[.int .u8 (E : Int), .int .u8 (M : Int)], .int .u8 (mo : Int), .agg #[.bool N1, .int .i8 C1, .int .i16 V1, .int .u64 (R1 : Int)], .agg #[.bool N2, .int .i8 C2, .int .i16 V2, .int .u64 (R2 : Int)]] w fun e w' => ∃ fl, e = .returned (.tuple #[.int .u64 (rpN E M mo N2 V2 R2 : Nat), .int .u8 fl]) ∧ Below w.heap.size w w' := by
  have HRP := hidden (roundPack_ok E M h mo N2 V2 R2 hr hv1 hv2)
  have hD := sd_made7 w E M (.bool N1) (.int .i8 C1) (.int .i16 V1) (.int .u64 (R1 : Int)) (.bool N2) (.int .i8 C2) (.int .i16 V2) (.int .u64 (R2 : Int))
  subst c1
  have j2 : (C2 == 0) = false := by simp [c2]
  generalize rpN E M mo N2 V2 R2 = RN at *
  generalize rpF E M mo N2 V2 R2 = RF at *
  clear h c2
  go_enter Oajg.func182, Oajg.ntmps182
  go_wp2_with fail
  refine Calls.mono (HRP.out _) ?_
  rintro _ w1 ⟨rfl, hb⟩
  replace hD := sd_next hD hb
  clear hb
  go_wp2_with fail
  go_ret2
  exact ⟨_, rfl, hD.1.2.2.2⟩

set_option maxRecDepth 100000 in
set_option maxHeartbeats 4000000 in
theorem addFin_xz (E M : Nat) (h : FOk E M) (mo : Nat) (N1 N2 : Bool) (C1 C2 V1 V2 : Int) (R1 R2 : Nat) (c1 : C1 ≠ 0) (c2 : C2 = 0) (hr : R1 < 18446744073709551616) (hv1 : -10000 ≤ V1) (hv2 : V1 ≤ 10000) (w : World) :
    Calls Oajg.prog 182 #[.agg #[.int .u8 (E : Int), .int .u8 (M : Int)], .int .u8 (mo : Int), .agg #[.bool N1, .int .i8 C1, .int .i16 V1, .int .u64 (R1 : Int)], .agg #[.bool N2, .int .i8 C2, .int .i16 V2, .int .u64 (R2 : Int)]] w fun e w' => ∃ fl, e = .returned (.tuple #[.int .u64 (rpN E M mo N1 V1 R1 : Nat), .int .u8 fl]) ∧ Below w.heap.size w w' := by
  have HRP := hidden (roundPack_ok E M h mo N1 V1 R1 hr hv1 hv2)
  have hD := sd_made7 w E M (.bool N1) (.int .i8 C1) (.int .i16 V1) (.int .u64 (R1 : Int)) (.bool N2) (.int .i8 C2) (.int .i16 V2) (.int .u64 (R2 : Int))
  subst c2
  have j2 : (C1 == 0) = false := by simp [c1]
  generalize rpN E M mo N1 V1 R1 = RN at *
  generalize rpF E M mo N1 V1 R1 = RF at *
  clear h c1
  go_enter Oajg.func182, Oajg.ntmps182
  go_wp2_with fail
  refine Calls.mono (HRP.out _) ?_
  rintro _ w1 ⟨rfl, hb⟩
  replace hD := sd_next hD hb
  clear hb
  go_wp2_with fail
  go_ret2
  exact ⟨_, rfl, hD.1.2.2.2⟩

set_option maxRecDepth 100000 in
set_option maxHeartbeats 4000000 in
theorem addFin_xx (E M : Nat) (mo F : Nat) (N1 N2 : Bool) (C1 C2 V1 V2 X1 X2 : Int) (R1 R2 H1 L1 H2 L2 : Nat) (c1 : C1 ≠ 0) (c2 : C2 ≠ 0)
    (HA : ∀ w, Calls Oajg.prog 205 #[.agg #[.int .u8 (E : Int), .int .u8 (M : Int)], .agg #[.bool N1, .int .i8 C1, .int .i16 V1, .int .u64 (R1 : Int)]] w fun e w' => e = .returned (.agg #[.bool N1, .int .i16 X1, .int .u64 (H1 : Int), .int .u64 (L1 : Int)]) ∧ Below w.heap.size w w')
    (HB : ∀ w, Calls Oajg.prog 205 #[.agg #[.int .u8 (E : Int), .int .u8 (M : Int)], .agg #[.bool N2, .int .i8 C2, .int .i16 V2, .int .u64 (R2 : Int)]] w fun e w' => e = .returned (.agg #[.bool N2, .int .i16 X2, .int .u64 (H2 : Int), .int .u64 (L2 : Int)]) ∧ Below w.heap.size w w')
    (HS : ∀ w, Calls Oajg.prog 204 #[.agg #[.int .u8 (E : Int), .int .u8 (M : Int)], .int .u8 (mo : Int), .agg #[.bool N1, .int .i16 X1, .int .u64 (H1 : Int), .int .u64 (L1 : Int)], .agg #[.bool N2, .int .i16 X2, .int .u64 (H2 : Int), .int .u64 (L2 : Int)]] w fun e w' => ∃ fl, e = .returned (.tuple #[.int .u64 (F : Nat), .int .u8 fl]) ∧ Below w.heap.size w w') (w : World) :
    Calls Oajg.prog 182 #[.agg #[.int .u8 (E : Int), .int .u8 (M : Int)], .int .u8 (mo : Int), .agg #[.bool N1, .int .i8 C1, .int .i16 V1, .int .u64 (R1 : Int)], .agg #[.bool N2, .int .i8 C2, .int .i16 V2, .int .u64 (R2 : Int)]] w fun e w' => ∃ fl, e = .returned (.tuple #[.int .u64 (F : Nat), .int .u8 fl]) ∧ Below w.heap.size w w' := by
  replace HA := hidden HA
  replace HB := hidden HB
  replace HS := hidden HS
  have hD := sd_made7 w E M (.bool N1) (.int .i8 C1) (.int .i16 V1) (.int .u64 (R1 : Int)) (.bool N2) (.int .i8 C2) (.int .i16 V2) (.int .u64 (R2 : Int))
  have j1 : (C1 == 0) = false := by simp [c1]
  have j2 : (C2 == 0) = false := by simp [c2]
  clear c1 c2
  go_enter Oajg.func182, Oajg.ntmps182
  go_wp2_with fail
  go_region_held3 (fun W => (W.cell? ⟨w.heap.size, 0, none⟩ = some (.int .u8 (E : Int)) ∧ W.cell? ⟨w.heap.size, 1, none⟩ = some (.int .u8 (M : Int)) ∧ w.heap.size < W.heap.size ∧ Below w.heap.size w W) ∧ (W.cell? ⟨(w.heap.size + 1), 0, none⟩ = some (.bool N1) ∧ W.cell? ⟨(w.heap.size + 1), 1, none⟩ = some (.int .i8 C1) ∧ W.cell? ⟨(w.heap.size + 1), 2, none⟩ = some (.int .i16 V1) ∧ W.cell? ⟨(w.heap.size + 1), 3, none⟩ = some (.int .u64 (R1 : Int)) ∧ (∀ o, W.frozen? ⟨(w.heap.size + 1), o, none⟩ = false) ∧ (w.heap.size + 1) < W.heap.size) ∧ (W.cell? ⟨(w.heap.size + 1 + 1), 0, none⟩ = some (.bool N2) ∧ W.cell? ⟨(w.heap.size + 1 + 1), 1, none⟩ = some (.int .i8 C2) ∧ W.cell? ⟨(w.heap.size + 1 + 1), 2, none⟩ = some (.int .i16 V2) ∧ W.cell? ⟨(w.heap.size + 1 + 1), 3, none⟩ = some (.int .u64 (R2 : Int)) ∧ (∀ o, W.frozen? ⟨(w.heap.size + 1 + 1), o, none⟩ = false) ∧ (w.heap.size + 1 + 1) < W.heap.size))
    ((repeat' (first | with_reducible assumption | with_reducible refine sd_drew ?_)))
    ((first | (go_at_call 205; (with_reducible refine Calls.mono (HA.out _) ?_); rintro _ w1 ⟨rfl, hb⟩; have hD1 := sd_next (by with_reducible assumption) hb; clear hb) | (go_at_call 205; (with_reducible refine Calls.mono (HB.out _) ?_); rintro _ w2 ⟨rfl, hb⟩; have hD2 := sd_next (by with_reducible assumption) hb; clear hb) | (go_at_call 204; refine Calls.mono (HS.out _) ?_; rintro _ w3 ⟨fl, rfl, hb⟩; have hD3 := sd_next (by with_reducible assumption) hb; clear hb)))
  go_wp2_with fail
  go_ret2
  exact ⟨_, rfl, hD3.1.2.2.2⟩

/-- soft.addFinite of two finite operands -/
theorem addFinite_ok (E M : Nat) (h : FOk E M) (mo a b : Nat) (f1 : upC E M a ≠ 3 ∧ upC E M a ≠ 4) (f2 : upC E M b ≠ 3 ∧ upC E M b ≠ 4) (w : World) :
    Calls Oajg.prog 182 #[.agg #[.int .u8 (E : Int), .int .u8 (M : Int)], .int .u8 (mo : Int), .agg #[.bool (fNeg E M a), .int .i8 (upC E M a), .int .i16 (upE E M a), .int .u64 ((upM E M a : Nat) : Int)], .agg #[.bool (fNeg E M b), .int .i8 (upC E M b), .int .i16 (upE E M b), .int .u64 ((upM E M b : Nat) : Int)]] w fun e w' => ∃ fl, e = .returned (.tuple #[.int .u64 (adF E M mo a b : Nat), .int .u8 fl]) ∧ Below w.heap.size w w' := by
  have hM := h.m52
  have z1 : lbOk E M a = !decide (upC E M a = 0) := by
    have := upC_range E M a
    unfold lbOk
    rw [Bool.eq_iff_iff]; simp; omega
  have z2 : lbOk E M b = !decide (upC E M b = 0) := by
    have := upC_range E M b
    unfold lbOk
    rw [Bool.eq_iff_iff]; simp; omega
  have ra := upE_range h a
  have rb := upE_range h b
  by_cases c1 : upC E M a = 0
  · have o1 : lbOk E M a = false := by rw [z1]; simp [c1]
    by_cases c2 : upC E M b = 0
    · have o2 : lbOk E M b = false := by rw [z2]; simp [c2]
      rw [adF_zz o1 o2]
      exact addFin_zz E M h mo _ _ _ _ _ _ _ _ c1 c2 w
    · have o2 : lbOk E M b = true := by rw [z2]; simp [c2]
      rw [adF_zx h o1 o2]
      exact addFin_zx E M h mo _ _ _ _ _ _ _ _ c1 c2 (upM_lt E M b (by omega)) (by omega) (by omega) w
  · have o1 : lbOk E M a = true := by rw [z1]; simp [c1]
    by_cases c2 : upC E M b = 0
    · have o2 : lbOk E M b = false := by rw [z2]; simp [c2]
      rw [adF_xz h o1 o2]
      exact addFin_xz E M h mo _ _ _ _ _ _ _ _ c1 c2 (upM_lt E M a (by omega)) (by omega) (by omega) w
    · have o2 : lbOk E M b = true := by rw [z2]; simp [c2]
      exact addFin_xx E M mo _ _ _ _ _ _ _ _ _ _ _ _ _ _ _ c1 c2 (numberOf_ok E M hM _ _ _ _ _ rfl (nu_range h o1).2 (by omega) (by omega)) (numberOf_ok E M hM _ _ _ _ _ rfl (nu_range h o2).2 (by omega) (by omega)) (sumFin_ok E M h mo a b o1 o2) w

end Go.Proofs.Ygcoaj
