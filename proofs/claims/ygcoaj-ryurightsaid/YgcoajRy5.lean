/-
  WALKS: dec.Make (46); the canonical decimal.
-/
import Derived.Test.YgcoajRy4
set_option linter.unusedVariables false
set_option linter.unusedSimpArgs false
namespace Go.Proofs.Ygcoaj
open Go.RowKit

theorem dstr_size (L n : Nat) : (dstr L n).size = L := by simp [dstr, ByteArray.size, dlist_len]
theorem dstr_get (L n i : Nat) (h : i < (dstr L n).size) : (dstr L n)[i].toNat = dgt n (L - 1 - i) := by
  have hi : i < (dlist L n).length := by rw [dlist_len, ← dstr_size L n]; exact h
  show ((dlist L n)[i]'hi).toNat = _
  rw [dlist_get, dgt_byte]
/-- where the end stands behind i bytes -/
def MkI (n L z f e i : Nat) : Prop := i ≤ L ∧ (i = 0 → f = L ∧ e = 0) ∧ (1 ≤ i → f = 0 ∧ 1 ≤ e) ∧ e ≤ i ∧ (L - z ≤ i → e = L - z)
theorem mk_digit {n L z i : Nat} (hz : z < L) (hz1 : n % 10 ^ z = 0) (hz2 : n / 10 ^ z % 10 ≠ 0) (hlow : 10 ^ (L - 1) ≤ n) (hlt : n < 10 ^ L) (hi : i < L) :
    (i = 0 → dgt n (L - 1 - i) ≠ 48) ∧ (i = L - 1 - z → dgt n (L - 1 - i) ≠ 48) ∧ (L - 1 - z < i → dgt n (L - 1 - i) = 48) := by
  unfold dgt
  refine ⟨fun h => ?_, fun h => ?_, fun h => ?_⟩
  · subst h
    rw [Nat.sub_zero]
    have h1 : 1 ≤ n / 10 ^ (L - 1) := (Nat.le_div_iff_mul_le (Nat.pow_pos (by decide))).2 (by rw [Nat.one_mul]; exact hlow)
    have h2 : n / 10 ^ (L - 1) < 10 := by
      rw [Nat.div_lt_iff_lt_mul (Nat.pow_pos (by decide)), Nat.mul_comm, ← Nat.pow_succ, show (L - 1).succ = L from by omega]; exact hlt
    omega
  · rw [show L - 1 - i = z from by omega]; omega
  · obtain ⟨d, hd⟩ : ∃ d, z = (L - 1 - i) + 1 + d := ⟨z - (L - 1 - i) - 1, by omega⟩
    have h1 : n % 10 ^ (L - 1 - i + 1) = 0 := by
      have : 10 ^ (L - 1 - i + 1) ∣ 10 ^ z := Nat.pow_dvd_pow 10 (by omega)
      exact Nat.mod_eq_zero_of_dvd (Nat.dvd_trans this (Nat.dvd_of_mod_eq_zero hz1))
    have h2 : n / 10 ^ (L - 1 - i) % 10 = 0 := by
      have e := Nat.mod_mul_right_div_self n (10 ^ (L - 1 - i)) 10
      rw [← Nat.pow_succ, show (L - 1 - i).succ = L - 1 - i + 1 from rfl, h1, Nat.zero_div] at e
      exact e.symm
    omega
theorem dstr_cut (L n z : Nat) (hz : z < L) : (dstr L n).extract 0 (L - z) = dstr (L - z) (n / 10 ^ z) := by
  apply ByteArray.ext
  simp only [dstr, ByteArray.data_extract]
  apply Array.ext
  · simp [dlist_len]
  · intro i h1 h2
    simp [dlist_len] at h1 h2
    simp [dlist_get, dgt]
    congr 2
    rw [Nat.div_div_eq_div_mul, ← Nat.pow_add, show z + (L - z - 1 - i) = L - 1 - i from by omega]

set_option maxRecDepth 100000 in
set_option maxHeartbeats 1000000 in
theorem make_ok (neg : Bool) (n L z : Nat) (k : Int) (hL1 : 1 ≤ L) (hL2 : L ≤ 18) (hz : z < L) (hz1 : n % 10 ^ z = 0) (hz2 : n / 10 ^ z % 10 ≠ 0) (hlow : 10 ^ (L - 1) ≤ n) (hlt : n < 10 ^ L) (hk1 : -2000 ≤ k) (hk2 : k ≤ 1900) (w : World) : Calls Oajg.prog 46 #[.bool neg, .string (dstr L n), .int .i64 k] w fun x w' => x = .returned (.tuple #[.agg #[.bool neg, .string (dstr (L - z) (n / 10 ^ z)), .int .i16 (k + (z : Int))], .bool true]) ∧ Below w.heap.size w w' := by
  have hsz := dstr_size L n
  have hR := bx3_made w (m := w.heap.size) (.bool false) (.string ⟨#[]⟩) (.int .i16 0) 69 rfl
  have HB0 := hid_mk (show Below w.heap.size w (w.alloc (.cells #[.bool false, .string ⟨#[]⟩, .int .i16 0] 69)) from (Below.refl _ _).alloc (Nat.le_refl _) _)
  have HG := hid_mk (fun i h => dstr_get L n i h)
  have HC := hid_mk (dstr_cut L n z hz)
  have HD := hid_mk (fun i h => mk_digit (n := n) (L := L) (z := z) (i := i) hz hz1 hz2 hlow hlt h)
  generalize dstr L n = s at *
  clear hz1 hz2 hlow hlt
  go_enter Oajg.func46, Oajg.ntmps46
  go_wp2_with fail
  go_loopw [8, 9, 10] (fun c8 c9 c10 wr => ∃ (f e i : Nat), c8 = .int .i64 (f : Int) ∧ c9 = .int .i64 (e : Int) ∧ c10 = .int .i64 (i : Int) ∧ MkI n L z f e i ∧ (wr.cell? ⟨w.heap.size, 0, none⟩ = some (.bool false) ∧ wr.cell? ⟨w.heap.size, 1, none⟩ = some (.string ⟨#[]⟩) ∧ wr.cell? ⟨w.heap.size, 2, none⟩ = some (.int .i16 0) ∧ (∀ o, wr.frozen? ⟨w.heap.size, o, none⟩ = false) ∧ w.heap.size < wr.heap.size) ∧ Below w.heap.size w wr) (fun _ _ c10 _ => L - (intOf c10).toNat)
  case atStart => exact ⟨L, 0, 0, rfl, rfl, rfl, ⟨by omega, by omega, by omega, by omega, by omega⟩, hR, HB0.out⟩
  case round =>
    clear hR HB0
    obtain ⟨f, e, i, rfl, rfl, rfl, hm, hR, hbel⟩ := hrel
    have HB := hid_mk hbel
    clear hbel
    have hi := hm.1
    by_cases hiL : i < L
    · have HD2 := hid_mk (HD.out i hiL)
      have hix : (s[i]'(by omega)).toNat = dgt n (L - 1 - i) := HG.out i (by omega)
      have d1 := dgt_lo n (L - 1 - i)
      have d2 := dgt_hi n (L - 1 - i)
      generalize dgt n (L - 1 - i) = d at *
      have hf18 : f ≤ 18 := by
        obtain ⟨_, a1, a2, _⟩ := hm
        rcases Nat.eq_zero_or_pos i with h | h
        · have := (a1 h).1; omega
        · have := (a2 h).1; omega
      have HM := hid_mk hm
      clear hm
      have b1 : decide ((d : Int) < 48) = false := by simp; omega
      have b2 : decide (57 < (d : Int)) = false := by simp; omega
      by_cases h48 : d = 48
      · have b3 : (((d : Int)) == 48) = true := by rw [h48]; rfl
        have hd := hid_mk h48
        clear h48
        go_wp2_with fail
        go_roundw
        case rel => exact ⟨f, e, i + 1, rfl, rfl, by go_num, by obtain ⟨a0, a1, a2, a3, a4⟩ := HM.out; obtain ⟨c1, c2, c3⟩ := HD2.out; have h8 := hd.out; exact ⟨by omega, by omega, fun _ => by
            rcases Nat.eq_zero_or_pos i with h | h
            · exact absurd h8 (c1 h)
            · exact a2 h, by omega, fun h => by
            rcases Nat.lt_or_ge i (L - z) with h1 | h1
            · exact absurd h8 (c2 (by omega))
            · exact a4 h1⟩, hR, HB.out⟩
        case measure => simp [intOf]; omega
      · have b3 : (((d : Int)) == 48) = false := by rw [beq_eq_false_iff_ne]; omega
        have hd := hid_mk h48
        clear h48
        go_wp2_with fail
        go_roundw
        case rel => exact ⟨0, i + 1, i + 1, by
            have : (if i < f then (i : Int) else (f : Int)) = ((0 : Nat) : Int) := by
              obtain ⟨a0, a1, a2, a3, a4⟩ := HM.out
              rcases Nat.eq_zero_or_pos i with h | h
              · have := (a1 h).1; rw [if_pos (by omega)]; omega
              · have := (a2 h).1; rw [if_neg (by omega)]; omega
            rw [this], by go_num, by go_num, by obtain ⟨a0, a1, a2, a3, a4⟩ := HM.out; obtain ⟨c1, c2, c3⟩ := HD2.out; have h8 := hd.out; exact ⟨by omega, by omega, fun _ => ⟨rfl, by omega⟩, by omega, fun h => by
            rcases Nat.lt_or_ge (L - 1 - z) i with h1 | h1
            · exact absurd (c3 h1) h8
            · omega⟩, hR, HB.out⟩
        case measure => simp [intOf]; omega
    · have he : e = L - z := hm.2.2.2.2 (by omega)
      have hf : f = 0 := (hm.2.2.1 (by omega)).1
      have he0 : ((e : Int) == 0) = false := by rw [beq_eq_false_iff_ne]; omega
      have he18 : e ≤ 18 := by omega
      have hLe : (L : Int) - (e : Int) = (z : Int) := by omega
      have HE := hid_mk he
      clear hm he
      subst hf
      go_wp2_with fail
      refine bodyPost_ret (v := .tuple #[.agg #[.bool neg, .string (dstr (L - z) (n / 10 ^ z)), .int .i16 (k + (z : Int))], .bool true]) (by simp [results, Oajg.results46, go_sem, hR, HE.out, HC.out]) rfl ⟨rfl, ?_⟩
      exact ((HB.out.setCell (Nat.le_refl _) _).setCell (Nat.le_refl _) _).setCell (Nat.le_refl _) _

/-! ### the digits' number, the zeros at the end -/
def nlF : Nat → Nat → Nat
  | 0, _ => 1
  | f + 1, n => if n < 10 then 1 else nlF f (n / 10) + 1
def nl (n : Nat) : Nat := nlF 40 n
def tzF : Nat → Nat → Nat
  | 0, _ => 0
  | f + 1, n => if n % 10 = 0 then tzF f (n / 10) + 1 else 0
def tz (n : Nat) : Nat := tzF 40 n
theorem nlF_ok : ∀ f n, 0 < n → n < 10 ^ f → 1 ≤ nlF f n ∧ 10 ^ (nlF f n - 1) ≤ n ∧ n < 10 ^ nlF f n := by
  intro f
  induction f with
  | zero => intro n h1 h2; simp at h2; omega
  | succ f ih =>
    intro n h1 h2
    unfold nlF
    split
    · exact ⟨by omega, by simp; omega, by simpa using ‹n < 10›⟩
    · rename_i h
      have h3 : n / 10 < 10 ^ f := by rw [Nat.div_lt_iff_lt_mul (by decide), ← Nat.pow_succ]; exact h2
      obtain ⟨i1, i2, i3⟩ := ih (n / 10) (by omega) h3
      refine ⟨by omega, ?_, ?_⟩
      · rw [show nlF f (n / 10) + 1 - 1 = (nlF f (n / 10) - 1) + 1 from by omega, Nat.pow_succ]
        have := Nat.mul_le_mul_right 10 i2
        omega
      · rw [Nat.pow_succ]
        have := Nat.mul_le_mul_right 10 (Nat.succ_le_of_lt i3)
        omega
theorem tzF_ok : ∀ f n, 0 < n → n < 10 ^ f → n % 10 ^ tzF f n = 0 ∧ n / 10 ^ tzF f n % 10 ≠ 0 := by
  intro f
  induction f with
  | zero => intro n h1 h2; simp at h2; omega
  | succ f ih =>
    intro n h1 h2
    unfold tzF
    split
    · rename_i h
      have h3 : n / 10 < 10 ^ f := by rw [Nat.div_lt_iff_lt_mul (by decide), ← Nat.pow_succ]; exact h2
      obtain ⟨i1, i2⟩ := ih (n / 10) (by omega) h3
      refine ⟨?_, ?_⟩
      · have : 10 * 10 ^ tzF f (n / 10) ∣ 10 * (n / 10) := Nat.mul_dvd_mul_left 10 (Nat.dvd_of_mod_eq_zero i1)
        rw [show 10 * (n / 10) = n from by omega] at this
        rw [Nat.pow_succ, Nat.mul_comm]
        exact Nat.mod_eq_zero_of_dvd this
      · rw [Nat.pow_succ, Nat.mul_comm, ← Nat.div_div_eq_div_mul]
        exact i2
    · rename_i h
      exact ⟨by simp [Nat.mod_one], by simpa using h⟩
theorem nl_one {n a b : Nat} (h1 : 10 ^ (a - 1) ≤ n) (h2 : n < 10 ^ a) (h3 : 10 ^ (b - 1) ≤ n) (h4 : n < 10 ^ b) (ha : 1 ≤ a) (hb : 1 ≤ b) : a = b := by
  have e1 : a - 1 < b := (Nat.pow_lt_pow_iff_right (by decide : 1 < 10)).1 (Nat.lt_of_le_of_lt h1 h4)
  have e2 : b - 1 < a := (Nat.pow_lt_pow_iff_right (by decide : 1 < 10)).1 (Nat.lt_of_le_of_lt h3 h2)
  omega
theorem tz_one {n a b : Nat} (h1 : n % 10 ^ a = 0) (h2 : n / 10 ^ a % 10 ≠ 0) (h3 : n % 10 ^ b = 0) (h4 : n / 10 ^ b % 10 ≠ 0) : a = b := by
  have key : ∀ a b, n / 10 ^ a % 10 ≠ 0 → n % 10 ^ b = 0 → ¬ a < b := by
    intro a b h2 h3 hab
    apply h2
    have hd : 10 ^ (a + 1) ∣ n := Nat.dvd_trans (Nat.pow_dvd_pow 10 (by omega : a + 1 ≤ b)) (Nat.dvd_of_mod_eq_zero h3)
    have e := Nat.mod_mul_right_div_self n (10 ^ a) 10
    rw [← Nat.pow_succ, Nat.mod_eq_zero_of_dvd hd, Nat.zero_div] at e
    exact e.symm
  have := key a b h2 h3
  have := key b a h4 h1
  omega
theorem nl_ok {n : Nat} (h0 : 0 < n) (h : n < 10 ^ 40) : 1 ≤ nl n ∧ 10 ^ (nl n - 1) ≤ n ∧ n < 10 ^ nl n := nlF_ok 40 n h0 h
theorem tz_ok {n : Nat} (h0 : 0 < n) (h : n < 10 ^ 40) : n % 10 ^ tz n = 0 ∧ n / 10 ^ tz n % 10 ≠ 0 := tzF_ok 40 n h0 h
theorem tz_lt {n : Nat} (h0 : 0 < n) (h : n < 10 ^ 40) : tz n < nl n := by
  obtain ⟨a1, a2, a3⟩ := nl_ok h0 h
  obtain ⟨b1, b2⟩ := tz_ok h0 h
  have h1 : 10 ^ tz n ≤ n := Nat.le_of_dvd h0 (Nat.dvd_of_mod_eq_zero b1)
  exact (Nat.pow_lt_pow_iff_right (by decide : 1 < 10)).1 (Nat.lt_of_le_of_lt h1 a3)
theorem nl_shift {n j : Nat} (h0 : 0 < n) (h : n * 10 ^ j < 10 ^ 40) : nl (n * 10 ^ j) = nl n + j := by
  have hp : 0 < 10 ^ j := Nat.pow_pos (by decide)
  have hn : n < 10 ^ 40 := Nat.lt_of_le_of_lt (Nat.le_mul_of_pos_right n hp) h
  obtain ⟨a1, a2, a3⟩ := nl_ok h0 hn
  obtain ⟨b1, b2, b3⟩ := nl_ok (Nat.mul_pos h0 hp) h
  refine nl_one b2 b3 ?_ ?_ b1 (by omega)
  · rw [show nl n + j - 1 = nl n - 1 + j from by omega, Nat.pow_add]; exact Nat.mul_le_mul_right _ a2
  · rw [Nat.pow_add]; exact Nat.mul_lt_mul_of_pos_right a3 hp
theorem tz_shift {n j : Nat} (h0 : 0 < n) (h : n * 10 ^ j < 10 ^ 40) : tz (n * 10 ^ j) = tz n + j := by
  have hp : 0 < 10 ^ j := Nat.pow_pos (by decide)
  have hn : n < 10 ^ 40 := Nat.lt_of_le_of_lt (Nat.le_mul_of_pos_right n hp) h
  obtain ⟨a1, a2⟩ := tz_ok h0 hn
  obtain ⟨b1, b2⟩ := tz_ok (Nat.mul_pos h0 hp) h
  refine tz_one b1 b2 ?_ ?_
  · rw [Nat.pow_add]; exact Nat.mod_eq_zero_of_dvd (Nat.mul_dvd_mul_right (Nat.dvd_of_mod_eq_zero a1) _)
  · rw [Nat.pow_add, Nat.mul_div_mul_right _ _ hp]; exact a2
/-- the canonical decimal -/
def decV (neg : Bool) (n : Nat) (k : Int) : Value := .agg #[.bool neg, .string (dstr (nl n - tz n) (n / 10 ^ tz n)), .int .i16 (k + (tz n : Int))]
theorem decV_shift {neg : Bool} {n j : Nat} {k : Int} (h0 : 0 < n) (h : n * 10 ^ j < 10 ^ 40) : decV neg (n * 10 ^ j) k = decV neg n (k + (j : Int)) := by
  unfold decV
  rw [nl_shift h0 h, tz_shift h0 h, show nl n + j - (tz n + j) = nl n - tz n from by omega, Nat.pow_add, Nat.mul_div_mul_right _ _ (Nat.pow_pos (by decide))]
  rw [show k + ((tz n + j : Nat) : Int) = k + (j : Int) + (tz n : Int) from by omega]
theorem nl_le {n L : Nat} (h0 : 0 < n) (h : n < 10 ^ L) (hL : L ≤ 40) : nl n ≤ L := by
  obtain ⟨a1, a2, a3⟩ := nl_ok h0 (Nat.lt_of_lt_of_le h (Nat.pow_le_pow_right (by decide) hL))
  have := (Nat.pow_lt_pow_iff_right (by decide : 1 < 10)).1 (Nat.lt_of_le_of_lt a2 h)
  omega
theorem itoa_nl (n : Nat) (h0 : 0 < n) (h : n < 10 ^ 18) (w : World) : Calls Oajg.prog 160 #[.int .i64 (n : Int)] w fun x w' => x = .returned (.string (dstr (nl n) n)) ∧ Below w.heap.size w w' := by
  obtain ⟨a1, a2, a3⟩ := nl_ok h0 (Nat.lt_of_lt_of_le h (Nat.pow_le_pow_right (by decide) (by decide)))
  exact itoa_ok n (nl n) a1 (nl_le h0 h (by decide)) a3 (Or.inr a2) w
theorem make_nl (neg : Bool) (n : Nat) (k : Int) (h0 : 0 < n) (h : n < 10 ^ 18) (hk1 : -2000 ≤ k) (hk2 : k ≤ 1900) (w : World) : Calls Oajg.prog 46 #[.bool neg, .string (dstr (nl n) n), .int .i64 k] w fun x w' => x = .returned (.tuple #[decV neg n k, .bool true]) ∧ Below w.heap.size w w' := by
  have h40 : n < 10 ^ 40 := Nat.lt_of_lt_of_le h (Nat.pow_le_pow_right (by decide) (by decide))
  obtain ⟨a1, a2, a3⟩ := nl_ok h0 h40
  obtain ⟨b1, b2⟩ := tz_ok h0 h40
  exact make_ok neg n (nl n) (tz n) k a1 (nl_le h0 h (by decide)) (tz_lt h0 h40) b1 b2 a2 a3 hk1 hk2 w

end Go.Proofs.Ygcoaj
