/-
  PLAIN: long division in limbs.
-/
import Derived.Test.YgcoajNat4
import Derived.Test.YgcoajIe2
set_option linter.unusedVariables false
namespace Go.Proofs.Ygcoaj
open Go.RowKit

/-! ### the guess -/
theorem guess_done {est rest d1 d0 u0 head : Nat} (e : est * d1 + rest = head) (h : est * d0 ≤ rest * 4294967296 + u0) : est * (d1 * 4294967296 + d0) ≤ head * 4294967296 + u0 := by
  rw [← e, Nat.mul_add, ← Nat.mul_assoc, Nat.add_mul]
  omega
theorem guess_over {est rest d1 d0 u0 head : Nat} (e : est * d1 + rest = head) (h : rest * 4294967296 + u0 < est * d0) : head * 4294967296 + u0 < est * (d1 * 4294967296 + d0) := by
  rw [← e, Nat.mul_add, ← Nat.mul_assoc, Nat.add_mul, Nat.add_assoc]
  exact Nat.add_lt_add_left h _

structure GuessAt (u2 u1 u0 d1 d0 est rest : Nat) : Prop where
  eq : est * d1 + rest = u2 * 4294967296 + u1
  le : est ≤ 4294967297
  up : 4294967295 ≤ est ∨ (u2 * 4294967296 + u1) * 4294967296 + u0 < (est + 1) * (d1 * 4294967296 + d0)
  r32 : rest < 4294967296

structure Guessed (u2 u1 u0 d1 d0 r : Nat) : Prop where
  lt : r < 4294967296
  low : r * (d1 * 4294967296 + d0) ≤ (u2 * 4294967296 + u1) * 4294967296 + u0
  up : r = 4294967295 ∨ (u2 * 4294967296 + u1) * 4294967296 + u0 < (r + 1) * (d1 * 4294967296 + d0)

theorem guess0_up {q r d1 d0 u0 hd : Nat} (he : d1 * q + r = hd) (hm : r < d1) (h0 : u0 < 4294967296) : hd * 4294967296 + u0 < (q + 1) * (d1 * 4294967296 + d0) := by
  have e2 : (q + 1) * (d1 * 4294967296 + d0) = d1 * q * 4294967296 + (d1 * 4294967296 + (q * d0 + d0)) := by
    rw [Nat.add_mul, Nat.mul_add, Nat.mul_comm d1 q, Nat.mul_assoc q d1]; omega
  have e3 : r * 4294967296 + u0 < d1 * 4294967296 + (q * d0 + d0) := by
    have h3 : (r + 1) * 4294967296 ≤ d1 * 4294967296 := Nat.mul_le_mul_right _ hm
    rw [Nat.add_mul, Nat.one_mul] at h3
    exact Nat.lt_of_lt_of_le (Nat.lt_of_lt_of_le (Nat.add_lt_add_left h0 _) h3) (Nat.le_add_right _ _)
  rw [e2, ← he, Nat.add_mul, Nat.add_assoc]
  exact Nat.add_lt_add_left e3 _
theorem guess0 {u2 u1 u0 d1 d0 : Nat} (h2 : u2 ≤ d1) (h1 : u1 < 4294967296) (hd : 2147483648 ≤ d1) (hd2 : d1 < 4294967296) (h0 : u0 < 4294967296) (hd0 : d0 < 4294967296) :
    GuessAt u2 u1 u0 d1 d0 ((u2 * 4294967296 + u1) / d1) ((u2 * 4294967296 + u1) % d1) := by
  have hm := Nat.mod_lt (u2 * 4294967296 + u1) (show d1 > 0 by omega)
  have he := Nat.div_add_mod (u2 * 4294967296 + u1) d1
  refine ⟨by rw [Nat.mul_comm]; exact he, ?_, Or.inr (guess0_up he hm h0), by omega⟩
  refine Nat.le_of_lt_succ ((Nat.div_lt_iff_lt_mul (by omega)).2 ?_)
  have : u2 * 4294967296 ≤ d1 * 4294967296 := Nat.mul_le_mul_right _ h2
  omega

theorem guess_end {u2 u1 u0 d1 d0 est rest : Nat} (h : GuessAt u2 u1 u0 d1 d0 est rest) (he : est < 4294967296) (hc : est * d0 ≤ rest * 4294967296 + u0) : Guessed u2 u1 u0 d1 d0 est :=
  ⟨he, guess_done h.eq hc, by rcases h.up with h | h; exact Or.inl (by omega); exact Or.inr h⟩

theorem guess_back {u2 u1 u0 d1 d0 est rest : Nat} (h : GuessAt u2 u1 u0 d1 d0 est rest) (hu : u2 ≤ d1) (h1 : u1 < 4294967296) (hd2 : d1 < 4294967296) (hd1 : 2147483648 ≤ d1) (hd0 : d0 < 4294967296) (h0 : u0 < 4294967296)
    (hc : 4294967296 ≤ est ∨ rest * 4294967296 + u0 < est * d0) :
    est ≠ 0 ∧ (rest + d1 < 4294967296 → GuessAt u2 u1 u0 d1 d0 (est - 1) (rest + d1)) ∧ (4294967296 ≤ rest + d1 → Guessed u2 u1 u0 d1 d0 (est - 1)) := by
  have hne : est ≠ 0 := by
    rcases hc with hc | hc
    · omega
    · rintro rfl; simp at hc
  obtain ⟨k, rfl⟩ := Nat.exists_eq_succ_of_ne_zero hne
  have heq := h.eq
  have heq' : k * d1 + (rest + d1) = u2 * 4294967296 + u1 := by rw [← heq, Nat.succ_mul]; omega
  have hup : 4294967295 ≤ k ∨ (u2 * 4294967296 + u1) * 4294967296 + u0 < (k + 1) * (d1 * 4294967296 + d0) := by
    rcases hc with hc | hc
    · exact Or.inl (by omega)
    · exact Or.inr (guess_over heq hc)
  refine ⟨by omega, fun hl => ⟨heq', by have := h.le; simp only [Nat.succ_eq_add_one, Nat.add_sub_cancel]; omega, hup, hl⟩, fun hg => ?_⟩
  have hk : k < 4294967296 := by
    have hle := h.le
    by_cases hk : k < 4294967296
    · exact hk
    · exfalso
      have hk2 : k = 4294967296 := by omega
      subst hk2
      have : u2 * 4294967296 ≤ d1 * 4294967296 := Nat.mul_le_mul_right _ hu
      omega
  have hmul : k * d0 ≤ (rest + d1) * 4294967296 + u0 := by
    have : k * d0 ≤ 4294967296 * 4294967296 := Nat.mul_le_mul (by omega) (by omega)
    omega
  refine ⟨hk, guess_done heq' hmul, ?_⟩
  rcases hup with h | h
  · exact Or.inl (show k = _ by omega)
  · exact Or.inr h

theorem guess_digit {P U3 D2 ul dl u d r : Nat} (hu : u = U3 * P + ul) (hul : ul < P) (hd : d = D2 * P + dl) (hdl : dl < P) (hD2 : 9223372036854775808 ≤ D2)
    (hr : r < 4294967296) (h1 : r * D2 ≤ U3) (h2 : r = 4294967295 ∨ U3 < (r + 1) * D2) (hlt : u < 4294967296 * d) : u < (r + 1) * d ∧ r * d ≤ u + d := by
  constructor
  · rcases h2 with h2 | h2
    · subst h2; exact hlt
    · have e1 : (U3 + 1) * P ≤ (r + 1) * D2 * P := Nat.mul_le_mul_right _ h2
      have e2 : (r + 1) * d = (r + 1) * D2 * P + (r + 1) * dl := by rw [hd, Nat.mul_add, Nat.mul_assoc]
      rw [Nat.add_mul] at e1
      rw [e2, hu]
      omega
  · have e2 : r * d = r * D2 * P + r * dl := by rw [hd, Nat.mul_add, Nat.mul_assoc]
    have e3 : r * D2 * P ≤ U3 * P := Nat.mul_le_mul_right _ h1
    have e4 : r * dl ≤ r * P := Nat.mul_le_mul_left _ (by omega)
    have e5 : r * P ≤ D2 * P := Nat.mul_le_mul_right _ (by omega)
    rw [e2, hu]
    omega

/-! ### takeAway -/
structure TakeTo (seg d : List Nat) (digit i : Nat) (c : List Nat) (carry borrow : Nat) : Prop where
  len : c.length = seg.length
  lim : Limbs c
  val : valL (c.take i) + digit * valL (d.take i) = valL (seg.take i) + (carry + borrow) * 4294967296 ^ i
  rest : ∀ k, i ≤ k → c.getD k 0 = seg.getD k 0
  car : carry < 4294967296
  bor : borrow ≤ 1
  fin : d.length < i → carry = 0

theorem take0 (seg d : List Nat) (digit : Nat) (h : Limbs seg) : TakeTo seg d digit 0 seg 0 0 :=
  ⟨rfl, h, by simp [valL], fun _ _ => rfl, by decide, by decide, fun h => by omega⟩

theorem take_set (c : List Nat) (i y : Nat) (hi : i < c.length) : valL ((c.set i y).take (i + 1)) = valL (c.take i) + 4294967296 ^ i * y := by
  rw [valL_take_succ _ _ (by simpa using hi), getD_set_same _ _ _ hi, List.take_set_of_le (Nat.le_refl _)]

theorem take_step {seg d : List Nat} {digit i : Nat} {c : List Nat} {carry borrow : Nat} (h : TakeTo seg d digit i c carry borrow) (hi : i < seg.length) (hd : Limbs d) (hdig : digit < 4294967296)
    {t y bo : Nat} (ht : t = carry + (if i < d.length then digit * d.getD i 0 else 0)) (hy : y < 4294967296) (hbo : bo ≤ 1) (e : y + t % 4294967296 + borrow = seg.getD i 0 + bo * 4294967296) :
    TakeTo seg d digit (i + 1) (c.set i y) (t / 4294967296) bo := by
  obtain ⟨h1, h2, h3, h4, h5, h6, h7⟩ := h
  have hdi := limbs_get d i hd
  have hmul : digit * d.getD i 0 ≤ 4294967295 * 4294967295 := Nat.mul_le_mul (by omega) (by omega)
  refine ⟨by simp [h1], limbs_set _ _ _ h2 hy, ?_, ?_, ?_, hbo, ?_⟩
  · rw [take_set _ _ _ (by omega), valL_take_succ seg i hi, Nat.pow_succ]
    have hD : digit * valL (d.take (i + 1)) = digit * valL (d.take i) + 4294967296 ^ i * (if i < d.length then digit * d.getD i 0 else 0) := by
      by_cases hid : i < d.length
      · rw [if_pos hid, valL_take_succ d i hid, Nat.mul_add]; grind
      · rw [if_neg hid, take_big d i (by omega)]; simp
    rw [hD]
    generalize (if i < d.length then digit * d.getD i 0 else 0) = z at *
    generalize 4294967296 ^ i = Pw at *
    generalize valL (List.take i c) = a1 at *
    generalize digit * valL (List.take i d) = a2 at *
    generalize valL (List.take i seg) = a3 at *
    generalize seg.getD i 0 = x at *
    have ht2 := Nat.div_add_mod t 4294967296
    generalize t / 4294967296 = tq at *
    generalize t % 4294967296 = tr at *
    have e3 : Pw * (y + tr + borrow) = Pw * (x + bo * 4294967296) := by rw [e]
    have e4 : Pw * (4294967296 * tq + tr) = Pw * (carry + z) := by rw [ht2, ht]
    grind
  · intro k hk
    rw [getD_set_ne' _ _ _ _ (by omega)]
    exact h4 k (by omega)
  · have : t < 4294967296 * 4294967296 := by
      rw [ht]; split <;> omega
    exact Nat.div_lt_of_lt_mul this
  · intro hlt
    have : ¬ i < d.length := by omega
    rw [if_neg this] at ht
    rw [ht]
    exact Nat.div_eq_of_lt (by omega)

/-! ### putBack -/
structure PutTo (seg d : List Nat) (i : Nat) (c : List Nat) (carry : Nat) : Prop where
  len : c.length = seg.length
  lim : Limbs c
  val : valL (c.take i) + carry * 4294967296 ^ i = valL (seg.take i) + valL (d.take i)
  rest : ∀ k, i ≤ k → c.getD k 0 = seg.getD k 0
  car : carry ≤ 1

theorem put0 (seg d : List Nat) (h : Limbs seg) : PutTo seg d 0 seg 0 :=
  ⟨rfl, h, by simp [valL], fun _ _ => rfl, by decide⟩

theorem put_step {seg d : List Nat} {i : Nat} {c : List Nat} {carry : Nat} (h : PutTo seg d i c carry) (hi : i < seg.length) (hs : Limbs seg) (hd : Limbs d)
    {t : Nat} (ht : t = carry + seg.getD i 0 + (if i < d.length then d.getD i 0 else 0)) :
    PutTo seg d (i + 1) (c.set i (t % 4294967296)) (t / 4294967296) := by
  obtain ⟨h1, h2, h3, h4, h5⟩ := h
  have hdi := limbs_get d i hd
  have hsi := limbs_get seg i hs
  refine ⟨by simp [h1], limbs_set _ _ _ h2 (by omega), ?_, ?_, ?_⟩
  · rw [take_set _ _ _ (by omega), valL_take_succ seg i hi, Nat.pow_succ]
    have hD : valL (d.take (i + 1)) = valL (d.take i) + 4294967296 ^ i * (if i < d.length then d.getD i 0 else 0) := by
      by_cases hid : i < d.length
      · rw [if_pos hid, valL_take_succ d i hid]
      · rw [if_neg hid, take_big d i (by omega)]; simp
    rw [hD]
    generalize (if i < d.length then d.getD i 0 else 0) = z at *
    generalize 4294967296 ^ i = Pw at *
    generalize valL (List.take i c) = a1 at *
    generalize valL (List.take i d) = a2 at *
    generalize valL (List.take i seg) = a3 at *
    generalize seg.getD i 0 = x at *
    have ht2 := Nat.div_add_mod t 4294967296
    generalize t / 4294967296 = tq at *
    generalize t % 4294967296 = tr at *
    have e4 : Pw * (4294967296 * tq + tr) = Pw * (carry + x + z) := by rw [ht2, ht]
    grind
  · intro k hk
    rw [getD_set_ne' _ _ _ _ (by omega)]
    exact h4 k (by omega)
  · have : t < 4294967296 * 2 := by rw [ht]; split <;> omega
    have : t / 4294967296 < 2 := Nat.div_lt_of_lt_mul this
    omega

theorem take_whole {seg d c : List Nat} {digit carry borrow : Nat} (h : TakeTo seg d digit seg.length c carry borrow) (hd : d.length < seg.length) : valL c + digit * valL d = valL seg + borrow * 4294967296 ^ seg.length := by
  have := h.val
  rw [← h.len, List.take_of_length_le (Nat.le_refl _), h.len, List.take_of_length_le (Nat.le_refl _), List.take_of_length_le (Nat.le_of_lt hd), h.fin hd] at this
  simpa using this
theorem put_whole {seg d c : List Nat} {carry : Nat} (h : PutTo seg d seg.length c carry) (hd : d.length < seg.length) : valL c + carry * 4294967296 ^ seg.length = valL seg + valL d := by
  have := h.val
  rw [← h.len, List.take_of_length_le (Nat.le_refl _), h.len, List.take_of_length_le (Nat.le_refl _), List.take_of_length_le (Nat.le_of_lt hd)] at this
  exact this

/-- no borrow: the digit stands -/
theorem digit_stays {seg d c : List Nat} {r : Nat} (hc : valL c + r * valL d = valL seg) (h1 : valL seg < (r + 1) * valL d) : valL seg = r * valL d + valL c ∧ valL c < valL d := by
  rw [Nat.add_mul] at h1; omega
theorem digit_back {seg d c c' : List Nat} {r k : Nat} (hc : valL c + r * valL d = valL seg + 4294967296 ^ seg.length) (hc' : valL c' + k * 4294967296 ^ seg.length = valL c + valL d) (hk : k ≤ 1) (hl : valL c < 4294967296 ^ seg.length) (hl' : valL c' < 4294967296 ^ seg.length)
    (h2 : r * valL d ≤ valL seg + valL d) (hr : r ≠ 0 ) : valL seg = (r - 1) * valL d + valL c' ∧ valL c' < valL d := by
  obtain ⟨s, rfl⟩ := Nat.exists_eq_succ_of_ne_zero hr
  rw [Nat.succ_mul] at *
  have : k = 1 := by
    rcases Nat.le_one_iff_eq_zero_or_eq_one.1 hk with rfl | rfl
    · omega
    · rfl
  subst this
  simp only [Nat.succ_eq_add_one, Nat.add_sub_cancel]
  omega
theorem digit_pos {seg d c : List Nat} {r : Nat} (hc : valL c + r * valL d = valL seg + 4294967296 ^ seg.length) (hl : valL c < 4294967296 ^ seg.length) : r ≠ 0 := by
  rintro rfl; omega

/-! ### the long division -/
structure DivTo (A : Nat) (d : List Nat) (la j : Nat) (U q : List Nat) : Prop where
  lenU : U.length = la + 1
  limU : Limbs U
  limq : Limbs q
  lenq : q.length + d.length = la + 1
  val : A = valL q * valL d + valL U
  zero : ∀ k, k < j → q.getD k 0 = 0
  lt : valL U < valL d * 4294967296 ^ j
  jl : j ≤ q.length

/-- the piece of U that step j works on -/
theorem div_cut {A : Nat} {d : List Nat} {la j : Nat} {U q : List Nat} (h : DivTo A d la (j + 1) U q) (hd : Limbs d) :
    ∃ pre seg post, U = pre ++ (seg ++ post) ∧ pre.length = j ∧ seg.length = d.length + 1 ∧ Limbs seg ∧ Limbs pre ∧ valL U = valL pre + 4294967296 ^ j * valL seg ∧ valL seg < 4294967296 * valL d ∧ valL post = 0 ∧ Limbs post := by
  obtain ⟨h1, h2, h3, h4, h5, h6, h7, h8⟩ := h
  refine ⟨U.take j, (U.drop j).take (d.length + 1), (U.drop j).drop (d.length + 1), ?_, ?_, ?_, ?_, ?_, ?_⟩
  · rw [List.take_append_drop, List.take_append_drop]
  · simp; omega
  · simp; omega
  · exact fun x hx => h2 x (List.mem_of_mem_drop (List.mem_of_mem_take hx))
  · exact fun x hx => h2 x (List.mem_of_mem_take hx)
  have hlp : Limbs ((U.drop j).drop (d.length + 1)) := fun x hx => h2 x (List.mem_of_mem_drop (List.mem_of_mem_drop hx))
  have e : valL U = valL (U.take j) + 4294967296 ^ j * (valL ((U.drop j).take (d.length + 1)) + 4294967296 ^ (d.length + 1) * valL ((U.drop j).drop (d.length + 1))) := by
    conv => lhs; rw [← List.take_append_drop j U, valL_append]
    conv => lhs; arg 2; arg 2; rw [← List.take_append_drop (d.length + 1) (U.drop j), valL_append]
    have l1 : (U.take j).length = j := by simp; omega
    have l2 : ((U.drop j).take (d.length + 1)).length = d.length + 1 := by simp; omega
    rw [l1, l2]
  have hdl := valL_lt d hd
  generalize valL ((U.drop j).drop (d.length + 1)) = vp at *
  generalize valL ((U.drop j).take (d.length + 1)) = vs at *
  generalize valL (U.take j) = vr at *
  have hb : valL U < 4294967296 ^ j * (4294967296 * valL d) := by
    rw [Nat.pow_succ] at h7
    have : valL d * (4294967296 ^ j * 4294967296) = 4294967296 ^ j * (4294967296 * valL d) := by grind
    rw [this] at h7; exact h7
  have hs : vs + 4294967296 ^ (d.length + 1) * vp < 4294967296 * valL d := by
    have : 4294967296 ^ j * (vs + 4294967296 ^ (d.length + 1) * vp) < 4294967296 ^ j * (4294967296 * valL d) := by omega
    exact Nat.lt_of_mul_lt_mul_left this
  have hvp : vp = 0 := by
    rcases Nat.eq_zero_or_pos vp with h | h
    · exact h
    · exfalso
      have : 4294967296 ^ (d.length + 1) * 1 ≤ 4294967296 ^ (d.length + 1) * vp := Nat.mul_le_mul_left _ h
      rw [Nat.pow_succ] at this hs
      omega
  subst hvp
  rw [Nat.mul_zero, Nat.add_zero] at hs e
  exact ⟨e, hs, rfl, hlp⟩

theorem div_step {A : Nat} {d : List Nat} {la j : Nat} {q pre seg post c : List Nat} {r : Nat} (h : DivTo A d la (j + 1) (pre ++ (seg ++ post)) q) (hj : pre.length = j) (hcl : c.length = seg.length)
    (hval : valL (pre ++ (seg ++ post)) = valL pre + 4294967296 ^ j * valL seg) (hp0 : valL post = 0) (hlc : Limbs c) (hr : r < 4294967296) (e : valL seg = r * valL d + valL c) (hlt : valL c < valL d) :
    DivTo A d la j (pre ++ (c ++ post)) (q.set j r) := by
  obtain ⟨h1, h2, h3, h4, h5, h6, h7, h8⟩ := h
  have hpre : Limbs pre := fun x hx => h2 x (by simp [hx])
  have hpost : Limbs post := fun x hx => h2 x (by simp [hx])
  have eU : valL (pre ++ (c ++ post)) = valL pre + 4294967296 ^ j * valL c := by
    rw [valL_append, valL_append, hp0, hj]; simp
  have hpl := valL_lt pre hpre
  rw [hj] at hpl
  refine ⟨?_, ?_, limbs_set _ _ _ h3 hr, by simpa using h4, ?_, ?_, ?_, by simp; omega⟩
  · simp only [List.length_append] at h1 ⊢; omega
  · intro x hx
    simp only [List.mem_append] at hx
    rcases hx with h | h | h
    · exact hpre x h
    · exact hlc x h
    · exact hpost x h
  · have eq := valL_set q j r (by omega)
    rw [h6 j (by omega), Nat.mul_zero, Nat.add_zero] at eq
    rw [eU, eq, h5, hval, e]
    grind
  · intro k hk
    rw [getD_set_ne' _ _ _ _ (by omega)]
    exact h6 k (by omega)
  · rw [eU]
    have : 4294967296 ^ j * (valL c + 1) ≤ 4294967296 ^ j * valL d := Nat.mul_le_mul_left _ hlt
    rw [Nat.mul_comm (valL d)]
    rw [Nat.mul_add] at this
    omega

theorem div_end {A : Nat} {d : List Nat} {la : Nat} {U q : List Nat} (h : DivTo A d la 0 U q) : valL q = A / valL d ∧ valL U = A % valL d := by
  have h7 := h.lt
  rw [Nat.pow_zero, Nat.mul_one] at h7
  have hpos : 0 < valL d := by omega
  rw [h.val, Nat.mul_comm, Nat.mul_add_mod, Nat.mod_eq_of_lt h7, Nat.mul_add_div hpos, Nat.div_eq_of_lt h7]
  simp

/-- the three top limbs -/
theorem three_top (seg : List Nat) (m : Nat) (h : seg.length = m + 3) : valL seg = ((seg.getD (m + 2) 0 * 4294967296 + seg.getD (m + 1) 0) * 4294967296 + seg.getD m 0) * 4294967296 ^ m + valL (seg.take m) := by
  have e1 := valL_take_succ seg m (by omega)
  have e2 := valL_take_succ seg (m + 1) (by omega)
  have e3 := valL_take_succ seg (m + 2) (by omega)
  rw [List.take_of_length_le (by omega)] at e3
  rw [e3, e2, e1]
  simp only [Nat.pow_succ]
  grind
theorem two_top (d : List Nat) (m : Nat) (h : d.length = m + 2) : valL d = (d.getD (m + 1) 0 * 4294967296 + d.getD m 0) * 4294967296 ^ m + valL (d.take m) := by
  have e1 := valL_take_succ d m (by omega)
  have e2 := valL_take_succ d (m + 1) (by omega)
  rw [List.take_of_length_le (by omega)] at e2
  rw [e2, e1]
  simp only [Nat.pow_succ]
  grind
theorem take_lt (seg : List Nat) (m : Nat) (h : Limbs seg) (hm : m ≤ seg.length) : valL (seg.take m) < 4294967296 ^ m := by
  have := valL_lt (seg.take m) (limbs_take seg m h)
  rw [List.length_take, Nat.min_eq_left hm] at this
  exact this

theorem top_le {seg d : List Nat} {m : Nat} (hs : seg.length = m + 3) (hdl : d.length = m + 2) (hls : Limbs seg) (hld : Limbs d) (hlt : valL seg < 4294967296 * valL d) : seg.getD (m + 2) 0 ≤ d.getD (m + 1) 0 := by
  have e3 := valL_take_succ seg (m + 2) (by omega)
  rw [List.take_of_length_le (by omega)] at e3
  have e2 := valL_take_succ d (m + 1) (by omega)
  rw [List.take_of_length_le (by omega)] at e2
  have hl := take_lt d (m + 1) hld (by omega)
  generalize seg.getD (m + 2) 0 = x at *
  generalize d.getD (m + 1) 0 = y at *
  have hp : 4294967296 ^ (m + 2) = 4294967296 * 4294967296 ^ (m + 1) := by rw [Nat.pow_succ 4294967296 (m + 1), Nat.mul_comm]
  rw [hp] at e3
  generalize 4294967296 ^ (m + 1) = Pw at *
  have h1 : 4294967296 * Pw * x < 4294967296 * Pw * (y + 1) := by
    have : 4294967296 * (Pw * (y + 1)) = 4294967296 * (Pw * y + Pw) := by rw [Nat.mul_add, Nat.mul_one]
    rw [Nat.mul_assoc, Nat.mul_assoc, this]
    rw [Nat.mul_assoc] at e3
    omega
  exact Nat.lt_succ_iff.1 (Nat.lt_of_mul_lt_mul_left h1)

/-- the guess, read in the piece and the divisor -/
theorem guessed_digit {seg d : List Nat} {m r : Nat} (hs : seg.length = m + 3) (hdl : d.length = m + 2) (hls : Limbs seg) (hld : Limbs d) (hlt : valL seg < 4294967296 * valL d) (htop : 2147483648 ≤ d.getD (m + 1) 0)
    (hg : Guessed (seg.getD (m + 2) 0) (seg.getD (m + 1) 0) (seg.getD m 0) (d.getD (m + 1) 0) (d.getD m 0) r) : valL seg < (r + 1) * valL d ∧ r * valL d ≤ valL seg + valL d :=
  guess_digit (three_top seg m hs) (take_lt seg m hls (by omega)) (two_top d m hdl) (take_lt d m hld (by omega)) (by omega) hg.lt hg.low hg.up hlt

/-- the divisor lifted: its length and its top limb -/
theorem lifted_top {b d : List Nat} {n s : Nat} (hn : b.length = n + 1) (hb : Limbs b) (hb0 : b.getD n 0 ≠ 0) (hs : s = 32 - bitLen (b.getD n 0)) (hd : Limbs d) (hdn : NormL d) (e : valL d = valL b * 2 ^ s) :
    d.length = n + 1 ∧ 2147483648 ≤ d.getD n 0 := by
  have hx := limbs_get b n hb
  have e1 := valL_take_succ b n (by omega)
  rw [List.take_of_length_le (by omega)] at e1
  have hl := take_lt b n hb (by omega)
  generalize b.getD n 0 = x at *
  have hw : bitLen x ≤ 32 := bitLen_le_of_lt (n := 32) (by omega)
  have hw1 := bitLen_pos hb0
  have hlt := bitLen_lt x
  have hge := bitLen_le hb0
  have p1 : 2 ^ bitLen x * 2 ^ s = 4294967296 := by rw [← Nat.pow_add, show bitLen x + s = 32 by omega]
  have p2 : 2 ^ (bitLen x - 1) * 2 ^ s = 2147483648 := by rw [← Nat.pow_add, show bitLen x - 1 + s = 31 by omega]
  have hup : valL d < 4294967296 ^ (n + 1) := by
    have h1 : valL b < 4294967296 ^ n * 2 ^ bitLen x := by
      have : 4294967296 ^ n * (x + 1) ≤ 4294967296 ^ n * 2 ^ bitLen x := Nat.mul_le_mul_left _ hlt
      rw [Nat.mul_add] at this
      omega
    have h2 : valL b * 2 ^ s < 4294967296 ^ n * 2 ^ bitLen x * 2 ^ s := Nat.mul_lt_mul_of_pos_right h1 (Nat.pow_pos (by decide))
    rw [Nat.mul_assoc, p1] at h2
    rw [e, Nat.pow_succ]; exact h2
  have hlo : 4294967296 ^ n * 2147483648 ≤ valL d := by
    have h1 : 4294967296 ^ n * 2 ^ (bitLen x - 1) ≤ valL b := by
      have : 4294967296 ^ n * 2 ^ (bitLen x - 1) ≤ 4294967296 ^ n * x := Nat.mul_le_mul_left _ hge
      omega
    have h2 : 4294967296 ^ n * 2 ^ (bitLen x - 1) * 2 ^ s ≤ valL b * 2 ^ s := Nat.mul_le_mul_right _ h1
    rw [Nat.mul_assoc, p2] at h2
    rw [e]; exact h2
  have hdne : d ≠ [] := by
    rintro rfl
    have : 0 < 4294967296 ^ n := Nat.pow_pos (by decide)
    simp only [valL] at hlo
    omega
  have hlen : d.length = n + 1 := by
    have hp := normL_pos d hdn hdne
    have hq := valL_lt d hd
    have hpos := List.length_pos_iff.2 hdne
    have h1 : 4294967296 ^ (d.length - 1) < 4294967296 ^ (n + 1) := Nat.lt_of_le_of_lt hp hup
    have h1' := (Nat.pow_lt_pow_iff_right (by decide)).1 h1
    have h2 : 4294967296 ^ n < 4294967296 ^ d.length := by
      have : 4294967296 ^ n * 1 ≤ 4294967296 ^ n * 2147483648 := Nat.mul_le_mul_left _ (by decide)
      omega
    have h2' := (Nat.pow_lt_pow_iff_right (by decide)).1 h2
    omega
  refine ⟨hlen, ?_⟩
  have e2 := valL_take_succ d n (by omega)
  rw [List.take_of_length_le (by omega)] at e2
  have hl2 := take_lt d n hd (by omega)
  generalize d.getD n 0 = y at *
  have : 4294967296 ^ n * 2147483648 < 4294967296 ^ n * (y + 1) := by rw [Nat.mul_add]; omega
  have := Nat.lt_of_mul_lt_mul_left this
  omega

/-- the start -/
theorem div0 {A : Nat} {a b d U : List Nat} {n s : Nat} (hbl : b.length = n + 1) (hb : Limbs b) (hb0 : b.getD n 0 ≠ 0) (ha : Limbs a) (hd : d.length = n + 1) (e : valL d = valL b * 2 ^ s) (hA : A = valL a * 2 ^ s)
    (hU : valL U = A) (hUl : U.length = a.length + 1) (hUm : Limbs U) (hle : n + 1 ≤ a.length) (k : Nat) (hk : k = a.length - n) : DivTo A d a.length k U (List.replicate k 0) := by
  refine ⟨hUl, hUm, limbs_zero _, by simp; omega, by rw [valL_zero, hU]; simp, fun k _ => getD_zero _ _, ?_, by simp⟩
  have hal := valL_lt a ha
  have e1 := valL_take_succ b n (by omega)
  rw [List.take_of_length_le (by omega)] at e1
  have h1 : 4294967296 ^ n * 1 ≤ 4294967296 ^ n * b.getD n 0 := Nat.mul_le_mul_left _ (by omega)
  have h2 : 4294967296 ^ n ≤ valL b := by omega
  rw [hU, hA, e]
  have h3 : valL a * 2 ^ s < 4294967296 ^ a.length * 2 ^ s := Nat.mul_lt_mul_of_pos_right hal (Nat.pow_pos (by decide))
  have h4 : 4294967296 ^ a.length = 4294967296 ^ n * 4294967296 ^ k := by rw [← Nat.pow_add]; congr 1; omega
  rw [h4] at h3
  have h5 : 4294967296 ^ n * 4294967296 ^ k * 2 ^ s ≤ valL b * 2 ^ s * 4294967296 ^ k := by
    have : 4294967296 ^ n * (4294967296 ^ k * 2 ^ s) ≤ valL b * (4294967296 ^ k * 2 ^ s) := Nat.mul_le_mul_right _ h2
    grind
  omega

end Go.Proofs.Ygcoaj
