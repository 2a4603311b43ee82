/-
  PLAIN: lists of limbs.
-/
import Derived.Test.YgcoajNat0
set_option linter.unusedVariables false
namespace Go.Proofs.Ygcoaj
open Go.RowKit

theorem valL_set (l : List Nat) (k y : Nat) (h : k < l.length) : valL (l.set k y) + 4294967296 ^ k * l.getD k 0 = valL l + 4294967296 ^ k * y := by
  induction l generalizing k with
  | nil => simp at h
  | cons x l ih =>
    cases k with
    | zero => simp [valL]; omega
    | succ k =>
      have := ih k (by simpa using h)
      simp only [List.set_cons_succ, valL, List.getD_cons_succ, Nat.pow_succ]
      grind
theorem limbs_set (l : List Nat) (k y : Nat) (hl : Limbs l) (hy : y < 4294967296) : Limbs (l.set k y) := by
  intro x hx
  rcases List.mem_or_eq_of_mem_set hx with h | h
  · exact hl x h
  · rw [h]; exact hy
theorem limbs_zero (n : Nat) : Limbs (List.replicate n 0) := by
  intro x hx
  rw [List.eq_of_mem_replicate hx]; decide
theorem valL_zero (n : Nat) : valL (List.replicate n 0) = 0 := valL_zeros _ fun x hx => List.eq_of_mem_replicate hx
theorem getD_zero (n k : Nat) : (List.replicate n 0).getD k 0 = 0 := by
  rw [List.getD_eq_getElem?_getD, List.getElem?_replicate]; split <;> rfl
theorem limbs_get (l : List Nat) (k : Nat) (h : Limbs l) : l.getD k 0 < 4294967296 := by
  rw [List.getD_eq_getElem?_getD]
  cases e : l[k]? with
  | none => decide
  | some x => exact h x (List.mem_of_getElem? e)
theorem getD_set_same (l : List Nat) (k y : Nat) (h : k < l.length) : (l.set k y).getD k 0 = y := by
  rw [List.getD_eq_getElem?_getD, List.getElem?_set_self h]; rfl
theorem getD_set_ne' (l : List Nat) (k j y : Nat) (h : k ≠ j) : (l.set k y).getD j 0 = l.getD j 0 := by
  rw [List.getD_eq_getElem?_getD, List.getElem?_set_ne h, List.getD_eq_getElem?_getD]
theorem valL_take_succ (l : List Nat) (i : Nat) (h : i < l.length) : valL (l.take (i + 1)) = valL (l.take i) + 4294967296 ^ i * l.getD i 0 := by
  rw [List.take_succ_eq_append_getElem h, valL_append, List.length_take, Nat.min_eq_left (by omega), List.getD_eq_getElem?_getD, List.getElem?_eq_getElem h]
  simp [valL]
theorem take_all' (l : List Nat) (i : Nat) (h : ¬ i < l.length) : l.take i = l := List.take_of_length_le (by omega)

/-! ### a row of limbs that fills a block -/
def rowOf (l : List Nat) : Array Value := (l.map lv).toArray
theorem rowOf_size (l : List Nat) : (rowOf l).size = l.length := by simp [rowOf]
theorem rowOf_get (l : List Nat) (k : Nat) (h : k < l.length) : (rowOf l)[k]? = some (lv (l.getD k 0)) := by
  simp only [rowOf, List.getElem?_toArray, List.getElem?_map, get_some l k h, Option.map_some]
theorem rowOf_set (l : List Nat) (k y : Nat) : (rowOf l).setIfInBounds k (lv y) = rowOf (l.set k y) := by
  simp [rowOf, List.map_set]
theorem rowOf_zero (n : Nat) : rowOf (List.replicate n 0) = madeCells #[.int .u32 0] n := by
  apply Array.ext
  · simp [rowOf, madeCells]
  · intro i h1 h2
    simp [rowOf, madeCells, lv, Nat.mod_one]

/-- block b of w is the row l -/
def RowAt (w : World) (b : Nat) (l : List Nat) : Prop := w.heap[b]? = some (.cells (rowOf l) 57 (0, 0))
theorem RowAt.cell {w : World} {b : Nat} {l : List Nat} (h : RowAt w b l) (k : Nat) (hk : k < l.length) : w.cell? ⟨b, k, none⟩ = some (.int .u32 (l.getD k 0 : Nat)) := by
  simp only [World.cell?, show w.heap[b]? = _ from h]
  exact rowOf_get l k hk
theorem RowAt.frozen {w : World} {b : Nat} {l : List Nat} (h : RowAt w b l) (o : Nat) : w.frozen? ⟨b, o, none⟩ = false := by
  simp [World.frozen?, show w.heap[b]? = _ from h]
theorem RowAt.limbs {w : World} {b : Nat} {l : List Nat} (h : RowAt w b l) : LimbsAt w b 0 l := by
  intro j x hj
  have hlt := (List.getElem?_eq_some_iff.1 hj).1
  rw [Nat.zero_add, h.cell j hlt]
  rw [get_some l j hlt] at hj
  cases hj; rfl
theorem RowAt.set {w : World} {b : Nat} {l : List Nat} (h : RowAt w b l) (k y : Nat) : RowAt (w.setCell ⟨b, k, none⟩ (.int .u32 (y : Int))) b (l.set k y) := by
  unfold RowAt
  have h' : w.heap[b]? = some (.cells (rowOf l) 57 (0, 0)) := h
  simp only [World.setCell, Array.getElem?_modify, h']
  simp [← rowOf_set, lv]
theorem RowAt.made (w : World) (n : Nat) : RowAt (w.alloc (.cells (madeCells #[.int .u32 0] n) 57)) w.heap.size (List.replicate n 0) := by
  unfold RowAt
  rw [rowOf_zero]
  show (w.heap.push _)[w.heap.size]? = _
  simp
theorem RowAt.kept {w w' : World} {b : Nat} {l : List Nat} (h : RowAt w b l) (hk : w'.heap[b]? = w.heap[b]?) : RowAt w' b l := hk.trans h
theorem RowAt.lt {w : World} {b : Nat} {l : List Nat} (h : RowAt w b l) : b < w.heap.size := (Array.getElem?_eq_some_iff.1 (show w.heap[b]? = _ from h)).1

theorem run_make_limbs (n : Nat) (h : n ≤ 1099511627776) (w : World) :
    (Instr.makeSlice 46 (.int .i64 (n : Int)) (.int .i64 (n : Int))).run Oajg.prog w = .ok (.slice (some ⟨w.heap.size, 0, none⟩) n n) (w.alloc (.cells (madeCells #[.int .u32 0] n) 57)) := by
  obtain ⟨i, hi, iz, is, ib⟩ := info_parts (P := Oajg.prog) (e := 57) (z := .int .u32 0) (size := 1) (bytes := 4) (by kernel_rfl)
  have hb' : (i.bytes : Int) * (n : Int) ≤ 281474976710656 := by rw [ib]; omega
  have hr := run_make (P := Oajg.prog) w 46 57 i (.int .u32 0) Oajg.underlying46 hi iz .i64 .i64 n n (by omega) (Int.le_refl _) hb' (by omega)
  simp only [Int.toNat_natCast, is, Nat.mul_one] at hr
  exact hr

theorem eql_nil (w : World) (a : Option Addr) (n c : Nat) : Sem.run Oajg.prog (binOp .eql 46 (.slice a n c) (.slice none 0 0)) w = .ok (.bool a.isNone) w := by
  have h : (Op.equalIn (9999 + 1) 46 (.slice a n c) (.slice none 0 0)).run Oajg.prog w = .ok a.isNone w := Lib.run_equalIn_slice_nil w 9999 46 57 a n c 0 0 Oajg.underlying46
  simp only [binOp]
  simp [Op.equal, Op.maxDepth, h]
theorem neq_nil (w : World) (a : Option Addr) (n c : Nat) : Sem.run Oajg.prog (binOp .neq 46 (.slice a n c) (.slice none 0 0)) w = .ok (.bool (!a.isNone)) w :=
  run_neq_slice_nil_any w 46 57 a n c 0 0 Oajg.underlying46

/-! ### lift -/
/-- behind i rounds -/
structure LiftTo (a : List Nat) (limbs bits i : Nat) (c : List Nat) : Prop where
  len : c.length = a.length + limbs + 1
  lim : Limbs c
  val : valL c = valL (a.take i) * 2 ^ bits * 4294967296 ^ limbs
  top : c.getD (i + limbs) 0 < 2 ^ bits
  zero : ∀ j, i + limbs < j → c.getD j 0 = 0

theorem lift0 (a : List Nat) (limbs bits : Nat) : LiftTo a limbs bits 0 (List.replicate (a.length + limbs + 1) 0) :=
  ⟨by simp, limbs_zero _, by simp [valL_zero, valL], by rw [getD_zero]; exact Nat.pow_pos (by decide), fun j _ => getD_zero _ _⟩

theorem pow32 (bits : Nat) (h : bits ≤ 32) : (4294967296 : Nat) = 2 ^ bits * 2 ^ (32 - bits) := by
  rw [← Nat.pow_add, show bits + (32 - bits) = 32 by omega]

theorem lift_step (a : List Nat) (limbs bits i : Nat) (c : List Nat) (h : LiftTo a limbs bits i c) (hi : i < a.length) (hb : bits < 32) (ha : Limbs a) (lo hi' x : Nat) (hx : x = a.getD i 0)
    (hw : lo + 4294967296 * hi' = x * 2 ^ bits) (hlo : lo < 4294967296) :
    c.getD (i + limbs) 0 ||| lo = c.getD (i + limbs) 0 + lo ∧ c.getD (i + limbs) 0 + lo < 4294967296 ∧ hi' < 4294967296 ∧
    LiftTo a limbs bits (i + 1) ((c.set (i + limbs) (c.getD (i + limbs) 0 + lo)).set (i + limbs + 1) hi') := by
  obtain ⟨h1, h2, h3, h4, h5⟩ := h
  have hx32 : x < 4294967296 := by rw [hx]; exact limbs_get a i ha
  have hp : 0 < 2 ^ bits := Nat.pow_pos (by decide)
  have hdiv : lo % 2 ^ bits = 0 := by
    have h32 := pow32 bits (by omega)
    have : lo = x * 2 ^ bits - 4294967296 * hi' := by omega
    rw [this, h32]
    have e : x * 2 ^ bits - 2 ^ bits * 2 ^ (32 - bits) * hi' = 2 ^ bits * (x - 2 ^ (32 - bits) * hi') := by
      rw [Nat.mul_sub, Nat.mul_comm x, Nat.mul_assoc]
    rw [e, Nat.mul_mod_right]
  have hhi : hi' < 2 ^ bits := by
    have h1 : 4294967296 * hi' < 4294967296 * 2 ^ bits := by
      have : x * 2 ^ bits < 4294967296 * 2 ^ bits := Nat.mul_lt_mul_of_pos_right hx32 hp
      omega
    exact Nat.lt_of_mul_lt_mul_left h1
  have hsum : c.getD (i + limbs) 0 + lo < 4294967296 := by
    have h32 := pow32 bits (by omega)
    obtain ⟨q, hq⟩ : ∃ q, lo = 2 ^ bits * q := ⟨lo / 2 ^ bits, by have := Nat.div_add_mod lo (2 ^ bits); omega⟩
    have hq2 : q < 2 ^ (32 - bits) := by
      rw [h32, hq] at hlo
      exact Nat.lt_of_mul_lt_mul_left hlo
    have : 2 ^ bits * (q + 1) ≤ 2 ^ bits * 2 ^ (32 - bits) := Nat.mul_le_mul_left _ hq2
    rw [Nat.mul_add] at this
    omega
  have hp31 : 2 ^ bits ≤ 2 ^ 31 := Nat.pow_le_pow_right (by decide) (by omega)
  refine ⟨?_, hsum, by omega, ?_⟩
  · rw [Nat.or_comm, nat_join bits _ _ hdiv h4]; omega
  · have hlen1 : i + limbs < c.length := by omega
    have hlen2 : i + limbs + 1 < (c.set (i + limbs) (c.getD (i + limbs) 0 + lo)).length := by simp; omega
    have hz1 : c.getD (i + limbs + 1) 0 = 0 := h5 _ (by omega)
    have e1 := valL_set c (i + limbs) (c.getD (i + limbs) 0 + lo) hlen1
    have e2 := valL_set (c.set (i + limbs) (c.getD (i + limbs) 0 + lo)) (i + limbs + 1) hi' hlen2
    rw [getD_set_ne' _ _ _ _ (by omega), hz1] at e2
    have e3 := valL_take_succ a i hi
    refine ⟨by simp; omega, limbs_set _ _ _ (limbs_set _ _ _ h2 hsum) (by omega), ?_, ?_, ?_⟩
    · rw [e3, ← hx]
      have hpw : 4294967296 ^ (i + limbs) = 4294967296 ^ i * 4294967296 ^ limbs := Nat.pow_add ..
      have hpw1 : 4294967296 ^ (i + limbs + 1) = 4294967296 ^ i * 4294967296 ^ limbs * 4294967296 := by rw [Nat.pow_succ, hpw]
      rw [hpw] at e1
      rw [hpw1] at e2
      generalize valL (List.set (List.set c (i + limbs) (c.getD (i + limbs) 0 + lo)) (i + limbs + 1) hi') = V at *
      generalize valL (List.set c (i + limbs) (c.getD (i + limbs) 0 + lo)) = U at *
      generalize 4294967296 ^ i * 4294967296 ^ limbs = Pw at *
      have e5 : V = valL c + Pw * (x * 2 ^ bits) := by rw [← hw]; grind
      rw [e5, h3]
      grind
    · have : i + 1 + limbs = i + limbs + 1 := by omega
      rw [this, getD_set_same _ _ _ hlen2]; exact hhi
    · intro j hj
      rw [getD_set_ne' _ _ _ _ (by omega), getD_set_ne' _ _ _ _ (by omega)]
      exact h5 j (by omega)

end Go.Proofs.Ygcoaj
namespace Go.Proofs.Ygcoaj
open Go.RowKit

theorem NatIs.open {B : Nat} {w : World} {v : Value} {n : Nat} (h : NatIs B w v n) :
    ∃ l ad cap, v = .slice ad l.length cap ∧ valL l = n ∧ Limbs l ∧ NormL l ∧ l.length ≤ B ∧ (l ≠ [] → ∃ b, ad = some ⟨b, 0, none⟩ ∧ b < w.heap.size ∧ LimbsAt w b 0 l) := by
  obtain ⟨l, h1, h2, h3, h4, h5⟩ := h
  rcases h5 with ⟨rfl, rfl⟩ | ⟨h5, b, cap, rfl, h7, h8, h9⟩
  · exact ⟨[], none, 0, rfl, h1, h2, h3, h4, fun h => absurd rfl h⟩
  · exact ⟨l, some ⟨b, 0, none⟩, cap, rfl, h1, h2, h3, h4, fun _ => ⟨b, rfl, h8, h9⟩⟩

theorem ne_nil_of_lt {l : List Nat} {i : Nat} (h : i < l.length) : l ≠ [] := by rintro rfl; simp at h

/-- cell i of a number, in a later world -/
theorem limb_at {w wr : World} {b : Nat} {l : List Nat} (h : LimbsAt w b 0 l) (hb : b < w.heap.size) (hw : Below w.heap.size w wr) (i : Nat) (hi : i < l.length) : wr.cell? ⟨b, i, none⟩ = some (.int .u32 (l.getD i 0 : Nat)) := by
  rw [hw.cell (p := ⟨b, i, none⟩) hb]
  have := h i _ (get_some l i hi)
  rw [Nat.zero_add] at this
  exact this

/-! ### Mul -/
structure MulTo (a b : List Nat) (i : Nat) (c : List Nat) : Prop where
  len : c.length = a.length + b.length
  lim : Limbs c
  val : valL c = valL (a.take i) * valL b
  zero : ∀ j, i + b.length ≤ j → c.getD j 0 = 0

theorem mul0 (a b : List Nat) : MulTo a b 0 (List.replicate (a.length + b.length) 0) :=
  ⟨by simp, limbs_zero _, by simp [valL_zero, valL], fun j _ => getD_zero _ _⟩

structure MulIn (a b : List Nat) (i j : Nat) (c : List Nat) (carry : Nat) : Prop where
  len : c.length = a.length + b.length
  lim : Limbs c
  val : valL c + carry * 4294967296 ^ (i + j) = valL (a.take i) * valL b + 4294967296 ^ i * (a.getD i 0 * valL (b.take j))
  zero : ∀ k, i + b.length ≤ k → c.getD k 0 = 0
  car : carry < 4294967296

theorem mulIn0 {a b : List Nat} {i : Nat} {c : List Nat} (h : MulTo a b i c) : MulIn a b i 0 c 0 :=
  ⟨h.len, h.lim, by simp [valL, h.val], h.zero, by decide⟩

theorem mul_bound (carry x y c : Nat) (h1 : carry < 4294967296) (h2 : x < 4294967296) (h3 : y < 4294967296) (h4 : c < 4294967296) : x * y ≤ 18446744065119617025 ∧ carry + (x * y + c) < 18446744073709551616 := by
  have h5 : x * y ≤ 4294967295 * 4294967295 := Nat.mul_le_mul (by omega) (by omega)
  omega

theorem mulIn_step {a b : List Nat} {i j : Nat} {c : List Nat} {carry : Nat} (h : MulIn a b i j c carry) (hi : i < a.length) (hj : j < b.length) (ha : Limbs a) (hb : Limbs b) (t lo up : Nat)
    (ht : t = carry + (a.getD i 0 * b.getD j 0 + c.getD (i + j) 0)) (hlo : lo = t % 4294967296) (hup : up = t / 4294967296) : MulIn a b i (j + 1) (c.set (i + j) lo) up := by
  obtain ⟨h1, h2, h3, h4, h5⟩ := h
  have hx := limbs_get a i ha
  have hy := limbs_get b j hb
  have hc := limbs_get c (i + j) h2
  have hbd := (mul_bound carry _ _ _ h5 hx hy hc).2
  have hsplit : lo + 4294967296 * up = t := by omega
  refine ⟨by simp [h1], limbs_set _ _ _ h2 (by omega), ?_, ?_, by omega⟩
  · have e1 := valL_set c (i + j) lo (by omega)
    have e2 := valL_take_succ b j hj
    have hpw : 4294967296 ^ (i + (j + 1)) = 4294967296 ^ (i + j) * 4294967296 := by rw [← Nat.add_assoc, Nat.pow_succ]
    have hpw2 : 4294967296 ^ (i + j) = 4294967296 ^ i * 4294967296 ^ j := Nat.pow_add ..
    rw [hpw, e2]
    generalize valL (c.set (i + j) lo) = V at *
    generalize a.getD i 0 = X at *
    generalize b.getD j 0 = Y at *
    generalize c.getD (i + j) 0 = C at *
    generalize valL (List.take i a) * valL b = S at *
    generalize valL (List.take j b) = T at *
    generalize valL c = U at *
    have e5 : V + 4294967296 ^ (i + j) * C + 4294967296 ^ (i + j) * 4294967296 * up = U + 4294967296 ^ (i + j) * t := by rw [e1, ← hsplit, Nat.mul_add]; grind
    rw [ht] at e5
    rw [hpw2] at *
    generalize 4294967296 ^ i = I at *
    generalize 4294967296 ^ j = J at *
    grind
  · intro k hk
    rw [getD_set_ne' _ _ _ _ (by omega)]
    exact h4 k hk

theorem mul_next {a b : List Nat} {i : Nat} {c : List Nat} {carry : Nat} (h : MulIn a b i b.length c carry) (hi : i < a.length) : MulTo a b (i + 1) (c.set (i + b.length) carry) := by
  obtain ⟨h1, h2, h3, h4, h5⟩ := h
  refine ⟨by simp [h1], limbs_set _ _ _ h2 h5, ?_, ?_⟩
  · have e1 := valL_set c (i + b.length) carry (by omega)
    rw [h4 _ (Nat.le_refl _), Nat.mul_zero, Nat.add_zero] at e1
    rw [e1, valL_take_succ a i hi, Nat.add_mul, Nat.mul_assoc]
    rw [List.take_of_length_le (Nat.le_refl _)] at h3
    rw [Nat.mul_comm] at h3
    omega
  · intro k hk
    rw [getD_set_ne' _ _ _ _ (by omega)]
    exact h4 k (by omega)

/-! ### Add -/
structure AddTo (a b : List Nat) (i : Nat) (c : List Nat) (carry : Nat) : Prop where
  len : c.length = a.length + 1
  lim : Limbs c
  val : valL c + carry * 4294967296 ^ i = valL (a.take i) + valL (b.take i)
  zero : ∀ j, i ≤ j → c.getD j 0 = 0
  car : carry ≤ 1
theorem add0 (a b : List Nat) : AddTo a b 0 (List.replicate (a.length + 1) 0) 0 :=
  ⟨by simp, limbs_zero _, by simp [valL_zero, valL], fun j _ => getD_zero _ _, by decide⟩
theorem take_big (b : List Nat) (i : Nat) (h : b.length ≤ i) : valL (b.take (i + 1)) = valL (b.take i) := by
  rw [List.take_of_length_le (by omega), List.take_of_length_le h]
theorem add_step {a b : List Nat} {i : Nat} {c : List Nat} {carry : Nat} (h : AddTo a b i c carry) (hi : i < a.length) (ha : Limbs a) (hb : Limbs b) (t lo up : Nat)
    (ht : t = carry + a.getD i 0 + (if i < b.length then b.getD i 0 else 0)) (hlo : lo = t % 4294967296) (hup : up = t / 4294967296) : AddTo a b (i + 1) (c.set i lo) up := by
  obtain ⟨h1, h2, h3, h4, h5⟩ := h
  have hx := limbs_get a i ha
  have hy := limbs_get b i hb
  have hsplit : lo + 4294967296 * up = t := by omega
  have htb : t ≤ 8589934591 := by split at ht <;> omega
  have e1 := valL_set c i lo (by omega)
  rw [h4 i (Nat.le_refl _), Nat.mul_zero, Nat.add_zero] at e1
  refine ⟨by simp [h1], limbs_set _ _ _ h2 (by omega), ?_, ?_, by omega⟩
  · have e2 : valL (b.take (i + 1)) = valL (b.take i) + 4294967296 ^ i * (if i < b.length then b.getD i 0 else 0) := by
      split
      · rename_i h; exact valL_take_succ b i h
      · rename_i h; rw [take_big b i (by omega)]; simp
    rw [e1, e2, valL_take_succ a i hi, Nat.pow_succ]
    generalize (if i < b.length then b.getD i 0 else 0) = Y at *
    generalize a.getD i 0 = X at *
    generalize 4294967296 ^ i = I at *
    have : I * lo + up * (I * 4294967296) = I * (carry + X + Y) := by rw [← ht, ← hsplit]; grind
    grind
  · intro j hj
    rw [getD_set_ne' _ _ _ _ (by omega)]
    exact h4 j (by omega)
theorem add_end {a b : List Nat} {c : List Nat} {carry : Nat} (h : AddTo a b a.length c carry) (hl : b.length ≤ a.length) : valL (c.set a.length carry) = valL a + valL b ∧ Limbs (c.set a.length carry) := by
  obtain ⟨h1, h2, h3, h4, h5⟩ := h
  have e1 := valL_set c a.length carry (by omega)
  rw [h4 _ (Nat.le_refl _), Nat.mul_zero, Nat.add_zero] at e1
  rw [List.take_of_length_le (Nat.le_refl _), List.take_of_length_le hl, Nat.mul_comm] at h3
  exact ⟨by omega, limbs_set _ _ _ h2 (by omega)⟩

/-! ### Sub -/
structure SubTo (a b : List Nat) (i : Nat) (c : List Nat) (borrow : Nat) : Prop where
  len : c.length = a.length
  lim : Limbs c
  val : valL c + valL (b.take i) = valL (a.take i) + borrow * 4294967296 ^ i
  zero : ∀ j, i ≤ j → c.getD j 0 = 0
  bor : borrow ≤ 1
theorem sub0 (a b : List Nat) : SubTo a b 0 (List.replicate a.length 0) 0 :=
  ⟨by simp, limbs_zero _, by simp [valL_zero, valL], fun j _ => getD_zero _ _, by decide⟩
theorem sub_step {a b : List Nat} {i : Nat} {c : List Nat} {borrow : Nat} (h : SubTo a b i c borrow) (hi : i < a.length) (ha : Limbs a) (hb : Limbs b) (lo bo : Nat) (hlo : lo < 4294967296) (hbo : bo ≤ 1)
    (ht : lo + (if i < b.length then b.getD i 0 else 0) + borrow = a.getD i 0 + bo * 4294967296) : SubTo a b (i + 1) (c.set i lo) bo := by
  obtain ⟨h1, h2, h3, h4, h5⟩ := h
  have e1 := valL_set c i lo (by omega)
  rw [h4 i (Nat.le_refl _), Nat.mul_zero, Nat.add_zero] at e1
  refine ⟨by simp [h1], limbs_set _ _ _ h2 hlo, ?_, ?_, hbo⟩
  · have e2 : valL (b.take (i + 1)) = valL (b.take i) + 4294967296 ^ i * (if i < b.length then b.getD i 0 else 0) := by
      split
      · rename_i h; exact valL_take_succ b i h
      · rename_i h; rw [take_big b i (by omega)]; simp
    rw [e1, e2, valL_take_succ a i hi, Nat.pow_succ]
    generalize (if i < b.length then b.getD i 0 else 0) = Y at *
    generalize a.getD i 0 = X at *
    generalize 4294967296 ^ i = I at *
    have : I * lo + I * Y + I * borrow = I * X + I * (bo * 4294967296) := by rw [← Nat.mul_add, ← Nat.mul_add, ← Nat.mul_add, ht]
    grind
  · intro j hj
    rw [getD_set_ne' _ _ _ _ (by omega)]
    exact h4 j (by omega)
theorem sub_end {a b : List Nat} {c : List Nat} {bo : Nat} (h : SubTo a b a.length c bo) (hl : b.length ≤ a.length) (hle : valL b ≤ valL a) : valL c = valL a - valL b := by
  obtain ⟨h1, h2, h3, h4, h5⟩ := h
  rw [List.take_of_length_le (Nat.le_refl _), List.take_of_length_le hl] at h3
  have hlt := valL_lt c h2
  rw [h1] at hlt
  have : bo = 0 := by
    by_cases hb : bo = 0
    · exact hb
    · have : bo = 1 := by omega
      subst this
      omega
  subst this
  omega

/-! ### Cmp -/
theorem norm_len_le {a b : List Nat} (ha : Limbs a) (hb : Limbs b) (hn : NormL b) (h : a.length < b.length) : valL a < valL b := by
  have h1 := valL_lt a ha
  have h2 := normL_pos b hn (by rintro rfl; simp at h)
  have : 4294967296 ^ a.length ≤ 4294967296 ^ (b.length - 1) := Nat.pow_le_pow_right (by decide) (by omega)
  omega
theorem drop_val (l : List Nat) (i : Nat) (h : i < l.length) : valL l = valL (l.take i) + 4294967296 ^ i * (l.getD i 0 + 4294967296 * valL (l.drop (i + 1))) := by
  conv => lhs; rw [← List.take_append_drop i l]
  rw [valL_append, List.length_take, Nat.min_eq_left (by omega), List.drop_eq_getElem_cons h]
  rw [List.getD_eq_getElem?_getD, List.getElem?_eq_getElem h]
  simp [valL]
/-- equal from i + 1 on, and less at i -/
theorem cmp_lt {a b : List Nat} (ha : Limbs a) (hb : Limbs b) (i : Nat) (h1 : i < a.length) (h2 : i < b.length) (he : valL (a.drop (i + 1)) = valL (b.drop (i + 1))) (hlt : a.getD i 0 < b.getD i 0) : valL a < valL b := by
  rw [drop_val a i h1, drop_val b i h2, he]
  have q := valL_lt (a.take i) (limbs_take a i ha)
  rw [List.length_take, Nat.min_eq_left (by omega)] at q
  generalize a.getD i 0 = X at *
  generalize b.getD i 0 = Y at *
  generalize valL (List.drop (i + 1) b) = D at *
  have : 4294967296 ^ i * (X + 4294967296 * D + 1) ≤ 4294967296 ^ i * (Y + 4294967296 * D) := Nat.mul_le_mul_left _ (by omega)
  rw [Nat.mul_add] at this
  omega
theorem drop_succ_val (l : List Nat) (i : Nat) (h : i < l.length) : valL (l.drop i) = l.getD i 0 + 4294967296 * valL (l.drop (i + 1)) := by
  rw [List.drop_eq_getElem_cons h, List.getD_eq_getElem?_getD, List.getElem?_eq_getElem h]; rfl

end Go.Proofs.Ygcoaj
