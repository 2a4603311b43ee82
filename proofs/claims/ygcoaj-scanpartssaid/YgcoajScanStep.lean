/-
  PLAIN: dec.Scan's machine, byte by byte.
-/
import Derived.Test.YgcoajScanPlain
namespace Go.Proofs.Ygcoaj

/-- r|0x20 of a byte -/
def lc (c : Nat) : Nat := c ||| 32

def stepD (st : St) (c : UInt8) : Option St :=
  if st.state = 6 ∨ st.state = 7 ∨ st.state = 8 then some { st with exp := min (10 * st.exp + ((c.toNat : Int) - 48)) 1000000, state := 8 }
  else if st.state = 3 ∨ st.state = 4 ∨ st.state = 5 then some { st with frac := st.frac + 1, state := 5, dig := st.dig ++ [c] }
  else if st.state = 0 ∨ st.state = 1 ∨ st.state = 2 then some { st with state := 2, dig := st.dig ++ [c] }
  else none

def stepC (st : St) (c : UInt8) : Option St :=
  if st.state = 0 ∧ (c.toNat = 43 ∨ c.toNat = 45) then some { st with neg := decide (c.toNat = 45), state := 1 }
  else if st.state = 6 ∧ (c.toNat = 43 ∨ c.toNat = 45) then some { st with expNeg := decide (c.toNat = 45), state := 7 }
  else if st.state = 2 ∧ c.toNat = 46 then some { st with state := 3 }
  else if st.state ≤ 1 ∧ c.toNat = 46 then some { st with state := 4 }
  else if st.state ≤ 1 ∧ lc c.toNat = 105 then some { st with state := 9, word := 1, at_ := 1 }
  else if st.state ≤ 1 ∧ lc c.toNat = 110 then some { st with state := 9, word := 2, at_ := 1 }
  else if st.state = 9 ∧ st.at_ < ((wordOf st.word).size : Int) ∧ (lc c.toNat : Int) = wordAt st.word st.at_ then some { st with at_ := st.at_ + 1 }
  else if (st.state = 2 ∨ st.state = 3 ∨ st.state = 5) ∧ lc c.toNat = 101 then some { st with state := 6 }
  else none

def step (st : St) (c : UInt8) : Option St := if 48 ≤ c.toNat ∧ c.toNat ≤ 57 then stepD st c else stepC st c

def st0 : St := { state := 0, neg := false, expNeg := false, dig := [], frac := 0, exp := 0, word := 0, at_ := 0 }

def runL (l : List UInt8) : Option St := l.foldl (fun o c => o.bind fun st => step st c) (some st0)
def runTo (s : ByteArray) (k : Nat) : Option St := runL (s.data.toList.take k)

/-- dec.Scan's answer -/
def scanP (s : ByteArray) : Option (Int × Bool × ByteArray × Int) :=
  if 1024 < s.size then some (4, false, ⟨#[]⟩, 0)
  else match runL s.data.toList with
    | some st => finP st
    | none => none

theorem runTo_zero (s : ByteArray) : runTo s 0 = some st0 := rfl
theorem runL_snoc (l : List UInt8) (c : UInt8) : runL (l ++ [c]) = (runL l).bind fun st => step st c := by
  unfold runL; rw [List.foldl_append]; rfl
theorem runTo_succ (s : ByteArray) (k : Nat) (h : k < s.size) : runTo s (k + 1) = (runTo s k).bind fun st => step st s[k] := by
  unfold runTo; rw [take_snoc s k h, runL_snoc]

theorem foldl_none (l : List UInt8) : l.foldl (fun (o : Option St) c => o.bind fun st => step st c) none = none := by
  induction l with
  | nil => rfl
  | cons c l ih => exact ih

theorem run_none (s : ByteArray) (k : Nat) (h : k < s.size) (st : St) (hr : runTo s k = some st) (hs : step st s[k] = none) : runL s.data.toList = none := by
  have h1 : runTo s (k + 1) = none := by rw [runTo_succ s k h, hr]; exact hs
  have h2 : s.data.toList = s.data.toList.take (k + 1) ++ s.data.toList.drop (k + 1) := (List.take_append_drop _ _).symm
  rw [h2]
  unfold runTo runL at h1
  unfold runL
  rw [List.foldl_append, h1]
  exact foldl_none _

theorem lc_ge (c : Nat) (h : 128 ≤ c) : 128 ≤ lc c := Nat.le_trans h Nat.left_le_or
theorem lc_lt (c : Nat) (h : c < 128) : lc c < 128 := Nat.or_lt_two_pow (n := 7) h (by decide)

theorem wordAt_lt (k : Nat) (i : Int) : wordAt k i < 128 := by
  unfold wordAt wordOf
  have h : ∀ l : List Int, (∀ x ∈ l, x < 128) → l.getD i.toNat 0 < 128 := by
    intro l hl
    rw [List.getD_eq_getElem?_getD]
    cases e : l[i.toNat]? with
    | none => decide
    | some x => exact hl x (List.mem_of_getElem? e)
  split
  · exact h _ (by decide)
  · split
    · exact h _ (by decide)
    · exact h _ (by decide)

/-- no byte above 127 is taken -/
theorem step_high (st : St) (c : UInt8) (h : 128 ≤ c.toNat) : step st c = none := by
  have hl := lc_ge c.toNat h
  have hw := wordAt_lt st.word st.at_
  unfold step
  rw [if_neg (by omega)]
  unfold stepC
  rw [if_neg (by omega), if_neg (by omega), if_neg (by omega), if_neg (by omega), if_neg (by omega), if_neg (by omega), if_neg (by omega), if_neg (by omega)]

/-- what holds of the machine behind k bytes -/
structure Reach (st : St) (k : Nat) : Prop where
  state : 0 ≤ st.state ∧ st.state ≤ 9
  word : st.state = 9 → st.word = 1 ∨ st.word = 2
  dig : st.dig.length ≤ k
  frac : 0 ≤ st.frac ∧ st.frac ≤ k
  exp : 0 ≤ st.exp ∧ st.exp ≤ 1000000
  at_ : 0 ≤ st.at_ ∧ st.at_ ≤ k

theorem reach0 : Reach st0 0 := ⟨by decide, by decide, by decide, by decide, by decide, by decide⟩

theorem reach_step (st st' : St) (c : UInt8) (k : Nat) (h : Reach st k) (hs : step st c = some st') : Reach st' (k + 1) := by
  obtain ⟨h1, h2, h3, h4, h5, h6⟩ := h
  unfold step at hs
  split at hs
  · unfold stepD at hs
    split at hs
    · cases hs; exact ⟨by dsimp only; omega, by intro h; simp at h, by dsimp only; omega, by dsimp only; omega, by dsimp only; omega, by dsimp only; omega⟩
    · split at hs
      · cases hs; exact ⟨by dsimp only; omega, by intro h; simp at h, by simp; omega, by dsimp only; omega, by dsimp only; omega, by dsimp only; omega⟩
      · split at hs
        · cases hs; exact ⟨by dsimp only; omega, by intro h; simp at h, by simp; omega, by dsimp only; omega, by dsimp only; omega, by dsimp only; omega⟩
        · cases hs
  · unfold stepC at hs
    split at hs
    · cases hs; exact ⟨by dsimp only; omega, by intro h; simp at h, by dsimp only; omega, by dsimp only; omega, by dsimp only; omega, by dsimp only; omega⟩
    split at hs
    · cases hs; exact ⟨by dsimp only; omega, by intro h; simp at h, by dsimp only; omega, by dsimp only; omega, by dsimp only; omega, by dsimp only; omega⟩
    split at hs
    · cases hs; exact ⟨by dsimp only; omega, by intro h; simp at h, by dsimp only; omega, by dsimp only; omega, by dsimp only; omega, by dsimp only; omega⟩
    split at hs
    · cases hs; exact ⟨by dsimp only; omega, by intro h; simp at h, by dsimp only; omega, by dsimp only; omega, by dsimp only; omega, by dsimp only; omega⟩
    split at hs
    · cases hs; exact ⟨by dsimp only; omega, by intro h; exact Or.inl rfl, by dsimp only; omega, by dsimp only; omega, by dsimp only; omega, by dsimp only; omega⟩
    split at hs
    · cases hs; exact ⟨by dsimp only; omega, by intro h; exact Or.inr rfl, by dsimp only; omega, by dsimp only; omega, by dsimp only; omega, by dsimp only; omega⟩
    split at hs
    · cases hs; exact ⟨by dsimp only; omega, h2, by dsimp only; omega, by dsimp only; omega, by dsimp only; omega, by dsimp only; omega⟩
    split at hs
    · cases hs; exact ⟨by dsimp only; omega, by intro h; simp at h, by dsimp only; omega, by dsimp only; omega, by dsimp only; omega, by dsimp only; omega⟩
    · cases hs

end Go.Proofs.Ygcoaj
namespace Go.Proofs.Ygcoaj

/-- stepC on a rune -/
def stepR (st : St) (r : Int) : Option St :=
  if st.state = 0 ∧ (r = 43 ∨ r = 45) then some { st with neg := decide (r = 45), state := 1 }
  else if st.state = 6 ∧ (r = 43 ∨ r = 45) then some { st with expNeg := decide (r = 45), state := 7 }
  else if st.state = 2 ∧ r = 46 then some { st with state := 3 }
  else if st.state ≤ 1 ∧ r = 46 then some { st with state := 4 }
  else if st.state ≤ 1 ∧ (lc r.toNat : Int) = 105 then some { st with state := 9, word := 1, at_ := 1 }
  else if st.state ≤ 1 ∧ (lc r.toNat : Int) = 110 then some { st with state := 9, word := 2, at_ := 1 }
  else if st.state = 9 ∧ st.at_ < ((wordOf st.word).size : Int) ∧ (lc r.toNat : Int) = wordAt st.word st.at_ then some { st with at_ := st.at_ + 1 }
  else if (st.state = 2 ∨ st.state = 3 ∨ st.state = 5) ∧ (lc r.toNat : Int) = 101 then some { st with state := 6 }
  else none

theorem stepR_byte (st : St) (c : UInt8) : stepR st (c.toNat : Int) = stepC st c := by
  unfold stepR stepC
  have h1 : ∀ n : Nat, ((c.toNat : Int) = (n : Int)) ↔ (c.toNat = n) := fun n => by omega
  have h2 : ((c.toNat : Int)).toNat = c.toNat := by omega
  have h3 : ∀ n : Nat, ((lc c.toNat : Int) = (n : Int)) ↔ (lc c.toNat = n) := fun n => by omega
  simp only [h2]
  have a1 := h1 43; have a2 := h1 45; have a3 := h1 46
  have b1 := h3 105; have b2 := h3 110; have b3 := h3 101
  simp only [Int.cast_ofNat_Int] at a1 a2 a3 b1 b2 b3
  simp only [a1, a2, a3, b1, b2, b3]

theorem stepR_high (st : St) (r : Int) (h : 128 ≤ r) : stepR st r = none := by
  have hl := lc_ge r.toNat (by omega)
  have hw := wordAt_lt st.word st.at_
  unfold stepR
  rw [if_neg (by omega), if_neg (by omega), if_neg (by omega), if_neg (by omega), if_neg (by omega), if_neg (by omega), if_neg (by omega), if_neg (by omega)]

theorem step_ascii (st : St) (c : UInt8) (h : ¬ (48 ≤ (c.toNat : Int) ∧ (c.toNat : Int) ≤ 57)) : step st c = stepR st (c.toNat : Int) := by
  unfold step; rw [if_neg (by omega), stepR_byte]
theorem step_digit (st : St) (c : UInt8) (h : 48 ≤ (c.toNat : Int) ∧ (c.toNat : Int) ≤ 57) : step st c = stepD st c := by
  unfold step; rw [if_pos (by omega)]

end Go.Proofs.Ygcoaj
