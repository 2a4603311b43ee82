/-
  PLAIN: what the small functions of law/scan.go and dec compute, on bytes. No Go in sight.
-/
import Derived.Below
namespace Go.Proofs.Ygcoaj

/-- signText -/
def sgn (n : Int) : ByteArray := if n % 3 = 1 then ⟨#[43]⟩ else if n % 3 = 2 then ⟨#[45]⟩ else ⟨#[]⟩
/-- expText -/
def exx (n : Int) : ByteArray := if n % 3 = 1 then ⟨#[101]⟩ else if n % 3 = 2 then ⟨#[69]⟩ else ⟨#[]⟩

def digB (c : UInt8) : Bool := decide (48 ≤ (c.toNat : Int)) && decide ((c.toNat : Int) ≤ 57)
def allDig (s : ByteArray) : Bool := s.data.toList.all digB

/-- a letter's lower case, as isWord makes it -/
def low (c : UInt8) : Int := if 65 ≤ (c.toNat : Int) ∧ (c.toNat : Int) ≤ 90 then (c.toNat : Int) + 32 else (c.toNat : Int)
def wordB (s w : ByteArray) : Bool := decide (s.data.toList.map low = w.data.toList.map (fun c => (c.toNat : Int)))

theorem take_snoc (s : ByteArray) (k : Nat) (h : k < s.size) : s.data.toList.take (k + 1) = s.data.toList.take k ++ [s[k]] := by
  rw [List.take_succ_eq_append_getElem (by simpa using h)]; rfl

theorem get_toList (s : ByteArray) (k : Nat) (h : k < s.size) : s.data.toList[k]? = some s[k] := by
  rw [List.getElem?_eq_getElem (by simpa using h)]; rfl

theorem allDig_no (s : ByteArray) (k : Nat) (h : k < s.size) (hb : digB s[k] = false) : allDig s = false := by
  unfold allDig
  rw [List.all_eq_false]
  exact ⟨s[k], List.mem_of_getElem? (get_toList s k h), by simp [hb]⟩

theorem len_toList (s : ByteArray) : s.data.toList.length = s.size := Array.length_toList

theorem take_all (s : ByteArray) (k : Nat) (h : ¬ k < s.size) : s.data.toList.take k = s.data.toList :=
  List.take_of_length_le (by rw [len_toList]; omega)

/-- Through k bytes both words agree. -/
def wordTo (s w : ByteArray) (k : Nat) : Prop := (s.data.toList.take k).map low = (w.data.toList.take k).map (fun c => (c.toNat : Int))

theorem wordTo_zero (s w : ByteArray) : wordTo s w 0 := by simp [wordTo]
theorem wordTo_succ (s w : ByteArray) (k : Nat) (h : k < s.size) (h' : k < w.size) (hp : wordTo s w k) (he : low s[k] = (w[k].toNat : Int)) : wordTo s w (k + 1) := by
  unfold wordTo at *
  rw [take_snoc s k h, take_snoc w k h', List.map_append, List.map_append, hp]
  simp [he]
theorem wordTo_end (s w : ByteArray) (k : Nat) (h : ¬ k < s.size) (h' : ¬ k < w.size) (hp : wordTo s w k) : wordB s w = true := by
  unfold wordTo at hp
  rw [take_all s k h, take_all w k h'] at hp
  simp [wordB, hp]
theorem wordB_len (s w : ByteArray) (h : s.size ≠ w.size) : wordB s w = false := by
  unfold wordB
  rw [decide_eq_false_iff_not]
  intro e
  have := congrArg List.length e
  rw [List.length_map, List.length_map, len_toList, len_toList] at this
  exact h this
theorem wordB_no (s w : ByteArray) (k : Nat) (h : k < s.size) (h' : k < w.size) (he : low s[k] ≠ (w[k].toNat : Int)) : wordB s w = false := by
  unfold wordB
  rw [decide_eq_false_iff_not]
  intro e
  have := congrArg (fun l => l[k]?) e
  simp only [List.getElem?_map, get_toList s k h, get_toList w k h'] at this
  simp at this
  exact he this

end Go.Proofs.Ygcoaj
namespace Go.Proofs.Ygcoaj

/-! ### dec.Make -/
def feStep (st : Int × Int × Int) (c : UInt8) : Int × Int × Int :=
  if (c.toNat : Int) = 48 then (st.1, st.2.1, st.2.2 + 1) else (min st.1 st.2.2, st.2.2 + 1, st.2.2 + 1)
def feTo (s : ByteArray) (k : Nat) : Int × Int × Int := (s.data.toList.take k).foldl feStep ((s.size : Int), 0, 0)
def feFirst (s : ByteArray) (k : Nat) : Int := (feTo s k).1
def feEnd (s : ByteArray) (k : Nat) : Int := (feTo s k).2.1

theorem feTo_zero (s : ByteArray) : feTo s 0 = ((s.size : Int), 0, 0) := rfl
theorem feTo_succ (s : ByteArray) (k : Nat) (h : k < s.size) : feTo s (k + 1) = feStep (feTo s k) s[k] := by
  unfold feTo
  rw [take_snoc s k h, List.foldl_append]; rfl
theorem feTo_third (s : ByteArray) : ∀ k, k ≤ s.size → (feTo s k).2.2 = k := by
  intro k
  induction k with
  | zero => intro _; rfl
  | succ k ih =>
    intro h
    rw [feTo_succ s k (by omega)]
    have := ih (by omega)
    unfold feStep
    split <;> simp [this]
theorem fe_zero (s : ByteArray) : feFirst s 0 = s.size ∧ feEnd s 0 = 0 := ⟨rfl, rfl⟩
theorem fe_same (s : ByteArray) (k : Nat) (h : k < s.size) (hc : (s[k].toNat : Int) = 48) : feFirst s (k + 1) = feFirst s k ∧ feEnd s (k + 1) = feEnd s k := by
  unfold feFirst feEnd
  rw [feTo_succ s k h]
  simp [feStep, hc]
theorem fe_new (s : ByteArray) (k : Nat) (h : k < s.size) (hc : (s[k].toNat : Int) ≠ 48) : feFirst s (k + 1) = min (feFirst s k) k ∧ feEnd s (k + 1) = k + 1 := by
  unfold feFirst feEnd
  rw [feTo_succ s k h]
  have := feTo_third s k (by omega)
  simp [feStep, hc, this]
theorem fe_bd (s : ByteArray) : ∀ k, k ≤ s.size → 0 ≤ feFirst s k ∧ feFirst s k ≤ s.size ∧ 0 ≤ feEnd s k ∧ feEnd s k ≤ k ∧ (feEnd s k ≠ 0 → feFirst s k < feEnd s k) ∧ (feEnd s k = 0 → feFirst s k = s.size) := by
  intro k
  induction k with
  | zero => intro _; have := fe_zero s; omega
  | succ k ih =>
    intro h
    have hi := ih (by omega)
    by_cases hc : (s[k].toNat : Int) = 48
    · have := fe_same s k (by omega) hc; omega
    · have := fe_new s k (by omega) hc; omega

/-- dec.Make's answer: none: Dec{}, false. -/
def mkR (neg : Bool) (s : ByteArray) (x : Int) : Option (Bool × ByteArray × Int) :=
  if allDig s = false then none
  else if feEnd s s.size = 0 then some (neg, ⟨#[]⟩, 0)
  else if 800 < feEnd s s.size - feFirst s s.size ∨ 2000 < x ∨ 2000 < x + (s.size - feEnd s s.size) ∨ x + (s.size - feEnd s s.size) < -2000 then none
  else some (neg, s.extract (feFirst s s.size).toNat (feEnd s s.size).toNat, x + (s.size - feEnd s s.size))

end Go.Proofs.Ygcoaj
namespace Go.Proofs.Ygcoaj

/-! ### dec.Scan: the machine -/
/-- what Scan holds: state, sign, exponent's sign, digits, frac, exp, which word (1: infinity, 2: nan), at -/
structure St where
  state : Int
  neg : Bool
  expNeg : Bool
  dig : List UInt8
  frac : Int
  exp : Int
  word : Nat
  at_ : Int

def wordOf (k : Nat) : ByteArray := if k = 1 then ⟨#[105, 110, 102, 105, 110, 105, 116, 121]⟩ else if k = 2 then ⟨#[110, 97, 110]⟩ else ⟨#[]⟩
/-- the byte of word k at place i -/
def wordAt (k : Nat) (i : Int) : Int := ((wordOf k).data.toList.map (fun c => (c.toNat : Int))).getD i.toNat 0

def numR (m : Option (Bool × ByteArray × Int)) : Option (Int × Bool × ByteArray × Int) :=
  match m with
  | some (n, s, x) => some (0, n, s, x)
  | none => some (4, false, ⟨#[]⟩, 0)

/-- finish's answer: kind, neg, digits, exponent; none: Wrong -/
def finP (st : St) : Option (Int × Bool × ByteArray × Int) :=
  if st.state = 2 ∨ st.state = 3 ∨ st.state = 5 ∨ st.state = 8 then
    numR (mkR st.neg ⟨st.dig.toArray⟩ ((if st.expNeg then - st.exp else st.exp) - st.frac))
  else if st.state = 9 then
    if st.word = 2 ∧ st.at_ = 3 then some (2, false, ⟨#[]⟩, 0)
    else if st.word = 1 ∧ (st.at_ = 3 ∨ st.at_ = 8) then some (1, st.neg, ⟨#[]⟩, 0)
    else none
  else none

end Go.Proofs.Ygcoaj
