/-
  PLAIN: what Scan answers for a word: ScanWords.
-/
import Derived.Test.YgcoajScanStep
set_option linter.unusedVariables false
namespace Go.Proofs.Ygcoaj

theorem lc_letter : ∀ v, v < 123 → 97 ≤ v → lc v = v ∧ lc (v - 32) = v := by decide

theorem low_letter (c : UInt8) (v : Nat) (h1 : 97 ≤ v) (h2 : v ≤ 122) (h : low c = (v : Int)) : lc c.toNat = v ∧ ¬ (48 ≤ c.toNat ∧ c.toNat ≤ 57) ∧ c.toNat ≠ 43 ∧ c.toNat ≠ 45 ∧ c.toNat ≠ 46 := by
  have hl := lc_letter v (by omega) h1
  unfold low at h
  split at h
  · have : c.toNat = v - 32 := by omega
    rw [this]; exact ⟨hl.2, by omega, by omega, by omega, by omega⟩
  · have : c.toNat = v := by omega
    rw [this]; exact ⟨hl.1, by omega, by omega, by omega, by omega⟩

def goOn (o : Option St) (c : UInt8) : Option St := o.bind fun st => step st c
theorem runL_eq (l : List UInt8) : runL l = l.foldl goOn (some st0) := rfl

theorem step_word (st : St) (c : UInt8) (v : Nat) (h1 : 97 ≤ v) (h2 : v ≤ 122) (hc : low c = (v : Int)) (hs : st.state = 9) (ha : st.at_ < ((wordOf st.word).size : Int)) (hw : wordAt st.word st.at_ = (v : Int)) :
    step st c = some { st with at_ := st.at_ + 1 } := by
  obtain ⟨a, b, d, e, f⟩ := low_letter c v h1 h2 hc
  unfold step
  rw [if_neg b]
  unfold stepC
  rw [if_neg (by omega), if_neg (by omega), if_neg (by omega), if_neg (by omega), if_neg (by omega), if_neg (by omega), if_pos ⟨hs, ha, by rw [hw, a]⟩]

theorem run_word : ∀ (l : List UInt8) (st : St), st.state = 9 → 0 ≤ st.at_ → (∀ (j : Nat) c, l[j]? = some c → st.at_ + j < ((wordOf st.word).size : Int) ∧ ∃ v : Nat, 97 ≤ v ∧ v ≤ 122 ∧ low c = (v : Int) ∧ wordAt st.word (st.at_ + j) = (v : Int)) →
    l.foldl goOn (some st) = some { st with at_ := st.at_ + l.length } := by
  intro l
  induction l with
  | nil => intro st _ _ _; simp
  | cons c l ih =>
    intro st hs h0 h
    obtain ⟨h1, v, v1, v2, v3, v4⟩ := h 0 c rfl
    have hst := step_word st c v v1 v2 v3 hs (by omega) (by rw [← v4]; congr 1; omega)
    rw [List.foldl_cons]
    have : goOn (some st) c = some { st with at_ := st.at_ + 1 } := hst
    rw [this, ih { st with at_ := st.at_ + 1 } hs (by show 0 ≤ st.at_ + 1; omega)]
    · simp; omega
    · intro j d hd
      obtain ⟨g1, g2⟩ := h (j + 1) d (by simpa using hd)
      have e : st.at_ + 1 + (j : Int) = st.at_ + ((j + 1 : Nat) : Int) := by omega
      show st.at_ + 1 + (j : Int) < _ ∧ ∃ v : Nat, _ ∧ _ ∧ _ ∧ wordAt st.word (st.at_ + 1 + j) = _
      rw [e]
      exact ⟨g1, g2⟩

/-- a sign, or none -/
def stS (n : Int) : St := { st0 with neg := decide (n % 3 = 2), state := if n % 3 = 1 ∨ n % 3 = 2 then 1 else 0 }
theorem run_sign (n : Int) (h0 : 0 ≤ n) : (sgn n).data.toList.foldl goOn (some st0) = some (stS n) := by
  have h : n % 3 = 0 ∨ n % 3 = 1 ∨ n % 3 = 2 := by omega
  rcases h with h | h | h <;> simp only [sgn, stS, h] <;> rfl

theorem step_i (st : St) (c : UInt8) (hc : low c = 105) (hs : st.state = 0 ∨ st.state = 1) : step st c = some { st with state := 9, word := 1, at_ := 1 } := by
  obtain ⟨a, b, d, e, f⟩ := low_letter c 105 (by decide) (by decide) hc
  unfold step
  rw [if_neg b]
  unfold stepC
  rw [if_neg (by omega), if_neg (by omega), if_neg (by omega), if_neg (by omega), if_pos (by omega)]
theorem step_n (st : St) (c : UInt8) (hc : low c = 110) (hs : st.state = 0 ∨ st.state = 1) : step st c = some { st with state := 9, word := 2, at_ := 1 } := by
  obtain ⟨a, b, d, e, f⟩ := low_letter c 110 (by decide) (by decide) hc
  unfold step
  rw [if_neg b]
  unfold stepC
  rw [if_neg (by omega), if_neg (by omega), if_neg (by omega), if_neg (by omega), if_neg (by omega), if_pos (by omega)]

theorem stS_state (n : Int) : (stS n).state = 0 ∨ (stS n).state = 1 := by
  unfold stS; dsimp only; split
  · exact Or.inr rfl
  · exact Or.inl rfl

/-- the letters of l, in lower case, are those of ws, which word k has from its first on -/
theorem match_of (l : List UInt8) (ws : List Nat) (k : Nat) (h : l.map low = ws.map (fun v : Nat => (v : Int))) (hw : ∀ (j v : Nat), ws[j]? = some v → 1 + (j : Int) < ((wordOf k).size : Int) ∧ 97 ≤ v ∧ v ≤ 122 ∧ wordAt k (1 + j) = (v : Int)) :
    ∀ (j : Nat) c, l[j]? = some c → 1 + (j : Int) < ((wordOf k).size : Int) ∧ ∃ v : Nat, 97 ≤ v ∧ v ≤ 122 ∧ low c = (v : Int) ∧ wordAt k (1 + j) = (v : Int) := by
  intro j c hc
  have e := congrArg (fun x => x[j]?) h
  simp only [List.getElem?_map, hc, Option.map_some] at e
  cases hv : ws[j]? with
  | none => rw [hv] at e; simp at e
  | some v =>
    rw [hv] at e
    simp at e
    obtain ⟨a, b, d, f⟩ := hw j v hv
    exact ⟨a, v, b, d, e, f⟩

theorem hw_inf : ∀ (j v : Nat), [110, 102][j]? = some v → 1 + (j : Int) < ((wordOf 1).size : Int) ∧ 97 ≤ v ∧ v ≤ 122 ∧ wordAt 1 (1 + j) = (v : Int) := by
  intro j v h
  match j, h with
  | 0, h => simp at h; subst h; decide
  | 1, h => simp at h; subst h; decide
theorem hw_infinity : ∀ (j v : Nat), [110, 102, 105, 110, 105, 116, 121][j]? = some v → 1 + (j : Int) < ((wordOf 1).size : Int) ∧ 97 ≤ v ∧ v ≤ 122 ∧ wordAt 1 (1 + j) = (v : Int) := by
  intro j v h
  match j, h with
  | 0, h => simp at h; subst h; decide
  | 1, h => simp at h; subst h; decide
  | 2, h => simp at h; subst h; decide
  | 3, h => simp at h; subst h; decide
  | 4, h => simp at h; subst h; decide
  | 5, h => simp at h; subst h; decide
  | 6, h => simp at h; subst h; decide
theorem hw_nan : ∀ (j v : Nat), [97, 110][j]? = some v → 1 + (j : Int) < ((wordOf 2).size : Int) ∧ 97 ≤ v ∧ v ≤ 122 ∧ wordAt 2 (1 + j) = (v : Int) := by
  intro j v h
  match j, h with
  | 0, h => simp at h; subst h; decide
  | 1, h => simp at h; subst h; decide

theorem run_i (n : Int) (h0 : 0 ≤ n) (word : List UInt8) (ws : List Nat) (h : word.map low = (105 :: ws).map (fun v : Nat => (v : Int))) (hw : ∀ (j v : Nat), ws[j]? = some v → 1 + (j : Int) < ((wordOf 1).size : Int) ∧ 97 ≤ v ∧ v ≤ 122 ∧ wordAt 1 (1 + j) = (v : Int)) :
    runL ((sgn n).data.toList ++ word) = some { stS n with state := 9, word := 1, at_ := 1 + ws.length } := by
  cases word with
  | nil => simp at h
  | cons c l =>
    rw [List.map_cons, List.map_cons] at h
    obtain ⟨h1, h2⟩ := List.cons.inj h
    rw [runL_eq, List.foldl_append, run_sign n h0, List.foldl_cons]
    have e : goOn (some (stS n)) c = some { stS n with state := 9, word := 1, at_ := 1 } := step_i _ c h1 (stS_state n)
    have hl : l.length = ws.length := by simpa using congrArg List.length h2
    rw [e, run_word l _ rfl (by show (0 : Int) ≤ 1; decide) (match_of l ws 1 h2 hw), hl]
theorem run_n (n : Int) (h0 : 0 ≤ n) (word : List UInt8) (ws : List Nat) (h : word.map low = (110 :: ws).map (fun v : Nat => (v : Int))) (hw : ∀ (j v : Nat), ws[j]? = some v → 1 + (j : Int) < ((wordOf 2).size : Int) ∧ 97 ≤ v ∧ v ≤ 122 ∧ wordAt 2 (1 + j) = (v : Int)) :
    runL ((sgn n).data.toList ++ word) = some { stS n with state := 9, word := 2, at_ := 1 + ws.length } := by
  cases word with
  | nil => simp at h
  | cons c l =>
    rw [List.map_cons, List.map_cons] at h
    obtain ⟨h1, h2⟩ := List.cons.inj h
    rw [runL_eq, List.foldl_append, run_sign n h0, List.foldl_cons]
    have e : goOn (some (stS n)) c = some { stS n with state := 9, word := 2, at_ := 1 } := step_n _ c h1 (stS_state n)
    have hl : l.length = ws.length := by simpa using congrArg List.length h2
    rw [e, run_word l _ rfl (by show (0 : Int) ≤ 1; decide) (match_of l ws 2 h2 hw), hl]

def wInf : ByteArray := ⟨#[105, 110, 102]⟩
def wInfinity : ByteArray := ⟨#[105, 110, 102, 105, 110, 105, 116, 121]⟩
def wNan : ByteArray := ⟨#[110, 97, 110]⟩

theorem sgn_size (n : Int) : (sgn n).size ≤ 1 := by
  unfold sgn; split
  · decide
  · split <;> decide
theorem append_list (a b : ByteArray) : (a ++ b).data.toList = a.data.toList ++ b.data.toList := by
  rw [ByteArray.data_append]; simp
theorem word_len (s w : ByteArray) (h : wordB s w = true) : s.size = w.size := by
  by_cases e : s.size = w.size
  · exact e
  · rw [wordB_len s w e] at h; cases h

theorem scan_inf (n : Int) (h0 : 0 ≤ n) (word : ByteArray) (h : wordB word wInf = true ∨ wordB word wInfinity = true) :
    scanP (sgn n ++ word) = some (1, decide (n % 3 = 2), ⟨#[]⟩, 0) := by
  have hs := sgn_size n
  have hsz : (sgn n ++ word).size = (sgn n).size + word.size := ByteArray.size_append
  rcases h with h | h
  · have hl := word_len _ _ h
    have h3 : wInf.size = 3 := rfl
    unfold scanP
    rw [if_neg (by omega), append_list, run_i n h0 word.data.toList [110, 102] (by simpa [wordB, wInf] using h) hw_inf]
    rfl
  · have hl := word_len _ _ h
    have h3 : wInfinity.size = 8 := rfl
    unfold scanP
    rw [if_neg (by omega), append_list, run_i n h0 word.data.toList [110, 102, 105, 110, 105, 116, 121] (by simpa [wordB, wInfinity] using h) hw_infinity]
    rfl
theorem scan_nan (n : Int) (h0 : 0 ≤ n) (word : ByteArray) (h : wordB word wNan = true) :
    scanP (sgn n ++ word) = some (2, false, ⟨#[]⟩, 0) := by
  have hs := sgn_size n
  have hsz : (sgn n ++ word).size = (sgn n).size + word.size := ByteArray.size_append
  have hl := word_len _ _ h
  have h3 : wNan.size = 3 := rfl
  unfold scanP
  rw [if_neg (by omega), append_list, run_n n h0 word.data.toList [97, 110] (by simpa [wordB, wNan] using h) hw_nan]
  rfl

end Go.Proofs.Ygcoaj
