/-
  PLAIN: a text put together from its parts: ScanParts.
-/
import Derived.Test.YgcoajScanLawA
set_option linter.unusedVariables false
namespace Go.Proofs.Ygcoaj

theorem digB_nat (c : UInt8) (h : digB c = true) : 48 ≤ c.toNat ∧ c.toNat ≤ 57 := by
  unfold digB at h
  simp at h
  omega

theorem goOn_dig (st st' : St) (c : UInt8) (hc : digB c = true) (h : stepD st c = some st') : goOn (some st) c = some st' := by
  show step st c = some st'
  unfold step
  rw [if_pos (digB_nat c hc)]; exact h

theorem run_int : ∀ (l : List UInt8) (st : St), l.all digB = true → (st.state = 0 ∨ st.state = 1 ∨ st.state = 2) →
    l.foldl goOn (some st) = some (if l = [] then st else { st with state := 2, dig := st.dig ++ l }) := by
  intro l
  induction l with
  | nil => intro st _ _; rfl
  | cons c l ih =>
    intro st h hs
    rw [List.all_cons, Bool.and_eq_true] at h
    have e : goOn (some st) c = some { st with state := 2, dig := st.dig ++ [c] } := goOn_dig _ _ c h.1 (by unfold stepD; rw [if_neg (by omega), if_neg (by omega), if_pos hs])
    rw [List.foldl_cons, e, ih _ h.2 (Or.inr (Or.inr rfl))]
    by_cases hl : l = []
    · subst hl; simp
    · simp [hl]

theorem run_frac : ∀ (l : List UInt8) (st : St), l.all digB = true → (st.state = 3 ∨ st.state = 4 ∨ st.state = 5) →
    l.foldl goOn (some st) = some (if l = [] then st else { st with state := 5, dig := st.dig ++ l, frac := st.frac + l.length }) := by
  intro l
  induction l with
  | nil => intro st _ _; rfl
  | cons c l ih =>
    intro st h hs
    rw [List.all_cons, Bool.and_eq_true] at h
    have e : goOn (some st) c = some { st with frac := st.frac + 1, state := 5, dig := st.dig ++ [c] } := goOn_dig _ _ c h.1 (by unfold stepD; rw [if_neg (by omega), if_pos hs])
    rw [List.foldl_cons, e, ih _ h.2 (Or.inr (Or.inr rfl))]
    by_cases hl : l = []
    · subst hl; simp
    · simp [hl]; omega

/-- the exponent's digits, saturating -/
def sat (x : Int) (l : List UInt8) : Int := l.foldl (fun x c => min (10 * x + ((c.toNat : Int) - 48)) 1000000) x

theorem run_exp : ∀ (l : List UInt8) (st : St), l.all digB = true → (st.state = 6 ∨ st.state = 7 ∨ st.state = 8) →
    l.foldl goOn (some st) = some (if l = [] then st else { st with state := 8, exp := sat st.exp l }) := by
  intro l
  induction l with
  | nil => intro st _ _; rfl
  | cons c l ih =>
    intro st h hs
    rw [List.all_cons, Bool.and_eq_true] at h
    have e : goOn (some st) c = some { st with exp := min (10 * st.exp + ((c.toNat : Int) - 48)) 1000000, state := 8 } := goOn_dig _ _ c h.1 (by unfold stepD; rw [if_pos hs])
    rw [List.foldl_cons, e, ih _ h.2 (Or.inr (Or.inr rfl))]
    by_cases hl : l = []
    · subst hl; simp [sat]
    · simp [hl, sat]

theorem sat_bd : ∀ (l : List UInt8) (x : Int), l.all digB = true → 0 ≤ x → x ≤ 1000000 → 0 ≤ sat x l ∧ sat x l ≤ 1000000 := by
  intro l
  induction l with
  | nil => intro x _ h0 h1; exact ⟨h0, h1⟩
  | cons c l ih =>
    intro x h h0 h1
    rw [List.all_cons, Bool.and_eq_true] at h
    have := digB_nat c h.1
    exact ih _ h.2 (by dsimp only; omega) (by dsimp only; omega)
theorem sat_snoc (x : Int) (l : List UInt8) (c : UInt8) : sat x (l ++ [c]) = min (10 * sat x l + ((c.toNat : Int) - 48)) 1000000 := by
  unfold sat; rw [List.foldl_append]; rfl

theorem goOn_dot (st : St) : goOn (some st) 46 = if st.state = 2 then some { st with state := 3 } else if st.state ≤ 1 then some { st with state := 4 } else
    goOn (some st) 46 := by
  by_cases h2 : st.state = 2
  · rw [if_pos h2]
    show step st 46 = _
    unfold step
    rw [if_neg (by decide)]
    unfold stepC
    rw [if_neg (by omega), if_neg (by omega), if_pos ⟨h2, rfl⟩]
  · rw [if_neg h2]
    by_cases h1 : st.state ≤ 1
    · rw [if_pos h1]
      show step st 46 = _
      unfold step
      rw [if_neg (by decide)]
      unfold stepC
      rw [if_neg (by rintro ⟨_, h⟩; revert h; decide), if_neg (by omega), if_neg (by omega), if_pos ⟨h1, rfl⟩]
    · rw [if_neg h1]

/-- 'e' or 'E' -/
def isE (c : UInt8) : Prop := c = 101 ∨ c = 69
theorem goOn_e (st : St) (c : UInt8) (hc : isE c) (h : st.state = 2 ∨ st.state = 3 ∨ st.state = 5) : goOn (some st) c = some { st with state := 6 } := by
  show step st c = _
  unfold step
  rcases hc with rfl | rfl
  · rw [if_neg (by decide)]
    unfold stepC
    rw [if_neg (by omega), if_neg (by omega), if_neg (by rintro ⟨_, h⟩; revert h; decide), if_neg (by omega), if_neg (by omega), if_neg (by omega), if_neg (by omega), if_pos ⟨h, by decide⟩]
  · rw [if_neg (by decide)]
    unfold stepC
    rw [if_neg (by omega), if_neg (by omega), if_neg (by rintro ⟨_, h⟩; revert h; decide), if_neg (by omega), if_neg (by omega), if_neg (by omega), if_neg (by omega), if_pos ⟨h, by decide⟩]
theorem goOn_e_no (st : St) (c : UInt8) (hc : isE c) (h : st.state = 0 ∨ st.state = 1 ∨ st.state = 4) : goOn (some st) c = none := by
  show step st c = _
  unfold step
  rcases hc with rfl | rfl
  · rw [if_neg (by decide)]
    unfold stepC
    rw [if_neg (by rintro ⟨_, h⟩; revert h; decide), if_neg (by omega), if_neg (by omega), if_neg (by rintro ⟨_, h⟩; revert h; decide), if_neg (by rintro ⟨_, h⟩; revert h; decide), if_neg (by rintro ⟨_, h⟩; revert h; decide), if_neg (by omega), if_neg (by omega)]
  · rw [if_neg (by decide)]
    unfold stepC
    rw [if_neg (by rintro ⟨_, h⟩; revert h; decide), if_neg (by omega), if_neg (by omega), if_neg (by rintro ⟨_, h⟩; revert h; decide), if_neg (by rintro ⟨_, h⟩; revert h; decide), if_neg (by rintro ⟨_, h⟩; revert h; decide), if_neg (by omega), if_neg (by omega)]
theorem goOn_esign (st : St) (n : Int) (h0 : 0 ≤ n) (h : st.state = 6) : (sgn n).data.toList.foldl goOn (some st) = some { st with state := if n % 3 = 0 then 6 else 7, expNeg := if n % 3 = 0 then st.expNeg else decide (n % 3 = 2) } := by
  have hh : n % 3 = 0 ∨ n % 3 = 1 ∨ n % 3 = 2 := by omega
  have sg : ∀ c : UInt8, c = 43 ∨ c = 45 → goOn (some st) c = some { st with expNeg := decide (c.toNat = 45), state := 7 } := by
    intro c hc
    show step st c = _
    unfold step
    rcases hc with rfl | rfl
    · rw [if_neg (by decide)]
      unfold stepC
      rw [if_neg (by omega), if_pos ⟨h, Or.inl rfl⟩]
    · rw [if_neg (by decide)]
      unfold stepC
      rw [if_neg (by omega), if_pos ⟨h, Or.inr rfl⟩]
  rcases hh with hh | hh | hh
  · simp only [sgn, hh]
    simp
    rw [← h]
  · simp only [sgn, hh]
    show goOn (some st) 43 = _
    rw [sg 43 (Or.inl rfl)]; rfl
  · simp only [sgn, hh]
    show goOn (some st) 45 = _
    rw [sg 45 (Or.inr rfl)]; rfl

theorem exx_e (n : Int) (h : n % 3 ≠ 0) (h0 : 0 ≤ n) : ∃ c, (exx n).data.toList = [c] ∧ isE c := by
  have hh : n % 3 = 1 ∨ n % 3 = 2 := by omega
  rcases hh with hh | hh <;> simp only [exx, hh]
  · exact ⟨101, rfl, Or.inl rfl⟩
  · exact ⟨69, rfl, Or.inr rfl⟩

/-- the text's front: sign, digits, point, digits -/
def front (sign : Int) (ip fp : ByteArray) (dot : Bool) : ByteArray := if dot then (sgn sign ++ ip) ++ (⟨#[46]⟩ ++ fp) else sgn sign ++ ip
def fpOf (fp : ByteArray) (dot : Bool) : ByteArray := if dot then fp else ⟨#[]⟩
/-- the text's end -/
def back (e esign : Int) (ed : ByteArray) : ByteArray := (exx e ++ sgn esign) ++ ed

theorem nil_of_size (s : ByteArray) : s.data.toList = [] ↔ s.size = 0 := by
  rw [← len_toList, List.length_eq_zero_iff]

/-- the machine behind the front -/
theorem run_front (sign : Int) (h0 : 0 ≤ sign) (ip fp : ByteArray) (dot : Bool) (hi : allDig ip = true) (hf : allDig fp = true) :
    ∃ st, runL (front sign ip fp dot).data.toList = some st ∧ st.neg = decide (sign % 3 = 2) ∧ st.expNeg = false ∧ st.exp = 0 ∧ st.dig = ip.data.toList ++ (fpOf fp dot).data.toList ∧ st.frac = (fpOf fp dot).size ∧
      (if ip.size = 0 ∧ (fpOf fp dot).size = 0 then st.state = 0 ∨ st.state = 1 ∨ st.state = 4 else st.state = 2 ∨ st.state = 3 ∨ st.state = 5) := by
  have hn := nil_of_size ip
  have hs : (stS sign).state = 0 ∨ (stS sign).state = 1 ∨ (stS sign).state = 2 := (stS_state sign).elim Or.inl (fun h => Or.inr (Or.inl h))
  have e1 : runL (sgn sign ++ ip).data.toList = some (if ip.data.toList = [] then stS sign else { stS sign with state := 2, dig := (stS sign).dig ++ ip.data.toList }) := by
    rw [append_list, runL_eq, List.foldl_append, run_sign sign h0, run_int _ _ hi hs]
  cases dot
  · have ef : fpOf fp false = ⟨#[]⟩ := rfl
    have z : (⟨#[]⟩ : ByteArray).size = 0 := rfl
    have zl : (⟨#[]⟩ : ByteArray).data.toList = [] := rfl
    refine ⟨_, e1, ?_⟩
    rw [ef, z, zl]
    by_cases h : ip.data.toList = []
    · rw [if_pos h, if_pos ⟨hn.1 h, rfl⟩, h]
      exact ⟨rfl, rfl, rfl, rfl, rfl, (stS_state sign).elim Or.inl (fun h => Or.inr (Or.inl h))⟩
    · rw [if_neg h, if_neg (fun hh => h (hn.2 hh.1))]
      exact ⟨rfl, rfl, rfl, by simp [stS, st0], rfl, Or.inl rfl⟩
  · have ef : fpOf fp true = fp := rfl
    rw [ef]
    have e2 : runL (front sign ip fp true).data.toList = fp.data.toList.foldl goOn (goOn (runL (sgn sign ++ ip).data.toList) 46) := by
      show runL ((sgn sign ++ ip) ++ (⟨#[46]⟩ ++ fp)).data.toList = _
      rw [append_list (sgn sign ++ ip), runL_eq, List.foldl_append, append_list ⟨#[46]⟩, List.foldl_append]
      rfl
    rw [e1] at e2
    have hfn := nil_of_size fp
    by_cases h : ip.data.toList = []
    · rw [if_pos h] at e2
      rw [goOn_dot, if_neg (by have := stS_state sign; omega), if_pos (by have := stS_state sign; omega), run_frac _ _ hf (Or.inr (Or.inl rfl))] at e2
      refine ⟨_, e2, ?_⟩
      by_cases h2 : fp.data.toList = []
      · rw [if_pos h2, if_pos ⟨hn.1 h, hfn.1 h2⟩, h, h2, hfn.1 h2]
        exact ⟨rfl, rfl, rfl, rfl, rfl, Or.inr (Or.inr rfl)⟩
      · rw [if_neg h2, if_neg (fun hh => h2 (hfn.2 hh.2)), h]
        refine ⟨rfl, rfl, rfl, by simp [stS, st0], ?_, Or.inr (Or.inr rfl)⟩
        show (stS sign).frac + _ = _
        rw [len_toList]; simp [stS, st0]
    · rw [if_neg h] at e2
      rw [goOn_dot, if_pos rfl, run_frac _ _ hf (Or.inl rfl)] at e2
      refine ⟨_, e2, ?_⟩
      have hz : ¬ (ip.size = 0 ∧ fp.size = 0) := fun hh => h (hn.2 hh.1)
      by_cases h2 : fp.data.toList = []
      · rw [if_pos h2, if_neg hz, h2, hfn.1 h2]
        exact ⟨rfl, rfl, rfl, by simp [stS, st0], rfl, Or.inr (Or.inl rfl)⟩
      · rw [if_neg h2, if_neg hz]
        refine ⟨rfl, rfl, rfl, by simp [stS, st0], ?_, Or.inr (Or.inr rfl)⟩
        show (stS sign).frac + _ = _
        rw [len_toList]; simp [stS, st0]

theorem arr_list (a b : ByteArray) : (⟨(a.data.toList ++ b.data.toList).toArray⟩ : ByteArray) = a ++ b := by
  apply ByteArray.ext
  rw [ByteArray.data_append]
  simp

/-- no exponent -/
theorem parts_plain (sign : Int) (h0 : 0 ≤ sign) (ip fp : ByteArray) (dot : Bool) (hi : allDig ip = true) (hf : allDig fp = true) (hl : (front sign ip fp dot).size ≤ 1024) :
    scanP (front sign ip fp dot) = if ip.size = 0 ∧ (fpOf fp dot).size = 0 then none else numR (mkR (decide (sign % 3 = 2)) (ip ++ fpOf fp dot) (0 - (fpOf fp dot).size)) := by
  obtain ⟨st, hr, h1, h2, h3, h4, h5, h6⟩ := run_front sign h0 ip fp dot hi hf
  unfold scanP
  rw [if_neg (by omega), hr]
  show finP st = _
  unfold finP
  by_cases hz : ip.size = 0 ∧ (fpOf fp dot).size = 0
  · rw [if_pos hz] at h6
    rw [if_neg (by omega), if_neg (by omega), if_pos hz]
  · rw [if_neg hz] at h6
    rw [if_pos (by omega), if_neg hz, h1, h2, h3, h4, h5, arr_list]
    rfl

/-- with an exponent -/
theorem parts_exp (sign : Int) (h0 : 0 ≤ sign) (ip fp : ByteArray) (dot : Bool) (hi : allDig ip = true) (hf : allDig fp = true) (e esign : Int) (he0 : 0 ≤ e) (he : e % 3 ≠ 0) (hs0 : 0 ≤ esign) (ed : ByteArray) (hd : allDig ed = true)
    (hl : (front sign ip fp dot ++ back e esign ed).size ≤ 1024) :
    scanP (front sign ip fp dot ++ back e esign ed) = if (ip.size = 0 ∧ (fpOf fp dot).size = 0) ∨ ed.size = 0 then none else
      numR (mkR (decide (sign % 3 = 2)) (ip ++ fpOf fp dot) ((if esign % 3 = 2 then - sat 0 ed.data.toList else sat 0 ed.data.toList) - (fpOf fp dot).size)) := by
  obtain ⟨st, hr, h1, h2, h3, h4, h5, h6⟩ := run_front sign h0 ip fp dot hi hf
  obtain ⟨c, hc, hcE⟩ := exx_e e he he0
  have hrun : runL (front sign ip fp dot ++ back e esign ed).data.toList = ed.data.toList.foldl goOn ((sgn esign).data.toList.foldl goOn (goOn (some st) c)) := by
    rw [append_list, runL_eq, List.foldl_append, ← runL_eq, hr]
    unfold back
    rw [append_list, append_list, hc, List.foldl_append, List.foldl_append]
    rfl
  unfold scanP
  rw [if_neg (by omega), hrun]
  have hn := nil_of_size ed
  by_cases hz : ip.size = 0 ∧ (fpOf fp dot).size = 0
  · rw [if_pos hz] at h6
    rw [if_pos (Or.inl hz), goOn_e_no st c hcE h6]
    have : ∀ l : List UInt8, l.foldl goOn none = none := fun l => by
      induction l with
      | nil => rfl
      | cons c l ih => exact ih
    rw [this, this]
  · rw [if_neg hz] at h6
    rw [goOn_e st c hcE h6, goOn_esign _ esign hs0 rfl, run_exp _ _ hd (by dsimp only; split; exact Or.inl rfl; exact Or.inr (Or.inl rfl))]
    by_cases h : ed.data.toList = []
    · rw [if_pos h, if_pos (Or.inr (hn.1 h))]
      show finP _ = _
      unfold finP
      by_cases e3 : esign % 3 = 0
      · simp [e3]
      · simp [e3]
    · have hne : ¬ ((ip.size = 0 ∧ (fpOf fp dot).size = 0) ∨ ed.size = 0) := fun hh => hh.elim hz (fun q => h (hn.2 q))
      rw [if_neg h, if_neg hne]
      show finP _ = _
      unfold finP
      rw [if_pos (Or.inr (Or.inr (Or.inr rfl)))]
      dsimp only
      rw [h1, h2, h3, h4, h5, arr_list]
      by_cases e3 : esign % 3 = 0
      · rw [if_pos e3, if_neg (show ¬ esign % 3 = 2 by omega)]
        rfl
      · by_cases e2 : esign % 3 = 2
        · rw [if_neg e3, if_pos e2, e2]
          rfl
        · rw [if_neg e3, if_neg e2, if_neg (show ¬ decide (esign % 3 = 2) = true by simp [e2])]

end Go.Proofs.Ygcoaj
