/-
  PLAIN: the shape of what Scan takes: ScanShape.
-/
import Derived.Test.YgcoajScanLawA
set_option linter.unusedVariables false
namespace Go.Proofs.Ygcoaj

theorem lc_back : ∀ c, c < 256 → 97 ≤ lc c → lc c ≤ 122 → c = lc c ∨ c = lc c - 32 := by decide +kernel

theorem byte_lt (c : UInt8) : c.toNat < 256 := c.toNat_lt

theorem lc_e (c : UInt8) (h : lc c.toNat = 101) : c.toNat = 101 ∨ c.toNat = 69 := by
  have := lc_back c.toNat (byte_lt c) (by omega) (by omega)
  omega

theorem low_of_lc (c : UInt8) (v : Int) (h1 : 97 ≤ v) (h2 : v ≤ 122) (h : (lc c.toNat : Int) = v) : low c = v := by
  have := lc_back c.toNat (byte_lt c) (by omega) (by omega)
  unfold low
  split <;> omega

/-- what the counting loop of numberShape holds, when Scan's machine is at st behind k bytes -/
structure NsRel (st : St) (s : ByteArray) (k : Nat) (d m b : Int) (l : Bool) : Prop where
  d0 : 0 ≤ d
  d1 : d ≤ 1
  b0 : 0 ≤ b
  bk : b ≤ k
  m0 : 0 ≤ m
  m1 : m ≤ 1
  s9 : st.state ≠ 9
  s0 : st.state = 0 → k = 0 ∧ d = 0 ∧ m = 0
  s1 : st.state = 1 → d = 0 ∧ m = 0
  s2 : st.state = 2 → d = 0 ∧ m = 0 ∧ 0 < b
  s3 : st.state = 3 → m = 0 ∧ 0 < b
  s4 : st.state = 4 → m = 0
  s5 : st.state = 5 → m = 0 ∧ 0 < b
  s6 : st.state = 6 → m = 1 ∧ 0 < b ∧ 0 < k ∧ ∀ h : k - 1 < s.size, (s[k - 1]'h).toNat = 101 ∨ (s[k - 1]'h).toNat = 69
  s7 : st.state = 7 → m = 1 ∧ 0 < b
  s8 : st.state = 8 → m = 1 ∧ 0 < b ∧ l = true

theorem nsRel0 (s : ByteArray) : NsRel st0 s 0 0 0 0 false := by
  refine ⟨by decide, by decide, by decide, by decide, by decide, by decide, by decide, fun _ => ⟨rfl, rfl, rfl⟩, ?_, ?_, ?_, ?_, ?_, ?_, ?_, ?_⟩ <;> intro h <;> exact absurd h (by decide)

theorem step_cases (st st' : St) (c : UInt8) (h : step st c = some st') (h9 : st'.state ≠ 9) :
    (48 ≤ c.toNat ∧ c.toNat ≤ 57 ∧ ((st.state = 6 ∨ st.state = 7 ∨ st.state = 8) ∧ st'.state = 8 ∨ (st.state = 3 ∨ st.state = 4 ∨ st.state = 5) ∧ st'.state = 5 ∨ (st.state = 0 ∨ st.state = 1 ∨ st.state = 2) ∧ st'.state = 2)) ∨
    ((c.toNat = 43 ∨ c.toNat = 45) ∧ (st.state = 0 ∧ st'.state = 1 ∨ st.state = 6 ∧ st'.state = 7)) ∨
    (c.toNat = 46 ∧ (st.state = 2 ∧ st'.state = 3 ∨ st.state ≤ 1 ∧ st'.state = 4)) ∨
    ((c.toNat = 101 ∨ c.toNat = 69) ∧ (st.state = 2 ∨ st.state = 3 ∨ st.state = 5) ∧ st'.state = 6) := by
  unfold step at h
  split at h
  · rename_i hd
    unfold stepD at h
    refine Or.inl ⟨hd.1, hd.2, ?_⟩
    split at h
    · rename_i hs; cases h; exact Or.inl ⟨hs, rfl⟩
    · split at h
      · rename_i hs; cases h; exact Or.inr (Or.inl ⟨hs, rfl⟩)
      · split at h
        · rename_i hs; cases h; exact Or.inr (Or.inr ⟨hs, rfl⟩)
        · cases h
  · unfold stepC at h
    split at h
    · rename_i hs; cases h; exact Or.inr (Or.inl ⟨hs.2, Or.inl ⟨hs.1, rfl⟩⟩)
    split at h
    · rename_i hs; cases h; exact Or.inr (Or.inl ⟨hs.2, Or.inr ⟨hs.1, rfl⟩⟩)
    split at h
    · rename_i hs; cases h; exact Or.inr (Or.inr (Or.inl ⟨hs.2, Or.inl ⟨hs.1, rfl⟩⟩))
    split at h
    · rename_i hs; cases h; exact Or.inr (Or.inr (Or.inl ⟨hs.2, Or.inr ⟨hs.1, rfl⟩⟩))
    split at h
    · cases h; exact absurd rfl h9
    split at h
    · cases h; exact absurd rfl h9
    split at h
    · rename_i hs; cases h; exact absurd hs.1 h9
    split at h
    · rename_i hs; cases h; exact Or.inr (Or.inr (Or.inr ⟨lc_e c hs.2, hs.1, rfl⟩))
    · cases h

theorem ns_dot {st st' : St} {s : ByteArray} {k : Nat} {d m b : Int} {l : Bool} (hk : k < s.size) (r : NsRel st s k d m b l) (h : step st s[k] = some st') (h9 : st'.state ≠ 9) (hs : 0 ≤ st.state) (hc : (s[k].toNat : Int) = 46) :
    m = 0 ∧ NsRel st' s (k + 1) (d + 1) m b false := by
  have hcs := step_cases st st' s[k] h h9
  obtain ⟨d0, d1, b0, bk, m0, m1, s9, s0, s1, s2, s3, s4, s5, s6, s7, s8⟩ := r
  clear s3 s4 s5 s6 s7 s8
  rcases hcs with ⟨c1, c2, _⟩ | ⟨c1, _⟩ | ⟨_, ⟨e1, e2⟩ | ⟨e1, e2⟩⟩ | ⟨c1, _⟩
  · clear s0 s1 s2; omega
  · clear s0 s1 s2; omega
  · obtain ⟨f1, f2, f3⟩ := s2 e1
    clear s0 s1 s2
    refine ⟨f2, ⟨by omega, by omega, b0, by omega, m0, m1, h9, ?_, ?_, ?_, fun _ => ⟨f2, f3⟩, ?_, ?_, ?_, ?_, ?_⟩⟩ <;> (intro e; rw [e2] at e; exact absurd e (by decide))
  · have f : d = 0 ∧ m = 0 := by
      by_cases e0 : st.state = 0
      · exact (s0 e0).2
      · exact s1 (by omega)
    clear s0 s1 s2
    refine ⟨f.2, ⟨by omega, by omega, b0, by omega, m0, m1, h9, ?_, ?_, ?_, ?_, fun _ => f.2, ?_, ?_, ?_, ?_⟩⟩ <;> (intro e; rw [e2] at e; exact absurd e (by decide))
  · clear s0 s1 s2; omega

theorem ns_e {st st' : St} {s : ByteArray} {k : Nat} {d m b : Int} {l : Bool} (hk : k < s.size) (r : NsRel st s k d m b l) (h : step st s[k] = some st') (h9 : st'.state ≠ 9) (hc : (s[k].toNat : Int) = 101 ∨ (s[k].toNat : Int) = 69) :
    b ≠ 0 ∧ NsRel st' s (k + 1) d (m + 1) b false := by
  have hcs := step_cases st st' s[k] h h9
  obtain ⟨d0, d1, b0, bk, m0, m1, s9, s0, s1, s2, s3, s4, s5, s6, s7, s8⟩ := r
  clear s0 s1 s4 s6 s7 s8
  rcases hcs with ⟨c1, c2, _⟩ | ⟨c1, _⟩ | ⟨c1, _⟩ | ⟨c1, e1, e2⟩
  · clear s2 s3 s5; omega
  · clear s2 s3 s5; omega
  · clear s2 s3 s5; omega
  · have hb : m = 0 ∧ 0 < b := by
      rcases e1 with e | e | e
      · exact (s2 e).2
      · exact s3 e
      · exact s5 e
    clear s2 s3 s5
    refine ⟨by omega, ⟨by omega, by omega, b0, by omega, by omega, by omega, h9, ?_, ?_, ?_, ?_, ?_, ?_, fun _ => ⟨by omega, hb.2, by omega, fun _ => c1⟩, ?_, ?_⟩⟩ <;> (intro e; rw [e2] at e; exact absurd e (by decide))

theorem ns_sign {st st' : St} {s : ByteArray} {k : Nat} {d m b : Int} {l : Bool} (hk : k < s.size) (r : NsRel st s k d m b l) (h : step st s[k] = some st') (h9 : st'.state ≠ 9) (hc : (s[k].toNat : Int) = 43 ∨ (s[k].toNat : Int) = 45) :
    (k = 0 ∨ 0 < k ∧ ∀ h : k - 1 < s.size, (s[k - 1]'h).toNat = 101 ∨ (s[k - 1]'h).toNat = 69) ∧ NsRel st' s (k + 1) d m b false := by
  have hcs := step_cases st st' s[k] h h9
  obtain ⟨d0, d1, b0, bk, m0, m1, s9, s0, s1, s2, s3, s4, s5, s6, s7, s8⟩ := r
  clear s1 s2 s3 s4 s5 s7 s8
  rcases hcs with ⟨c1, c2, _⟩ | ⟨_, ⟨e1, e2⟩ | ⟨e1, e2⟩⟩ | ⟨c1, _⟩ | ⟨c1, _⟩
  · clear s0 s6; exfalso; omega
  · obtain ⟨f1, f2, f3⟩ := s0 e1
    clear s0 s6
    refine ⟨Or.inl f1, ⟨d0, d1, b0, by omega, m0, m1, h9, ?_, fun _ => ⟨f2, f3⟩, ?_, ?_, ?_, ?_, ?_, ?_, ?_⟩⟩ <;> (intro e; rw [e2] at e; exact absurd e (by decide))
  · obtain ⟨f1, f2, f3, f4⟩ := s6 e1
    clear s0 s6
    refine ⟨Or.inr ⟨f3, f4⟩, ⟨d0, d1, b0, by clear f4; omega, m0, m1, h9, ?_, ?_, ?_, ?_, ?_, ?_, ?_, fun _ => ⟨f1, f2⟩, ?_⟩⟩ <;> (intro e; rw [e2] at e; exact absurd e (by decide))
  · clear s0 s6; exfalso; omega
  · clear s0 s6; exfalso; omega

theorem ns_dig {st st' : St} {s : ByteArray} {k : Nat} {d m b : Int} {l : Bool} (hk : k < s.size) (r : NsRel st s k d m b l) (h : step st s[k] = some st') (h9 : st'.state ≠ 9)
    (h1 : (s[k].toNat : Int) ≠ 46) (h2 : (s[k].toNat : Int) ≠ 101) (h3 : (s[k].toNat : Int) ≠ 69) (h4 : (s[k].toNat : Int) ≠ 43) (h5 : (s[k].toNat : Int) ≠ 45) :
    48 ≤ (s[k].toNat : Int) ∧ (s[k].toNat : Int) ≤ 57 ∧ NsRel st' s (k + 1) d m (if m = 0 then b + 1 else b) true := by
  have hcs := step_cases st st' s[k] h h9
  obtain ⟨d0, d1, b0, bk, m0, m1, s9, s0, s1, s2, s3, s4, s5, s6, s7, s8⟩ := r
  rcases hcs with ⟨c1, c2, ⟨e1, e2⟩ | ⟨e1, e2⟩ | ⟨e1, e2⟩⟩ | ⟨c1, _⟩ | ⟨c1, _⟩ | ⟨c1, _⟩
  · have f : m = 1 ∧ 0 < b := by
      rcases e1 with e | e | e
      · exact ⟨(s6 e).1, (s6 e).2.1⟩
      · exact s7 e
      · exact ⟨(s8 e).1, (s8 e).2.1⟩
    clear s0 s1 s2 s3 s4 s5 s6 s7 s8
    rw [if_neg (by omega)]
    refine ⟨by omega, by omega, ⟨d0, d1, b0, by omega, m0, m1, h9, ?_, ?_, ?_, ?_, ?_, ?_, ?_, ?_, fun _ => ⟨f.1, f.2, rfl⟩⟩⟩ <;> (intro e; rw [e2] at e; exact absurd e (by decide))
  · have f : m = 0 := by
      rcases e1 with e | e | e
      · exact (s3 e).1
      · exact s4 e
      · exact (s5 e).1
    clear s0 s1 s2 s3 s4 s5 s6 s7 s8
    rw [if_pos f]
    refine ⟨by omega, by omega, ⟨d0, d1, by omega, by omega, m0, m1, h9, ?_, ?_, ?_, ?_, ?_, fun _ => ⟨f, by omega⟩, ?_, ?_, ?_⟩⟩ <;> (intro e; rw [e2] at e; exact absurd e (by decide))
  · have f : d = 0 ∧ m = 0 := by
      rcases e1 with e | e | e
      · exact (s0 e).2
      · exact s1 e
      · exact ⟨(s2 e).1, (s2 e).2.1⟩
    clear s0 s1 s2 s3 s4 s5 s6 s7 s8
    rw [if_pos f.2]
    refine ⟨by omega, by omega, ⟨d0, d1, by omega, by omega, m0, m1, h9, ?_, ?_, fun _ => ⟨f.1, f.2, by omega⟩, ?_, ?_, ?_, ?_, ?_, ?_⟩⟩ <;> (intro e; rw [e2] at e; exact absurd e (by decide))
  · clear s0 s1 s2 s3 s4 s5 s6 s7 s8; omega
  · clear s0 s1 s2 s3 s4 s5 s6 s7 s8; omega
  · clear s0 s1 s2 s3 s4 s5 s6 s7 s8; omega

theorem ns_end {st : St} {s : ByteArray} {k : Nat} {d m b : Int} {l : Bool} (r : NsRel st s k d m b l) (h : st.state = 2 ∨ st.state = 3 ∨ st.state = 5 ∨ st.state = 8) : d ≤ 1 ∧ m ≤ 1 ∧ 0 < b ∧ (m = 0 ∨ l = true) := by
  obtain ⟨d0, d1, b0, bk, m0, m1, s9, s0, s1, s2, s3, s4, s5, s6, s7, s8⟩ := r
  rcases h with h | h | h | h
  · exact ⟨d1, m1, (s2 h).2.2, Or.inl (s2 h).2.1⟩
  · exact ⟨d1, m1, (s3 h).2, Or.inl (s3 h).1⟩
  · exact ⟨d1, m1, (s5 h).2, Or.inl (s5 h).1⟩
  · exact ⟨d1, m1, (s8 h).2.1, Or.inr (s8 h).2.2⟩

/-- a word stays a word -/
theorem nine_step (st st' : St) (c : UInt8) (h9 : st.state = 9) (h : step st c = some st') : st'.state = 9 := by
  unfold step at h
  split at h
  · unfold stepD at h
    rw [if_neg (by omega), if_neg (by omega), if_neg (by omega)] at h; cases h
  · unfold stepC at h
    rw [if_neg (by omega), if_neg (by omega), if_neg (by omega), if_neg (by omega), if_neg (by omega), if_neg (by omega)] at h
    split at h
    · cases h; exact h9
    · rw [if_neg (by omega)] at h; cases h
theorem goOn_none (l : List UInt8) : l.foldl goOn none = none := by
  induction l with
  | nil => rfl
  | cons c l ih => exact ih
theorem nine_run : ∀ (l : List UInt8) (st st' : St), st.state = 9 → l.foldl goOn (some st) = some st' → st'.state = 9 := by
  intro l
  induction l with
  | nil => intro st st' h e; cases e; exact h
  | cons c l ih =>
    intro st st' h e
    rw [List.foldl_cons] at e
    cases hs : step st c with
    | none =>
      have : goOn (some st) c = none := hs
      rw [this, goOn_none] at e; cases e
    | some st1 =>
      have : goOn (some st) c = some st1 := hs
      rw [this] at e
      exact ih st1 st' (nine_step st st1 c h hs) e

/-- the machine's state behind k bytes, where it takes them all -/
theorem run_split (s : ByteArray) (k : Nat) (st : St) (h : runL s.data.toList = some st) : ∃ st1, runTo s k = some st1 ∧ (s.data.toList.drop k).foldl goOn (some st1) = some st := by
  have e : runL s.data.toList = (s.data.toList.drop k).foldl goOn (runTo s k) := by
    rw [runL_eq]
    conv => lhs; rw [← List.take_append_drop k s.data.toList]
    rw [List.foldl_append]; rfl
  rw [h] at e
  cases hr : runTo s k with
  | none => rw [hr, goOn_none] at e; cases e
  | some st1 => rw [hr] at e; exact ⟨st1, rfl, e.symm⟩

theorem state_ne9 (s : ByteArray) (k : Nat) (st st1 : St) (h : runL s.data.toList = some st) (h9 : st.state ≠ 9) (h1 : runTo s k = some st1) : st1.state ≠ 9 := by
  obtain ⟨st2, e, e2⟩ := run_split s k st h
  rw [h1] at e; cases e
  intro hh
  exact h9 (nine_run _ _ _ hh e2)

theorem next_st (s : ByteArray) (k : Nat) (hk : k < s.size) (st st1 : St) (h : runL s.data.toList = some st) (h1 : runTo s k = some st1) : ∃ st2, step st1 s[k] = some st2 ∧ runTo s (k + 1) = some st2 := by
  obtain ⟨st2, e, e2⟩ := run_split s (k + 1) st h
  rw [runTo_succ s k hk, h1] at e
  exact ⟨st2, e, by rw [runTo_succ s k hk, h1]; exact e⟩

/-! ### words -/
def isSign (l : List UInt8) : Prop := l = [] ∨ l = [43] ∨ l = [45]
theorem isSign_two {l : List UInt8} {c : UInt8} (h : isSign l) : l.length ≤ 1 := by rcases h with rfl | rfl | rfl <;> decide

structure WordRel (st : St) (l : List UInt8) : Prop where
  s0 : st.state = 0 → l = []
  s1 : st.state = 1 → l = [43] ∨ l = [45]
  s9 : st.state = 9 → ∃ sg t, l = sg ++ t ∧ isSign sg ∧ 1 ≤ st.at_ ∧ st.at_ ≤ ((wordOf st.word).size : Int) ∧ t.map low = ((wordOf st.word).data.toList.take st.at_.toNat).map (fun c => (c.toNat : Int))

theorem wordAt_letter : ∀ k, k = 1 ∨ k = 2 → ∀ n, n < (wordOf k).size → 97 ≤ wordAt k n ∧ wordAt k n ≤ 122 := by
  intro k hk n hn
  rcases hk with rfl | rfl
  · have : ∀ n, n < 8 → 97 ≤ wordAt 1 (n : Nat) ∧ wordAt 1 (n : Nat) ≤ 122 := by decide
    exact this n hn
  · have : ∀ n, n < 3 → 97 ≤ wordAt 2 (n : Nat) ∧ wordAt 2 (n : Nat) ≤ 122 := by decide
    exact this n hn

theorem wordRel_step (st st' : St) (l : List UInt8) (c : UInt8) (k : Nat) (r : WordRel st l) (hr : Reach st k) (h : step st c = some st') : WordRel st' (l ++ [c]) := by
  obtain ⟨r0, r1, r9⟩ := r
  have hlo := hr.state.1
  have first : ∀ v : Int, 97 ≤ v → v ≤ 122 → st.state ≤ 1 → (lc c.toNat : Int) = v → ∃ sg t, l ++ [c] = sg ++ t ∧ isSign sg ∧ t.map low = [v] := by
    intro v v1 v2 hs hv
    refine ⟨l, [c], rfl, ?_, by simp [low_of_lc c v v1 v2 hv]⟩
    by_cases e : st.state = 0
    · exact Or.inl (r0 e)
    · exact Or.inr (r1 (by omega))
  unfold step at h
  split at h
  · unfold stepD at h
    split at h
    · cases h; exact ⟨by intro e; simp at e, by intro e; simp at e, by intro e; simp at e⟩
    · split at h
      · cases h; exact ⟨by intro e; simp at e, by intro e; simp at e, by intro e; simp at e⟩
      · split at h
        · cases h; exact ⟨by intro e; simp at e, by intro e; simp at e, by intro e; simp at e⟩
        · cases h
  · unfold stepC at h
    split at h
    · rename_i hs
      cases h
      refine ⟨by intro e; simp at e, fun _ => ?_, by intro e; simp at e⟩
      rw [r0 hs.1]
      rcases hs.2 with e | e
      · exact Or.inl (by rw [show c = 43 from UInt8.toNat_inj.1 e]; rfl)
      · exact Or.inr (by rw [show c = 45 from UInt8.toNat_inj.1 e]; rfl)
    split at h
    · cases h; exact ⟨by intro e; simp at e, by intro e; simp at e, by intro e; simp at e⟩
    split at h
    · cases h; exact ⟨by intro e; simp at e, by intro e; simp at e, by intro e; simp at e⟩
    split at h
    · cases h; exact ⟨by intro e; simp at e, by intro e; simp at e, by intro e; simp at e⟩
    split at h
    · rename_i hs
      cases h
      refine ⟨by intro e; simp at e, by intro e; simp at e, fun _ => ?_⟩
      obtain ⟨sg, t, e1, e2, e3⟩ := first 105 (by decide) (by decide) hs.1 (by omega)
      exact ⟨sg, t, e1, e2, by show (1 : Int) ≤ 1; decide, by show (1 : Int) ≤ ((wordOf 1).size : Int); decide, by rw [e3]; rfl⟩
    split at h
    · rename_i hs
      cases h
      refine ⟨by intro e; simp at e, by intro e; simp at e, fun _ => ?_⟩
      obtain ⟨sg, t, e1, e2, e3⟩ := first 110 (by decide) (by decide) hs.1 (by omega)
      exact ⟨sg, t, e1, e2, by show (1 : Int) ≤ 1; decide, by show (1 : Int) ≤ ((wordOf 2).size : Int); decide, by rw [e3]; rfl⟩
    split at h
    · rename_i hs
      cases h
      obtain ⟨q1, q2, q3⟩ := hs
      refine ⟨by intro e; exact absurd (q1.symm.trans e) (by decide), by intro e; exact absurd (q1.symm.trans e) (by decide), fun _ => ?_⟩
      obtain ⟨sg, t, e1, e2, e3, e4, e5⟩ := r9 q1
      have hn : st.at_.toNat < (wordOf st.word).size := by omega
      have hlt := wordAt_letter st.word (hr.word q1) st.at_.toNat hn
      have hat : ((st.at_.toNat : Nat) : Int) = st.at_ := by omega
      rw [hat] at hlt
      have hlow := low_of_lc c _ hlt.1 hlt.2 q3
      refine ⟨sg, t ++ [c], by rw [e1, List.append_assoc], e2, by show 1 ≤ st.at_ + 1; omega, by show st.at_ + 1 ≤ ((wordOf st.word).size : Int); omega, ?_⟩
      show (t ++ [c]).map low = ((wordOf st.word).data.toList.take (st.at_ + 1).toNat).map _
      have e6 : (st.at_ + 1).toNat = st.at_.toNat + 1 := by omega
      rw [e6, take_snoc _ _ hn, List.map_append, List.map_append, e5, List.map_cons, List.map_nil, hlow]
      congr 1
      unfold wordAt
      rw [List.getD_eq_getElem?_getD, List.getElem?_map, get_toList _ _ hn]
      rfl
    split at h
    · cases h; exact ⟨by intro e; simp at e, by intro e; simp at e, by intro e; simp at e⟩
    · cases h

theorem wordRel_run (s : ByteArray) : ∀ k, k ≤ s.size → ∀ st, runTo s k = some st → WordRel st (s.data.toList.take k) ∧ Reach st k := by
  intro k
  induction k with
  | zero =>
    intro _ st h
    cases h
    exact ⟨⟨fun _ => rfl, by intro e; exact absurd e (by decide), by intro e; exact absurd e (by decide)⟩, reach0⟩
  | succ k ih =>
    intro hk st h
    rw [runTo_succ s k (by omega)] at h
    cases h1 : runTo s k with
    | none => rw [h1] at h; cases h
    | some st1 =>
      rw [h1] at h
      obtain ⟨r, q⟩ := ih (by omega) st1 h1
      rw [take_snoc s k (by omega)]
      exact ⟨wordRel_step st1 st _ _ k r q h, reach_step st1 st _ k q h⟩

/-- the text without its sign -/
def strip (s : ByteArray) : ByteArray := if 0 < s.size ∧ (s.data.toList.head? = some 43 ∨ s.data.toList.head? = some 45) then s.extract 1 s.size else s

theorem extract_list (s : ByteArray) : (s.extract 1 s.size).data.toList = s.data.toList.drop 1 := by
  rw [ByteArray.data_extract]
  rw [Array.toList_extract]
  unfold List.extract
  rw [List.take_of_length_le]
  rw [List.length_drop, len_toList]
  omega

theorem word_shape (s : ByteArray) (st : St) (h : runL s.data.toList = some st) (h9 : st.state = 9) (hat : st.word = 1 ∧ (st.at_ = 3 ∨ st.at_ = 8) ∨ st.word = 2 ∧ st.at_ = 3) :
    wordB (strip s) wInf = true ∨ wordB (strip s) wInfinity = true ∨ wordB (strip s) wNan = true := by
  have hr : runTo s s.size = some st := by unfold runTo; rw [take_all s _ (by omega)]; exact h
  obtain ⟨r, _⟩ := wordRel_run s s.size (Nat.le_refl _) st hr
  rw [take_all s _ (by omega)] at r
  obtain ⟨sg, t, e1, e2, e3, e4, e5⟩ := r.s9 h9
  have hstrip : (strip s).data.toList = t := by
    have ht : t ≠ [] := by
      intro e; rw [e] at e5
      have := congrArg List.length e5
      simp at this
      rcases hat with ⟨hw, ha | ha⟩ | ⟨hw, ha⟩ <;> rw [ha, hw] at this <;> revert this <;> decide
    unfold strip
    rcases e2 with rfl | rfl | rfl
    · rw [if_neg ?_, e1]
      · rfl
      · rintro ⟨_, hh⟩
        rw [e1] at hh
        cases t with
        | nil => exact ht rfl
        | cons c t =>
          have hc : low c = 105 ∨ low c = 110 := by
            rw [List.map_cons] at e5
            rcases hat with ⟨hw, ha | ha⟩ | ⟨hw, ha⟩ <;> rw [ha, hw] at e5
            · exact Or.inl (List.cons.inj e5).1
            · exact Or.inl (List.cons.inj e5).1
            · exact Or.inr (List.cons.inj e5).1
          simp at hh
          rcases hh with rfl | rfl <;> revert hc <;> decide
    · rw [if_pos ?_, extract_list, e1]
      · rfl
      · rw [← len_toList, e1]; exact ⟨by simp, Or.inl rfl⟩
    · rw [if_pos ?_, extract_list, e1]
      · rfl
      · rw [← len_toList, e1]; exact ⟨by simp, Or.inr rfl⟩
  rcases hat with ⟨hw, ha | ha⟩ | ⟨hw, ha⟩ <;> rw [ha, hw] at e5
  · refine Or.inl ?_; unfold wordB; rw [hstrip, e5]; decide
  · refine Or.inr (Or.inl ?_); unfold wordB; rw [hstrip, e5]; decide
  · refine Or.inr (Or.inr ?_); unfold wordB; rw [hstrip, e5]; decide

end Go.Proofs.Ygcoaj
