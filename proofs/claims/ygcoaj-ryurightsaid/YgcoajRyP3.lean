/-
  PLAIN: the shortest decimal in an interval: what is asked, that it is one, and that ryu's two loops give it.
-/
import Derived.Test.YgcoajRyP2
set_option linter.unusedVariables false
set_option linter.unusedSimpArgs false
namespace Go.Proofs.Ygcoaj
open Go.RowKit

/-- c * u lies in the interval from a to b -/
def InI (a b : Nat) (ends : Bool) (u c : Nat) : Prop := if ends = true then a ≤ c * u ∧ c * u ≤ b else a < c * u ∧ c * u < b
/-- the unit at scale j -/
def un (D j : Nat) : Nat := D * 10 ^ j
theorem un_pos {D : Nat} (hD : 0 < D) (j : Nat) : 0 < un D j := Nat.mul_pos hD (Nat.pow_pos (by decide))
theorem un_succ (D j : Nat) : un D (j + 1) = 10 * un D j := by unfold un; rw [Nat.pow_succ]; grind

/-- the shortest decimal: scale J, digits c -/
structure Short (a v b D : Nat) (ends : Bool) (J c : Nat) : Prop where
  pos : 1 ≤ v / un D J
  here : InI a b ends (un D J) c
  most : ∀ j, J < j → 1 ≤ v / un D j → ∀ x, ¬ InI a b ends (un D j) x
  best : (c = v / un D J ∧ (¬ InI a b ends (un D J) (v / un D J + 1) ∨ 2 * (v % un D J) < un D J ∨ (2 * (v % un D J) = un D J ∧ v / un D J % 2 = 0))) ∨
         (c = v / un D J + 1 ∧ (¬ InI a b ends (un D J) (v / un D J) ∨ un D J < 2 * (v % un D J) ∨ (2 * (v % un D J) = un D J ∧ v / un D J % 2 = 1)))

theorem short_one {a v b D : Nat} {ends : Bool} {J c J' c' : Nat} (h : Short a v b D ends J c) (h' : Short a v b D ends J' c') : J = J' ∧ c = c' := by
  have hJ : J = J' := by
    rcases Nat.lt_trichotomy J J' with hc | hc | hc
    · exact absurd h'.here (h.most J' hc h'.pos c')
    · exact hc
    · exact absurd h.here (h'.most J hc h.pos c)
  subst hJ
  refine ⟨rfl, ?_⟩
  have i1 := h.here
  have i2 := h'.here
  rcases h.best with ⟨e1, p1⟩ | ⟨e1, p1⟩ <;> rcases h'.best with ⟨e2, p2⟩ | ⟨e2, p2⟩
  · omega
  · exfalso
    rw [e1] at i1
    rw [e2] at i2
    rcases p1 with p1 | p1 | p1
    · exact p1 i2
    · rcases p2 with p2 | p2 | p2
      · exact p2 i1
      · omega
      · omega
    · rcases p2 with p2 | p2 | p2
      · exact p2 i1
      · omega
      · omega
  · exfalso
    rw [e1] at i1
    rw [e2] at i2
    rcases p1 with p1 | p1 | p1
    · exact p1 i2
    · rcases p2 with p2 | p2 | p2
      · exact p2 i1
      · omega
      · omega
    · rcases p2 with p2 | p2 | p2
      · exact p2 i1
      · omega
      · omega
  · omega

/-- where something lies in the interval, the floor or the ceiling does -/
theorem in_near {a v b u x : Nat} {ends : Bool} (hu : 0 < u) (hav : a < v) (hvb : v < b) (h : InI a b ends u x) : InI a b ends u (v / u) ∨ InI a b ends u (v / u + 1) := by
  have e1 := Nat.div_mul_le_self v u
  have e2 : v < (v / u + 1) * u := by rw [Nat.add_mul, Nat.one_mul]; have := Nat.lt_div_mul_add hu (a := v); omega
  unfold InI at *
  rcases Nat.lt_or_ge (v / u) x with hc | hc
  · right
    have h1 : (v / u + 1) * u ≤ x * u := Nat.mul_le_mul_right _ hc
    split at h
    · rename_i he; rw [if_pos he]; omega
    · rename_i he; rw [if_neg he]; omega
  · left
    have h1 : x * u ≤ v / u * u := Nat.mul_le_mul_right _ hc
    split at h
    · rename_i he; rw [if_pos he]; omega
    · rename_i he; rw [if_neg he]; omega
/-- the highest whole number that the upper end allows -/
def hiN (b D : Nat) (ends : Bool) : Nat := if b % D = 0 ∧ ends = false then b / D - 1 else b / D
theorem hi_le {b D j c : Nat} {ends : Bool} (hD : 0 < D) (hb : D ≤ b) : c ≤ hiN b D ends / 10 ^ j ↔ (if ends = true then c * un D j ≤ b else c * un D j < b) := by
  have h10 : 0 < 10 ^ j := Nat.pow_pos (by decide)
  rw [Nat.le_div_iff_mul_le h10]
  have e : c * un D j = c * 10 ^ j * D := by unfold un; grind
  rw [e]
  generalize c * 10 ^ j = x
  have q1 := Nat.div_add_mod b D
  have q2 := Nat.mod_lt b hD
  unfold hiN
  cases ends with
  | true =>
    rw [if_neg (by simp), if_pos rfl, Nat.le_div_iff_mul_le hD]
  | false =>
    have hif : (if false = true then x * D ≤ b else x * D < b) = (x * D < b) := if_neg (by decide)
    rw [hif]
    by_cases h0 : b % D = 0
    · rw [if_pos ⟨h0, rfl⟩]
      have hq : 1 ≤ b / D := by rw [Nat.le_div_iff_mul_le hD, Nat.one_mul]; exact hb
      have hbe : b = b / D * D := by rw [Nat.mul_comm]; omega
      constructor
      · intro hx
        have h1 : x * D ≤ (b / D - 1) * D := Nat.mul_le_mul_right _ hx
        have h2 : (b / D - 1) * D + D = b := by
          have : (b / D - 1 + 1) * D = b := by rw [Nat.sub_add_cancel hq]; exact hbe.symm
          rw [Nat.add_mul, Nat.one_mul] at this
          exact this
        omega
      · intro hx
        have h1 : x < b / D := by
          rw [hbe] at hx
          exact Nat.lt_of_mul_lt_mul_right hx
        omega
    · rw [if_neg (by simp [h0]), Nat.le_div_iff_mul_le hD]
      constructor
      · intro hx
        rcases Nat.lt_or_ge (x * D) b with hc | hc
        · exact hc
        · exfalso
          have : x * D = b := by omega
          rw [← this] at h0
          exact h0 (Nat.mul_mod_left _ _)
      · intro hx; omega
theorem lo_lt {a D j c : Nat} (hD : 0 < D) : a / D / 10 ^ j < c ↔ a < c * un D j := by
  have e : a / D / 10 ^ j = a / un D j := by unfold un; rw [Nat.div_div_eq_div_mul]
  rw [e]
  exact Nat.div_lt_iff_lt_mul (un_pos hD j)

/-- above the low end at scale j: by the two floors -/
theorem in_strict {a v b D j : Nat} {ends : Bool} (hD : 0 < D) (hb : D ≤ b) : (∃ c, a < c * un D j ∧ InI a b ends (un D j) c) ↔ a / D / 10 ^ j < hiN b D ends / 10 ^ j := by
  constructor
  · rintro ⟨c, h1, h2⟩
    have h3 := (lo_lt hD).2 h1
    have h4 : c ≤ hiN b D ends / 10 ^ j := by
      rw [hi_le hD hb]
      unfold InI at h2
      split at h2
      · rename_i he; rw [if_pos he]; exact h2.2
      · rename_i he; rw [if_neg he]; exact h2.2
    omega
  · intro h
    refine ⟨hiN b D ends / 10 ^ j, (lo_lt hD).1 h, ?_⟩
    have h4 := (hi_le (c := hiN b D ends / 10 ^ j) (ends := ends) hD hb).1 (Nat.le_refl _)
    have h5 := (lo_lt hD).1 h
    unfold InI
    split
    · rename_i he; rw [if_pos he] at h4; exact ⟨Nat.le_of_lt h5, h4⟩
    · rename_i he; rw [if_neg he] at h4; exact ⟨h5, h4⟩

/-- ryu's end: the facts at the last scale give the shortest -/
theorem ryu_short {a v b D J : Nat} {ends up : Bool} (hD : 0 < D) (hb : D ≤ b) (hav : a < v) (hvb : v < b) (hsym : v - a ≤ b - v) (hJ1 : 1 ≤ J) (hpos : 1 ≤ v / un D J)
    (hin : (∃ c, a < c * un D J ∧ InI a b ends (un D J) c) ∨ (ends = true ∧ a % un D J = 0))
    (hmax : ∀ j, J < j → 1 ≤ v / un D j → ¬ (∃ c, a < c * un D j ∧ InI a b ends (un D j) c) ∧ ¬ (ends = true ∧ a % un D j = 0))
    (hup : up = (if v / un D J = a / un D J ∧ ¬ (ends = true ∧ a % un D J = 0) then true else if v % un D J / un D (J - 1) = 5 ∧ v % un D (J - 1) = 0 ∧ v / un D J % 2 = 0 then false else decide (5 ≤ v % un D J / un D (J - 1)))) :
    Short a v b D ends J (v / un D J + up.toNat) := by
  obtain ⟨u, hu⟩ : ∃ u, u = un D J := ⟨_, rfl⟩
  obtain ⟨u', hu'⟩ : ∃ u', u' = un D (J - 1) := ⟨_, rfl⟩
  have hup0 : 0 < u' := by rw [hu']; exact un_pos hD _
  have huu : u = 10 * u' := by
    rw [hu, hu', ← un_succ]; congr 1; omega
  have hu0 : 0 < u := by omega
  rw [← hu, ← hu'] at hup
  rw [← hu] at hpos hin ⊢
  obtain ⟨m, hm⟩ : ∃ m, m = v / u := ⟨_, rfl⟩
  obtain ⟨r, hr⟩ : ∃ r, r = v % u := ⟨_, rfl⟩
  have hv : v = m * u + r := by rw [hm, hr, Nat.mul_comm]; exact (Nat.div_add_mod v u).symm
  have hru : r < u := by rw [hr]; exact Nat.mod_lt _ hu0
  rw [← hm, ← hr] at hup
  rw [← hm] at hpos ⊢
  -- the floor
  have hal : a / u ≤ m := by rw [hm]; exact Nat.div_le_div_right (Nat.le_of_lt hav)
  have hfl : InI a b ends u m ↔ ¬ (m = a / u ∧ ¬ (ends = true ∧ a % u = 0)) := by
    have qa := Nat.div_add_mod a u
    have qb := Nat.mod_lt a hu0
    unfold InI
    by_cases he : m = a / u
    · have hmu : m * u = a - a % u := by rw [he, Nat.mul_comm]; omega
      by_cases hz : a % u = 0
      · split
        · rename_i hE; simp [he, hz, hE]; rw [← he]; omega
        · rename_i hE; simp [he, hz, hE]; rw [← he]; omega
      · split
        · rename_i hE; simp [he, hz]; rw [← he]; omega
        · rename_i hE; simp [he, hz]; rw [← he]; omega
    · have hlt : a / u + 1 ≤ m := by omega
      have h1 : (a / u + 1) * u ≤ m * u := Nat.mul_le_mul_right _ hlt
      rw [Nat.add_mul, Nat.one_mul, Nat.mul_comm (a / u)] at h1
      split
      · simp [he]; omega
      · simp [he]; omega
  have hcl : InI a b ends u m → u ≤ 2 * r → InI a b ends u (m + 1) := by
    intro h1 h2
    have e : (m + 1) * u = m * u + u := by rw [Nat.add_mul, Nat.one_mul]
    unfold InI at *
    obtain ⟨z, hz⟩ : ∃ z, z = m * u := ⟨_, rfl⟩
    rw [← hz] at hv e h1
    clear hup hfl hpos hmax hin
    by_cases hE : ends = true
    · rw [if_pos hE] at h1 ⊢; rw [e]; exact ⟨by omega, by omega⟩
    · rw [if_neg hE] at h1 ⊢; rw [e]; exact ⟨by omega, by omega⟩
  have hany : ∃ x, InI a b ends u x := by
    rcases hin with ⟨c, _, h⟩ | ⟨h1, h2⟩
    · exact ⟨c, h⟩
    · refine ⟨a / u, ?_⟩
      have qa := Nat.div_add_mod a u
      unfold InI
      rw [if_pos h1, Nat.mul_comm]
      omega
  obtain ⟨x, hx⟩ := hany
  have hor := in_near hu0 hav hvb hx
  rw [← hm] at hor
  have hmost : ∀ j, J < j → 1 ≤ v / un D j → ∀ x, ¬ InI a b ends (un D j) x := by
    intro j hj hpj x hxx
    obtain ⟨n1, n2⟩ := hmax j hj hpj
    rcases Nat.lt_or_ge a (x * un D j) with hc | hc
    · exact n1 ⟨x, hc, hxx⟩
    · apply n2
      unfold InI at hxx
      split at hxx
      · rename_i hE
        refine ⟨hE, ?_⟩
        have : a = x * un D j := by omega
        rw [this]; exact Nat.mul_mod_left _ _
      · omega
  -- the half
  have hdig : r / u' < 10 := by rw [Nat.div_lt_iff_lt_mul hup0]; omega
  have hmod : v % u' = r % u' := by
    rw [hr, huu, Nat.mod_mul_left_mod]
  have q1 := Nat.div_add_mod r u'
  have q2 := Nat.mod_lt r hup0
  obtain ⟨dg, hdg⟩ : ∃ dg, dg = r / u' := ⟨_, rfl⟩
  obtain ⟨rs, hrs⟩ : ∃ rs, rs = r % u' := ⟨_, rfl⟩
  rw [← hdg] at hup hdig q1
  rw [hmod, ← hrs] at hup
  rw [← hrs] at q1 q2
  by_cases hout : m = a / u ∧ ¬ (ends = true ∧ a % u = 0)
  · have hno : ¬ InI a b ends u m := fun h => (hfl.1 h) hout
    rw [if_pos hout] at hup
    rw [hup]
    have hin1 : InI a b ends u (m + 1) := by
      rcases hor with h | h
      · exact absurd h hno
      · exact h
    refine ⟨by rw [← hu, ← hm]; exact hpos, by rw [← hu]; exact hin1, hmost, ?_⟩
    rw [← hu, ← hm, ← hr]
    exact Or.inr ⟨rfl, Or.inl hno⟩
  · have hyes : InI a b ends u m := hfl.2 hout
    rw [if_neg hout] at hup
    by_cases htie : dg = 5 ∧ rs = 0 ∧ m % 2 = 0
    · rw [if_pos htie] at hup
      rw [hup]
      refine ⟨by rw [← hu, ← hm]; exact hpos, by rw [← hu]; exact hyes, hmost, ?_⟩
      rw [← hu, ← hm, ← hr]
      refine Or.inl ⟨rfl, Or.inr (Or.inr ⟨?_, htie.2.2⟩)⟩
      obtain ⟨t1, t2, _⟩ := htie
      rw [t1, t2] at q1
      omega
    · rw [if_neg htie] at hup
      by_cases h5 : 5 ≤ dg
      · rw [decide_eq_true h5] at hup
        rw [hup]
        have hge : u' * 5 ≤ u' * dg := Nat.mul_le_mul_left _ h5
        have h2r : u ≤ 2 * r := by omega
        refine ⟨by rw [← hu, ← hm]; exact hpos, by rw [← hu]; exact hcl hyes h2r, hmost, ?_⟩
        rw [← hu, ← hm, ← hr]
        refine Or.inr ⟨rfl, Or.inr ?_⟩
        rcases Nat.lt_or_ge u (2 * r) with hc | hc
        · exact Or.inl hc
        · refine Or.inr ⟨by omega, ?_⟩
          have hrr : 2 * r = u := by omega
          have hd5 : dg = 5 := by
            rcases Nat.lt_or_ge dg 6 with h6 | h6
            · omega
            · have : u' * 6 ≤ u' * dg := Nat.mul_le_mul_left _ h6
              omega
          have hr0 : rs = 0 := by rw [hd5] at q1; omega
          have : ¬ m % 2 = 0 := fun h => htie ⟨hd5, hr0, h⟩
          omega
      · rw [decide_eq_false h5] at hup
        rw [hup]
        refine ⟨by rw [← hu, ← hm]; exact hpos, by rw [← hu]; exact hyes, hmost, ?_⟩
        rw [← hu, ← hm, ← hr]
        refine Or.inl ⟨rfl, Or.inr (Or.inl ?_)⟩
        have : u' * dg ≤ u' * 4 := Nat.mul_le_mul_left _ (by omega)
        omega

end Go.Proofs.Ygcoaj
