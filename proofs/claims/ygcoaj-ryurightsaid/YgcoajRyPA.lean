/-
  PLAIN: there is a shortest decimal; the scaled numbers' places.
-/
import Derived.Test.YgcoajRyP9
set_option linter.unusedVariables false
set_option linter.unusedSimpArgs false
namespace Go.Proofs.Ygcoaj
open Go.RowKit

theorem greatest {P : Nat → Prop} (N : Nat) (hb : ∀ j, P j → j ≤ N) : ∀ k j0, N - j0 ≤ k → P j0 → ∃ J, j0 ≤ J ∧ P J ∧ ∀ j, J < j → ¬ P j := by
  intro k
  induction k with
  | zero => intro j0 h hp; exact ⟨j0, Nat.le_refl _, hp, fun j hj hpj => by have := hb j hpj; omega⟩
  | succ k ih =>
    intro j0 h hp
    by_cases hx : ∃ j, j0 < j ∧ P j
    · obtain ⟨j, hj, hpj⟩ := hx
      have := hb j hpj
      obtain ⟨J, h1, h2, h3⟩ := ih j (by omega) hpj
      exact ⟨J, by omega, h2, h3⟩
    · exact ⟨j0, Nat.le_refl _, hp, fun j hj hpj => hx ⟨j, hj, hpj⟩⟩

theorem lt_ten_pow (j : Nat) : j < 10 ^ j := Nat.lt_pow_self (by decide)

theorem short_exists {a v b D j0 x : Nat} {ends : Bool} (hD : 0 < D) (hav : a < v) (hvb : v < b) (h1 : 1 ≤ v / un D j0) (hx : InI a b ends (un D j0) x) : ∃ J c, j0 ≤ J ∧ Short a v b D ends J c := by
  obtain ⟨J, hJ, ⟨hp, y, hy⟩, hmax⟩ := greatest (P := fun j => 1 ≤ v / un D j ∧ ∃ x, InI a b ends (un D j) x) v (fun j hj => by
    rcases Nat.lt_or_ge v j with hc | hc
    · exfalso
      have p1 := lt_ten_pow j
      have p2 : 1 * 10 ^ j ≤ D * 10 ^ j := Nat.mul_le_mul_right _ hD
      have p3 : v < un D j := by unfold un; omega
      have := hj.1
      rw [Nat.div_eq_of_lt p3] at this
      omega
    · exact hc) (v - j0) j0 (Nat.le_refl _) ⟨h1, x, hx⟩
  have hu := un_pos hD J
  have most : ∀ j, J < j → 1 ≤ v / un D j → ∀ x, ¬ InI a b ends (un D j) x := fun j hj h1 x hx => hmax j hj ⟨h1, x, hx⟩
  rcases Nat.lt_trichotomy (2 * (v % un D J)) (un D J) with hc | hc | hc
  · by_cases hf : InI a b ends (un D J) (v / un D J)
    · exact ⟨J, _, hJ, ⟨hp, hf, most, Or.inl ⟨rfl, Or.inr (Or.inl hc)⟩⟩⟩
    · have hg := (in_near hu hav hvb hy).resolve_left hf
      exact ⟨J, _, hJ, ⟨hp, hg, most, Or.inr ⟨rfl, Or.inl hf⟩⟩⟩
  · by_cases hev : v / un D J % 2 = 0
    · by_cases hf : InI a b ends (un D J) (v / un D J)
      · exact ⟨J, _, hJ, ⟨hp, hf, most, Or.inl ⟨rfl, Or.inr (Or.inr ⟨hc, hev⟩)⟩⟩⟩
      · have hg := (in_near hu hav hvb hy).resolve_left hf
        exact ⟨J, _, hJ, ⟨hp, hg, most, Or.inr ⟨rfl, Or.inl hf⟩⟩⟩
    · by_cases hg : InI a b ends (un D J) (v / un D J + 1)
      · exact ⟨J, _, hJ, ⟨hp, hg, most, Or.inr ⟨rfl, Or.inr (Or.inr ⟨hc, by omega⟩)⟩⟩⟩
      · have hf := (in_near hu hav hvb hy).resolve_right hg
        exact ⟨J, _, hJ, ⟨hp, hf, most, Or.inl ⟨rfl, Or.inl hg⟩⟩⟩
  · by_cases hg : InI a b ends (un D J) (v / un D J + 1)
    · exact ⟨J, _, hJ, ⟨hp, hg, most, Or.inr ⟨rfl, Or.inr (Or.inl hc)⟩⟩⟩
    · have hf := (in_near hu hav hvb hy).resolve_right hg
      exact ⟨J, _, hJ, ⟨hp, hf, most, Or.inl ⟨rfl, Or.inl hg⟩⟩⟩

/-- the unit against the divisor -/
theorem u0_D {e : Int} (h1 : -1100 ≤ e) (h2 : e ≤ 1030) : 10 * trD e (l10 e - 1) ≤ u0 e (l10 e - 1) ∧ u0 e (l10 e - 1) < 100 * trD e (l10 e - 1) := by
  obtain ⟨l1, l2⟩ := l10_ok h1 h2
  obtain ⟨q, hq⟩ : ∃ q, q = l10 e - 1 := ⟨_, rfl⟩
  have hq1 : l10 e = q + 1 := by omega
  clear hq
  rw [hq1] at l1 l2 ⊢
  rw [show q + 1 + 1 = q + 2 from by omega] at l2
  rw [show q + 1 - 1 = q from by omega]
  unfold trD u0
  have e1 : 10 * 10 ^ q.toNat * 10 ^ (-(q + 1)).toNat = 10 ^ (q + 1).toNat * 10 ^ (-q).toNat := by
    rw [show (10 : Nat) * 10 ^ q.toNat = 10 ^ (q.toNat + 1) from by rw [Nat.pow_succ, Nat.mul_comm], ← Nat.pow_add, ← Nat.pow_add]; congr 1; omega
  have e2 : 100 * 10 ^ q.toNat * 10 ^ (-(q + 2)).toNat = 10 ^ (q + 2).toNat * 10 ^ (-q).toNat := by
    rw [show (100 : Nat) * 10 ^ q.toNat = 10 ^ (q.toNat + 2) from by rw [Nat.pow_add, Nat.mul_comm], ← Nat.pow_add, ← Nat.pow_add]; congr 1; omega
  have p1 : 0 < 10 ^ (-(q + 1)).toNat := t10 _
  have p2 : 0 < 10 ^ (-(q + 2)).toNat := t10 _
  have p3 : 0 < 10 ^ (-q).toNat := t10 _
  generalize 10 ^ q.toNat = A1 at *
  generalize 10 ^ (-(q + 1)).toNat = A2 at *
  generalize 10 ^ (q + 1).toNat = A3 at *
  generalize 10 ^ (-q).toNat = A4 at *
  generalize 10 ^ (-(q + 2)).toNat = A5 at *
  generalize 10 ^ (q + 2).toNat = A6 at *
  generalize 2 ^ e.toNat = X at *
  generalize 2 ^ (-e).toNat = Y at *
  constructor
  · refine Nat.le_of_mul_le_mul_right ?_ p1
    calc 10 * (Y * A1) * A2 = Y * (10 * A1 * A2) := by grind
      _ = Y * (A3 * A4) := by rw [e1]
      _ = A3 * Y * A4 := by grind
      _ ≤ X * A2 * A4 := Nat.mul_le_mul_right _ l1
      _ = X * A4 * A2 := by grind
  · refine Nat.lt_of_mul_lt_mul_right (a := A5) ?_
    calc X * A4 * A5 = X * A5 * A4 := by grind
      _ < A6 * Y * A4 := Nat.mul_lt_mul_of_pos_right l2 p3
      _ = Y * (A6 * A4) := by grind
      _ = Y * (100 * A1 * A5) := by rw [e2]
      _ = 100 * (Y * A1) * A5 := by grind

/-- all that ryu's walk asks of the scaled numbers -/
theorem places {m bel u D : Nat} (hm0 : 0 < m) (hm : m < 9007199254740992) (hb : bel = 1 ∨ bel = 2) (hD : 0 < D) (h1 : 10 * D ≤ u) (h2 : u < 100 * D) (ends : Bool) :
    D ≤ (4 * m + 2) * u ∧ (4 * m - bel) * u < 4 * m * u ∧ 4 * m * u < (4 * m + 2) * u ∧ 4 * m * u - (4 * m - bel) * u ≤ (4 * m + 2) * u - 4 * m * u ∧ 10 ≤ 4 * m * u / D ∧
    (4 * m - bel) * u / D / 10 < hiN ((4 * m + 2) * u) D ends / 10 ∧ (4 * m + 2) * u / D < 4611686018427387904 ∧ 1 ≤ 4 * m * u / un D 1 ∧ ∃ x, InI ((4 * m - bel) * u) ((4 * m + 2) * u) ends (un D 1) x := by
  have hu : 0 < u := by omega
  have eb : (4 * m + 2) * u = 4 * m * u + 2 * u := by rw [Nat.add_mul]
  have ea : (4 * m - bel) * u + bel * u = 4 * m * u := by rw [← Nat.add_mul, show 4 * m - bel + bel = 4 * m from by omega]
  have e4 : 4 * u ≤ 4 * m * u := Nat.mul_le_mul_right _ (by omega)
  have eB : bel * u = u ∨ bel * u = 2 * u := by rcases hb with rfl | rfl <;> omega
  have hun : un D 1 = 10 * D := by unfold un; omega
  have hbig : (4 * m + 2) * u ≤ 36028797018963966 * (100 * D) := Nat.mul_le_mul (by omega) (Nat.le_of_lt h2)
  have hDb : D ≤ (4 * m + 2) * u := by omega
  have hav : (4 * m - bel) * u < 4 * m * u := by omega
  have hex : ∃ c, (4 * m - bel) * u < c * un D 1 ∧ InI ((4 * m - bel) * u) ((4 * m + 2) * u) ends (un D 1) c := by
    rw [hun]
    generalize (4 * m - bel) * u = a at *
    generalize (4 * m + 2) * u = b at *
    generalize 4 * m * u = v at *
    have d1 := Nat.div_add_mod a (10 * D)
    have d2 := Nat.mod_lt a (show 0 < 10 * D by omega)
    have d3 : (a / (10 * D) + 1) * (10 * D) = 10 * D * (a / (10 * D)) + 10 * D := by rw [Nat.add_mul, Nat.one_mul, Nat.mul_comm]
    refine ⟨a / (10 * D) + 1, ?_, ?_⟩
    · rw [d3]; omega
    · unfold InI
      rw [d3]
      split <;> constructor <;> omega
  refine ⟨hDb, hav, by omega, by omega, ?_, ?_, ?_, ?_, ?_⟩
  · rw [Nat.le_div_iff_mul_le hD]; omega
  · have := (in_strict (v := 4 * m * u) hD hDb).1 hex
    rwa [Nat.pow_one] at this
  · rw [Nat.div_lt_iff_lt_mul hD]; omega
  · rw [hun, Nat.le_div_iff_mul_le (by omega)]; omega
  · obtain ⟨c, _, hc⟩ := hex; exact ⟨c, hc⟩

end Go.Proofs.Ygcoaj
