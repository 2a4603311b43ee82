/-
  PLAIN: the two ways to the shortest decimal meet (3).
-/
import Derived.Test.YgcoajRyP6
set_option linter.unusedVariables false
set_option linter.unusedSimpArgs false
namespace Go.Proofs.Ygcoaj
open Go.RowKit

theorem cross {x1 y1 x2 y2 : Nat} (h1 : 0 < y1) (h2 : 0 < y2) (h : x1 * y2 = x2 * y1) : x1 ≤ y1 ↔ x2 ≤ y2 := by
  have := rat_le (A := 1) (c := 1) h1 h2 h
  simpa using this

/-- the value of n/d in the scaled numbers -/
theorem val_eq {n d m De bm : Nat} {e q : Int} (hv : n * 2 ^ bm = d * (m * 2 ^ De)) (he : e = (De : Int) - bm - 2) :
    n * (trD e q * 10 ^ (-q).toNat) = trN e q (4 * m) * (d * 10 ^ q.toNat) := by
  rw [trN_u0]
  unfold trD u0
  have e2 : 2 ^ De * 2 ^ (-e).toNat = 2 ^ e.toNat * (4 * 2 ^ bm) := by
    rw [show (4 : Nat) = 2 ^ 2 from rfl, ← Nat.pow_add, ← Nat.pow_add, ← Nat.pow_add]
    congr 1; omega
  have hp : 0 < 2 ^ bm := Nat.pow_pos (by decide)
  generalize 2 ^ De = A2 at *
  generalize 2 ^ (-e).toNat = A3 at *
  generalize 10 ^ q.toNat = A4 at *
  generalize 2 ^ e.toNat = A6 at *
  generalize 10 ^ (-q).toNat = A7 at *
  generalize 2 ^ bm = A9 at *
  refine Nat.eq_of_mul_eq_mul_right hp ?_
  calc n * (A3 * A4 * A7) * A9 = (n * A9) * (A3 * A4 * A7) := by grind
    _ = d * (m * A2) * (A3 * A4 * A7) := by rw [hv]
    _ = d * m * (A2 * A3) * (A4 * A7) := by grind
    _ = d * m * (A6 * (4 * A9)) * (A4 * A7) := by rw [e2]
    _ = 4 * m * (A6 * A7) * (d * A4) * A9 := by grind

/-- log's question in the scaled numbers -/
theorem lg_un {n d v D j : Nat} {q : Int} (hn : 0 < n) (hv0 : 0 < v) (h : n * (D * 10 ^ (-q).toNat) = v * (d * 10 ^ q.toNat)) : lgLe (q + (j : Int)) n d ↔ un D j ≤ v := by
  unfold lgLe un
  refine cross (Nat.mul_pos hn (t10 _)) hv0 ?_
  obtain ⟨k, hk⟩ : ∃ k, k = q + (j : Int) := ⟨_, rfl⟩
  rw [← hk]
  have e10 : 10 ^ q.toNat * 10 ^ j * 10 ^ (-k).toNat = 10 ^ k.toNat * 10 ^ (-q).toNat := by
    rw [← Nat.pow_add, ← Nat.pow_add, ← Nat.pow_add]; congr 1; omega
  have hp : 0 < 10 ^ (-q).toNat := t10 _
  generalize 10 ^ q.toNat = A1 at *
  generalize 10 ^ j = A2 at *
  generalize 10 ^ (-k).toNat = A3 at *
  generalize 10 ^ k.toNat = A4 at *
  generalize 10 ^ (-q).toNat = A5 at *
  refine Nat.eq_of_mul_eq_mul_right hp ?_
  calc A4 * d * v * A5 = (v * d) * (A4 * A5) := by grind
    _ = (v * d) * (A1 * A2 * A3) := by rw [e10]
    _ = (v * (d * A1)) * (A2 * A3) := by grind
    _ = (n * (D * A5)) * (A2 * A3) := by rw [h]
    _ = D * A2 * (n * A3) * A5 := by grind

/-- exact's quotient in the scaled numbers -/
theorem lvl_eq {n d v D j i : Nat} {q T : Int} (h : n * (D * 10 ^ (-q).toNat) = v * (d * 10 ^ q.toNat)) (hk : q + (j : Int) = T - 16 + (i : Int)) :
    n * 10 ^ (-(T - 16)).toNat * un D j = v * (d * 10 ^ (T - 16).toNat * 10 ^ i) := by
  unfold un
  have e10 : 10 ^ q.toNat * 10 ^ (-(T - 16)).toNat * 10 ^ j = 10 ^ (T - 16).toNat * 10 ^ i * 10 ^ (-q).toNat := by
    rw [← Nat.pow_add, ← Nat.pow_add, ← Nat.pow_add, ← Nat.pow_add]; congr 1; omega
  have hp : 0 < 10 ^ (-q).toNat := t10 _
  generalize 10 ^ q.toNat = A1 at *
  generalize 10 ^ j = A2 at *
  generalize 10 ^ (-(T - 16)).toNat = A3 at *
  generalize 10 ^ (T - 16).toNat = A4 at *
  generalize 10 ^ i = A6 at *
  generalize 10 ^ (-q).toNat = A5 at *
  refine Nat.eq_of_mul_eq_mul_right hp ?_
  calc n * A3 * (D * A2) * A5 = (n * (D * A5)) * (A3 * A2) := by grind
    _ = (v * (d * A1)) * (A3 * A2) := by rw [h]
    _ = (v * d) * (A1 * A3 * A2) := by grind
    _ = (v * d) * (A4 * A6 * A5) := by rw [e10]
    _ = v * (d * A4 * A6) * A5 := by grind

/-- the 17 digits -/
theorem a_bounds {n d : Nat} {T : Int} (hd : 0 < d) (hn : 0 < n) (h1 : lgLe T n d) (h2 : ¬ lgLe (T + 1) n d) : 10 ^ 16 ≤ n * 10 ^ (-(T - 16)).toNat / (d * 10 ^ (T - 16).toNat) ∧ n * 10 ^ (-(T - 16)).toNat / (d * 10 ^ (T - 16).toNat) < 10 ^ 17 := by
  have hQ : 0 < d * 10 ^ (T - 16).toNat := Nat.mul_pos hd (t10 _)
  have key : ∀ i : Nat, (10 ^ (16 + i) * (d * 10 ^ (T - 16).toNat) ≤ n * 10 ^ (-(T - 16)).toNat ↔ lgLe (T + (i : Int)) n d) := by
    intro i
    unfold lgLe
    refine cross (Nat.mul_pos hn (t10 _)) (Nat.mul_pos hn (t10 _)) ?_
    have e10 : 10 ^ (16 + i) * 10 ^ (T - 16).toNat * 10 ^ (-(T + (i : Int))).toNat = 10 ^ (T + (i : Int)).toNat * 10 ^ (-(T - 16)).toNat := by
      rw [← Nat.pow_add, ← Nat.pow_add, ← Nat.pow_add]; congr 1; omega
    generalize 10 ^ (16 + i) = A1 at *
    generalize 10 ^ (T - 16).toNat = A2 at *
    generalize 10 ^ (-(T + (i : Int))).toNat = A3 at *
    generalize 10 ^ (T + (i : Int)).toNat = A4 at *
    generalize 10 ^ (-(T - 16)).toNat = A5 at *
    calc A1 * (d * A2) * (n * A3) = d * n * (A1 * A2 * A3) := by grind
      _ = d * n * (A4 * A5) := by rw [e10]
      _ = A4 * d * (n * A5) := by grind
  have k0 := key 0
  have k1 := key 1
  rw [show T + ((0 : Nat) : Int) = T from by omega] at k0
  rw [show T + ((1 : Nat) : Int) = T + 1 from by omega] at k1
  constructor
  · exact (Nat.le_div_iff_mul_le hQ).2 (k0.2 h1)
  · exact (Nat.div_lt_iff_lt_mul hQ).2 (Nat.not_le.1 (fun h => h2 (k1.1 h)))

theorem xsC_eq {okl okh : Bool} {lo c r u : Nat} {half : Int} {P : Nat → Prop} (hl : okl = true ↔ P lo) (hh : okh = true ↔ P (lo + 1)) (h1 : half < 0 ↔ 2 * r < u) (h2 : half = 0 ↔ 2 * r = u) (hc : P c)
    (best : (c = lo ∧ (¬ P (lo + 1) ∨ 2 * r < u ∨ (2 * r = u ∧ lo % 2 = 0))) ∨ (c = lo + 1 ∧ (¬ P lo ∨ u < 2 * r ∨ (2 * r = u ∧ lo % 2 = 1)))) : xsC okl okh lo half = c := by
  unfold xsC
  rcases best with ⟨rfl, hb⟩ | ⟨rfl, hb⟩
  · have ol : okl = true := hl.2 hc
    by_cases oh : okh = true
    · rw [if_pos ⟨ol, oh⟩, if_pos]
      rcases hb with hb | hb | hb
      · exact absurd (hh.1 oh) hb
      · exact Or.inl (h1.2 hb)
      · exact Or.inr ⟨h2.2 hb.1, hb.2⟩
    · rw [if_neg (fun h => oh h.2), if_pos ol]
  · have oh : okh = true := hh.2 hc
    by_cases ol : okl = true
    · rw [if_pos ⟨ol, oh⟩, if_neg]
      rcases hb with hb | hb | hb
      · exact absurd (hl.1 ol) hb
      · rintro (h | ⟨h, _⟩)
        · have := h1.1 h; omega
        · have := h2.1 h; omega
      · rintro (h | ⟨_, h⟩)
        · have := h1.1 h; omega
        · omega
    · rw [if_neg (fun h => ol h.1), if_neg ol]

end Go.Proofs.Ygcoaj
