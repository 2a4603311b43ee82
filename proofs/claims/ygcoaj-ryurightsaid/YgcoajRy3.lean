/-
  WALKS: exact.log10 (162).
-/
import Derived.Test.YgcoajRy2
set_option linter.unusedVariables false
set_option linter.unusedSimpArgs false
namespace Go.Proofs.Ygcoaj
open Go.RowKit

/-- 10^k <= n/d -/
def lgLe (k : Int) (n d : Nat) : Prop := 10 ^ k.toNat * d ≤ n * 10 ^ (-k).toNat
theorem t10 (c : Nat) : 0 < 10 ^ c := Nat.pow_pos (by decide)
theorem lgLe_down {k j : Int} {n d : Nat} (h : lgLe k n d) (hj : j ≤ k) : lgLe j n d := by
  unfold lgLe at h ⊢
  -- multiply out: 10^j <= 10^k
  have e : j.toNat + (-k).toNat + (k - j).toNat = k.toNat + (-j).toNat := by omega
  have h1 : 10 ^ j.toNat * d * 10 ^ (-k).toNat ≤ n * 10 ^ (-j).toNat * 10 ^ (-k).toNat := by
    have h2 := Nat.mul_le_mul_right (10 ^ (-j).toNat) h
    have e1 : 10 ^ k.toNat * d * 10 ^ (-j).toNat = d * 10 ^ (k.toNat + (-j).toNat) := by rw [Nat.pow_add]; grind
    have e2 : 10 ^ j.toNat * d * 10 ^ (-k).toNat = d * 10 ^ (j.toNat + (-k).toNat) := by rw [Nat.pow_add]; grind
    have e3 : n * 10 ^ (-k).toNat * 10 ^ (-j).toNat = n * 10 ^ (-j).toNat * 10 ^ (-k).toNat := Nat.mul_right_comm _ _ _
    have h3 : d * 10 ^ (j.toNat + (-k).toNat) ≤ d * 10 ^ (k.toNat + (-j).toNat) := Nat.mul_le_mul_left _ (Nat.pow_le_pow_right (by decide) (by omega))
    rw [e1, e3] at h2
    rw [e2]
    omega
  exact Nat.le_of_mul_le_mul_right h1 (t10 _)
theorem s1_next {w W W' A : World} {p : Nat} {x0 x1 x2 : Value} (h : (W.cell? ⟨p, 0, none⟩ = some x0 ∧ W.cell? ⟨p, 1, none⟩ = some x1 ∧ W.cell? ⟨p, 2, none⟩ = some x2 ∧ (∀ o, W.frozen? ⟨p, o, none⟩ = false) ∧ p < W.heap.size) ∧ Kp A W ∧ Below w.heap.size w W) (hb : Below W.heap.size W W') : (W'.cell? ⟨p, 0, none⟩ = some x0 ∧ W'.cell? ⟨p, 1, none⟩ = some x1 ∧ W'.cell? ⟨p, 2, none⟩ = some x2 ∧ (∀ o, W'.frozen? ⟨p, o, none⟩ = false) ∧ p < W'.heap.size) ∧ Kp A W' ∧ Below w.heap.size w W' := ⟨bx3_next h.1 hb, h.2.1.trans (Kp.of hb), below_then h.2.2 hb⟩
theorem s1_drew {w W A : World} {p : Nat} {x0 x1 x2 : Value} (h : (W.cell? ⟨p, 0, none⟩ = some x0 ∧ W.cell? ⟨p, 1, none⟩ = some x1 ∧ W.cell? ⟨p, 2, none⟩ = some x2 ∧ (∀ o, W.frozen? ⟨p, o, none⟩ = false) ∧ p < W.heap.size) ∧ Kp A W ∧ Below w.heap.size w W) : (W.drew.cell? ⟨p, 0, none⟩ = some x0 ∧ W.drew.cell? ⟨p, 1, none⟩ = some x1 ∧ W.drew.cell? ⟨p, 2, none⟩ = some x2 ∧ (∀ o, W.drew.frozen? ⟨p, o, none⟩ = false) ∧ p < W.drew.heap.size) ∧ Kp A W.drew ∧ Below w.heap.size w W.drew := ⟨bx3_drew h.1, h.2.1.drew, h.2.2.drew⟩

set_option maxRecDepth 100000 in
set_option maxHeartbeats 4000000 in
theorem log10_ok (g1 : Bool) (a1 a2 : Option Addr) (k1 c1 k2 c2 B n d : Nat) (T : Int) (hT1 : lgLe T n d) (hT2 : ¬ lgLe (T + 1) n d) (hk0 : ((bitLen n : Int) - (bitLen d : Int)) * 1233 / 4096 - 1 ≤ T) (hb1 : -10000 ≤ (bitLen n : Int) - (bitLen d : Int)) (hb2 : (bitLen n : Int) - (bitLen d : Int) ≤ 10000) (hb3 : bitLen n ≤ 1000000) (hb4 : bitLen d ≤ 1000000) (hTb : T ≤ 10000)
    (w : World) (h1 : NatIs B w (.slice a1 k1 c1) n) (h2 : NatIs B w (.slice a2 k2 c2) d) (hB : B ≤ 100000) :
    Calls Oajg.prog 162 #[.agg #[.bool g1, .slice a1 k1 c1, .slice a2 k2 c2]] w fun e w' => e = .returned (.int .i64 T) ∧ Below w.heap.size w w' := by
  have hbl : Below w.heap.size w (w.alloc (.cells #[.bool g1, .slice a1 k1 c1, .slice a2 k2 c2] 48)) := (Below.refl _ _).alloc (Nat.le_refl _) _
  have hS : ((w.alloc (.cells #[.bool g1, .slice a1 k1 c1, .slice a2 k2 c2] 48)).cell? ⟨w.heap.size, 0, none⟩ = some (.bool g1) ∧ (w.alloc (.cells #[.bool g1, .slice a1 k1 c1, .slice a2 k2 c2] 48)).cell? ⟨w.heap.size, 1, none⟩ = some (.slice a1 k1 c1) ∧ (w.alloc (.cells #[.bool g1, .slice a1 k1 c1, .slice a2 k2 c2] 48)).cell? ⟨w.heap.size, 2, none⟩ = some (.slice a2 k2 c2) ∧ (∀ o, (w.alloc (.cells #[.bool g1, .slice a1 k1 c1, .slice a2 k2 c2] 48)).frozen? ⟨w.heap.size, o, none⟩ = false) ∧ w.heap.size < (w.alloc (.cells #[.bool g1, .slice a1 k1 c1, .slice a2 k2 c2] 48)).heap.size) ∧ Kp w (w.alloc (.cells #[.bool g1, .slice a1 k1 c1, .slice a2 k2 c2] 48)) ∧ Below w.heap.size w (w.alloc (.cells #[.bool g1, .slice a1 k1 c1, .slice a2 k2 c2] 48)) := ⟨bx3_made w (m := w.heap.size) _ _ _ 48 rfl, (Kp.refl w).alloc _, hbl⟩
  have HL1 : Hid (∀ W, ((W.cell? ⟨w.heap.size, 0, none⟩ = some (.bool g1) ∧ W.cell? ⟨w.heap.size, 1, none⟩ = some (.slice a1 k1 c1) ∧ W.cell? ⟨w.heap.size, 2, none⟩ = some (.slice a2 k2 c2) ∧ (∀ o, W.frozen? ⟨w.heap.size, o, none⟩ = false) ∧ w.heap.size < W.heap.size) ∧ Kp w W ∧ Below w.heap.size w W) → Calls Oajg.prog 68 #[.slice a1 k1 c1] W fun e w' => e = .returned (.int .i64 (bitLen n : Nat)) ∧ Below W.heap.size W w') := fun W hW => bitLen_ok B _ n W (h1.kp hW.2.1) (by omega)
  have HL2 : Hid (∀ W, ((W.cell? ⟨w.heap.size, 0, none⟩ = some (.bool g1) ∧ W.cell? ⟨w.heap.size, 1, none⟩ = some (.slice a1 k1 c1) ∧ W.cell? ⟨w.heap.size, 2, none⟩ = some (.slice a2 k2 c2) ∧ (∀ o, W.frozen? ⟨w.heap.size, o, none⟩ = false) ∧ w.heap.size < W.heap.size) ∧ Kp w W ∧ Below w.heap.size w W) → Calls Oajg.prog 68 #[.slice a2 k2 c2] W fun e w' => e = .returned (.int .i64 (bitLen d : Nat)) ∧ Below W.heap.size W w') := fun W hW => bitLen_ok B _ d W (h2.kp hW.2.1) (by omega)
  have HN1 := hid_mk h1
  have HN2 := hid_mk h2
  have HT : Hid (lgLe T n d ∧ ¬ lgLe (T + 1) n d) := ⟨hT1, hT2⟩
  obtain ⟨D, hD⟩ : ∃ D : Int, D = (bitLen n : Int) - (bitLen d : Int) := ⟨_, rfl⟩
  rw [← hD] at hk0 hb1 hb2
  have kD : (bitLen n : Int) - (bitLen d : Int) = D := hD.symm
  have kD2 : IntKind.i64.wrap ((bitLen n : Int) - (bitLen d : Int)) = D := by rw [kD, IntKind.wrap_i64]; omega
  obtain ⟨q, hq⟩ : ∃ q : Int, q = D * 1233 / 4096 := ⟨_, rfl⟩
  have hDm : IntKind.i64.wrap (D * 1233) = D * 1233 := by rw [IntKind.wrap_i64]; omega
  have kq : D * 1233 / 4096 = q := hq.symm
  have kq2 : D * 1233 / 2 ^ 12 = q := kq
  rw [← hq] at hk0
  have hq1 : -10000 ≤ q := by omega
  have HQ := hid_mk hq
  clear h1 h2 hT1 hT2 hbl hD hq
  generalize bitLen n = bn at *
  generalize bitLen d = bd at *
  go_enter Oajg.func162, Oajg.ntmps162
  go_wp2_with fail
  go_region_held3 (fun W => (W.cell? ⟨w.heap.size, 0, none⟩ = some (.bool g1) ∧ W.cell? ⟨w.heap.size, 1, none⟩ = some (.slice a1 k1 c1) ∧ W.cell? ⟨w.heap.size, 2, none⟩ = some (.slice a2 k2 c2) ∧ (∀ o, W.frozen? ⟨w.heap.size, o, none⟩ = false) ∧ w.heap.size < W.heap.size) ∧ Kp w W ∧ Below w.heap.size w W)
    ((repeat' (first | with_reducible assumption | with_reducible refine s1_drew ?_)))
    ((first | (go_at_call 68; (with_reducible refine Calls.mono (HL1.out _ ?hh) ?_); (case hh => with_reducible assumption); rintro _ w4 ⟨rfl, hb⟩; have hS4 := s1_next (by with_reducible assumption) hb; clear hb) | (go_at_call 68; (with_reducible refine Calls.mono (HL2.out _ ?hh) ?_); (case hh => with_reducible assumption); rintro _ w5 ⟨rfl, hb⟩; have hS5 := s1_next (by with_reducible assumption) hb; clear hb)))
  clear hS hS4 kD kD2 kq kq2 hDm HL1 HL2
  go_wp2_with fail
  go_loopw [3] (fun c3 wr => ∃ k : Int, c3 = .int .i64 k ∧ -10001 ≤ k ∧ k ≤ T ∧ ((wr.cell? ⟨w.heap.size, 0, none⟩ = some (.bool g1) ∧ wr.cell? ⟨w.heap.size, 1, none⟩ = some (.slice a1 k1 c1) ∧ wr.cell? ⟨w.heap.size, 2, none⟩ = some (.slice a2 k2 c2) ∧ (∀ o, wr.frozen? ⟨w.heap.size, o, none⟩ = false) ∧ w.heap.size < wr.heap.size) ∧ Kp w wr ∧ Below w.heap.size w wr)) (fun c3 _ => (T - intOf c3).toNat)
  case atStart => exact ⟨_, rfl, by have := HQ.out; omega, by have := HQ.out; omega, hS5⟩
  case round =>
    clear hS5
    obtain ⟨k, rfl, hk1, hk2, hS⟩ := hrel
    have HTT := hid_mk (tenTo_ok (k + 1) (by omega) (by omega))
    have HCR : Hid (∀ W, ((W.cell? ⟨w.heap.size, 0, none⟩ = some (.bool g1) ∧ W.cell? ⟨w.heap.size, 1, none⟩ = some (.slice a1 k1 c1) ∧ W.cell? ⟨w.heap.size, 2, none⟩ = some (.slice a2 k2 c2) ∧ (∀ o, W.frozen? ⟨w.heap.size, o, none⟩ = false) ∧ w.heap.size < W.heap.size) ∧ Kp w W ∧ Below w.heap.size w W) → ∀ b1 l1 e1 b2 l2 e2, NatIs 9048 W (.slice b1 l1 e1) (10 ^ (k + 1).toNat) → NatIs 9048 W (.slice b2 l2 e2) (10 ^ (-(k + 1)).toNat) → Calls Oajg.prog 194 #[.agg #[.bool false, .slice b1 l1 e1, .slice b2 l2 e2], .agg #[.bool g1, .slice a1 k1 c1, .slice a2 k2 c2]] W fun e w' => e = .returned (.int .i8 (cmpZ (10 ^ (k + 1).toNat * d) (n * 10 ^ (-(k + 1)).toNat))) ∧ Below W.heap.size W w') := fun W hW b1 l1 e1 b2 l2 e2 q1 q2 =>
      cmpRat_ok false g1 b1 b2 a1 a2 l1 e1 l2 e2 k1 c1 k2 c2 (B + 9048) _ _ _ _ W (q1.mono (by omega)) (q2.mono (by omega)) ((HN1.out.kp hW.2.1).mono (by omega)) ((HN2.out.kp hW.2.1).mono (by omega)) (by omega)
    have hcz : cmpZ (10 ^ (k + 1).toNat * d) (n * 10 ^ (-(k + 1)).toNat) ≤ 0 ↔ lgLe (k + 1) n d := by
      unfold lgLe cmpZ
      by_cases c1 : 10 ^ (k + 1).toNat * d < n * 10 ^ (-(k + 1)).toNat
      · rw [if_pos c1]; exact ⟨fun _ => Nat.le_of_lt c1, fun _ => by decide⟩
      · rw [if_neg c1]
        by_cases c2 : 10 ^ (k + 1).toNat * d = n * 10 ^ (-(k + 1)).toNat
        · rw [if_pos c2]; exact ⟨fun _ => Nat.le_of_eq c2, fun _ => by decide⟩
        · rw [if_neg c2]; exact ⟨fun h => absurd h (by decide), fun h => absurd h (by omega)⟩
    have hiff : lgLe (k + 1) n d ↔ k < T := by
      constructor
      · intro h
        rcases Int.lt_or_le k T with hc | hc
        · exact hc
        · have : k = T := by omega
          rw [this] at h
          exact absurd h HT.out.2
      · intro h; exact lgLe_down HT.out.1 (by omega)
    rw [hiff] at hcz
    generalize cmpZ (10 ^ (k + 1).toNat * d) (n * 10 ^ (-(k + 1)).toNat) = Z at *
    generalize 10 ^ (k + 1).toNat = P1 at *
    generalize 10 ^ (-(k + 1)).toNat = P2 at *
    have kw : IntKind.i64.wrap (k + 1) = k + 1 := by rw [IntKind.wrap_i64]; omega
    clear hiff
    by_cases hkT : k < T
    · have hZ : Z ≤ 0 := hcz.2 hkT
      clear hcz
      go_wp2_with fail
      go_region_held3 (fun W => (W.cell? ⟨w.heap.size, 0, none⟩ = some (.bool g1) ∧ W.cell? ⟨w.heap.size, 1, none⟩ = some (.slice a1 k1 c1) ∧ W.cell? ⟨w.heap.size, 2, none⟩ = some (.slice a2 k2 c2) ∧ (∀ o, W.frozen? ⟨w.heap.size, o, none⟩ = false) ∧ w.heap.size < W.heap.size) ∧ Kp w W ∧ Below w.heap.size w W)
        ((repeat' (first | with_reducible assumption | with_reducible refine s1_drew ?_)))
        ((first | (go_at_call 195; (with_reducible refine Calls.mono (HTT.out _) ?_); rintro _ w4 ⟨b1, l1, e1, b2, l2, e2, rfl, hNa, hNb, hb⟩; have hS4 := s1_next (by with_reducible assumption) hb; have HNa := hid_mk hNa; have HNb := hid_mk hNb; clear hb hNa hNb) | (go_at_call 194; (with_reducible refine Calls.mono (HCR.out _ ?hh _ _ _ _ _ _ HNa.out HNb.out) ?_); (case hh => with_reducible assumption); rintro _ w5 ⟨rfl, hb⟩; have hS5 := s1_next (by with_reducible assumption) hb; clear hb)))
      go_wp2_with fail
      go_roundw
      case rel => exact ⟨_, rfl, by omega, by omega, hS5⟩
      case measure => simp [intOf]; omega
    · have hZ : ¬ Z ≤ 0 := fun h => hkT (hcz.1 h)
      have hke := hid_mk (show k = T by omega)
      clear hcz hkT
      go_wp2_with fail
      go_region_held3 (fun W => (W.cell? ⟨w.heap.size, 0, none⟩ = some (.bool g1) ∧ W.cell? ⟨w.heap.size, 1, none⟩ = some (.slice a1 k1 c1) ∧ W.cell? ⟨w.heap.size, 2, none⟩ = some (.slice a2 k2 c2) ∧ (∀ o, W.frozen? ⟨w.heap.size, o, none⟩ = false) ∧ w.heap.size < W.heap.size) ∧ Kp w W ∧ Below w.heap.size w W)
        ((repeat' (first | with_reducible assumption | with_reducible refine s1_drew ?_)))
        ((first | (go_at_call 195; (with_reducible refine Calls.mono (HTT.out _) ?_); rintro _ w4 ⟨b1, l1, e1, b2, l2, e2, rfl, hNa, hNb, hb⟩; have hS4 := s1_next (by with_reducible assumption) hb; have HNa := hid_mk hNa; have HNb := hid_mk hNb; clear hb hNa hNb) | (go_at_call 194; (with_reducible refine Calls.mono (HCR.out _ ?hh _ _ _ _ _ _ HNa.out HNb.out) ?_); (case hh => with_reducible assumption); rintro _ w5 ⟨rfl, hb⟩; have hS5 := s1_next (by with_reducible assumption) hb; clear hb)))
      go_wp2_with fail
      go_ret
      exact ⟨by rw [← hke.out]; rfl, hS5.2.2⟩

end Go.Proofs.Ygcoaj
