/-
  WALKS: ConvertFlags and Convert, soft's and exact's.
-/
import Derived.Test.YgcoajRpLaw
import Derived.Test.YgcoajCmpLaw
set_option linter.unusedVariables false
set_option linter.unusedSimpArgs false
namespace Go.Proofs.Ygcoaj
open Go.RowKit

/-! ### the parts of a pattern that is cut to its width -/
theorem opC_mod (E M x : Nat) : upC E M (x % 2 ^ (E + M + 1)) = upC E M x := by unfold upC; rw [fExp_mod, fMan_mod]
theorem opN_mod (E M x : Nat) : upN E M (x % 2 ^ (E + M + 1)) = upN E M x := by unfold upN; rw [opC_mod, fNeg_mod]
theorem opE_mod (E M x : Nat) : upE E M (x % 2 ^ (E + M + 1)) = upE E M x := by unfold upE; rw [opC_mod, fMan_mod, fExp_mod]
theorem opM_mod (E M x : Nat) : upM E M (x % 2 ^ (E + M + 1)) = upM E M x := by unfold upM; rw [opC_mod, fMan_mod]
theorem ovN_mod (E M x : Nat) : vN E M (x % 2 ^ (E + M + 1)) = vN E M x := by unfold vN; rw [opC_mod, opN_mod]
theorem ovNum_mod (E M x : Nat) : vNum E M (x % 2 ^ (E + M + 1)) = vNum E M x := by unfold vNum; rw [opE_mod, opM_mod]
theorem ovDen_mod (E M x : Nat) : vDen E M (x % 2 ^ (E + M + 1)) = vDen E M x := by unfold vDen; rw [opE_mod]
theorem opened (E M : Nat) (h : FOk E M) (x : Nat) (hx : x < 18446744073709551616) (w : World) :
    Calls Oajg.prog 63 #[.agg #[.int .u8 (E : Int), .int .u8 (M : Int)], .int .u64 (x : Int)] w fun e w' => ∃ a1 k1 c1 a2 k2 c2,
      e = .returned (.agg #[.int .u64 ((x % 2 ^ (E + M + 1) : Nat) : Int), .bool (fNeg E M x), .int .i8 (upC E M x), .bool (vN E M x), .slice a1 k1 c1, .slice a2 k2 c2]) ∧ NatIs 2050 w' (.slice a1 k1 c1) (vNum E M x) ∧ NatIs 2050 w' (.slice a2 k2 c2) (vDen E M x) ∧ Below w.heap.size w w' := by
  have := open_ok E M h x hx w
  rw [fNeg_mod, opC_mod, ovN_mod, ovNum_mod, ovDen_mod] at this
  exact this
theorem vDen_ne (E M x : Nat) : vDen E M x ≠ 0 := Nat.ne_of_gt (pp _)
theorem upN_fin {E M x : Nat} (h4 : upC E M x ≠ 4) : upN E M x = fNeg E M x := by unfold upN; rw [if_neg h4]
theorem vN_fin {E M x : Nat} (h4 : upC E M x ≠ 4) (h3 : upC E M x ≠ 3) : vN E M x = fNeg E M x := by unfold vN; rw [if_neg h3, upN_fin h4]

def nanN (E M : Nat) : Nat := (2 ^ E - 1) * 2 ^ M + 2 ^ (M - 1)
def hdI (E M x : Nat) : Int := if sigB E M x || sigB E M x then 1 else 0
/-- Convert, plain -/
def cvN (E1 M1 E2 M2 mo a : Nat) : Nat := if upC E1 M1 a = 4 then nanN E2 M2 else if upC E1 M1 a = 3 then sgnd E2 M2 (fNeg E1 M1 a) (infN E2 M2) else rfN E2 M2 mo (fNeg E1 M1 a) (vNum E1 M1 a) (vDen E1 M1 a)
def cvF (E1 M1 E2 M2 mo a : Nat) : Int := if upC E1 M1 a = 4 then hdI E1 M1 a else if upC E1 M1 a = 3 then 0 else (rfF E2 M2 mo (fNeg E1 M1 a) (vNum E1 M1 a) (vDen E1 M1 a) : Nat)

theorem ff_next {w W W' : World} {b c E1 M1 E2 M2 : Nat} (h : (W.cell? ⟨b, 0, none⟩ = some (.int .u8 (E1 : Int)) ∧ W.cell? ⟨b, 1, none⟩ = some (.int .u8 (M1 : Int)) ∧ b < W.heap.size ∧ Below w.heap.size w W) ∧ (W.cell? ⟨c, 0, none⟩ = some (.int .u8 (E2 : Int)) ∧ W.cell? ⟨c, 1, none⟩ = some (.int .u8 (M2 : Int)) ∧ c < W.heap.size ∧ Below w.heap.size w W)) (hb : Below W.heap.size W W') : (W'.cell? ⟨b, 0, none⟩ = some (.int .u8 (E1 : Int)) ∧ W'.cell? ⟨b, 1, none⟩ = some (.int .u8 (M1 : Int)) ∧ b < W'.heap.size ∧ Below w.heap.size w W') ∧ (W'.cell? ⟨c, 0, none⟩ = some (.int .u8 (E2 : Int)) ∧ W'.cell? ⟨c, 1, none⟩ = some (.int .u8 (M2 : Int)) ∧ c < W'.heap.size ∧ Below w.heap.size w W') := ⟨sf_next h.1 hb, sf_next h.2 hb⟩
theorem fg4_next {w W W' : World} {b c E1 M1 E2 M2 : Nat} {n : Nat} {u0 u1 u2 u3 : Value} (h : (W.cell? ⟨b, 0, none⟩ = some (.int .u8 (E1 : Int)) ∧ W.cell? ⟨b, 1, none⟩ = some (.int .u8 (M1 : Int)) ∧ b < W.heap.size ∧ Below w.heap.size w W) ∧ (W.cell? ⟨c, 0, none⟩ = some (.int .u8 (E2 : Int)) ∧ W.cell? ⟨c, 1, none⟩ = some (.int .u8 (M2 : Int)) ∧ c < W.heap.size ∧ Below w.heap.size w W) ∧ (W.cell? ⟨n, 0, none⟩ = some u0 ∧ W.cell? ⟨n, 1, none⟩ = some u1 ∧ W.cell? ⟨n, 2, none⟩ = some u2 ∧ W.cell? ⟨n, 3, none⟩ = some u3 ∧ (∀ o, W.frozen? ⟨n, o, none⟩ = false) ∧ n < W.heap.size)) (hb : Below W.heap.size W W') : (W'.cell? ⟨b, 0, none⟩ = some (.int .u8 (E1 : Int)) ∧ W'.cell? ⟨b, 1, none⟩ = some (.int .u8 (M1 : Int)) ∧ b < W'.heap.size ∧ Below w.heap.size w W') ∧ (W'.cell? ⟨c, 0, none⟩ = some (.int .u8 (E2 : Int)) ∧ W'.cell? ⟨c, 1, none⟩ = some (.int .u8 (M2 : Int)) ∧ c < W'.heap.size ∧ Below w.heap.size w W') ∧ (W'.cell? ⟨n, 0, none⟩ = some u0 ∧ W'.cell? ⟨n, 1, none⟩ = some u1 ∧ W'.cell? ⟨n, 2, none⟩ = some u2 ∧ W'.cell? ⟨n, 3, none⟩ = some u3 ∧ (∀ o, W'.frozen? ⟨n, o, none⟩ = false) ∧ n < W'.heap.size) := ⟨sf_next h.1 hb, sf_next h.2.1 hb, bx4_next h.2.2 hb⟩
theorem fg4_drew {w W : World} {b c E1 M1 E2 M2 : Nat} {n : Nat} {u0 u1 u2 u3 : Value} (h : (W.cell? ⟨b, 0, none⟩ = some (.int .u8 (E1 : Int)) ∧ W.cell? ⟨b, 1, none⟩ = some (.int .u8 (M1 : Int)) ∧ b < W.heap.size ∧ Below w.heap.size w W) ∧ (W.cell? ⟨c, 0, none⟩ = some (.int .u8 (E2 : Int)) ∧ W.cell? ⟨c, 1, none⟩ = some (.int .u8 (M2 : Int)) ∧ c < W.heap.size ∧ Below w.heap.size w W) ∧ (W.cell? ⟨n, 0, none⟩ = some u0 ∧ W.cell? ⟨n, 1, none⟩ = some u1 ∧ W.cell? ⟨n, 2, none⟩ = some u2 ∧ W.cell? ⟨n, 3, none⟩ = some u3 ∧ (∀ o, W.frozen? ⟨n, o, none⟩ = false) ∧ n < W.heap.size)) : (W.drew.cell? ⟨b, 0, none⟩ = some (.int .u8 (E1 : Int)) ∧ W.drew.cell? ⟨b, 1, none⟩ = some (.int .u8 (M1 : Int)) ∧ b < W.drew.heap.size ∧ Below w.heap.size w W.drew) ∧ (W.drew.cell? ⟨c, 0, none⟩ = some (.int .u8 (E2 : Int)) ∧ W.drew.cell? ⟨c, 1, none⟩ = some (.int .u8 (M2 : Int)) ∧ c < W.drew.heap.size ∧ Below w.heap.size w W.drew) ∧ (W.drew.cell? ⟨n, 0, none⟩ = some u0 ∧ W.drew.cell? ⟨n, 1, none⟩ = some u1 ∧ W.drew.cell? ⟨n, 2, none⟩ = some u2 ∧ W.drew.cell? ⟨n, 3, none⟩ = some u3 ∧ (∀ o, W.drew.frozen? ⟨n, o, none⟩ = false) ∧ n < W.drew.heap.size) := ⟨sf_drew h.1, sf_drew h.2.1, bx4_drew h.2.2⟩
theorem fg4_made {w W : World} {b c E1 M1 E2 M2 : Nat} (t : Nat) (h : (W.cell? ⟨b, 0, none⟩ = some (.int .u8 (E1 : Int)) ∧ W.cell? ⟨b, 1, none⟩ = some (.int .u8 (M1 : Int)) ∧ b < W.heap.size ∧ Below w.heap.size w W) ∧ (W.cell? ⟨c, 0, none⟩ = some (.int .u8 (E2 : Int)) ∧ W.cell? ⟨c, 1, none⟩ = some (.int .u8 (M2 : Int)) ∧ c < W.heap.size ∧ Below w.heap.size w W)) (u0 u1 u2 u3 : Value) : ((W.alloc (.cells #[u0, u1, u2, u3] t)).cell? ⟨b, 0, none⟩ = some (.int .u8 (E1 : Int)) ∧ (W.alloc (.cells #[u0, u1, u2, u3] t)).cell? ⟨b, 1, none⟩ = some (.int .u8 (M1 : Int)) ∧ b < (W.alloc (.cells #[u0, u1, u2, u3] t)).heap.size ∧ Below w.heap.size w (W.alloc (.cells #[u0, u1, u2, u3] t))) ∧ ((W.alloc (.cells #[u0, u1, u2, u3] t)).cell? ⟨c, 0, none⟩ = some (.int .u8 (E2 : Int)) ∧ (W.alloc (.cells #[u0, u1, u2, u3] t)).cell? ⟨c, 1, none⟩ = some (.int .u8 (M2 : Int)) ∧ c < (W.alloc (.cells #[u0, u1, u2, u3] t)).heap.size ∧ Below w.heap.size w (W.alloc (.cells #[u0, u1, u2, u3] t))) ∧ ((W.alloc (.cells #[u0, u1, u2, u3] t)).cell? ⟨W.heap.size, 0, none⟩ = some u0 ∧ (W.alloc (.cells #[u0, u1, u2, u3] t)).cell? ⟨W.heap.size, 1, none⟩ = some u1 ∧ (W.alloc (.cells #[u0, u1, u2, u3] t)).cell? ⟨W.heap.size, 2, none⟩ = some u2 ∧ (W.alloc (.cells #[u0, u1, u2, u3] t)).cell? ⟨W.heap.size, 3, none⟩ = some u3 ∧ (∀ o, (W.alloc (.cells #[u0, u1, u2, u3] t)).frozen? ⟨W.heap.size, o, none⟩ = false) ∧ W.heap.size < (W.alloc (.cells #[u0, u1, u2, u3] t)).heap.size) := ⟨sf_alloc h.1 _, sf_alloc h.2 _, bx4_made W (m := W.heap.size) u0 u1 u2 u3 t rfl⟩
theorem fg6_next {w W W' : World} {b c E1 M1 E2 M2 : Nat} {n : Nat} {u0 u1 u2 u3 u4 u5 : Value} (h : (W.cell? ⟨b, 0, none⟩ = some (.int .u8 (E1 : Int)) ∧ W.cell? ⟨b, 1, none⟩ = some (.int .u8 (M1 : Int)) ∧ b < W.heap.size ∧ Below w.heap.size w W) ∧ (W.cell? ⟨c, 0, none⟩ = some (.int .u8 (E2 : Int)) ∧ W.cell? ⟨c, 1, none⟩ = some (.int .u8 (M2 : Int)) ∧ c < W.heap.size ∧ Below w.heap.size w W) ∧ (W.cell? ⟨n, 0, none⟩ = some u0 ∧ W.cell? ⟨n, 1, none⟩ = some u1 ∧ W.cell? ⟨n, 2, none⟩ = some u2 ∧ W.cell? ⟨n, 3, none⟩ = some u3 ∧ W.cell? ⟨n, 4, none⟩ = some u4 ∧ W.cell? ⟨n, 5, none⟩ = some u5 ∧ (∀ o, W.frozen? ⟨n, o, none⟩ = false) ∧ n < W.heap.size)) (hb : Below W.heap.size W W') : (W'.cell? ⟨b, 0, none⟩ = some (.int .u8 (E1 : Int)) ∧ W'.cell? ⟨b, 1, none⟩ = some (.int .u8 (M1 : Int)) ∧ b < W'.heap.size ∧ Below w.heap.size w W') ∧ (W'.cell? ⟨c, 0, none⟩ = some (.int .u8 (E2 : Int)) ∧ W'.cell? ⟨c, 1, none⟩ = some (.int .u8 (M2 : Int)) ∧ c < W'.heap.size ∧ Below w.heap.size w W') ∧ (W'.cell? ⟨n, 0, none⟩ = some u0 ∧ W'.cell? ⟨n, 1, none⟩ = some u1 ∧ W'.cell? ⟨n, 2, none⟩ = some u2 ∧ W'.cell? ⟨n, 3, none⟩ = some u3 ∧ W'.cell? ⟨n, 4, none⟩ = some u4 ∧ W'.cell? ⟨n, 5, none⟩ = some u5 ∧ (∀ o, W'.frozen? ⟨n, o, none⟩ = false) ∧ n < W'.heap.size) := ⟨sf_next h.1 hb, sf_next h.2.1 hb, bx6_next h.2.2 hb⟩
theorem fg6_drew {w W : World} {b c E1 M1 E2 M2 : Nat} {n : Nat} {u0 u1 u2 u3 u4 u5 : Value} (h : (W.cell? ⟨b, 0, none⟩ = some (.int .u8 (E1 : Int)) ∧ W.cell? ⟨b, 1, none⟩ = some (.int .u8 (M1 : Int)) ∧ b < W.heap.size ∧ Below w.heap.size w W) ∧ (W.cell? ⟨c, 0, none⟩ = some (.int .u8 (E2 : Int)) ∧ W.cell? ⟨c, 1, none⟩ = some (.int .u8 (M2 : Int)) ∧ c < W.heap.size ∧ Below w.heap.size w W) ∧ (W.cell? ⟨n, 0, none⟩ = some u0 ∧ W.cell? ⟨n, 1, none⟩ = some u1 ∧ W.cell? ⟨n, 2, none⟩ = some u2 ∧ W.cell? ⟨n, 3, none⟩ = some u3 ∧ W.cell? ⟨n, 4, none⟩ = some u4 ∧ W.cell? ⟨n, 5, none⟩ = some u5 ∧ (∀ o, W.frozen? ⟨n, o, none⟩ = false) ∧ n < W.heap.size)) : (W.drew.cell? ⟨b, 0, none⟩ = some (.int .u8 (E1 : Int)) ∧ W.drew.cell? ⟨b, 1, none⟩ = some (.int .u8 (M1 : Int)) ∧ b < W.drew.heap.size ∧ Below w.heap.size w W.drew) ∧ (W.drew.cell? ⟨c, 0, none⟩ = some (.int .u8 (E2 : Int)) ∧ W.drew.cell? ⟨c, 1, none⟩ = some (.int .u8 (M2 : Int)) ∧ c < W.drew.heap.size ∧ Below w.heap.size w W.drew) ∧ (W.drew.cell? ⟨n, 0, none⟩ = some u0 ∧ W.drew.cell? ⟨n, 1, none⟩ = some u1 ∧ W.drew.cell? ⟨n, 2, none⟩ = some u2 ∧ W.drew.cell? ⟨n, 3, none⟩ = some u3 ∧ W.drew.cell? ⟨n, 4, none⟩ = some u4 ∧ W.drew.cell? ⟨n, 5, none⟩ = some u5 ∧ (∀ o, W.drew.frozen? ⟨n, o, none⟩ = false) ∧ n < W.drew.heap.size) := ⟨sf_drew h.1, sf_drew h.2.1, bx6_drew h.2.2⟩
theorem fg6_made {w W : World} {b c E1 M1 E2 M2 : Nat} (t : Nat) (h : (W.cell? ⟨b, 0, none⟩ = some (.int .u8 (E1 : Int)) ∧ W.cell? ⟨b, 1, none⟩ = some (.int .u8 (M1 : Int)) ∧ b < W.heap.size ∧ Below w.heap.size w W) ∧ (W.cell? ⟨c, 0, none⟩ = some (.int .u8 (E2 : Int)) ∧ W.cell? ⟨c, 1, none⟩ = some (.int .u8 (M2 : Int)) ∧ c < W.heap.size ∧ Below w.heap.size w W)) (u0 u1 u2 u3 u4 u5 : Value) : ((W.alloc (.cells #[u0, u1, u2, u3, u4, u5] t)).cell? ⟨b, 0, none⟩ = some (.int .u8 (E1 : Int)) ∧ (W.alloc (.cells #[u0, u1, u2, u3, u4, u5] t)).cell? ⟨b, 1, none⟩ = some (.int .u8 (M1 : Int)) ∧ b < (W.alloc (.cells #[u0, u1, u2, u3, u4, u5] t)).heap.size ∧ Below w.heap.size w (W.alloc (.cells #[u0, u1, u2, u3, u4, u5] t))) ∧ ((W.alloc (.cells #[u0, u1, u2, u3, u4, u5] t)).cell? ⟨c, 0, none⟩ = some (.int .u8 (E2 : Int)) ∧ (W.alloc (.cells #[u0, u1, u2, u3, u4, u5] t)).cell? ⟨c, 1, none⟩ = some (.int .u8 (M2 : Int)) ∧ c < (W.alloc (.cells #[u0, u1, u2, u3, u4, u5] t)).heap.size ∧ Below w.heap.size w (W.alloc (.cells #[u0, u1, u2, u3, u4, u5] t))) ∧ ((W.alloc (.cells #[u0, u1, u2, u3, u4, u5] t)).cell? ⟨W.heap.size, 0, none⟩ = some u0 ∧ (W.alloc (.cells #[u0, u1, u2, u3, u4, u5] t)).cell? ⟨W.heap.size, 1, none⟩ = some u1 ∧ (W.alloc (.cells #[u0, u1, u2, u3, u4, u5] t)).cell? ⟨W.heap.size, 2, none⟩ = some u2 ∧ (W.alloc (.cells #[u0, u1, u2, u3, u4, u5] t)).cell? ⟨W.heap.size, 3, none⟩ = some u3 ∧ (W.alloc (.cells #[u0, u1, u2, u3, u4, u5] t)).cell? ⟨W.heap.size, 4, none⟩ = some u4 ∧ (W.alloc (.cells #[u0, u1, u2, u3, u4, u5] t)).cell? ⟨W.heap.size, 5, none⟩ = some u5 ∧ (∀ o, (W.alloc (.cells #[u0, u1, u2, u3, u4, u5] t)).frozen? ⟨W.heap.size, o, none⟩ = false) ∧ W.heap.size < (W.alloc (.cells #[u0, u1, u2, u3, u4, u5] t)).heap.size) := ⟨sf_alloc h.1 _, sf_alloc h.2 _, bx6_made W (m := W.heap.size) u0 u1 u2 u3 u4 u5 t rfl⟩
theorem ff_box (w : World) (E1 M1 E2 M2 : Nat) : (((w.alloc (.cells #[.int .u8 (E1 : Int), .int .u8 (M1 : Int)] 23)).alloc (.cells #[.int .u8 (E2 : Int), .int .u8 (M2 : Int)] 23)).cell? ⟨w.heap.size, 0, none⟩ = some (.int .u8 (E1 : Int)) ∧ ((w.alloc (.cells #[.int .u8 (E1 : Int), .int .u8 (M1 : Int)] 23)).alloc (.cells #[.int .u8 (E2 : Int), .int .u8 (M2 : Int)] 23)).cell? ⟨w.heap.size, 1, none⟩ = some (.int .u8 (M1 : Int)) ∧ w.heap.size < ((w.alloc (.cells #[.int .u8 (E1 : Int), .int .u8 (M1 : Int)] 23)).alloc (.cells #[.int .u8 (E2 : Int), .int .u8 (M2 : Int)] 23)).heap.size ∧ Below w.heap.size w ((w.alloc (.cells #[.int .u8 (E1 : Int), .int .u8 (M1 : Int)] 23)).alloc (.cells #[.int .u8 (E2 : Int), .int .u8 (M2 : Int)] 23))) ∧ (((w.alloc (.cells #[.int .u8 (E1 : Int), .int .u8 (M1 : Int)] 23)).alloc (.cells #[.int .u8 (E2 : Int), .int .u8 (M2 : Int)] 23)).cell? ⟨(w.heap.size + 1), 0, none⟩ = some (.int .u8 (E2 : Int)) ∧ ((w.alloc (.cells #[.int .u8 (E1 : Int), .int .u8 (M1 : Int)] 23)).alloc (.cells #[.int .u8 (E2 : Int), .int .u8 (M2 : Int)] 23)).cell? ⟨(w.heap.size + 1), 1, none⟩ = some (.int .u8 (M2 : Int)) ∧ (w.heap.size + 1) < ((w.alloc (.cells #[.int .u8 (E1 : Int), .int .u8 (M1 : Int)] 23)).alloc (.cells #[.int .u8 (E2 : Int), .int .u8 (M2 : Int)] 23)).heap.size ∧ Below w.heap.size w ((w.alloc (.cells #[.int .u8 (E1 : Int), .int .u8 (M1 : Int)] 23)).alloc (.cells #[.int .u8 (E2 : Int), .int .u8 (M2 : Int)] 23))) :=
  ⟨sf_alloc (sf_box w E1 M1) _, by
    have h := sf_box (w.alloc (.cells #[.int .u8 (E1 : Int), .int .u8 (M1 : Int)] 23)) E2 M2
    have e : (w.alloc (.cells #[.int .u8 (E1 : Int), .int .u8 (M1 : Int)] 23)).heap.size = w.heap.size + 1 := by simp
    rw [e] at h
    exact ⟨h.1, h.2.1, h.2.2.1, ((Below.refl _ _).alloc (Nat.le_refl _) _).alloc (by simp) _⟩⟩

set_option maxRecDepth 100000 in
set_option maxHeartbeats 4000000 in
theorem convFlagsS_ok (E1 M1 E2 M2 : Nat) (h1 : FOk E1 M1) (h2 : FOk E2 M2) (mo a : Nat) (ha : a < 18446744073709551616) (w : World) :
    Calls Oajg.prog 103 #[.agg #[.int .u8 (E1 : Int), .int .u8 (M1 : Int)], .agg #[.int .u8 (E2 : Int), .int .u8 (M2 : Int)], .int .u8 (mo : Int), .int .u64 (a : Int)] w fun e w' => e = .returned (.tuple #[.int .u64 (cvN E1 M1 E2 M2 mo a : Nat), .int .u8 (cvF E1 M1 E2 M2 mo a)]) ∧ Below w.heap.size w w' := by
  have hF := ff_box w E1 M1 E2 M2
  have HO1 : Hid (∀ w, Calls Oajg.prog 17 #[.agg #[.int .u8 (E1 : Int), .int .u8 (M1 : Int)]] w fun e w' => e = .returned (.bool true) ∧ Below w.heap.size w w') := ok_yes h1
  have HO2 : Hid (∀ w, Calls Oajg.prog 17 #[.agg #[.int .u8 (E2 : Int), .int .u8 (M2 : Int)]] w fun e w' => e = .returned (.bool true) ∧ Below w.heap.size w w') := ok_yes h2
  have HNA : Hid (∀ w, Calls Oajg.prog 64 #[.agg #[.int .u8 (E2 : Int), .int .u8 (M2 : Int)]] w fun e w' => e = .returned (.int .u64 (nanN E2 M2 : Nat)) ∧ Below w.heap.size w w') := nan_ok E2 M2 h2
  have HHE : Hid (∀ w, Calls Oajg.prog 83 #[.agg #[.int .u8 (E1 : Int), .int .u8 (M1 : Int)], .int .u64 (a : Int), .int .u64 (a : Int)] w fun e w' => e = .returned (.int .u8 (hdI E1 M1 a)) ∧ Below w.heap.size w w') := heardS_ok E1 M1 h1 a a ha ha
  have HIN : Hid (∀ w, Calls Oajg.prog 84 #[.agg #[.int .u8 (E2 : Int), .int .u8 (M2 : Int)], .bool (fNeg E1 M1 a)] w fun e w' => e = .returned (.int .u64 (sgnd E2 M2 (fNeg E1 M1 a) (infN E2 M2) : Nat)) ∧ Below w.heap.size w w') := inf_ok E2 M2 h2 (fNeg E1 M1 a)
  have HUP : Hid (∀ w, Calls Oajg.prog 74 #[.agg #[.int .u8 (E1 : Int), .int .u8 (M1 : Int)], .int .u64 (a : Int)] w fun e w' => e = .returned (.agg #[.bool (upN E1 M1 a), .int .i8 (upC E1 M1 a), .int .i16 (upE E1 M1 a), .int .u64 (upM E1 M1 a : Nat)]) ∧ Below w.heap.size w w') := unpack_ok E1 M1 h1 a ha
  have hue := upE_range h1 a
  have HRP : Hid (∀ w, Calls Oajg.prog 85 #[.agg #[.int .u8 (E2 : Int), .int .u8 (M2 : Int)], .int .u8 (mo : Int), .bool (fNeg E1 M1 a), .int .i16 (upE E1 M1 a), .int .u64 (upM E1 M1 a : Nat)] w fun e w' => e = .returned (.tuple #[.int .u64 (rfN E2 M2 mo (fNeg E1 M1 a) (vNum E1 M1 a) (vDen E1 M1 a) : Nat), .int .u8 (rfF E2 M2 mo (fNeg E1 M1 a) (vNum E1 M1 a) (vDen E1 M1 a) : Nat)]) ∧ Below w.heap.size w w') := fun w => by
    have hm := upM_lt E1 M1 a (by have := h1.m52; omega)
    have := roundPack_ok E2 M2 h2 mo (fNeg E1 M1 a) (upE E1 M1 a) (upM E1 M1 a) hm (by omega) (by omega) w
    have hl := rp_rf (mo := mo) (neg := fNeg E1 M1 a) (exp := upE E1 M1 a) (sig := upM E1 M1 a) (n := vNum E1 M1 a) (d := vDen E1 M1 a) (a0 := (-upE E1 M1 a).toNat) (b0 := (upE E1 M1 a).toNat) h2 hm (vDen_ne _ _ _) (by omega) (by
      unfold vNum vDen
      rw [Nat.mul_right_comm, Nat.mul_comm (upM E1 M1 a)])
    rw [hl.1, hl.2] at this
    exact this
  have HCN : Hid (upC E1 M1 a ≠ 4 → upN E1 M1 a = fNeg E1 M1 a) := upN_fin
  have HVN : Hid (upC E1 M1 a ≠ 4 → upC E1 M1 a ≠ 3 → vN E1 M1 a = fNeg E1 M1 a) := vN_fin
  by_cases c4 : upC E1 M1 a = 4
  · have HRN : Hid (cvN E1 M1 E2 M2 mo a = nanN E2 M2) := by show _ = _; unfold cvN; rw [if_pos c4]
    have HRF : Hid (cvF E1 M1 E2 M2 mo a = hdI E1 M1 a) := by show _ = _; unfold cvF; rw [if_pos c4]
    clear h1 h2 HCN HVN HIN HRP hue
    generalize hdI E1 M1 a = HD at *
    generalize nanN E2 M2 = NA at *
    generalize sgnd E2 M2 (fNeg E1 M1 a) (infN E2 M2) = IN at *
    generalize vNum E1 M1 a = NUM at *
    generalize vDen E1 M1 a = DEN at *
    generalize cvN E1 M1 E2 M2 mo a = RN at *
    generalize cvF E1 M1 E2 M2 mo a = RF at *
    generalize upC E1 M1 a = C at *
    generalize upE E1 M1 a = VE at *
    generalize upM E1 M1 a = VM at *
    generalize upN E1 M1 a = NG at *
    have j4 : (C == 4) = true := by simp [c4]
    clear c4
    go_enter Oajg.func103, Oajg.ntmps103
    go_wp2_with fail
    refine Calls.mono (HO1.out _) ?_
    rintro _ w1 ⟨rfl, hb⟩
    replace hF := ff_next hF hb
    clear hb
    go_wp2_with fail
    refine Calls.mono (HO2.out _) ?_
    rintro _ w2 ⟨rfl, hb⟩
    replace hF := ff_next hF hb
    clear hb
    go_wp2_with fail
    refine Calls.mono (HUP.out _) ?_
    rintro _ w3 ⟨rfl, hb⟩
    replace hF := ff_next hF hb
    have hG := fg4_made 107 hF (.bool NG) (.int .i8 C) (.int .i16 VE) (.int .u64 (VM : Int))
    clear hb hF
    go_wp2_with fail
    have hwn : w3.heap.size = w3.heap.size := rfl
    go_region_held3 (fun W => (W.cell? ⟨w.heap.size, 0, none⟩ = some (.int .u8 (E1 : Int)) ∧ W.cell? ⟨w.heap.size, 1, none⟩ = some (.int .u8 (M1 : Int)) ∧ w.heap.size < W.heap.size ∧ Below w.heap.size w W) ∧ (W.cell? ⟨(w.heap.size + 1), 0, none⟩ = some (.int .u8 (E2 : Int)) ∧ W.cell? ⟨(w.heap.size + 1), 1, none⟩ = some (.int .u8 (M2 : Int)) ∧ (w.heap.size + 1) < W.heap.size ∧ Below w.heap.size w W) ∧ (W.cell? ⟨w3.heap.size, 0, none⟩ = some (.bool NG) ∧ W.cell? ⟨w3.heap.size, 1, none⟩ = some (.int .i8 C) ∧ W.cell? ⟨w3.heap.size, 2, none⟩ = some (.int .i16 VE) ∧ W.cell? ⟨w3.heap.size, 3, none⟩ = some (.int .u64 (VM : Int)) ∧ (∀ o, W.frozen? ⟨w3.heap.size, o, none⟩ = false) ∧ w3.heap.size < W.heap.size))
      ((repeat' (first | with_reducible assumption | with_reducible refine fg4_drew ?_)))
      ((first | (go_at_call 64; refine Calls.mono (HNA.out _) ?_; rintro _ w4 ⟨rfl, hb⟩; have hG4 := fg4_next (by with_reducible assumption) hb; clear hb) | (go_at_call 83; refine Calls.mono (HHE.out _) ?_; rintro _ w5 ⟨rfl, hb⟩; have hG5 := fg4_next (by with_reducible assumption) hb; clear hb)))
    go_wp2_with fail
    go_ret2
    exact ⟨by rw [HRN.out, HRF.out]; rfl, by first | exact hG5.1.2.2.2 | exact hG4.1.2.2.2⟩
  by_cases c3 : upC E1 M1 a = 3
  · have HRN : Hid (cvN E1 M1 E2 M2 mo a = sgnd E2 M2 (fNeg E1 M1 a) (infN E2 M2)) := by show _ = _; unfold cvN; rw [if_neg c4, if_pos c3]
    have HRF : Hid (cvF E1 M1 E2 M2 mo a = 0) := by show _ = _; unfold cvF; rw [if_neg c4, if_pos c3]
    have hNG := HCN.out c4
    rw [hNG] at HUP
    clear hNG
    clear h1 h2 HCN HVN HNA HHE HRP hue
    generalize hdI E1 M1 a = HD at *
    generalize nanN E2 M2 = NA at *
    generalize sgnd E2 M2 (fNeg E1 M1 a) (infN E2 M2) = IN at *
    generalize vNum E1 M1 a = NUM at *
    generalize vDen E1 M1 a = DEN at *
    generalize cvN E1 M1 E2 M2 mo a = RN at *
    generalize cvF E1 M1 E2 M2 mo a = RF at *
    generalize upC E1 M1 a = C at *
    generalize upE E1 M1 a = VE at *
    generalize upM E1 M1 a = VM at *
    generalize fNeg E1 M1 a = NG at *
    have j4 : (C == 4) = false := by simp [c4]
    have j3 : (C == 3) = true := by simp [c3]
    clear c4 c3
    go_enter Oajg.func103, Oajg.ntmps103
    go_wp2_with fail
    refine Calls.mono (HO1.out _) ?_
    rintro _ w1 ⟨rfl, hb⟩
    replace hF := ff_next hF hb
    clear hb
    go_wp2_with fail
    refine Calls.mono (HO2.out _) ?_
    rintro _ w2 ⟨rfl, hb⟩
    replace hF := ff_next hF hb
    clear hb
    go_wp2_with fail
    refine Calls.mono (HUP.out _) ?_
    rintro _ w3 ⟨rfl, hb⟩
    replace hF := ff_next hF hb
    have hG := fg4_made 107 hF (.bool NG) (.int .i8 C) (.int .i16 VE) (.int .u64 (VM : Int))
    clear hb hF
    go_wp2_with fail
    refine Calls.mono (HIN.out _) ?_
    rintro _ w4 ⟨rfl, hb⟩
    have hG4 := fg4_next hG hb
    clear hb
    go_wp2_with fail
    go_ret2
    exact ⟨by rw [HRN.out, HRF.out]; rfl, hG4.1.2.2.2⟩
  have HRN : Hid (cvN E1 M1 E2 M2 mo a = rfN E2 M2 mo (fNeg E1 M1 a) (vNum E1 M1 a) (vDen E1 M1 a)) := by show _ = _; unfold cvN; rw [if_neg c4, if_neg c3]
  have HRF : Hid (cvF E1 M1 E2 M2 mo a = (rfF E2 M2 mo (fNeg E1 M1 a) (vNum E1 M1 a) (vDen E1 M1 a) : Nat)) := by show _ = _; unfold cvF; rw [if_neg c4, if_neg c3]
  have hNG := HCN.out c4
  rw [hNG] at HUP
  clear hNG h1 h2 HCN HVN HNA HHE HIN hue
  generalize rfN E2 M2 mo (fNeg E1 M1 a) (vNum E1 M1 a) (vDen E1 M1 a) = ZN at *
  generalize rfF E2 M2 mo (fNeg E1 M1 a) (vNum E1 M1 a) (vDen E1 M1 a) = ZF at *
  generalize cvN E1 M1 E2 M2 mo a = RN at *
  generalize cvF E1 M1 E2 M2 mo a = RF at *
  generalize upC E1 M1 a = C at *
  generalize upE E1 M1 a = VE at *
  generalize upM E1 M1 a = VM at *
  generalize fNeg E1 M1 a = NG at *
  have j4 : (C == 4) = false := by simp [c4]
  have j3 : (C == 3) = false := by simp [c3]
  clear c4 c3
  go_enter Oajg.func103, Oajg.ntmps103
  go_wp2_with fail
  refine Calls.mono (HO1.out _) ?_
  rintro _ w1 ⟨rfl, hb⟩
  replace hF := ff_next hF hb
  clear hb
  go_wp2_with fail
  refine Calls.mono (HO2.out _) ?_
  rintro _ w2 ⟨rfl, hb⟩
  replace hF := ff_next hF hb
  clear hb
  go_wp2_with fail
  refine Calls.mono (HUP.out _) ?_
  rintro _ w3 ⟨rfl, hb⟩
  replace hF := ff_next hF hb
  have hG := fg4_made 107 hF (.bool NG) (.int .i8 C) (.int .i16 VE) (.int .u64 (VM : Int))
  clear hb hF
  go_wp2_with fail
  refine Calls.mono (HRP.out _) ?_
  rintro _ w4 ⟨rfl, hb⟩
  have hG4 := fg4_next hG hb
  clear hb
  go_wp2_with fail
  go_ret2
  exact ⟨by rw [HRN.out, HRF.out]; rfl, hG4.1.2.2.2⟩

set_option maxRecDepth 100000 in
set_option maxHeartbeats 4000000 in
theorem convFlagsX_ok (E1 M1 E2 M2 : Nat) (h1 : FOk E1 M1) (h2 : FOk E2 M2) (mo a : Nat) (ha : a < 18446744073709551616) (w : World) :
    Calls Oajg.prog 104 #[.agg #[.int .u8 (E1 : Int), .int .u8 (M1 : Int)], .agg #[.int .u8 (E2 : Int), .int .u8 (M2 : Int)], .int .u8 (mo : Int), .int .u64 (a : Int)] w fun e w' => e = .returned (.tuple #[.int .u64 (cvN E1 M1 E2 M2 mo a : Nat), .int .u8 (cvF E1 M1 E2 M2 mo a)]) ∧ Below w.heap.size w w' := by
  have hF := ff_box w E1 M1 E2 M2
  have HO1 : Hid (∀ w, Calls Oajg.prog 17 #[.agg #[.int .u8 (E1 : Int), .int .u8 (M1 : Int)]] w fun e w' => e = .returned (.bool true) ∧ Below w.heap.size w w') := ok_yes h1
  have HO2 : Hid (∀ w, Calls Oajg.prog 17 #[.agg #[.int .u8 (E2 : Int), .int .u8 (M2 : Int)]] w fun e w' => e = .returned (.bool true) ∧ Below w.heap.size w w') := ok_yes h2
  have HNA : Hid (∀ w, Calls Oajg.prog 64 #[.agg #[.int .u8 (E2 : Int), .int .u8 (M2 : Int)]] w fun e w' => e = .returned (.int .u64 (nanN E2 M2 : Nat)) ∧ Below w.heap.size w w') := nan_ok E2 M2 h2
  have HHE : Hid (∀ w, Calls Oajg.prog 65 #[.agg #[.int .u8 (E1 : Int), .int .u8 (M1 : Int)], .int .u64 (a : Int), .int .u64 (a : Int)] w fun e w' => e = .returned (.int .u8 (hdI E1 M1 a)) ∧ Below w.heap.size w w') := heardX_ok E1 M1 h1 a a ha ha
  have HIN : Hid (∀ w, Calls Oajg.prog 84 #[.agg #[.int .u8 (E2 : Int), .int .u8 (M2 : Int)], .bool (fNeg E1 M1 a)] w fun e w' => e = .returned (.int .u64 (sgnd E2 M2 (fNeg E1 M1 a) (infN E2 M2) : Nat)) ∧ Below w.heap.size w w') := inf_ok E2 M2 h2 (fNeg E1 M1 a)
  have HUP : Hid (∀ w, Calls Oajg.prog 63 #[.agg #[.int .u8 (E1 : Int), .int .u8 (M1 : Int)], .int .u64 (a : Int)] w fun e w' => ∃ a1 k1 c1 a2 k2 c2, e = .returned (.agg #[.int .u64 ((a % 2 ^ (E1 + M1 + 1) : Nat) : Int), .bool (fNeg E1 M1 a), .int .i8 (upC E1 M1 a), .bool (vN E1 M1 a), .slice a1 k1 c1, .slice a2 k2 c2]) ∧ NatIs 2050 w' (.slice a1 k1 c1) (vNum E1 M1 a) ∧ NatIs 2050 w' (.slice a2 k2 c2) (vDen E1 M1 a) ∧ Below w.heap.size w w') := opened E1 M1 h1 a ha
  have HDN : Hid (vDen E1 M1 a ≠ 0) := vDen_ne E1 M1 a
  have HFO : Hid (FOk E2 M2) := h2
  have HCN : Hid (upC E1 M1 a ≠ 4 → upN E1 M1 a = fNeg E1 M1 a) := upN_fin
  have HVN : Hid (upC E1 M1 a ≠ 4 → upC E1 M1 a ≠ 3 → vN E1 M1 a = fNeg E1 M1 a) := vN_fin
  by_cases c4 : upC E1 M1 a = 4
  · have HRN : Hid (cvN E1 M1 E2 M2 mo a = nanN E2 M2) := by show _ = _; unfold cvN; rw [if_pos c4]
    have HRF : Hid (cvF E1 M1 E2 M2 mo a = hdI E1 M1 a) := by show _ = _; unfold cvF; rw [if_pos c4]
    clear h1 h2 HCN HVN HIN HDN HFO
    generalize hdI E1 M1 a = HD at *
    generalize nanN E2 M2 = NA at *
    generalize sgnd E2 M2 (fNeg E1 M1 a) (infN E2 M2) = IN at *
    generalize vNum E1 M1 a = NUM at *
    generalize vDen E1 M1 a = DEN at *
    generalize cvN E1 M1 E2 M2 mo a = RN at *
    generalize cvF E1 M1 E2 M2 mo a = RF at *
    generalize upC E1 M1 a = C at *
    generalize vN E1 M1 a = VN at *
    generalize ((a % 2 ^ (E1 + M1 + 1) : Nat) : Int) = XX at *
    generalize fNeg E1 M1 a = NG at *
    have j4 : (C == 4) = true := by simp [c4]
    clear c4
    go_enter Oajg.func104, Oajg.ntmps104
    go_wp2_with fail
    refine Calls.mono (HO1.out _) ?_
    rintro _ w1 ⟨rfl, hb⟩
    replace hF := ff_next hF hb
    clear hb
    go_wp2_with fail
    refine Calls.mono (HO2.out _) ?_
    rintro _ w2 ⟨rfl, hb⟩
    replace hF := ff_next hF hb
    clear hb
    go_wp2_with fail
    refine Calls.mono (HUP.out _) ?_
    rintro _ w3 ⟨a1, k1, c1, a2, k2, c2, rfl, hN1, hN2, hb⟩
    replace hF := ff_next hF hb
    have hG := fg6_made 98 hF (.int .u64 XX) (.bool NG) (.int .i8 C) (.bool VN) (.slice a1 k1 c1) (.slice a2 k2 c2)
    have HN1 : Hid (NatIs 2050 (w3.alloc (.cells #[.int .u64 XX, .bool NG, .int .i8 C, .bool VN, .slice a1 k1 c1, .slice a2 k2 c2] 98)) (.slice a1 k1 c1) NUM) := hN1.kept ((Below.refl _ _).alloc (Nat.le_refl _) _)
    have HN2 : Hid (NatIs 2050 (w3.alloc (.cells #[.int .u64 XX, .bool NG, .int .i8 C, .bool VN, .slice a1 k1 c1, .slice a2 k2 c2] 98)) (.slice a2 k2 c2) DEN) := hN2.kept ((Below.refl _ _).alloc (Nat.le_refl _) _)
    clear hb hF hN1 hN2
    go_wp2_with fail
    have hwn : w3.heap.size = w3.heap.size := rfl
    go_region_held3 (fun W => (W.cell? ⟨w.heap.size, 0, none⟩ = some (.int .u8 (E1 : Int)) ∧ W.cell? ⟨w.heap.size, 1, none⟩ = some (.int .u8 (M1 : Int)) ∧ w.heap.size < W.heap.size ∧ Below w.heap.size w W) ∧ (W.cell? ⟨(w.heap.size + 1), 0, none⟩ = some (.int .u8 (E2 : Int)) ∧ W.cell? ⟨(w.heap.size + 1), 1, none⟩ = some (.int .u8 (M2 : Int)) ∧ (w.heap.size + 1) < W.heap.size ∧ Below w.heap.size w W) ∧ (W.cell? ⟨w3.heap.size, 0, none⟩ = some (.int .u64 XX) ∧ W.cell? ⟨w3.heap.size, 1, none⟩ = some (.bool NG) ∧ W.cell? ⟨w3.heap.size, 2, none⟩ = some (.int .i8 C) ∧ W.cell? ⟨w3.heap.size, 3, none⟩ = some (.bool VN) ∧ W.cell? ⟨w3.heap.size, 4, none⟩ = some (.slice a1 k1 c1) ∧ W.cell? ⟨w3.heap.size, 5, none⟩ = some (.slice a2 k2 c2) ∧ (∀ o, W.frozen? ⟨w3.heap.size, o, none⟩ = false) ∧ w3.heap.size < W.heap.size))
      ((repeat' (first | with_reducible assumption | with_reducible refine fg6_drew ?_)))
      ((first | (go_at_call 64; refine Calls.mono (HNA.out _) ?_; rintro _ w4 ⟨rfl, hb⟩; have hG4 := fg6_next (by with_reducible assumption) hb; clear hb) | (go_at_call 65; refine Calls.mono (HHE.out _) ?_; rintro _ w5 ⟨rfl, hb⟩; have hG5 := fg6_next (by with_reducible assumption) hb; clear hb)))
    go_wp2_with fail
    go_ret2
    exact ⟨by rw [HRN.out, HRF.out]; rfl, by first | exact hG5.1.2.2.2 | exact hG4.1.2.2.2⟩
  by_cases c3 : upC E1 M1 a = 3
  · have HRN : Hid (cvN E1 M1 E2 M2 mo a = sgnd E2 M2 (fNeg E1 M1 a) (infN E2 M2)) := by show _ = _; unfold cvN; rw [if_neg c4, if_pos c3]
    have HRF : Hid (cvF E1 M1 E2 M2 mo a = 0) := by show _ = _; unfold cvF; rw [if_neg c4, if_pos c3]
    clear h1 h2 HCN HVN HNA HHE HDN HFO
    generalize hdI E1 M1 a = HD at *
    generalize nanN E2 M2 = NA at *
    generalize sgnd E2 M2 (fNeg E1 M1 a) (infN E2 M2) = IN at *
    generalize vNum E1 M1 a = NUM at *
    generalize vDen E1 M1 a = DEN at *
    generalize cvN E1 M1 E2 M2 mo a = RN at *
    generalize cvF E1 M1 E2 M2 mo a = RF at *
    generalize upC E1 M1 a = C at *
    generalize vN E1 M1 a = VN at *
    generalize ((a % 2 ^ (E1 + M1 + 1) : Nat) : Int) = XX at *
    generalize fNeg E1 M1 a = NG at *
    have j4 : (C == 4) = false := by simp [c4]
    have j3 : (C == 3) = true := by simp [c3]
    clear c4 c3
    go_enter Oajg.func104, Oajg.ntmps104
    go_wp2_with fail
    refine Calls.mono (HO1.out _) ?_
    rintro _ w1 ⟨rfl, hb⟩
    replace hF := ff_next hF hb
    clear hb
    go_wp2_with fail
    refine Calls.mono (HO2.out _) ?_
    rintro _ w2 ⟨rfl, hb⟩
    replace hF := ff_next hF hb
    clear hb
    go_wp2_with fail
    refine Calls.mono (HUP.out _) ?_
    rintro _ w3 ⟨a1, k1, c1, a2, k2, c2, rfl, hN1, hN2, hb⟩
    replace hF := ff_next hF hb
    have hG := fg6_made 98 hF (.int .u64 XX) (.bool NG) (.int .i8 C) (.bool VN) (.slice a1 k1 c1) (.slice a2 k2 c2)
    have HN1 : Hid (NatIs 2050 (w3.alloc (.cells #[.int .u64 XX, .bool NG, .int .i8 C, .bool VN, .slice a1 k1 c1, .slice a2 k2 c2] 98)) (.slice a1 k1 c1) NUM) := hN1.kept ((Below.refl _ _).alloc (Nat.le_refl _) _)
    have HN2 : Hid (NatIs 2050 (w3.alloc (.cells #[.int .u64 XX, .bool NG, .int .i8 C, .bool VN, .slice a1 k1 c1, .slice a2 k2 c2] 98)) (.slice a2 k2 c2) DEN) := hN2.kept ((Below.refl _ _).alloc (Nat.le_refl _) _)
    clear hb hF hN1 hN2
    go_wp2_with fail
    refine Calls.mono (HIN.out _) ?_
    rintro _ w4 ⟨rfl, hb⟩
    have hG4 := fg6_next hG hb
    clear hb
    go_wp2_with fail
    go_ret2
    exact ⟨by rw [HRN.out, HRF.out]; rfl, hG4.1.2.2.2⟩
  have HRN : Hid (cvN E1 M1 E2 M2 mo a = rfN E2 M2 mo (fNeg E1 M1 a) (vNum E1 M1 a) (vDen E1 M1 a)) := by show _ = _; unfold cvN; rw [if_neg c4, if_neg c3]
  have HRF : Hid (cvF E1 M1 E2 M2 mo a = (rfF E2 M2 mo (fNeg E1 M1 a) (vNum E1 M1 a) (vDen E1 M1 a) : Nat)) := by show _ = _; unfold cvF; rw [if_neg c4, if_neg c3]
  have hVN := HVN.out c4 c3
  rw [hVN] at HUP
  clear hVN h1 h2 HCN HVN HNA HHE HIN
  generalize vNum E1 M1 a = NUM at *
  generalize vDen E1 M1 a = DEN at *
  generalize cvN E1 M1 E2 M2 mo a = RN at *
  generalize cvF E1 M1 E2 M2 mo a = RF at *
  generalize upC E1 M1 a = C at *
  generalize ((a % 2 ^ (E1 + M1 + 1) : Nat) : Int) = XX at *
  generalize fNeg E1 M1 a = NG at *
  have j4 : (C == 4) = false := by simp [c4]
  have j3 : (C == 3) = false := by simp [c3]
  clear c4 c3
  go_enter Oajg.func104, Oajg.ntmps104
  go_wp2_with fail
  refine Calls.mono (HO1.out _) ?_
  rintro _ w1 ⟨rfl, hb⟩
  replace hF := ff_next hF hb
  clear hb
  go_wp2_with fail
  refine Calls.mono (HO2.out _) ?_
  rintro _ w2 ⟨rfl, hb⟩
  replace hF := ff_next hF hb
  clear hb
  go_wp2_with fail
  refine Calls.mono (HUP.out _) ?_
  rintro _ w3 ⟨a1, k1, c1, a2, k2, c2, rfl, hN1, hN2, hb⟩
  replace hF := ff_next hF hb
  have hG := fg6_made 98 hF (.int .u64 XX) (.bool NG) (.int .i8 C) (.bool NG) (.slice a1 k1 c1) (.slice a2 k2 c2)
  have HN1 : Hid (NatIs 2050 (w3.alloc (.cells #[.int .u64 XX, .bool NG, .int .i8 C, .bool NG, .slice a1 k1 c1, .slice a2 k2 c2] 98)) (.slice a1 k1 c1) NUM) := hN1.kept ((Below.refl _ _).alloc (Nat.le_refl _) _)
  have HN2 : Hid (NatIs 2050 (w3.alloc (.cells #[.int .u64 XX, .bool NG, .int .i8 C, .bool NG, .slice a1 k1 c1, .slice a2 k2 c2] 98)) (.slice a2 k2 c2) DEN) := hN2.kept ((Below.refl _ _).alloc (Nat.le_refl _) _)
  clear hb hF hN1 hN2
  go_wp2_with fail
  have HRX : Hid (Calls Oajg.prog 67 #[.agg #[.int .u8 (E2 : Int), .int .u8 (M2 : Int)], .int .u8 (mo : Int), .agg #[.bool NG, .slice a1 k1 c1, .slice a2 k2 c2]] (w3.alloc (.cells #[.int .u64 XX, .bool NG, .int .i8 C, .bool NG, .slice a1 k1 c1, .slice a2 k2 c2] 98)) fun e w' => e = .returned (.tuple #[.int .u64 (rfN E2 M2 mo NG NUM DEN : Nat), .int .u8 (rfF E2 M2 mo NG NUM DEN : Nat)]) ∧ Below (w3.alloc (.cells #[.int .u64 XX, .bool NG, .int .i8 C, .bool NG, .slice a1 k1 c1, .slice a2 k2 c2] 98)).heap.size (w3.alloc (.cells #[.int .u64 XX, .bool NG, .int .i8 C, .bool NG, .slice a1 k1 c1, .slice a2 k2 c2] 98)) w') := roundFlags_ok E2 M2 HFO.out mo NG 2050 NUM DEN a1 a2 k1 c1 k2 c2 _ HN1.out HN2.out (by decide) HDN.out
  generalize rfN E2 M2 mo NG NUM DEN = ZN at *
  generalize rfF E2 M2 mo NG NUM DEN = ZF at *
  refine Calls.mono HRX.out ?_
  rintro _ w4 ⟨rfl, hb⟩
  have hG4 := fg6_next hG hb
  clear hb
  go_wp2_with fail
  go_ret2
  exact ⟨by rw [HRN.out, HRF.out]; rfl, hG4.1.2.2.2⟩

set_option maxRecDepth 100000 in
set_option maxHeartbeats 1000000 in
theorem convS_ok (E1 M1 E2 M2 : Nat) (h1 : FOk E1 M1) (h2 : FOk E2 M2) (mo a : Nat) (ha : a < 18446744073709551616) (w : World) :
    Calls Oajg.prog 54 #[.agg #[.int .u8 (E1 : Int), .int .u8 (M1 : Int)], .agg #[.int .u8 (E2 : Int), .int .u8 (M2 : Int)], .int .u8 (mo : Int), .int .u64 (a : Int)] w fun e w' => e = .returned (.int .u64 (cvN E1 M1 E2 M2 mo a : Nat)) ∧ Below w.heap.size w w' := by
  have hF := ff_box w E1 M1 E2 M2
  have HC : Hid (∀ w, Calls Oajg.prog 103 #[.agg #[.int .u8 (E1 : Int), .int .u8 (M1 : Int)], .agg #[.int .u8 (E2 : Int), .int .u8 (M2 : Int)], .int .u8 (mo : Int), .int .u64 (a : Int)] w fun e w' => e = .returned (.tuple #[.int .u64 (cvN E1 M1 E2 M2 mo a : Nat), .int .u8 (cvF E1 M1 E2 M2 mo a)]) ∧ Below w.heap.size w w') := convFlagsS_ok E1 M1 E2 M2 h1 h2 mo a ha
  clear h1 h2
  generalize cvN E1 M1 E2 M2 mo a = RN at *
  generalize cvF E1 M1 E2 M2 mo a = RF at *
  go_enter Oajg.func54, Oajg.ntmps54
  go_wp2_with fail
  refine Calls.mono (HC.out _) ?_
  rintro _ w1 ⟨rfl, hb⟩
  replace hF := ff_next hF hb
  clear hb
  go_wp2_with fail
  go_ret
  exact ⟨rfl, hF.1.2.2.2⟩

set_option maxRecDepth 100000 in
set_option maxHeartbeats 1000000 in
theorem convX_ok (E1 M1 E2 M2 : Nat) (h1 : FOk E1 M1) (h2 : FOk E2 M2) (mo a : Nat) (ha : a < 18446744073709551616) (w : World) :
    Calls Oajg.prog 55 #[.agg #[.int .u8 (E1 : Int), .int .u8 (M1 : Int)], .agg #[.int .u8 (E2 : Int), .int .u8 (M2 : Int)], .int .u8 (mo : Int), .int .u64 (a : Int)] w fun e w' => e = .returned (.int .u64 (cvN E1 M1 E2 M2 mo a : Nat)) ∧ Below w.heap.size w w' := by
  have hF := ff_box w E1 M1 E2 M2
  have HC : Hid (∀ w, Calls Oajg.prog 104 #[.agg #[.int .u8 (E1 : Int), .int .u8 (M1 : Int)], .agg #[.int .u8 (E2 : Int), .int .u8 (M2 : Int)], .int .u8 (mo : Int), .int .u64 (a : Int)] w fun e w' => e = .returned (.tuple #[.int .u64 (cvN E1 M1 E2 M2 mo a : Nat), .int .u8 (cvF E1 M1 E2 M2 mo a)]) ∧ Below w.heap.size w w') := convFlagsX_ok E1 M1 E2 M2 h1 h2 mo a ha
  clear h1 h2
  generalize cvN E1 M1 E2 M2 mo a = RN at *
  generalize cvF E1 M1 E2 M2 mo a = RF at *
  go_enter Oajg.func55, Oajg.ntmps55
  go_wp2_with fail
  refine Calls.mono (HC.out _) ?_
  rintro _ w1 ⟨rfl, hb⟩
  replace hF := ff_next hF hb
  clear hb
  go_wp2_with fail
  go_ret
  exact ⟨rfl, hF.1.2.2.2⟩

end Go.Proofs.Ygcoaj
