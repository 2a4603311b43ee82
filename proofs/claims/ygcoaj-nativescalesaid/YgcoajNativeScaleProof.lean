/-
  THE CLAIM: law.NativeScale.
-/
import Derived.Test.YgcoajRows
import Derived.Test.YgcoajFrame
import Derived.Test.YgcoajNs6
import Derived.Lib.SmallJoins
import Derived.WalkKit
import Derived.ProofKit
import Derived.OpenShut
set_option linter.unusedVariables false
set_option linter.unusedSimpArgs false
namespace Go.Proofs.Ygcoaj
open Go.RowKit

theorem t6_next {w W W' : World} {b n : Nat} {u0 u1 x0 x1 : Value} (h : (W.cell? ⟨b, 0, none⟩ = some u0 ∧ W.cell? ⟨b, 1, none⟩ = some u1 ∧ (∀ o, W.frozen? ⟨b, o, none⟩ = false) ∧ b < W.heap.size) ∧ (W.cell? ⟨n, 0, none⟩ = some x0 ∧ W.cell? ⟨n, 1, none⟩ = some x1 ∧ (∀ o, W.frozen? ⟨n, o, none⟩ = false) ∧ n < W.heap.size) ∧ Below w.heap.size w W) (hb : Below W.heap.size W W') : (W'.cell? ⟨b, 0, none⟩ = some u0 ∧ W'.cell? ⟨b, 1, none⟩ = some u1 ∧ (∀ o, W'.frozen? ⟨b, o, none⟩ = false) ∧ b < W'.heap.size) ∧ (W'.cell? ⟨n, 0, none⟩ = some x0 ∧ W'.cell? ⟨n, 1, none⟩ = some x1 ∧ (∀ o, W'.frozen? ⟨n, o, none⟩ = false) ∧ n < W'.heap.size) ∧ Below w.heap.size w W' := ⟨bx2_next h.1 hb, bx2_next h.2.1 hb, below_then h.2.2 hb⟩
theorem t6_drew {w W : World} {b n : Nat} {u0 u1 x0 x1 : Value} (h : (W.cell? ⟨b, 0, none⟩ = some u0 ∧ W.cell? ⟨b, 1, none⟩ = some u1 ∧ (∀ o, W.frozen? ⟨b, o, none⟩ = false) ∧ b < W.heap.size) ∧ (W.cell? ⟨n, 0, none⟩ = some x0 ∧ W.cell? ⟨n, 1, none⟩ = some x1 ∧ (∀ o, W.frozen? ⟨n, o, none⟩ = false) ∧ n < W.heap.size) ∧ Below w.heap.size w W) : (W.drew.cell? ⟨b, 0, none⟩ = some u0 ∧ W.drew.cell? ⟨b, 1, none⟩ = some u1 ∧ (∀ o, W.drew.frozen? ⟨b, o, none⟩ = false) ∧ b < W.drew.heap.size) ∧ (W.drew.cell? ⟨n, 0, none⟩ = some x0 ∧ W.drew.cell? ⟨n, 1, none⟩ = some x1 ∧ (∀ o, W.drew.frozen? ⟨n, o, none⟩ = false) ∧ n < W.drew.heap.size) ∧ Below w.heap.size w W.drew := ⟨bx2_drew h.1, bx2_drew h.2.1, h.2.2.drew⟩
set_option maxRecDepth 100000 in
theorem bin64_ok (w : World) : Calls Oajg.prog 36 #[] w fun e w' => e = .returned (.agg #[.int .u8 11, .int .u8 52]) ∧ Below w.heap.size w w' := by
  have hR := bx2_made w (m := w.heap.size) (.int .u8 0) (.int .u8 0) 23 rfl
  go_enter Oajg.func36, Oajg.ntmps36
  go_wp2_with fail
  refine bodyPost_ret (v := .agg #[.int .u8 11, .int .u8 52]) (by simp [results, Oajg.results36, go_sem, hR]) rfl ⟨rfl, ?_⟩
  first
    | exact (Below.refl _ _).alloc (Nat.le_refl _) _
    | exact (((Below.refl _ _).alloc (Nat.le_refl _) _).setCell (Nat.le_refl _) _).setCell (Nat.le_refl _) _

set_option maxRecDepth 100000 in
theorem bin32_ok (w : World) : Calls Oajg.prog 37 #[] w fun e w' => e = .returned (.agg #[.int .u8 8, .int .u8 23]) ∧ Below w.heap.size w w' := by
  have hR := bx2_made w (m := w.heap.size) (.int .u8 0) (.int .u8 0) 23 rfl
  go_enter Oajg.func37, Oajg.ntmps37
  go_wp2_with fail
  refine bodyPost_ret (v := .agg #[.int .u8 8, .int .u8 23]) (by simp [results, Oajg.results37, go_sem, hR]) rfl ⟨rfl, ?_⟩
  first
    | exact (Below.refl _ _).alloc (Nat.le_refl _) _
    | exact (((Below.refl _ _).alloc (Nat.le_refl _) _).setCell (Nat.le_refl _) _).setCell (Nat.le_refl _) _


theorem sc32_lt (b : Nat) (n : Int) : scN 8 23 0 b n < 4294967296 := by
  unfold scN
  split
  · decide
  · split
    · exact sg_lt (E := 8) (M := 23) (Nat.le_refl _)
    · obtain ⟨x, hx, hw⟩ := rf_word (E := 8) (M := 23) (neg := fNeg 8 23 b) (n := scNum 8 23 b n) (d := scDen 8 23 b n)
      rw [hw]
      exact sg_lt (E := 8) (M := 23) hx

namespace nativeScaleP
set_option maxRecDepth 100000 in
set_option maxHeartbeats 4000000 in
theorem walk (a b : Nat) (n : Int) (ha : a < 18446744073709551616) (hb32 : b < 4294967296) (hn1 : -32768 ≤ n) (hn2 : n ≤ 32767) (w : World) :
    Calls Oajg.prog 6 #[.int .u64 (a : Int), .int .u32 (b : Int), .int .i16 n] w fun e w' => e = .returned (.bool true) ∧ Below w.heap.size w w' := by
  have hb64 : b < 18446744073709551616 := by omega
  have H36 := hidden' bin64_ok
  have H37 := hidden' bin32_ok
  have H38a := hidden' (logB64_ok a ha)
  have H34a : Hid (∀ w, Calls Oajg.prog 34 #[.agg #[.int .u8 11, .int .u8 52], .int .u64 (a : Int)] w fun e w' => e = .returned (.tuple #[.int .i64 (lbN 11 52 a), .bool (lbOk 11 52 a)]) ∧ Below w.heap.size w w') := logS_ok 11 52 f64ok a ha
  have H39 := hidden' (widen_ok b wd_class)
  have H38b := hidden' (logB64_ok (wdN b) (wd_lt b))
  rw [(wd_log b).1, (wd_log b).2] at H38b
  have H34b : Hid (∀ w, Calls Oajg.prog 34 #[.agg #[.int .u8 8, .int .u8 23], .int .u64 (b : Int)] w fun e w' => e = .returned (.tuple #[.int .i64 (lbN 8 23 b), .bool (lbOk 8 23 b)]) ∧ Below w.heap.size w w') := logS_ok 8 23 f32ok b hb64
  have H40a := hidden' (scaleB64_ok a n ha hn1 hn2)
  have H35a : Hid (∀ w, Calls Oajg.prog 35 #[.agg #[.int .u8 11, .int .u8 52], .int .u8 0, .int .u64 (a : Int), .int .i64 n] w fun e w' => e = .returned (.int .u64 (scN 11 52 0 a n : Nat)) ∧ Below w.heap.size w w') := scaleS_ok 11 52 f64ok 0 a ha n
  have H40b := hidden' (scaleB64_ok (wdN b) n (wd_lt b) hn1 hn2)
  have H41 := hidden' (narrow_scaled b n)
  have H35b : Hid (∀ w, Calls Oajg.prog 35 #[.agg #[.int .u8 8, .int .u8 23], .int .u8 0, .int .u64 (b : Int), .int .i64 n] w fun e w' => e = .returned (.int .u64 (scN 8 23 0 b n : Nat)) ∧ Below w.heap.size w w') := scaleS_ok 8 23 f32ok 0 b hb64 n
  have hSB := sc32_lt b n
  generalize lbN 11 52 a = LA at *
  generalize lbOk 11 52 a = KA at *
  generalize lbN 8 23 b = LB at *
  generalize lbOk 8 23 b = KB at *
  generalize scN 11 52 0 a n = SA at *
  generalize scN 8 23 0 b n = SB at *
  generalize scN 11 52 0 (wdN b) n = SY at *
  generalize wdN b = WB at *
  have kSB : IntKind.u64.wrap (SB : Int) = (SB : Int) := wrap64 (by omega)
  have kb : IntKind.u64.wrap (b : Int) = (b : Int) := wrap64 (by omega)
  have kn : IntKind.i64.wrap n = n := by rw [IntKind.wrap_i64]; omega
  go_enter Oajg.func6, Oajg.ntmps6
  go_wp2_with fail
  refine Calls.mono (H36.out _) ?_
  rintro _ w1 ⟨rfl, hb1⟩
  go_wp2_with fail
  refine Calls.mono (H37.out _) ?_
  rintro _ w2 ⟨rfl, hb2⟩
  have hB := below_then hb1 hb2
  have hS : (((w2.alloc (.cells #[.int .u8 11, .int .u8 52] 23)).alloc (.cells #[.int .u8 8, .int .u8 23] 23)).cell? ⟨w2.heap.size, 0, none⟩ = some (.int .u8 11) ∧ ((w2.alloc (.cells #[.int .u8 11, .int .u8 52] 23)).alloc (.cells #[.int .u8 8, .int .u8 23] 23)).cell? ⟨w2.heap.size, 1, none⟩ = some (.int .u8 52) ∧ (∀ o, ((w2.alloc (.cells #[.int .u8 11, .int .u8 52] 23)).alloc (.cells #[.int .u8 8, .int .u8 23] 23)).frozen? ⟨w2.heap.size, o, none⟩ = false) ∧ w2.heap.size < ((w2.alloc (.cells #[.int .u8 11, .int .u8 52] 23)).alloc (.cells #[.int .u8 8, .int .u8 23] 23)).heap.size) ∧ (((w2.alloc (.cells #[.int .u8 11, .int .u8 52] 23)).alloc (.cells #[.int .u8 8, .int .u8 23] 23)).cell? ⟨(w2.heap.size + 1), 0, none⟩ = some (.int .u8 8) ∧ ((w2.alloc (.cells #[.int .u8 11, .int .u8 52] 23)).alloc (.cells #[.int .u8 8, .int .u8 23] 23)).cell? ⟨(w2.heap.size + 1), 1, none⟩ = some (.int .u8 23) ∧ (∀ o, ((w2.alloc (.cells #[.int .u8 11, .int .u8 52] 23)).alloc (.cells #[.int .u8 8, .int .u8 23] 23)).frozen? ⟨(w2.heap.size + 1), o, none⟩ = false) ∧ (w2.heap.size + 1) < ((w2.alloc (.cells #[.int .u8 11, .int .u8 52] 23)).alloc (.cells #[.int .u8 8, .int .u8 23] 23)).heap.size) ∧ Below w.heap.size w ((w2.alloc (.cells #[.int .u8 11, .int .u8 52] 23)).alloc (.cells #[.int .u8 8, .int .u8 23] 23)) := ⟨bx2_alloc (bx2_made w2 (m := w2.heap.size) _ _ 23 rfl) _, bx2_made (w2.alloc (.cells #[.int .u8 11, .int .u8 52] 23)) (m := w2.heap.size + 1) _ _ 23 (by simp), (hB.alloc hB.size _).alloc (by have := hB.size; simp; omega) _⟩
  clear hb1 hb2 hB H36 H37
  go_wp2_with fail
  refine Calls.mono (H38a.out _) ?_
  rintro _ w3 ⟨rfl, hw⟩
  subst w3
  go_wp2_with fail
  refine Calls.mono (H34a.out _) ?_
  rintro _ w3 ⟨rfl, hb⟩
  replace hS := t6_next hS hb
  clear hb
  go_wp2_with fail
  refine Calls.mono (H39.out _) ?_
  rintro _ w3 ⟨rfl, hb⟩
  replace hS := t6_next hS hb
  clear hb
  go_wp2_with fail
  refine Calls.mono (H38b.out _) ?_
  rintro _ w3 ⟨rfl, hw⟩
  subst w3
  go_wp2_with fail
  refine Calls.mono (H34b.out _) ?_
  rintro _ w3 ⟨rfl, hb⟩
  replace hS := t6_next hS hb
  clear hb
  go_wp2_with fail
  go_region_held3 (fun W => (W.cell? ⟨w2.heap.size, 0, none⟩ = some (.int .u8 11) ∧ W.cell? ⟨w2.heap.size, 1, none⟩ = some (.int .u8 52) ∧ (∀ o, W.frozen? ⟨w2.heap.size, o, none⟩ = false) ∧ w2.heap.size < W.heap.size) ∧ (W.cell? ⟨(w2.heap.size + 1), 0, none⟩ = some (.int .u8 8) ∧ W.cell? ⟨(w2.heap.size + 1), 1, none⟩ = some (.int .u8 23) ∧ (∀ o, W.frozen? ⟨(w2.heap.size + 1), o, none⟩ = false) ∧ (w2.heap.size + 1) < W.heap.size) ∧ Below w.heap.size w W)
    ((repeat' (first | with_reducible assumption | with_reducible refine t6_drew ?_)))
    ((first | (go_at_call 40; (with_reducible refine Calls.mono (H40a.out _) ?_); rintro _ w4 ⟨rfl, hw⟩; subst w4) | (go_at_call 40; (with_reducible refine Calls.mono (H40b.out _) ?_); rintro _ w4 ⟨rfl, hw⟩; subst w4) | (go_at_call 35; (with_reducible refine Calls.mono (H35a.out _) ?_); rintro _ w5 ⟨rfl, hb⟩; have hS5 := t6_next (by with_reducible assumption) hb; clear hb) | (go_at_call 35; (with_reducible refine Calls.mono (H35b.out _) ?_); rintro _ w6 ⟨rfl, hb⟩; have hS6 := t6_next (by with_reducible assumption) hb; clear hb) | (go_at_call 39; (with_reducible refine Calls.mono (H39.out _) ?_); rintro _ w7 ⟨rfl, hb⟩; have hS7 := t6_next (by with_reducible assumption) hb; clear hb) | (go_at_call 41; (with_reducible refine Calls.mono (H41.out _) ?_); rintro _ w8 ⟨rfl, hb⟩; have hS8 := t6_next (by with_reducible assumption) hb; clear hb)))
  go_wp2_with fail
  go_ret
  exact ⟨by simp, hS6.2.2⟩

theorem own : ownKnob Oajg.prog.godebug = none := by kernel_rfl
theorem cells23 : Oajg.prog.cellsOf 23 = 2 := by kernel_rfl

/-! ### THE ROW's STEP -/
open Go.ChangeShapes Go.WideShapes Go.ChangeAt Go.Joins
set_option maxRecDepth 100000 in
theorem lifted (os : Os) (started : os.Started) (H : Type) (enc : TypeId × Value → H) :
    ReturnsInHanded {} Oajg.checked os 6 .any (Rows.nativeScaleSpec.pre6 enc Oajg.prog Oajg.f6 Rows.nativeScaleRow.domain false) (Rows.nativeScaleSpec.post enc Oajg.prog Oajg.f6 false true false false) := by
  refine returnsInHanded_of_change (C := Oajg.checked) own started (by kernel_rfl) Oajg.func6
    (ChangeSpec.witness6 (enc := enc) (C := Oajg.checked) false ⟨#[], #[.int .u64 0, .int .u32 0, .int .i16 0], []⟩ 8 (by kernel_rfl) (by kernel_rfl) (by kernel_rfl) (by kernel_rfl)) ?_
  intro W base args ds gs before hval0 hW _ _
  have hval : ∀ (j : Nat) t v, Oajg.f6.params[j]? = some t → args[j]? = some v → Value.okWide Oajg.prog W .any base t v := hval0
  have hW' := hW
  obtain ⟨p, q, hA0, hV, rfl, hfz, hnd⟩ := hW
  have hA : DataW.TrodAll enc Oajg.prog W 0 (fun _ => true) true Oajg.f6.params.toList args.toList ds p := hA0
  rw [Oajg.params6] at hA hval
  obtain ⟨v0, vs0, d0, ds0, p0, q0, hargs, rfl, rfl, h0, r0⟩ := trodAll_cons hA
  obtain ⟨v1, vs1, d1, ds1, p1, q1, rfl, rfl, rfl, h1, r1⟩ := trodAll_cons r0
  obtain ⟨v2, vs2, d2, ds2, p2, q2, rfl, rfl, rfl, h2, r2⟩ := trodAll_cons r1
  obtain ⟨rfl, rfl, rfl⟩ := trodAll_nil r2
  obtain rfl : args = #[v0, v1, v2] := by cases args; simp_all
  obtain ⟨rfl, rfl⟩ := trodVars_none hV
  obtain ⟨x0, rfl, rfl, rfl, wx0⟩ := open_int Oajg.underlying24 (hval 0 24 v0 rfl rfl) h0
  obtain ⟨x1, rfl, rfl, rfl, wx1⟩ := open_int Oajg.underlying57 (hval 1 57 v1 rfl rfl) h1
  obtain ⟨x2, rfl, rfl, rfl, wx2⟩ := open_int Oajg.underlying58 (hval 2 58 v2 rfl rfl) h2
  clear hA0 hval0
  have hbx0 := bounds_u64 wx0
  have hbx1 := bounds_u32 wx1
  have hbx2 := bounds_i16 wx2
  simp only [List.append_nil] at hW'
  have hwalk : Calls Oajg.prog 6 #[.int .u64 x0, .int .u32 x1, .int .i16 x2] W fun e w' => e = .returned (.bool true) ∧ Below W.heap.size W w' := by
    obtain ⟨nx0, rfl⟩ := Int.eq_ofNat_of_zero_le hbx0.1
    obtain ⟨nx1, rfl⟩ := Int.eq_ofNat_of_zero_le hbx1.1
    exact walk nx0 nx1 x2 (by omega) (by omega) (by omega) (by omega) W
  refine hwalk.mono fun e W' ⟨he, hg⟩ => ?_
  subst he
  exact ⟨_, rfl, post_of_below (pa := []) (pv := []) hW' (fun _ _ _ => (trodAll_cons_mk (shut_bool Oajg.underlying4 _) trodAll_mk0)) (fun sp _ => (trodAll_cons_mk (shut_int Oajg.underlying24 wx0) (trodAll_cons_mk (shut_int Oajg.underlying57 wx1) (trodAll_cons_mk (shut_int Oajg.underlying58 wx2) trodAll_mk0)))) (fun _ _ => rfl) rfl hg⟩

theorem over : Rows.nativeScaleRow.holds Oajg.pinned (OpenSpec.ofChange Rows.nativeScaleSpec) :=
  OpenClaim.holds_of_wide 6 Oajg.f6 rfl rfl rfl rfl rfl rfl rfl ⟨rfl, rfl, rfl, rfl, rfl⟩ rfl rfl rfl rfl rfl (by kernel_rfl) Oajg.func6 (by kernel_rfl)
    (of_decide_eq_true (by kernel_rfl)) (by unfold Func.isWrapper; first | (rw [if_pos (by decide +kernel)]; kernel_rfl) | (rw [if_neg (by decide +kernel)]; exact ⟨rfl, rfl⟩))
    (fun os started H enc _ => lifted os started H enc)

theorem proved : Rows.NativeScaleSaid :=
  over
#print axioms proved

end nativeScaleP
end Go.Proofs.Ygcoaj
