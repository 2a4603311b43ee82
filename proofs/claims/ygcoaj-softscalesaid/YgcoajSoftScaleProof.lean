/-
  THE CLAIM: law.SoftScale.
-/
import Derived.Test.YgcoajRows
import Derived.Test.YgcoajFrame
import Derived.Test.YgcoajLb
import Derived.Lib.SmallJoins
import Derived.WalkKit
import Derived.ProofKit
import Derived.OpenShut
set_option linter.unusedVariables false
set_option linter.unusedSimpArgs false
namespace Go.Proofs.Ygcoaj
open Go.RowKit

namespace softScaleP
set_option maxRecDepth 100000 in
set_option maxHeartbeats 2000000 in
theorem walk (E M mo a : Nat) (n : Int) (ha : a < 18446744073709551616) (w : World) :
    Calls Oajg.prog 5 #[.agg #[.int .u8 (E : Int), .int .u8 (M : Int)], .int .u8 (mo : Int), .int .u64 (a : Int), .int .i64 n] w fun e w' => e = .returned (.bool true) ∧ Below w.heap.size w w' := by
  have hF := sf_box w E M
  cases hO : okB E M with
  | false =>
    have H1 : Hid (∀ w, Calls Oajg.prog 32 #[.agg #[.int .u8 (E : Int), .int .u8 (M : Int)], .int .u8 (mo : Int), .int .u64 (a : Int), .int .i64 n] w fun e w' => e = .returned (.tuple #[.int .u64 0, .int .u8 0]) ∧ Below w.heap.size w w') := scaleFlagsS_not E M hO mo a n
    have H2 : Hid (∀ w, Calls Oajg.prog 18 #[.agg #[.int .u8 (E : Int), .int .u8 (M : Int)], .int .u8 (mo : Int), .int .u64 (a : Int), .int .i64 n] w fun e w' => e = .returned (.tuple #[.int .u64 0, .int .u8 0]) ∧ Below w.heap.size w w') := scaleFlagsX_not E M hO mo a n
    have H3 : Hid (∀ w, Calls Oajg.prog 33 #[.agg #[.int .u8 (E : Int), .int .u8 (M : Int)], .int .u64 (a : Int)] w fun e w' => e = .returned (.tuple #[.int .i64 0, .bool false, .int .u8 0]) ∧ Below w.heap.size w w') := logFlagsS_not E M hO a
    have H4 : Hid (∀ w, Calls Oajg.prog 19 #[.agg #[.int .u8 (E : Int), .int .u8 (M : Int)], .int .u64 (a : Int)] w fun e w' => e = .returned (.tuple #[.int .i64 0, .bool false, .int .u8 0]) ∧ Below w.heap.size w w') := logFlagsX_not E M hO a
    have H5 : Hid (∀ w, Calls Oajg.prog 34 #[.agg #[.int .u8 (E : Int), .int .u8 (M : Int)], .int .u64 (a : Int)] w fun e w' => e = .returned (.tuple #[.int .i64 0, .bool false]) ∧ Below w.heap.size w w') := logS_not E M hO a
    have H6 : Hid (∀ w, Calls Oajg.prog 35 #[.agg #[.int .u8 (E : Int), .int .u8 (M : Int)], .int .u8 (mo : Int), .int .u64 (a : Int), .int .i64 n] w fun e w' => e = .returned (.int .u64 0) ∧ Below w.heap.size w w') := scaleS_not E M hO mo a n
    clear hO
    go_enter Oajg.func5, Oajg.ntmps5
    go_wp2_with fail
    refine Calls.mono (H1.out _) ?_
    rintro _ w1 ⟨rfl, hb⟩
    replace hF := sf_next hF hb
    clear hb
    go_wp2_with fail
    refine Calls.mono (H2.out _) ?_
    rintro _ w1 ⟨rfl, hb⟩
    replace hF := sf_next hF hb
    clear hb
    go_wp2_with fail
    refine Calls.mono (H3.out _) ?_
    rintro _ w1 ⟨rfl, hb⟩
    replace hF := sf_next hF hb
    clear hb
    go_wp2_with fail
    refine Calls.mono (H4.out _) ?_
    rintro _ w1 ⟨rfl, hb⟩
    replace hF := sf_next hF hb
    clear hb
    go_wp2_with fail
    refine Calls.mono (H5.out _) ?_
    rintro _ w1 ⟨rfl, hb⟩
    replace hF := sf_next hF hb
    clear hb
    go_wp2_with fail
    refine Calls.mono (H6.out _) ?_
    rintro _ w1 ⟨rfl, hb⟩
    replace hF := sf_next hF hb
    clear hb
    go_wp2_with fail
    go_ret
    exact ⟨by first | rfl | simp, hF.2.2.2⟩
  | true =>
    have h := okB_spec hO
    have H1 : Hid (∀ w, Calls Oajg.prog 32 #[.agg #[.int .u8 (E : Int), .int .u8 (M : Int)], .int .u8 (mo : Int), .int .u64 (a : Int), .int .i64 n] w fun e w' => e = .returned (.tuple #[.int .u64 (scN E M mo a n : Nat), .int .u8 (scF E M mo a n)]) ∧ Below w.heap.size w w') := scaleFlagsS_ok E M h mo a ha n
    have H2 : Hid (∀ w, Calls Oajg.prog 18 #[.agg #[.int .u8 (E : Int), .int .u8 (M : Int)], .int .u8 (mo : Int), .int .u64 (a : Int), .int .i64 n] w fun e w' => e = .returned (.tuple #[.int .u64 (scN E M mo a n : Nat), .int .u8 (scF E M mo a n)]) ∧ Below w.heap.size w w') := scaleFlagsX_ok E M h mo a ha n
    have H3 : Hid (∀ w, Calls Oajg.prog 33 #[.agg #[.int .u8 (E : Int), .int .u8 (M : Int)], .int .u64 (a : Int)] w fun e w' => e = .returned (.tuple #[.int .i64 (lbN E M a), .bool (lbOk E M a), .int .u8 (lbF E M a)]) ∧ Below w.heap.size w w') := logFlagsS_ok E M h a ha
    have H4 : Hid (∀ w, Calls Oajg.prog 19 #[.agg #[.int .u8 (E : Int), .int .u8 (M : Int)], .int .u64 (a : Int)] w fun e w' => e = .returned (.tuple #[.int .i64 (lbN E M a), .bool (lbOk E M a), .int .u8 (lbF E M a)]) ∧ Below w.heap.size w w') := logFlagsX_ok E M h a ha
    have H5 : Hid (∀ w, Calls Oajg.prog 34 #[.agg #[.int .u8 (E : Int), .int .u8 (M : Int)], .int .u64 (a : Int)] w fun e w' => e = .returned (.tuple #[.int .i64 (lbN E M a), .bool (lbOk E M a)]) ∧ Below w.heap.size w w') := logS_ok E M h a ha
    have H6 : Hid (∀ w, Calls Oajg.prog 35 #[.agg #[.int .u8 (E : Int), .int .u8 (M : Int)], .int .u8 (mo : Int), .int .u64 (a : Int), .int .i64 n] w fun e w' => e = .returned (.int .u64 (scN E M mo a n : Nat)) ∧ Below w.heap.size w w') := scaleS_ok E M h mo a ha n
    clear hO h
    generalize scN E M mo a n = RN at *
    generalize scF E M mo a n = RF at *
    generalize lbN E M a = LN at *
    generalize lbOk E M a = LK at *
    generalize lbF E M a = LF at *
    go_enter Oajg.func5, Oajg.ntmps5
    go_wp2_with fail
    refine Calls.mono (H1.out _) ?_
    rintro _ w1 ⟨rfl, hb⟩
    replace hF := sf_next hF hb
    clear hb
    go_wp2_with fail
    refine Calls.mono (H2.out _) ?_
    rintro _ w1 ⟨rfl, hb⟩
    replace hF := sf_next hF hb
    clear hb
    go_wp2_with fail
    refine Calls.mono (H3.out _) ?_
    rintro _ w1 ⟨rfl, hb⟩
    replace hF := sf_next hF hb
    clear hb
    go_wp2_with fail
    refine Calls.mono (H4.out _) ?_
    rintro _ w1 ⟨rfl, hb⟩
    replace hF := sf_next hF hb
    clear hb
    go_wp2_with fail
    refine Calls.mono (H5.out _) ?_
    rintro _ w1 ⟨rfl, hb⟩
    replace hF := sf_next hF hb
    clear hb
    go_wp2_with fail
    refine Calls.mono (H6.out _) ?_
    rintro _ w1 ⟨rfl, hb⟩
    replace hF := sf_next hF hb
    clear hb
    go_wp2_with fail
    go_ret
    exact ⟨by first | rfl | simp, hF.2.2.2⟩

theorem own : ownKnob Oajg.prog.godebug = none := by kernel_rfl
theorem cells23 : Oajg.prog.cellsOf 23 = 2 := by kernel_rfl

/-! ### THE ROW's STEP -/
open Go.ChangeShapes Go.WideShapes Go.ChangeAt Go.Joins
set_option maxRecDepth 100000 in
theorem lifted (os : Os) (started : os.Started) (H : Type) (enc : TypeId × Value → H) :
    ReturnsInHanded {} Oajg.checked os 5 .any (Rows.softScaleSpec.pre6 enc Oajg.prog Oajg.f5 Rows.softScaleRow.domain false) (Rows.softScaleSpec.post enc Oajg.prog Oajg.f5 false true false false) := by
  refine returnsInHanded_of_change (C := Oajg.checked) own started (by kernel_rfl) Oajg.func5
    (ChangeSpec.witness6 (enc := enc) (C := Oajg.checked) false ⟨#[], #[.agg #[.int .u8 0, .int .u8 0], .int .u8 0, .int .u64 0, .int .i64 0], []⟩ 8 (by kernel_rfl) (by kernel_rfl) (by kernel_rfl) (by kernel_rfl)) ?_
  intro W base args ds gs before hval0 hW _ _
  have hval : ∀ (j : Nat) t v, Oajg.f5.params[j]? = some t → args[j]? = some v → Value.okWide Oajg.prog W .any base t v := hval0
  have hW' := hW
  obtain ⟨p, q, hA0, hV, rfl, hfz, hnd⟩ := hW
  have hA : DataW.TrodAll enc Oajg.prog W 0 (fun _ => true) true Oajg.f5.params.toList args.toList ds p := hA0
  rw [Oajg.params5] at hA hval
  obtain ⟨v0, vs0, d0, ds0, p0, q0, hargs, rfl, rfl, h0, r0⟩ := trodAll_cons hA
  obtain ⟨v1, vs1, d1, ds1, p1, q1, rfl, rfl, rfl, h1, r1⟩ := trodAll_cons r0
  obtain ⟨v2, vs2, d2, ds2, p2, q2, rfl, rfl, rfl, h2, r2⟩ := trodAll_cons r1
  obtain ⟨v3, vs3, d3, ds3, p3, q3, rfl, rfl, rfl, h3, r3⟩ := trodAll_cons r2
  obtain ⟨rfl, rfl, rfl⟩ := trodAll_nil r3
  obtain rfl : args = #[v0, v1, v2, v3] := by cases args; simp_all
  obtain ⟨rfl, rfl⟩ := trodVars_none hV
  obtain ⟨ca0, cb0, ya0, yb0, m0, rfl, rfl, rfl, hya0, hyb0⟩ := open_agg2 Oajg.underlying23 (by kernel_rfl) cells23 (hval 0 23 v0 rfl rfl) h0
  obtain ⟨a0, ea0, rfl, wa0⟩ := DataW.trod_int Oajg.underlying5 hya0
  obtain ⟨b0, eb0, rfl, wb0⟩ := DataW.trod_int Oajg.underlying5 hyb0
  simp at ea0 eb0
  subst ea0 eb0
  obtain ⟨x1, rfl, rfl, rfl, wx1⟩ := open_int Oajg.underlying29 (hval 1 29 v1 rfl rfl) h1
  obtain ⟨x2, rfl, rfl, rfl, wx2⟩ := open_int Oajg.underlying24 (hval 2 24 v2 rfl rfl) h2
  obtain ⟨x3, rfl, rfl, rfl, wx3⟩ := open_int Oajg.underlying2 (hval 3 2 v3 rfl rfl) h3
  clear hA0 hval0
  have hba0 := bounds_u8 wa0
  have hbb0 := bounds_u8 wb0
  have hbx1 := bounds_u8 wx1
  have hbx2 := bounds_u64 wx2
  have sr0 : ∀ (W' : World) (sp : Nat → Bool), DataW.Trod enc Oajg.prog W' 0 sp true 23 (.agg #[.int .u8 a0, .int .u8 b0]) (.agg [.lit (.int .u8 a0), .lit (.int .u8 b0)]) [] := fun W' sp =>
    shut_agg2 (y0 := (.lit (.int .u8 a0), [])) (y1 := (.lit (.int .u8 b0), [])) Oajg.underlying23 (by kernel_rfl) cells23 ⟨1, by simp [DataW.trod, Oajg.underlying5, wa0]⟩ ⟨1, by simp [DataW.trod, Oajg.underlying5, wb0]⟩
  simp only [List.append_nil] at hW'
  have hwalk : Calls Oajg.prog 5 #[.agg #[.int .u8 a0, .int .u8 b0], .int .u8 x1, .int .u64 x2, .int .i64 x3] W fun e w' => e = .returned (.bool true) ∧ Below W.heap.size W w' := by
    obtain ⟨na0, rfl⟩ := Int.eq_ofNat_of_zero_le hba0.1
    obtain ⟨nb0, rfl⟩ := Int.eq_ofNat_of_zero_le hbb0.1
    obtain ⟨nx1, rfl⟩ := Int.eq_ofNat_of_zero_le hbx1.1
    obtain ⟨nx2, rfl⟩ := Int.eq_ofNat_of_zero_le hbx2.1
    exact walk na0 nb0 nx1 nx2 x3 (by omega) W
  refine hwalk.mono fun e W' ⟨he, hg⟩ => ?_
  subst he
  exact ⟨_, rfl, post_of_below (pa := []) (pv := []) hW' (fun _ _ _ => (trodAll_cons_mk (shut_bool Oajg.underlying4 _) trodAll_mk0)) (fun sp _ => (trodAll_cons_mk (sr0 _ sp) (trodAll_cons_mk (shut_int Oajg.underlying29 wx1) (trodAll_cons_mk (shut_int Oajg.underlying24 wx2) (trodAll_cons_mk (shut_int Oajg.underlying2 wx3) trodAll_mk0))))) (fun _ _ => rfl) rfl hg⟩

theorem over : Rows.softScaleRow.holds Oajg.pinned (OpenSpec.ofChange Rows.softScaleSpec) :=
  OpenClaim.holds_of_wide 5 Oajg.f5 rfl rfl rfl rfl rfl rfl rfl ⟨rfl, rfl, rfl, rfl, rfl⟩ rfl rfl rfl rfl rfl (by kernel_rfl) Oajg.func5 (by kernel_rfl)
    (of_decide_eq_true (by kernel_rfl)) (by unfold Func.isWrapper; first | (rw [if_pos (by decide +kernel)]; kernel_rfl) | (rw [if_neg (by decide +kernel)]; exact ⟨rfl, rfl⟩))
    (fun os started H enc _ => lifted os started H enc)

theorem proved : Rows.SoftScaleSaid :=
  over
#print axioms proved

end softScaleP
end Go.Proofs.Ygcoaj
