/-
  THE CLAIM: law.SoftSqrt.
-/
import Derived.Test.YgcoajRows
import Derived.Test.YgcoajFrame
import Derived.Test.YgcoajSq5
import Derived.Lib.SmallJoins
import Derived.WalkKit
import Derived.ProofKit
import Derived.OpenShut
set_option linter.unusedVariables false
set_option linter.unusedSimpArgs false
namespace Go.Proofs.Ygcoaj
open Go.RowKit

set_option maxRecDepth 100000 in
set_option maxHeartbeats 1000000 in
theorem sqrtS_of (E M mo a RN : Nat) (HC : ∀ w, Calls Oajg.prog 101 #[.agg #[.int .u8 (E : Int), .int .u8 (M : Int)], .int .u8 (mo : Int), .int .u64 (a : Int)] w fun e w' => ∃ fl, e = .returned (.tuple #[.int .u64 (RN : Nat), .int .u8 fl]) ∧ Below w.heap.size w w') (w : World) :
    Calls Oajg.prog 52 #[.agg #[.int .u8 (E : Int), .int .u8 (M : Int)], .int .u8 (mo : Int), .int .u64 (a : Int)] w fun e w' => e = .returned (.int .u64 (RN : Nat)) ∧ Below w.heap.size w w' := by
  have hF := sf_box w E M
  replace HC := hid_mk HC
  go_enter Oajg.func52, Oajg.ntmps52
  go_wp2_with fail
  refine Calls.mono (HC.out _) ?_
  rintro _ w1 ⟨fl, rfl, hb⟩
  replace hF := sf_next hF hb
  clear hb
  go_wp2_with fail
  go_ret
  exact ⟨rfl, hF.2.2.2⟩

set_option maxRecDepth 100000 in
set_option maxHeartbeats 1000000 in
theorem sqrtX_of (E M mo a RN : Nat) (HC : ∀ w, Calls Oajg.prog 102 #[.agg #[.int .u8 (E : Int), .int .u8 (M : Int)], .int .u8 (mo : Int), .int .u64 (a : Int)] w fun e w' => ∃ fl, e = .returned (.tuple #[.int .u64 (RN : Nat), .int .u8 fl]) ∧ Below w.heap.size w w') (w : World) :
    Calls Oajg.prog 53 #[.agg #[.int .u8 (E : Int), .int .u8 (M : Int)], .int .u8 (mo : Int), .int .u64 (a : Int)] w fun e w' => e = .returned (.int .u64 (RN : Nat)) ∧ Below w.heap.size w w' := by
  have hF := sf_box w E M
  replace HC := hid_mk HC
  go_enter Oajg.func53, Oajg.ntmps53
  go_wp2_with fail
  refine Calls.mono (HC.out _) ?_
  rintro _ w1 ⟨fl, rfl, hb⟩
  replace hF := sf_next hF hb
  clear hb
  go_wp2_with fail
  go_ret
  exact ⟨rfl, hF.2.2.2⟩


namespace softSqrtP
set_option maxRecDepth 100000 in
set_option maxHeartbeats 2000000 in
theorem walk (E M mo a : Nat) (ha : a < 18446744073709551616) (w : World) :
    Calls Oajg.prog 12 #[.agg #[.int .u8 (E : Int), .int .u8 (M : Int)], .int .u8 (mo : Int), .int .u64 (a : Int)] w fun e w' => e = .returned (.bool true) ∧ Below w.heap.size w w' := by
  have hF := sf_box w E M
  cases hO : okB E M with
  | false =>
    have HO : Hid (∀ w, Calls Oajg.prog 17 #[.agg #[.int .u8 (E : Int), .int .u8 (M : Int)]] w fun e w' => e = .returned (.bool false) ∧ Below w.heap.size w w') := ok_not hO
    clear hO
    go_enter Oajg.func12, Oajg.ntmps12
    go_wp2_with fail
    refine wp_region_noPanic ?_
    refine wp_region_held_drew (S := fun W => W.cell? ⟨w.heap.size, 0, none⟩ = some (.int .u8 (E : Int)) ∧ W.cell? ⟨w.heap.size, 1, none⟩ = some (.int .u8 (M : Int)) ∧ w.heap.size < W.heap.size ∧ Below w.heap.size w W) (by kernel_rfl) (sf_drew hF) (fun hHeld => ?_)
    refine wpAnyH_take (i := 0) (v := ?_) rfl (by kernel_rfl) (by kernel_rfl) (by kernel_rfl) (fun _ _ _ h => h) (Or.inl ⟨by rfl, ?_⟩) (by with_reducible assumption) ?_
    rotate_left
    · intro w hSw; (try dsimp only at hSw); go_simp; try rfl
    (try simp only [Act.put, List.getElem_toArray, List.getElem_cons_succ, List.getElem_cons_zero, List.setIfInBounds_toArray, List.set_cons_zero, List.set_cons_succ])
    refine wpAnyH_ready (rs := [1]) (by kernel_rfl) (by simp) ?_
    refine AllReadyH.cons rfl (fun K hK => ?_) AllReadyH.nil
    go_simp
    refine Calls.mono (HO.out _) ?_
    rintro _ w1 ⟨rfl, hq⟩
    have hS1 := sf_next hHeld hq
    clear hq hHeld
    go_wp2_with fail
    refine hK.out _ _ hS1 (fun _ => ?_)
    clear hK K
    (try simp only [Act.put, List.getElem_toArray, List.getElem_cons_succ, List.getElem_cons_zero, List.setIfInBounds_toArray, List.set_cons_zero, List.set_cons_succ])
    refine wpAnyH_take (i := 2) (v := ?_) rfl (by kernel_rfl) (by kernel_rfl) (by kernel_rfl) (fun _ _ _ h => h) (Or.inl ⟨by rfl, ?_⟩) (by with_reducible assumption) ?_
    rotate_left
    · intro w hSw; (try dsimp only at hSw); go_simp; try rfl
    (try simp only [Act.put, List.getElem_toArray, List.getElem_cons_succ, List.getElem_cons_zero, List.setIfInBounds_toArray, List.set_cons_zero, List.set_cons_succ])
    refine wpAnyH_take (i := 3) (v := ?_) rfl (by kernel_rfl) (by kernel_rfl) (by kernel_rfl) (fun _ _ _ h => h) (Or.inl ⟨by rfl, ?_⟩) (by with_reducible assumption) ?_
    rotate_left
    · intro w hSw; (try dsimp only at hSw); go_simp; try rfl
    (try simp only [Act.put, List.getElem_toArray, List.getElem_cons_succ, List.getElem_cons_zero, List.setIfInBounds_toArray, List.set_cons_zero, List.set_cons_succ])
    refine wpAnyH_take (i := 4) (v := undef) rfl (by kernel_rfl) (by kernel_rfl) (by kernel_rfl) (fun _ _ _ h => h) (Or.inr ⟨by rfl, rfl⟩) (by with_reducible assumption) ?_
    (try simp only [Act.put, List.getElem_toArray, List.getElem_cons_succ, List.getElem_cons_zero, List.setIfInBounds_toArray, List.set_cons_zero, List.set_cons_succ])
    refine wpAnyH_take (i := 5) (v := undef) rfl (by kernel_rfl) (by kernel_rfl) (by kernel_rfl) (fun _ _ _ h => h) (Or.inr ⟨by rfl, rfl⟩) (by with_reducible assumption) ?_
    (try simp only [Act.put, List.getElem_toArray, List.getElem_cons_succ, List.getElem_cons_zero, List.setIfInBounds_toArray, List.set_cons_zero, List.set_cons_succ])
    refine wpAnyH_take (i := 6) (v := undef) rfl (by kernel_rfl) (by kernel_rfl) (by kernel_rfl) (fun _ _ _ h => h) (Or.inr ⟨by rfl, rfl⟩) (by with_reducible assumption) ?_
    (try simp only [Act.put, List.getElem_toArray, List.getElem_cons_succ, List.getElem_cons_zero, List.setIfInBounds_toArray, List.set_cons_zero, List.set_cons_succ])
    refine wpAnyH_take (i := 7) (v := undef) rfl (by kernel_rfl) (by kernel_rfl) (by kernel_rfl) (fun _ _ _ h => h) (Or.inr ⟨by rfl, rfl⟩) (by with_reducible assumption) ?_
    (try simp only [Act.put, List.getElem_toArray, List.getElem_cons_succ, List.getElem_cons_zero, List.setIfInBounds_toArray, List.set_cons_zero, List.set_cons_succ])
    refine wpAnyH_take (i := 8) (v := undef) rfl (by kernel_rfl) (by kernel_rfl) (by kernel_rfl) (fun _ _ _ h => h) (Or.inr ⟨by rfl, rfl⟩) (by with_reducible assumption) ?_
    (try simp only [Act.put, List.getElem_toArray, List.getElem_cons_succ, List.getElem_cons_zero, List.setIfInBounds_toArray, List.set_cons_zero, List.set_cons_succ])
    refine wpAnyH_take (i := 9) (v := undef) rfl (by kernel_rfl) (by kernel_rfl) (by kernel_rfl) (fun _ _ _ h => h) (Or.inr ⟨by rfl, rfl⟩) (by with_reducible assumption) ?_
    (try simp only [Act.put, List.getElem_toArray, List.getElem_cons_succ, List.getElem_cons_zero, List.setIfInBounds_toArray, List.set_cons_zero, List.set_cons_succ])
    refine wpAnyH_take (i := 10) (v := undef) rfl (by kernel_rfl) (by kernel_rfl) (by kernel_rfl) (fun _ _ _ h => h) (Or.inr ⟨by rfl, rfl⟩) (by with_reducible assumption) ?_
    (try simp only [Act.put, List.getElem_toArray, List.getElem_cons_succ, List.getElem_cons_zero, List.setIfInBounds_toArray, List.set_cons_zero, List.set_cons_succ])
    refine wpAnyH_take (i := 11) (v := undef) rfl (by kernel_rfl) (by kernel_rfl) (by kernel_rfl) (fun _ _ _ h => h) (Or.inr ⟨by rfl, rfl⟩) (by with_reducible assumption) ?_
    (try simp only [Act.put, List.getElem_toArray, List.getElem_cons_succ, List.getElem_cons_zero, List.setIfInBounds_toArray, List.set_cons_zero, List.set_cons_succ])
    refine wpAnyH_take (i := 12) (v := undef) rfl (by kernel_rfl) (by kernel_rfl) (by kernel_rfl) (fun _ _ _ h => h) (Or.inr ⟨by rfl, rfl⟩) (by with_reducible assumption) ?_
    (try simp only [Act.put, List.getElem_toArray, List.getElem_cons_succ, List.getElem_cons_zero, List.setIfInBounds_toArray, List.set_cons_zero, List.set_cons_succ])
    refine wpAnyH_take (i := 13) (v := ?_) rfl (by kernel_rfl) (by kernel_rfl) (by kernel_rfl) (fun _ _ _ h => h) (Or.inl ⟨by rfl, ?_⟩) (by with_reducible assumption) ?_
    rotate_left
    · intro w hSw; (try dsimp only at hSw); go_simp; try rfl
    (try simp only [Act.put, List.getElem_toArray, List.getElem_cons_succ, List.getElem_cons_zero, List.setIfInBounds_toArray, List.set_cons_zero, List.set_cons_succ])
    refine wpAnyH_take (i := 14) (v := ?_) rfl (by kernel_rfl) (by kernel_rfl) (by kernel_rfl) (fun _ _ _ h => h) (Or.inl ⟨by rfl, ?_⟩) (by with_reducible assumption) ?_
    rotate_left
    · intro w hSw; (try dsimp only at hSw); go_simp; try rfl
    (try simp only [Act.put, List.getElem_toArray, List.getElem_cons_succ, List.getElem_cons_zero, List.setIfInBounds_toArray, List.set_cons_zero, List.set_cons_succ])
    refine wpAnyH_done (by kernel_rfl) ?_ _
    refine NoPanic.normal ?_
    go_wp2_with fail
    go_ret
    exact ⟨rfl, hS1.2.2.2⟩
  | true =>
    have h := okB_spec hO
    have HO : Hid (∀ w, Calls Oajg.prog 17 #[.agg #[.int .u8 (E : Int), .int .u8 (M : Int)]] w fun e w' => e = .returned (.bool true) ∧ Below w.heap.size w w') := ok_yes h
    obtain ⟨r, hr⟩ := root_some (sqV E M a)
    obtain ⟨F, hFF⟩ : ∃ F, F = rpN E M mo false ((upE E M a + (M : Int)) / 2 - 63) (stk (sqV E M a) r) := ⟨_, rfl⟩
    have HS : Hid (∀ w, Calls Oajg.prog 52 #[.agg #[.int .u8 (E : Int), .int .u8 (M : Int)], .int .u8 (mo : Int), .int .u64 (a : Int)] w fun e w' => e = .returned (.int .u64 (sqN E M a F : Nat)) ∧ Below w.heap.size w w') := sqrtS_of E M mo a _ (sqrtFlagsS_ok E M h mo a F ha (fun _ _ r2 hr2 => by rw [hFF, root_one hr2 hr]))
    have HX : Hid (∀ w, Calls Oajg.prog 53 #[.agg #[.int .u8 (E : Int), .int .u8 (M : Int)], .int .u8 (mo : Int), .int .u64 (a : Int)] w fun e w' => e = .returned (.int .u64 (sqN E M a F : Nat)) ∧ Below w.heap.size w w') := sqrtX_of E M mo a _ (sqrtFlagsX_ok E M h mo a F ha (fun ho _ n sm tiny hn => by rw [hFF]; exact (sqrt_law h ho hr hn).symm))
    clear hO h hFF hr
    generalize sqN E M a F = RN at *
    go_enter Oajg.func12, Oajg.ntmps12
    go_wp2_with fail
    go_region_held3 (fun W => W.cell? ⟨w.heap.size, 0, none⟩ = some (.int .u8 (E : Int)) ∧ W.cell? ⟨w.heap.size, 1, none⟩ = some (.int .u8 (M : Int)) ∧ w.heap.size < W.heap.size ∧ Below w.heap.size w W)
      ((repeat' (first | with_reducible assumption | with_reducible refine sf_drew ?_)))
      ((first | (go_at_call 17; refine Calls.mono (HO.out _) ?_; rintro _ w1 ⟨rfl, hb⟩; have hS1 := sf_next (by with_reducible assumption) hb; clear hb) | (go_at_call 52; refine Calls.mono (HS.out _) ?_; rintro _ w2 ⟨rfl, hb⟩; have hS2 := sf_next (by with_reducible assumption) hb; clear hb) | (go_at_call 53; refine Calls.mono (HX.out _) ?_; rintro _ w3 ⟨rfl, hb⟩; have hS3 := sf_next (by with_reducible assumption) hb; clear hb)))
    go_wp2_with fail
    go_ret
    exact ⟨by simp, hS3.2.2.2⟩

theorem own : ownKnob Oajg.prog.godebug = none := by kernel_rfl
theorem cells23 : Oajg.prog.cellsOf 23 = 2 := by kernel_rfl

/-! ### THE ROW's STEP -/
open Go.ChangeShapes Go.WideShapes Go.ChangeAt Go.Joins
set_option maxRecDepth 100000 in
theorem lifted (os : Os) (started : os.Started) (H : Type) (enc : TypeId × Value → H) :
    ReturnsInHanded {} Oajg.checked os 12 .any (Rows.softSqrtSpec.pre6 enc Oajg.prog Oajg.f12 Rows.softSqrtRow.domain false) (Rows.softSqrtSpec.post enc Oajg.prog Oajg.f12 false true false false) := by
  refine returnsInHanded_of_change (C := Oajg.checked) own started (by kernel_rfl) Oajg.func12
    (ChangeSpec.witness6 (enc := enc) (C := Oajg.checked) false ⟨#[], #[.agg #[.int .u8 0, .int .u8 0], .int .u8 0, .int .u64 0], []⟩ 8 (by kernel_rfl) (by kernel_rfl) (by kernel_rfl) (by kernel_rfl)) ?_
  intro W base args ds gs before hval0 hW _ _
  have hval : ∀ (j : Nat) t v, Oajg.f12.params[j]? = some t → args[j]? = some v → Value.okWide Oajg.prog W .any base t v := hval0
  have hW' := hW
  obtain ⟨p, q, hA0, hV, rfl, hfz, hnd⟩ := hW
  have hA : DataW.TrodAll enc Oajg.prog W 0 (fun _ => true) true Oajg.f12.params.toList args.toList ds p := hA0
  rw [Oajg.params12] at hA hval
  obtain ⟨v0, vs0, d0, ds0, p0, q0, hargs, rfl, rfl, h0, r0⟩ := trodAll_cons hA
  obtain ⟨v1, vs1, d1, ds1, p1, q1, rfl, rfl, rfl, h1, r1⟩ := trodAll_cons r0
  obtain ⟨v2, vs2, d2, ds2, p2, q2, rfl, rfl, rfl, h2, r2⟩ := trodAll_cons r1
  obtain ⟨rfl, rfl, rfl⟩ := trodAll_nil r2
  obtain rfl : args = #[v0, v1, v2] := by cases args; simp_all
  obtain ⟨rfl, rfl⟩ := trodVars_none hV
  obtain ⟨ca0, cb0, ya0, yb0, m0, rfl, rfl, rfl, hya0, hyb0⟩ := open_agg2 Oajg.underlying23 (by kernel_rfl) cells23 (hval 0 23 v0 rfl rfl) h0
  obtain ⟨a0, ea0, rfl, wa0⟩ := DataW.trod_int Oajg.underlying5 hya0
  obtain ⟨b0, eb0, rfl, wb0⟩ := DataW.trod_int Oajg.underlying5 hyb0
  simp at ea0 eb0
  subst ea0 eb0
  obtain ⟨x1, rfl, rfl, rfl, wx1⟩ := open_int Oajg.underlying29 (hval 1 29 v1 rfl rfl) h1
  obtain ⟨x2, rfl, rfl, rfl, wx2⟩ := open_int Oajg.underlying24 (hval 2 24 v2 rfl rfl) h2
  clear hA0 hval0
  have hba0 := bounds_u8 wa0
  have hbb0 := bounds_u8 wb0
  have hbx1 := bounds_u8 wx1
  have hbx2 := bounds_u64 wx2
  have sr0 : ∀ (W' : World) (sp : Nat → Bool), DataW.Trod enc Oajg.prog W' 0 sp true 23 (.agg #[.int .u8 a0, .int .u8 b0]) (.agg [.lit (.int .u8 a0), .lit (.int .u8 b0)]) [] := fun W' sp =>
    shut_agg2 (y0 := (.lit (.int .u8 a0), [])) (y1 := (.lit (.int .u8 b0), [])) Oajg.underlying23 (by kernel_rfl) cells23 ⟨1, by simp [DataW.trod, Oajg.underlying5, wa0]⟩ ⟨1, by simp [DataW.trod, Oajg.underlying5, wb0]⟩
  simp only [List.append_nil] at hW'
  have hwalk : Calls Oajg.prog 12 #[.agg #[.int .u8 a0, .int .u8 b0], .int .u8 x1, .int .u64 x2] W fun e w' => e = .returned (.bool true) ∧ Below W.heap.size W w' := by
    obtain ⟨na0, rfl⟩ := Int.eq_ofNat_of_zero_le hba0.1
    obtain ⟨nb0, rfl⟩ := Int.eq_ofNat_of_zero_le hbb0.1
    obtain ⟨nx1, rfl⟩ := Int.eq_ofNat_of_zero_le hbx1.1
    obtain ⟨nx2, rfl⟩ := Int.eq_ofNat_of_zero_le hbx2.1
    exact walk na0 nb0 nx1 nx2 (by omega) W
  refine hwalk.mono fun e W' ⟨he, hg⟩ => ?_
  subst he
  exact ⟨_, rfl, post_of_below (pa := []) (pv := []) hW' (fun _ _ _ => (trodAll_cons_mk (shut_bool Oajg.underlying4 _) trodAll_mk0)) (fun sp _ => (trodAll_cons_mk (sr0 _ sp) (trodAll_cons_mk (shut_int Oajg.underlying29 wx1) (trodAll_cons_mk (shut_int Oajg.underlying24 wx2) trodAll_mk0)))) (fun _ _ => rfl) rfl hg⟩

theorem over : Rows.softSqrtRow.holds Oajg.pinned (OpenSpec.ofChange Rows.softSqrtSpec) :=
  OpenClaim.holds_of_wide 12 Oajg.f12 rfl rfl rfl rfl rfl rfl rfl ⟨rfl, rfl, rfl, rfl, rfl⟩ rfl rfl rfl rfl rfl (by kernel_rfl) Oajg.func12 (by kernel_rfl)
    (of_decide_eq_true (by kernel_rfl)) (by unfold Func.isWrapper; first | (rw [if_pos (by decide +kernel)]; kernel_rfl) | (rw [if_neg (by decide +kernel)]; exact ⟨rfl, rfl⟩))
    (fun os started H enc _ => lifted os started H enc)

theorem proved : Rows.SoftSqrtSaid :=
  over
#print axioms proved

end softSqrtP
end Go.Proofs.Ygcoaj
