/-
  THE CLAIM: law.SoftCmp.
-/
import Derived.Test.YgcoajRows
import Derived.Test.YgcoajFrame
import Derived.Test.YgcoajCmpLaw
import Derived.Lib.SmallJoins
import Derived.WalkKit
import Derived.ProofKit
import Derived.OpenShut
set_option linter.unusedVariables false
set_option linter.unusedSimpArgs false
namespace Go.Proofs.Ygcoaj
open Go.RowKit

theorem upC_mod (E M x : Nat) : upC E M (x % 2 ^ (E + M + 1)) = upC E M x := by unfold upC; rw [fExp_mod, fMan_mod]
theorem upN_mod (E M x : Nat) : upN E M (x % 2 ^ (E + M + 1)) = upN E M x := by unfold upN; rw [upC_mod, fNeg_mod]
theorem upE_mod (E M x : Nat) : upE E M (x % 2 ^ (E + M + 1)) = upE E M x := by unfold upE; rw [upC_mod, fMan_mod, fExp_mod]
theorem upM_mod (E M x : Nat) : upM E M (x % 2 ^ (E + M + 1)) = upM E M x := by unfold upM; rw [upC_mod, fMan_mod]
theorem vN_mod (E M x : Nat) : vN E M (x % 2 ^ (E + M + 1)) = vN E M x := by unfold vN; rw [upC_mod, upN_mod]
theorem vNum_mod (E M x : Nat) : vNum E M (x % 2 ^ (E + M + 1)) = vNum E M x := by unfold vNum; rw [upE_mod, upM_mod]
theorem vDen_mod (E M x : Nat) : vDen E M (x % 2 ^ (E + M + 1)) = vDen E M x := by unfold vDen; rw [upE_mod]

theorem open_ok' (E M : Nat) (h : FOk E M) (x : Nat) (hx : x < 18446744073709551616) (w : World) :
    Calls Oajg.prog 63 #[.agg #[.int .u8 (E : Int), .int .u8 (M : Int)], .int .u64 (x : Int)] w fun e w' => ∃ a1 k1 c1 a2 k2 c2,
      e = .returned (.agg #[.int .u64 ((x % 2 ^ (E + M + 1) : Nat) : Int), .bool (fNeg E M x), .int .i8 (upC E M x), .bool (vN E M x), .slice a1 k1 c1, .slice a2 k2 c2]) ∧ NatIs 2050 w' (.slice a1 k1 c1) (vNum E M x) ∧ NatIs 2050 w' (.slice a2 k2 c2) (vDen E M x) ∧ Below w.heap.size w w' := by
  have := open_ok E M h x hx w
  rw [fNeg_mod, upC_mod, vN_mod, vNum_mod, vDen_mod] at this
  exact this

theorem exactCmp_ok (E M : Nat) (h : FOk E M) (a b : Nat) (ha : a < 18446744073709551616) (hb : b < 18446744073709551616) (w : World) :
    Calls Oajg.prog 57 #[.agg #[.int .u8 (E : Int), .int .u8 (M : Int)], .int .u64 (a : Int), .int .u64 (b : Int)] w fun e w' => e = .returned (.int .i8 (softCmp E M a b)) ∧ Below w.heap.size w w' := by
  rw [cmp_law h]
  exact exactCmp_raw E M h a b _ _ _ _ _ _ _ _ _ _ _ _ (open_ok' E M h a ha) (open_ok' E M h b hb) w

namespace softCmpP
set_option maxRecDepth 100000 in
set_option maxHeartbeats 2000000 in
theorem walk (E M a b : Nat) (ha : a < 18446744073709551616) (hb : b < 18446744073709551616) (w : World) :
    Calls Oajg.prog 14 #[.agg #[.int .u8 (E : Int), .int .u8 (M : Int)], .int .u64 (a : Int), .int .u64 (b : Int)] w fun e w' => e = .returned (.bool true) ∧ Below w.heap.size w w' := by
  have hS := sf_box w E M
  cases hO : okB E M with
  | false =>
    have HO : Hid (∀ w, Calls Oajg.prog 17 #[.agg #[.int .u8 (E : Int), .int .u8 (M : Int)]] w fun e w' => e = .returned (.bool false) ∧ Below w.heap.size w w') := ok_not hO
    clear hO
    go_enter Oajg.func14, Oajg.ntmps14
    go_wp2_with fail
    refine wp_region_noPanic ?_
    refine wp_region_held_drew (S := fun W => W.cell? ⟨w.heap.size, 0, none⟩ = some (.int .u8 (E : Int)) ∧ W.cell? ⟨w.heap.size, 1, none⟩ = some (.int .u8 (M : Int)) ∧ w.heap.size < W.heap.size ∧ Below w.heap.size w W) (by kernel_rfl) (sf_drew hS) (fun hHeld => ?_)
    refine wpAnyH_take (i := 0) (v := ?_) rfl (by kernel_rfl) (by kernel_rfl) (by kernel_rfl) (fun _ _ _ h => h) (Or.inl ⟨by rfl, ?_⟩) (by with_reducible assumption) ?_
    rotate_left
    · intro w hSw; (try dsimp only at hSw); go_simp; try rfl
    (try simp only [Act.put, List.getElem_toArray, List.getElem_cons_succ, List.getElem_cons_zero, List.setIfInBounds_toArray, List.set_cons_zero, List.set_cons_succ])
    refine wpAnyH_ready (rs := [1]) (by kernel_rfl) (by simp) ?_
    refine AllReadyH.cons rfl (fun K hK => ?_) AllReadyH.nil
    go_simp
    refine Calls.mono (HO.out _) ?_
    rintro _ w1 ⟨rfl, hq⟩
    have hS1 := sf_next hHeld hq
    clear hq hHeld
    go_wp2_with fail
    refine hK.out _ _ hS1 (fun _ => ?_)
    clear hK K
    (try simp only [Act.put, List.getElem_toArray, List.getElem_cons_succ, List.getElem_cons_zero, List.setIfInBounds_toArray, List.set_cons_zero, List.set_cons_succ])
    refine wpAnyH_take (i := 2) (v := ?_) rfl (by kernel_rfl) (by kernel_rfl) (by kernel_rfl) (fun _ _ _ h => h) (Or.inl ⟨by rfl, ?_⟩) (by with_reducible assumption) ?_
    rotate_left
    · intro w hSw; (try dsimp only at hSw); go_simp; try rfl
    (try simp only [Act.put, List.getElem_toArray, List.getElem_cons_succ, List.getElem_cons_zero, List.setIfInBounds_toArray, List.set_cons_zero, List.set_cons_succ])
    refine wpAnyH_take (i := 3) (v := ?_) rfl (by kernel_rfl) (by kernel_rfl) (by kernel_rfl) (fun _ _ _ h => h) (Or.inl ⟨by rfl, ?_⟩) (by with_reducible assumption) ?_
    rotate_left
    · intro w hSw; (try dsimp only at hSw); go_simp; try rfl
    (try simp only [Act.put, List.getElem_toArray, List.getElem_cons_succ, List.getElem_cons_zero, List.setIfInBounds_toArray, List.set_cons_zero, List.set_cons_succ])
    refine wpAnyH_take (i := 4) (v := undef) rfl (by kernel_rfl) (by kernel_rfl) (by kernel_rfl) (fun _ _ _ h => h) (Or.inr ⟨by rfl, rfl⟩) (by with_reducible assumption) ?_
    (try simp only [Act.put, List.getElem_toArray, List.getElem_cons_succ, List.getElem_cons_zero, List.setIfInBounds_toArray, List.set_cons_zero, List.set_cons_succ])
    refine wpAnyH_take (i := 5) (v := undef) rfl (by kernel_rfl) (by kernel_rfl) (by kernel_rfl) (fun _ _ _ h => h) (Or.inr ⟨by rfl, rfl⟩) (by with_reducible assumption) ?_
    (try simp only [Act.put, List.getElem_toArray, List.getElem_cons_succ, List.getElem_cons_zero, List.setIfInBounds_toArray, List.set_cons_zero, List.set_cons_succ])
    refine wpAnyH_take (i := 6) (v := undef) rfl (by kernel_rfl) (by kernel_rfl) (by kernel_rfl) (fun _ _ _ h => h) (Or.inr ⟨by rfl, rfl⟩) (by with_reducible assumption) ?_
    (try simp only [Act.put, List.getElem_toArray, List.getElem_cons_succ, List.getElem_cons_zero, List.setIfInBounds_toArray, List.set_cons_zero, List.set_cons_succ])
    refine wpAnyH_take (i := 7) (v := undef) rfl (by kernel_rfl) (by kernel_rfl) (by kernel_rfl) (fun _ _ _ h => h) (Or.inr ⟨by rfl, rfl⟩) (by with_reducible assumption) ?_
    (try simp only [Act.put, List.getElem_toArray, List.getElem_cons_succ, List.getElem_cons_zero, List.setIfInBounds_toArray, List.set_cons_zero, List.set_cons_succ])
    refine wpAnyH_take (i := 8) (v := undef) rfl (by kernel_rfl) (by kernel_rfl) (by kernel_rfl) (fun _ _ _ h => h) (Or.inr ⟨by rfl, rfl⟩) (by with_reducible assumption) ?_
    (try simp only [Act.put, List.getElem_toArray, List.getElem_cons_succ, List.getElem_cons_zero, List.setIfInBounds_toArray, List.set_cons_zero, List.set_cons_succ])
    refine wpAnyH_take (i := 9) (v := undef) rfl (by kernel_rfl) (by kernel_rfl) (by kernel_rfl) (fun _ _ _ h => h) (Or.inr ⟨by rfl, rfl⟩) (by with_reducible assumption) ?_
    (try simp only [Act.put, List.getElem_toArray, List.getElem_cons_succ, List.getElem_cons_zero, List.setIfInBounds_toArray, List.set_cons_zero, List.set_cons_succ])
    refine wpAnyH_take (i := 10) (v := undef) rfl (by kernel_rfl) (by kernel_rfl) (by kernel_rfl) (fun _ _ _ h => h) (Or.inr ⟨by rfl, rfl⟩) (by with_reducible assumption) ?_
    (try simp only [Act.put, List.getElem_toArray, List.getElem_cons_succ, List.getElem_cons_zero, List.setIfInBounds_toArray, List.set_cons_zero, List.set_cons_succ])
    refine wpAnyH_take (i := 11) (v := undef) rfl (by kernel_rfl) (by kernel_rfl) (by kernel_rfl) (fun _ _ _ h => h) (Or.inr ⟨by rfl, rfl⟩) (by with_reducible assumption) ?_
    (try simp only [Act.put, List.getElem_toArray, List.getElem_cons_succ, List.getElem_cons_zero, List.setIfInBounds_toArray, List.set_cons_zero, List.set_cons_succ])
    refine wpAnyH_take (i := 12) (v := undef) rfl (by kernel_rfl) (by kernel_rfl) (by kernel_rfl) (fun _ _ _ h => h) (Or.inr ⟨by rfl, rfl⟩) (by with_reducible assumption) ?_
    (try simp only [Act.put, List.getElem_toArray, List.getElem_cons_succ, List.getElem_cons_zero, List.setIfInBounds_toArray, List.set_cons_zero, List.set_cons_succ])
    refine wpAnyH_take (i := 13) (v := ?_) rfl (by kernel_rfl) (by kernel_rfl) (by kernel_rfl) (fun _ _ _ h => h) (Or.inl ⟨by rfl, ?_⟩) (by with_reducible assumption) ?_
    rotate_left
    · intro w hSw; (try dsimp only at hSw); go_simp; try rfl
    (try simp only [Act.put, List.getElem_toArray, List.getElem_cons_succ, List.getElem_cons_zero, List.setIfInBounds_toArray, List.set_cons_zero, List.set_cons_succ])
    refine wpAnyH_take (i := 14) (v := ?_) rfl (by kernel_rfl) (by kernel_rfl) (by kernel_rfl) (fun _ _ _ h => h) (Or.inl ⟨by rfl, ?_⟩) (by with_reducible assumption) ?_
    rotate_left
    · intro w hSw; (try dsimp only at hSw); go_simp; try rfl
    (try simp only [Act.put, List.getElem_toArray, List.getElem_cons_succ, List.getElem_cons_zero, List.setIfInBounds_toArray, List.set_cons_zero, List.set_cons_succ])
    refine wpAnyH_done (by kernel_rfl) ?_ _
    refine NoPanic.normal ?_
    go_wp2_with fail
    go_ret
    exact ⟨rfl, hS1.2.2.2⟩
  | true =>
    have h := okB_spec hO
    have HO : Hid (∀ w, Calls Oajg.prog 17 #[.agg #[.int .u8 (E : Int), .int .u8 (M : Int)]] w fun e w' => e = .returned (.bool true) ∧ Below w.heap.size w w') := ok_yes h
    have HA : Hid (∀ w, Calls Oajg.prog 56 #[.agg #[.int .u8 (E : Int), .int .u8 (M : Int)], .int .u64 (a : Int), .int .u64 (b : Int)] w fun e w' => e = .returned (.int .i8 (softCmp E M a b)) ∧ Below w.heap.size w w') := softCmp_ok E M h a b ha hb
    have HX : Hid (∀ w, Calls Oajg.prog 57 #[.agg #[.int .u8 (E : Int), .int .u8 (M : Int)], .int .u64 (a : Int), .int .u64 (b : Int)] w fun e w' => e = .returned (.int .i8 (softCmp E M a b)) ∧ Below w.heap.size w w') := exactCmp_ok E M h a b ha hb
    clear hO h
    generalize softCmp E M a b = r at *
    go_enter Oajg.func14, Oajg.ntmps14
    go_wp2_with fail
    go_region_held3 (fun W => W.cell? ⟨w.heap.size, 0, none⟩ = some (.int .u8 (E : Int)) ∧ W.cell? ⟨w.heap.size, 1, none⟩ = some (.int .u8 (M : Int)) ∧ w.heap.size < W.heap.size ∧ Below w.heap.size w W)
      ((repeat' (first | with_reducible assumption | with_reducible refine sf_drew ?_)))
      ((first | (go_at_call 17; refine Calls.mono (HO.out _) ?_; rintro _ w1 ⟨rfl, hb⟩; have hS1 := sf_next (by with_reducible assumption) hb; clear hb) | (go_at_call 56; refine Calls.mono (HA.out _) ?_; rintro _ w2 ⟨rfl, hb⟩; have hS2 := sf_next (by with_reducible assumption) hb; clear hb) | (go_at_call 57; refine Calls.mono (HX.out _) ?_; rintro _ w3 ⟨rfl, hb⟩; have hS3 := sf_next (by with_reducible assumption) hb; clear hb)))
    go_wp2_with fail
    go_ret
    exact ⟨by simp, hS3.2.2.2⟩

theorem own : ownKnob Oajg.prog.godebug = none := by kernel_rfl
theorem cells23 : Oajg.prog.cellsOf 23 = 2 := by kernel_rfl

/-! ### THE ROW's STEP -/
open Go.ChangeShapes Go.WideShapes Go.ChangeAt Go.Joins
set_option maxRecDepth 100000 in
theorem lifted (os : Os) (started : os.Started) (H : Type) (enc : TypeId × Value → H) :
    ReturnsInHanded {} Oajg.checked os 14 .any (Rows.softCmpSpec.pre6 enc Oajg.prog Oajg.f14 Rows.softCmpRow.domain false) (Rows.softCmpSpec.post enc Oajg.prog Oajg.f14 false true false false) := by
  refine returnsInHanded_of_change (C := Oajg.checked) own started (by kernel_rfl) Oajg.func14
    (ChangeSpec.witness6 (enc := enc) (C := Oajg.checked) false ⟨#[], #[.agg #[.int .u8 0, .int .u8 0], .int .u64 0, .int .u64 0], []⟩ 8 (by kernel_rfl) (by kernel_rfl) (by kernel_rfl) (by kernel_rfl)) ?_
  intro W base args ds gs before hval0 hW _ _
  have hval : ∀ (j : Nat) t v, Oajg.f14.params[j]? = some t → args[j]? = some v → Value.okWide Oajg.prog W .any base t v := hval0
  have hW' := hW
  obtain ⟨p, q, hA0, hV, rfl, hfz, hnd⟩ := hW
  have hA : DataW.TrodAll enc Oajg.prog W 0 (fun _ => true) true Oajg.f14.params.toList args.toList ds p := hA0
  rw [Oajg.params14] at hA hval
  obtain ⟨v0, vs0, d0, ds0, p0, q0, hargs, rfl, rfl, h0, r0⟩ := trodAll_cons hA
  obtain ⟨v1, vs1, d1, ds1, p1, q1, rfl, rfl, rfl, h1, r1⟩ := trodAll_cons r0
  obtain ⟨v2, vs2, d2, ds2, p2, q2, rfl, rfl, rfl, h2, r2⟩ := trodAll_cons r1
  obtain ⟨rfl, rfl, rfl⟩ := trodAll_nil r2
  obtain rfl : args = #[v0, v1, v2] := by cases args; simp_all
  obtain ⟨rfl, rfl⟩ := trodVars_none hV
  obtain ⟨c0, c1, y0, y1, m, rfl, rfl, rfl, hy0, hy1⟩ := open_agg2 Oajg.underlying23 (by kernel_rfl) cells23 (hval 0 23 v0 rfl rfl) h0
  obtain ⟨a, e0, rfl, wa⟩ := DataW.trod_int Oajg.underlying5 hy0
  obtain ⟨b, e1, rfl, wb⟩ := DataW.trod_int Oajg.underlying5 hy1
  simp at e0 e1
  subst e0 e1
  obtain ⟨x, rfl, rfl, rfl, wx⟩ := open_int Oajg.underlying24 (hval 1 24 v1 rfl rfl) h1
  obtain ⟨y, rfl, rfl, rfl, wy⟩ := open_int Oajg.underlying24 (hval 2 24 v2 rfl rfl) h2
  clear hA0 hval0
  have hba := bounds_u8 wa
  have hbb := bounds_u8 wb
  have hbx := bounds_u64 wx
  have hby := bounds_u64 wy
  have structReads : ∀ (W' : World) (sp : Nat → Bool), DataW.Trod enc Oajg.prog W' 0 sp true 23 (.agg #[.int .u8 a, .int .u8 b]) (.agg [.lit (.int .u8 a), .lit (.int .u8 b)]) [] := fun W' sp =>
    shut_agg2 (y0 := (.lit (.int .u8 a), [])) (y1 := (.lit (.int .u8 b), [])) Oajg.underlying23 (by kernel_rfl) cells23 ⟨1, by simp [DataW.trod, Oajg.underlying5, wa]⟩ ⟨1, by simp [DataW.trod, Oajg.underlying5, wb]⟩
  simp only [List.append_nil] at hW'
  have hwalk : Calls Oajg.prog 14 #[.agg #[.int .u8 a, .int .u8 b], .int .u64 x, .int .u64 y] W fun e w' => e = .returned (.bool true) ∧ Below W.heap.size W w' := by
    obtain ⟨na, rfl⟩ := Int.eq_ofNat_of_zero_le hba.1
    obtain ⟨nb, rfl⟩ := Int.eq_ofNat_of_zero_le hbb.1
    obtain ⟨nx, rfl⟩ := Int.eq_ofNat_of_zero_le hbx.1
    obtain ⟨ny, rfl⟩ := Int.eq_ofNat_of_zero_le hby.1
    exact walk na nb nx ny (by omega) (by omega) W
  refine hwalk.mono fun e W' ⟨he, hg⟩ => ?_
  subst he
  exact ⟨_, rfl, post_of_below (pa := []) (pv := []) hW' (fun _ _ _ => (trodAll_cons_mk (shut_bool Oajg.underlying4 _) trodAll_mk0)) (fun sp _ => (trodAll_cons_mk (structReads _ sp) (trodAll_cons_mk (shut_int Oajg.underlying24 wx) (trodAll_cons_mk (shut_int Oajg.underlying24 wy) trodAll_mk0)))) (fun _ _ => rfl) rfl hg⟩

theorem over : Rows.softCmpRow.holds Oajg.pinned (OpenSpec.ofChange Rows.softCmpSpec) :=
  OpenClaim.holds_of_wide 14 Oajg.f14 rfl rfl rfl rfl rfl rfl rfl ⟨rfl, rfl, rfl, rfl, rfl⟩ rfl rfl rfl rfl rfl (by kernel_rfl) Oajg.func14 (by kernel_rfl)
    (of_decide_eq_true (by kernel_rfl)) (by unfold Func.isWrapper; first | (rw [if_pos (by decide +kernel)]; kernel_rfl) | (rw [if_neg (by decide +kernel)]; exact ⟨rfl, rfl⟩))
    (fun os started H enc _ => lifted os started H enc)

theorem proved : Rows.SoftCmpSaid :=
  over
#print axioms proved

end softCmpP
end Go.Proofs.Ygcoaj
