/-
  THE CLAIM: law.RyuRight.
-/
import Derived.Test.YgcoajRows
import Derived.Test.YgcoajFrame
import Derived.Test.YgcoajRy25
import Derived.Test.YgcoajRy20
import Derived.Test.YgcoajRy21
import Derived.Deep.RegionHeld3
import Derived.Lib.SmallJoins
import Derived.WalkKit
import Derived.ProofKit
import Derived.OpenShut
set_option linter.unusedVariables false
set_option linter.unusedSimpArgs false
namespace Go.Proofs.Ygcoaj
open Go.RowKit

set_option maxRecDepth 100000 in
set_option maxHeartbeats 2000000 in
theorem ryuOn_ok (E M x tb t : Nat) (C : Array Value) (hTab : TabAt C) (hx : x < 18446744073709551616) (w : World) (hB : Blk w tb C t) :
    Calls Oajg.prog 59 #[.pointer (some ⟨tb, 0, none⟩), .agg #[.int .u8 (E : Int), .int .u8 (M : Int)], .int .u64 (x : Int)] w fun e w' => e = .returned (.bool true) ∧ Below w.heap.size w w' := by
  have hF := sf_box w E M
  cases hO : okB E M with
  | false =>
    have HO : Hid (∀ w, Calls Oajg.prog 17 #[.agg #[.int .u8 (E : Int), .int .u8 (M : Int)]] w fun e w' => e = .returned (.bool false) ∧ Below w.heap.size w w') := ok_not hO
    clear hO
    go_enter Oajg.func59, Oajg.ntmps59
    go_wp2_with fail
    refine wp_region_noPanic ?_
    refine wp_region_held_drew (S := fun W => W.cell? ⟨w.heap.size, 0, none⟩ = some (.int .u8 (E : Int)) ∧ W.cell? ⟨w.heap.size, 1, none⟩ = some (.int .u8 (M : Int)) ∧ w.heap.size < W.heap.size ∧ Below w.heap.size w W) (by kernel_rfl) (sf_drew hF) (fun hHeld => ?_)
    refine wpAnyH_take (i := 0) (v := ?_) rfl (by kernel_rfl) (by kernel_rfl) (by kernel_rfl) (fun _ _ _ h => h) (Or.inl ⟨by rfl, ?_⟩) (by with_reducible assumption) ?_
    rotate_left
    · intro w hSw; (try dsimp only at hSw); go_simp; try rfl
    (try simp only [Act.put, List.getElem_toArray, List.getElem_cons_succ, List.getElem_cons_zero, List.setIfInBounds_toArray, List.set_cons_zero, List.set_cons_succ])
    refine wpAnyH_ready (rs := [1]) (by kernel_rfl) (by simp) ?_
    refine AllReadyH.cons rfl (fun K hK => ?_) AllReadyH.nil
    go_simp
    refine Calls.mono (HO.out _) ?_
    rintro _ w1 ⟨rfl, hq⟩
    have hS1 := sf_next hHeld hq
    clear hq hHeld
    go_wp2_with fail
    refine hK.out _ _ hS1 (fun _ => ?_)
    clear hK K
    (try simp only [Act.put, List.getElem_toArray, List.getElem_cons_succ, List.getElem_cons_zero, List.setIfInBounds_toArray, List.set_cons_zero, List.set_cons_succ])
    refine wpAnyH_take (i := 2) (v := ?_) rfl (by kernel_rfl) (by kernel_rfl) (by kernel_rfl) (fun _ _ _ h => h) (Or.inl ⟨by rfl, ?_⟩) (by with_reducible assumption) ?_
    rotate_left
    · intro w hSw; (try dsimp only at hSw); go_simp; try rfl
    (try simp only [Act.put, List.getElem_toArray, List.getElem_cons_succ, List.getElem_cons_zero, List.setIfInBounds_toArray, List.set_cons_zero, List.set_cons_succ])
    refine wpAnyH_take (i := 3) (v := ?_) rfl (by kernel_rfl) (by kernel_rfl) (by kernel_rfl) (fun _ _ _ h => h) (Or.inl ⟨by rfl, ?_⟩) (by with_reducible assumption) ?_
    rotate_left
    · intro w hSw; (try dsimp only at hSw); go_simp; try rfl
    (try simp only [Act.put, List.getElem_toArray, List.getElem_cons_succ, List.getElem_cons_zero, List.setIfInBounds_toArray, List.set_cons_zero, List.set_cons_succ])
    refine wpAnyH_take (i := 4) (v := undef) rfl (by kernel_rfl) (by kernel_rfl) (by kernel_rfl) (fun _ _ _ h => h) (Or.inr ⟨by rfl, rfl⟩) (by with_reducible assumption) ?_
    (try simp only [Act.put, List.getElem_toArray, List.getElem_cons_succ, List.getElem_cons_zero, List.setIfInBounds_toArray, List.set_cons_zero, List.set_cons_succ])
    refine wpAnyH_take (i := 5) (v := undef) rfl (by kernel_rfl) (by kernel_rfl) (by kernel_rfl) (fun _ _ _ h => h) (Or.inr ⟨by rfl, rfl⟩) (by with_reducible assumption) ?_
    (try simp only [Act.put, List.getElem_toArray, List.getElem_cons_succ, List.getElem_cons_zero, List.setIfInBounds_toArray, List.set_cons_zero, List.set_cons_succ])
    refine wpAnyH_take (i := 6) (v := undef) rfl (by kernel_rfl) (by kernel_rfl) (by kernel_rfl) (fun _ _ _ h => h) (Or.inr ⟨by rfl, rfl⟩) (by with_reducible assumption) ?_
    (try simp only [Act.put, List.getElem_toArray, List.getElem_cons_succ, List.getElem_cons_zero, List.setIfInBounds_toArray, List.set_cons_zero, List.set_cons_succ])
    refine wpAnyH_take (i := 7) (v := undef) rfl (by kernel_rfl) (by kernel_rfl) (by kernel_rfl) (fun _ _ _ h => h) (Or.inr ⟨by rfl, rfl⟩) (by with_reducible assumption) ?_
    (try simp only [Act.put, List.getElem_toArray, List.getElem_cons_succ, List.getElem_cons_zero, List.setIfInBounds_toArray, List.set_cons_zero, List.set_cons_succ])
    refine wpAnyH_take (i := 8) (v := undef) rfl (by kernel_rfl) (by kernel_rfl) (by kernel_rfl) (fun _ _ _ h => h) (Or.inr ⟨by rfl, rfl⟩) (by with_reducible assumption) ?_
    (try simp only [Act.put, List.getElem_toArray, List.getElem_cons_succ, List.getElem_cons_zero, List.setIfInBounds_toArray, List.set_cons_zero, List.set_cons_succ])
    refine wpAnyH_take (i := 9) (v := undef) rfl (by kernel_rfl) (by kernel_rfl) (by kernel_rfl) (fun _ _ _ h => h) (Or.inr ⟨by rfl, rfl⟩) (by with_reducible assumption) ?_
    (try simp only [Act.put, List.getElem_toArray, List.getElem_cons_succ, List.getElem_cons_zero, List.setIfInBounds_toArray, List.set_cons_zero, List.set_cons_succ])
    refine wpAnyH_take (i := 10) (v := undef) rfl (by kernel_rfl) (by kernel_rfl) (by kernel_rfl) (fun _ _ _ h => h) (Or.inr ⟨by rfl, rfl⟩) (by with_reducible assumption) ?_
    (try simp only [Act.put, List.getElem_toArray, List.getElem_cons_succ, List.getElem_cons_zero, List.setIfInBounds_toArray, List.set_cons_zero, List.set_cons_succ])
    refine wpAnyH_take (i := 11) (v := undef) rfl (by kernel_rfl) (by kernel_rfl) (by kernel_rfl) (fun _ _ _ h => h) (Or.inr ⟨by rfl, rfl⟩) (by with_reducible assumption) ?_
    (try simp only [Act.put, List.getElem_toArray, List.getElem_cons_succ, List.getElem_cons_zero, List.setIfInBounds_toArray, List.set_cons_zero, List.set_cons_succ])
    refine wpAnyH_take (i := 12) (v := ?_) rfl (by kernel_rfl) (by kernel_rfl) (by kernel_rfl) (fun _ _ _ h => h) (Or.inl ⟨by rfl, ?_⟩) (by with_reducible assumption) ?_
    rotate_left
    · intro w hSw; (try dsimp only at hSw); go_simp; try rfl
    (try simp only [Act.put, List.getElem_toArray, List.getElem_cons_succ, List.getElem_cons_zero, List.setIfInBounds_toArray, List.set_cons_zero, List.set_cons_succ])
    refine wpAnyH_take (i := 13) (v := ?_) rfl (by kernel_rfl) (by kernel_rfl) (by kernel_rfl) (fun _ _ _ h => h) (Or.inl ⟨by rfl, ?_⟩) (by with_reducible assumption) ?_
    rotate_left
    · intro w hSw; (try dsimp only at hSw); go_simp; try rfl
    (try simp only [Act.put, List.getElem_toArray, List.getElem_cons_succ, List.getElem_cons_zero, List.setIfInBounds_toArray, List.set_cons_zero, List.set_cons_succ])
    refine wpAnyH_done (by kernel_rfl) ?_ _
    refine NoPanic.normal ?_
    go_wp2_with fail
    go_ret
    exact ⟨rfl, hS1.2.2.2⟩
  | true =>
    have h := okB_spec hO
    have HO : Hid (∀ w, Calls Oajg.prog 17 #[.agg #[.int .u8 (E : Int), .int .u8 (M : Int)]] w fun e w' => e = .returned (.bool true) ∧ Below w.heap.size w w') := ok_yes h
    obtain ⟨ng, sd, kx, h1, h2⟩ := one_all (tb := tb) (t := t) hTab h hx
    have HS : Hid (∀ W, (W.cell? ⟨w.heap.size, 0, none⟩ = some (.int .u8 (E : Int)) ∧ W.cell? ⟨w.heap.size, 1, none⟩ = some (.int .u8 (M : Int)) ∧ w.heap.size < W.heap.size ∧ Below w.heap.size w W) → Calls Oajg.prog 110 #[.pointer (some ⟨tb, 0, none⟩), .agg #[.int .u8 (E : Int), .int .u8 (M : Int)], .int .u64 (x : Int)] W fun e w' => e = .returned (.agg #[.bool ng, .string sd, .int .i16 kx]) ∧ Below W.heap.size W w') := fun W hW => h1 W (hB.next hW.2.2.2)
    have HX := hid_mk h2
    clear hO h h1 h2 hB hTab
    go_enter Oajg.func59, Oajg.ntmps59
    go_wp2_with fail
    go_region_held3 (fun W => W.cell? ⟨w.heap.size, 0, none⟩ = some (.int .u8 (E : Int)) ∧ W.cell? ⟨w.heap.size, 1, none⟩ = some (.int .u8 (M : Int)) ∧ w.heap.size < W.heap.size ∧ Below w.heap.size w W)
      ((repeat' (first | with_reducible assumption | with_reducible refine sf_drew ?_)))
      ((first | (go_at_call 17; refine Calls.mono (HO.out _) ?_; rintro _ w1 ⟨rfl, hb⟩; have hS1 := sf_next (by with_reducible assumption) hb; clear hb) | (go_at_call 110; refine Calls.mono (HS.out _ (by with_reducible assumption)) ?_; rintro _ w2 ⟨rfl, hb⟩; have hS2 := sf_next (by with_reducible assumption) hb; clear hb) | (go_at_call 111; refine Calls.mono (HX.out _) ?_; rintro _ w3 ⟨rfl, hb⟩; have hS3 := sf_next (by with_reducible assumption) hb; clear hb)))
    all_goals go_wp2_with fail
    all_goals go_ret
    all_goals first | exact ⟨by simp, hS3.2.2.2⟩ | exact ⟨by simp, hS2.2.2.2⟩

set_option maxRecDepth 100000 in
set_option maxHeartbeats 2000000 in
theorem ryuRight_ok (E M x tb t : Nat) (C : Array Value) (hTab : TabAt C) (hx : x < 18446744073709551616) (w : World) (hB : Blk w tb C t) :
    Calls Oajg.prog 15 #[.pointer (some ⟨tb, 0, none⟩), .agg #[.int .u8 (E : Int), .int .u8 (M : Int)], .int .u64 (x : Int)] w fun e w' => e = .returned (.bool true) ∧ Below w.heap.size w w' := by
  have hF := sf_box w E M
  have HBK := hid_mk hB
  have HT := hid_mk (fun (W : World) (hW : Blk W tb C t) => tabOk_ok tb t C hTab W hW)
  have HR := hid_mk (fun (W : World) (hW : Blk W tb C t) => ryuOn_ok E M x tb t C hTab hx W hW)
  clear hTab hB
  go_enter Oajg.func15, Oajg.ntmps15
  go_wp2_with fail
  refine Calls.mono (HT.out _ (HBK.out.next hF.2.2.2)) ?_
  rintro _ w1 ⟨rfl, hb⟩
  replace hF := sf_next hF hb
  clear hb HT
  go_wp2_with fail
  refine Calls.mono (HR.out _ (HBK.out.next hF.2.2.2)) ?_
  rintro _ w2 ⟨rfl, hb⟩
  replace hF := sf_next hF hb
  clear hb HR
  go_wp2_with fail
  go_ret
  exact ⟨rfl, hF.2.2.2⟩

namespace ryuRightP
set_option maxRecDepth 100000 in
set_option maxHeartbeats 2000000 in
theorem walk (E M x : Nat) (hx : x < 18446744073709551616) (w : World) :
    Calls Oajg.prog 3 #[.agg #[.int .u8 (E : Int), .int .u8 (M : Int)], .int .u64 (x : Int)] w fun e w' => e = .returned (.bool true) ∧ Below w.heap.size w w' := by
  have hF := sf_box w E M
  have HB := hid_mk build_ok
  have HR := hid_mk (fun (tb t : Nat) (C : Array Value) (hTab : TabAt C) (W : World) (hW : Blk W tb C t) => ryuRight_ok E M x tb t C hTab hx W hW)
  go_enter Oajg.func3, Oajg.ntmps3
  go_wp2_with fail
  go_region_held3 (fun W => W.cell? ⟨w.heap.size, 0, none⟩ = some (.int .u8 (E : Int)) ∧ W.cell? ⟨w.heap.size, 1, none⟩ = some (.int .u8 (M : Int)) ∧ w.heap.size < W.heap.size ∧ Below w.heap.size w W)
    ((repeat' (first | with_reducible assumption | with_reducible refine sf_drew ?_)))
    ((first | (go_at_call 16; refine Calls.mono (HB.out _) ?_; rintro _ w1 ⟨tb, C, t, rfl, hblk, htab, hb⟩; have hS1 := sf_next (by with_reducible assumption) hb; (have HBK := hid_mk hblk); (have HTB := hid_mk htab); clear hb hblk htab) | (go_at_call 15; refine Calls.mono (HR.out _ _ _ HTB.out _ HBK.out) ?_; rintro _ w2 ⟨rfl, hb⟩; have hS2 := sf_next (by with_reducible assumption) hb; clear hb)))
  all_goals go_wp2_with fail
  all_goals go_ret
  all_goals exact ⟨rfl, hS2.2.2.2⟩

theorem own : ownKnob Oajg.prog.godebug = none := by kernel_rfl
theorem cells23 : Oajg.prog.cellsOf 23 = 2 := by kernel_rfl

/-! ### THE ROW's STEP -/
open Go.ChangeShapes Go.WideShapes Go.ChangeAt Go.Joins
set_option maxRecDepth 100000 in
theorem lifted (os : Os) (started : os.Started) (H : Type) (enc : TypeId × Value → H) :
    ReturnsInHanded {} Oajg.checked os 3 .any (Rows.ryuRightSpec.pre6 enc Oajg.prog Oajg.f3 Rows.ryuRightRow.domain false) (Rows.ryuRightSpec.post enc Oajg.prog Oajg.f3 false true false false) := by
  refine returnsInHanded_of_change (C := Oajg.checked) own started (by kernel_rfl) Oajg.func3
    (ChangeSpec.witness6 (enc := enc) (C := Oajg.checked) false ⟨#[], #[.agg #[.int .u8 0, .int .u8 0], .int .u64 0], []⟩ 8 (by kernel_rfl) (by kernel_rfl) (by kernel_rfl) (by kernel_rfl)) ?_
  intro W base args ds gs before hval0 hW _ _
  have hval : ∀ (j : Nat) t v, Oajg.f3.params[j]? = some t → args[j]? = some v → Value.okWide Oajg.prog W .any base t v := hval0
  have hW' := hW
  obtain ⟨p, q, hA0, hV, rfl, hfz, hnd⟩ := hW
  have hA : DataW.TrodAll enc Oajg.prog W 0 (fun _ => true) true Oajg.f3.params.toList args.toList ds p := hA0
  rw [Oajg.params3] at hA hval
  obtain ⟨v0, vs0, d0, ds0, p0, q0, hargs, rfl, rfl, h0, r0⟩ := trodAll_cons hA
  obtain ⟨v1, vs1, d1, ds1, p1, q1, rfl, rfl, rfl, h1, r1⟩ := trodAll_cons r0
  obtain ⟨rfl, rfl, rfl⟩ := trodAll_nil r1
  obtain rfl : args = #[v0, v1] := by cases args; simp_all
  obtain ⟨rfl, rfl⟩ := trodVars_none hV
  obtain ⟨ca0, cb0, ya0, yb0, m0, rfl, rfl, rfl, hya0, hyb0⟩ := open_agg2 Oajg.underlying23 (by kernel_rfl) cells23 (hval 0 23 v0 rfl rfl) h0
  obtain ⟨a0, ea0, rfl, wa0⟩ := DataW.trod_int Oajg.underlying5 hya0
  obtain ⟨b0, eb0, rfl, wb0⟩ := DataW.trod_int Oajg.underlying5 hyb0
  simp at ea0 eb0
  subst ea0 eb0
  obtain ⟨x1, rfl, rfl, rfl, wx1⟩ := open_int Oajg.underlying24 (hval 1 24 v1 rfl rfl) h1
  clear hA0 hval0
  have hba0 := bounds_u8 wa0
  have hbb0 := bounds_u8 wb0
  have hbx1 := bounds_u64 wx1
  have sr0 : ∀ (W' : World) (sp : Nat → Bool), DataW.Trod enc Oajg.prog W' 0 sp true 23 (.agg #[.int .u8 a0, .int .u8 b0]) (.agg [.lit (.int .u8 a0), .lit (.int .u8 b0)]) [] := fun W' sp =>
    shut_agg2 (y0 := (.lit (.int .u8 a0), [])) (y1 := (.lit (.int .u8 b0), [])) Oajg.underlying23 (by kernel_rfl) cells23 ⟨1, by simp [DataW.trod, Oajg.underlying5, wa0]⟩ ⟨1, by simp [DataW.trod, Oajg.underlying5, wb0]⟩
  simp only [List.append_nil] at hW'
  have hwalk : Calls Oajg.prog 3 #[.agg #[.int .u8 a0, .int .u8 b0], .int .u64 x1] W fun e w' => e = .returned (.bool true) ∧ Below W.heap.size W w' := by
    obtain ⟨na0, rfl⟩ := Int.eq_ofNat_of_zero_le hba0.1
    obtain ⟨nb0, rfl⟩ := Int.eq_ofNat_of_zero_le hbb0.1
    obtain ⟨nx1, rfl⟩ := Int.eq_ofNat_of_zero_le hbx1.1
    exact walk na0 nb0 nx1 (by omega) W
  refine hwalk.mono fun e W' ⟨he, hg⟩ => ?_
  subst he
  exact ⟨_, rfl, post_of_below (pa := []) (pv := []) hW' (fun _ _ _ => (trodAll_cons_mk (shut_bool Oajg.underlying4 _) trodAll_mk0)) (fun sp _ => (trodAll_cons_mk (sr0 _ sp) (trodAll_cons_mk (shut_int Oajg.underlying24 wx1) trodAll_mk0))) (fun _ _ => rfl) rfl hg⟩

theorem over : Rows.ryuRightRow.holds Oajg.pinned (OpenSpec.ofChange Rows.ryuRightSpec) :=
  OpenClaim.holds_of_wide 3 Oajg.f3 rfl rfl rfl rfl rfl rfl rfl ⟨rfl, rfl, rfl, rfl, rfl⟩ rfl rfl rfl rfl rfl (by kernel_rfl) Oajg.func3 (by kernel_rfl)
    (of_decide_eq_true (by kernel_rfl)) (by unfold Func.isWrapper; first | (rw [if_pos (by decide +kernel)]; kernel_rfl) | (rw [if_neg (by decide +kernel)]; exact ⟨rfl, rfl⟩))
    (fun os started H enc _ => lifted os started H enc)

theorem proved : Rows.RyuRightSaid :=
  over
#print axioms proved

end ryuRightP
end Go.Proofs.Ygcoaj
