/-
  THE CLAIM: law.SoftConvert.
-/
import Derived.Test.YgcoajRows
import Derived.Test.YgcoajFrame
import Derived.Test.YgcoajCv
import Derived.Lib.SmallJoins
import Derived.WalkKit
import Derived.ProofKit
import Derived.OpenShut
set_option linter.unusedVariables false
set_option linter.unusedSimpArgs false
namespace Go.Proofs.Ygcoaj
open Go.RowKit

theorem ff_drew {w W : World} {b c E1 M1 E2 M2 : Nat} (h : (W.cell? ⟨b, 0, none⟩ = some (.int .u8 (E1 : Int)) ∧ W.cell? ⟨b, 1, none⟩ = some (.int .u8 (M1 : Int)) ∧ b < W.heap.size ∧ Below w.heap.size w W) ∧ (W.cell? ⟨c, 0, none⟩ = some (.int .u8 (E2 : Int)) ∧ W.cell? ⟨c, 1, none⟩ = some (.int .u8 (M2 : Int)) ∧ c < W.heap.size ∧ Below w.heap.size w W)) : (W.drew.cell? ⟨b, 0, none⟩ = some (.int .u8 (E1 : Int)) ∧ W.drew.cell? ⟨b, 1, none⟩ = some (.int .u8 (M1 : Int)) ∧ b < W.drew.heap.size ∧ Below w.heap.size w W.drew) ∧ (W.drew.cell? ⟨c, 0, none⟩ = some (.int .u8 (E2 : Int)) ∧ W.drew.cell? ⟨c, 1, none⟩ = some (.int .u8 (M2 : Int)) ∧ c < W.drew.heap.size ∧ Below w.heap.size w W.drew) := ⟨sf_drew h.1, sf_drew h.2⟩

namespace softConvertP
set_option maxRecDepth 100000 in
set_option maxHeartbeats 2000000 in
theorem walk (E1 M1 E2 M2 mo a : Nat) (ha : a < 18446744073709551616) (w : World) :
    Calls Oajg.prog 13 #[.agg #[.int .u8 (E1 : Int), .int .u8 (M1 : Int)], .agg #[.int .u8 (E2 : Int), .int .u8 (M2 : Int)], .int .u8 (mo : Int), .int .u64 (a : Int)] w fun e w' => e = .returned (.bool true) ∧ Below w.heap.size w w' := by
  have hF := ff_box w E1 M1 E2 M2
  cases hO1 : okB E1 M1 with
  | false =>
    have HO1 : Hid (∀ w, Calls Oajg.prog 17 #[.agg #[.int .u8 (E1 : Int), .int .u8 (M1 : Int)]] w fun e w' => e = .returned (.bool false) ∧ Below w.heap.size w w') := ok_not hO1
    clear hO1
    go_enter Oajg.func13, Oajg.ntmps13
    go_wp2_with fail
    refine wp_region_noPanic ?_
    refine wp_region_held_drew (S := fun W => (W.cell? ⟨w.heap.size, 0, none⟩ = some (.int .u8 (E1 : Int)) ∧ W.cell? ⟨w.heap.size, 1, none⟩ = some (.int .u8 (M1 : Int)) ∧ w.heap.size < W.heap.size ∧ Below w.heap.size w W) ∧ (W.cell? ⟨(w.heap.size + 1), 0, none⟩ = some (.int .u8 (E2 : Int)) ∧ W.cell? ⟨(w.heap.size + 1), 1, none⟩ = some (.int .u8 (M2 : Int)) ∧ (w.heap.size + 1) < W.heap.size ∧ Below w.heap.size w W)) (by kernel_rfl) (ff_drew hF) (fun hHeld => ?_)
    refine wpAnyH_take (i := 0) (v := ?_) rfl (by kernel_rfl) (by kernel_rfl) (by kernel_rfl) (fun _ _ _ h => h) (Or.inl ⟨by rfl, ?_⟩) (by with_reducible assumption) ?_
    rotate_left
    · intro w hSw; (try dsimp only at hSw); go_simp; try rfl
    (try simp only [Act.put, List.getElem_toArray, List.getElem_cons_succ, List.getElem_cons_zero, List.setIfInBounds_toArray, List.set_cons_zero, List.set_cons_succ])
    refine wpAnyH_ready (rs := [1]) (by kernel_rfl) (by simp) ?_
    refine AllReadyH.cons rfl (fun K hK => ?_) AllReadyH.nil
    go_simp
    refine Calls.mono (HO1.out _) ?_
    rintro _ w1 ⟨rfl, hq⟩
    have hS1 := ff_next hHeld hq
    clear hq hHeld
    go_wp2_with fail
    refine hK.out _ _ hS1 (fun _ => ?_)
    clear hK K
    (try simp only [Act.put, List.getElem_toArray, List.getElem_cons_succ, List.getElem_cons_zero, List.setIfInBounds_toArray, List.set_cons_zero, List.set_cons_succ])
    refine wpAnyH_take (i := 2) (v := ?_) rfl (by kernel_rfl) (by kernel_rfl) (by kernel_rfl) (fun _ _ _ h => h) (Or.inl ⟨by rfl, ?_⟩) (by with_reducible assumption) ?_
    rotate_left
    · intro w hSw; (try dsimp only at hSw); go_simp; try rfl
    (try simp only [Act.put, List.getElem_toArray, List.getElem_cons_succ, List.getElem_cons_zero, List.setIfInBounds_toArray, List.set_cons_zero, List.set_cons_succ])
    refine wpAnyH_take (i := 3) (v := ?_) rfl (by kernel_rfl) (by kernel_rfl) (by kernel_rfl) (fun _ _ _ h => h) (Or.inl ⟨by rfl, ?_⟩) (by with_reducible assumption) ?_
    rotate_left
    · intro w hSw; (try dsimp only at hSw); go_simp; try rfl
    (try simp only [Act.put, List.getElem_toArray, List.getElem_cons_succ, List.getElem_cons_zero, List.setIfInBounds_toArray, List.set_cons_zero, List.set_cons_succ])
    refine wpAnyH_take (i := 4) (v := undef) rfl (by kernel_rfl) (by kernel_rfl) (by kernel_rfl) (fun _ _ _ h => h) (Or.inr ⟨by rfl, rfl⟩) (by with_reducible assumption) ?_
    (try simp only [Act.put, List.getElem_toArray, List.getElem_cons_succ, List.getElem_cons_zero, List.setIfInBounds_toArray, List.set_cons_zero, List.set_cons_succ])
    refine wpAnyH_take (i := 5) (v := undef) rfl (by kernel_rfl) (by kernel_rfl) (by kernel_rfl) (fun _ _ _ h => h) (Or.inr ⟨by rfl, rfl⟩) (by with_reducible assumption) ?_
    (try simp only [Act.put, List.getElem_toArray, List.getElem_cons_succ, List.getElem_cons_zero, List.setIfInBounds_toArray, List.set_cons_zero, List.set_cons_succ])
    refine wpAnyH_take (i := 6) (v := undef) rfl (by kernel_rfl) (by kernel_rfl) (by kernel_rfl) (fun _ _ _ h => h) (Or.inr ⟨by rfl, rfl⟩) (by with_reducible assumption) ?_
    (try simp only [Act.put, List.getElem_toArray, List.getElem_cons_succ, List.getElem_cons_zero, List.setIfInBounds_toArray, List.set_cons_zero, List.set_cons_succ])
    refine wpAnyH_take (i := 7) (v := ?_) rfl (by kernel_rfl) (by kernel_rfl) (by kernel_rfl) (fun _ _ _ h => h) (Or.inl ⟨by rfl, ?_⟩) (by with_reducible assumption) ?_
    rotate_left
    · intro w hSw; (try dsimp only at hSw); go_simp; try rfl
    (try simp only [Act.put, List.getElem_toArray, List.getElem_cons_succ, List.getElem_cons_zero, List.setIfInBounds_toArray, List.set_cons_zero, List.set_cons_succ])
    refine wpAnyH_take (i := 8) (v := ?_) rfl (by kernel_rfl) (by kernel_rfl) (by kernel_rfl) (fun _ _ _ h => h) (Or.inl ⟨by rfl, ?_⟩) (by with_reducible assumption) ?_
    rotate_left
    · intro w hSw; (try dsimp only at hSw); go_simp; try rfl
    (try simp only [Act.put, List.getElem_toArray, List.getElem_cons_succ, List.getElem_cons_zero, List.setIfInBounds_toArray, List.set_cons_zero, List.set_cons_succ])
    refine wpAnyH_take (i := 9) (v := undef) rfl (by kernel_rfl) (by kernel_rfl) (by kernel_rfl) (fun _ _ _ h => h) (Or.inr ⟨by rfl, rfl⟩) (by with_reducible assumption) ?_
    (try simp only [Act.put, List.getElem_toArray, List.getElem_cons_succ, List.getElem_cons_zero, List.setIfInBounds_toArray, List.set_cons_zero, List.set_cons_succ])
    refine wpAnyH_take (i := 10) (v := undef) rfl (by kernel_rfl) (by kernel_rfl) (by kernel_rfl) (fun _ _ _ h => h) (Or.inr ⟨by rfl, rfl⟩) (by with_reducible assumption) ?_
    (try simp only [Act.put, List.getElem_toArray, List.getElem_cons_succ, List.getElem_cons_zero, List.setIfInBounds_toArray, List.set_cons_zero, List.set_cons_succ])
    refine wpAnyH_take (i := 11) (v := undef) rfl (by kernel_rfl) (by kernel_rfl) (by kernel_rfl) (fun _ _ _ h => h) (Or.inr ⟨by rfl, rfl⟩) (by with_reducible assumption) ?_
    (try simp only [Act.put, List.getElem_toArray, List.getElem_cons_succ, List.getElem_cons_zero, List.setIfInBounds_toArray, List.set_cons_zero, List.set_cons_succ])
    refine wpAnyH_take (i := 12) (v := undef) rfl (by kernel_rfl) (by kernel_rfl) (by kernel_rfl) (fun _ _ _ h => h) (Or.inr ⟨by rfl, rfl⟩) (by with_reducible assumption) ?_
    (try simp only [Act.put, List.getElem_toArray, List.getElem_cons_succ, List.getElem_cons_zero, List.setIfInBounds_toArray, List.set_cons_zero, List.set_cons_succ])
    refine wpAnyH_take (i := 13) (v := undef) rfl (by kernel_rfl) (by kernel_rfl) (by kernel_rfl) (fun _ _ _ h => h) (Or.inr ⟨by rfl, rfl⟩) (by with_reducible assumption) ?_
    (try simp only [Act.put, List.getElem_toArray, List.getElem_cons_succ, List.getElem_cons_zero, List.setIfInBounds_toArray, List.set_cons_zero, List.set_cons_succ])
    refine wpAnyH_take (i := 14) (v := undef) rfl (by kernel_rfl) (by kernel_rfl) (by kernel_rfl) (fun _ _ _ h => h) (Or.inr ⟨by rfl, rfl⟩) (by with_reducible assumption) ?_
    (try simp only [Act.put, List.getElem_toArray, List.getElem_cons_succ, List.getElem_cons_zero, List.setIfInBounds_toArray, List.set_cons_zero, List.set_cons_succ])
    refine wpAnyH_take (i := 15) (v := undef) rfl (by kernel_rfl) (by kernel_rfl) (by kernel_rfl) (fun _ _ _ h => h) (Or.inr ⟨by rfl, rfl⟩) (by with_reducible assumption) ?_
    (try simp only [Act.put, List.getElem_toArray, List.getElem_cons_succ, List.getElem_cons_zero, List.setIfInBounds_toArray, List.set_cons_zero, List.set_cons_succ])
    refine wpAnyH_take (i := 16) (v := undef) rfl (by kernel_rfl) (by kernel_rfl) (by kernel_rfl) (fun _ _ _ h => h) (Or.inr ⟨by rfl, rfl⟩) (by with_reducible assumption) ?_
    (try simp only [Act.put, List.getElem_toArray, List.getElem_cons_succ, List.getElem_cons_zero, List.setIfInBounds_toArray, List.set_cons_zero, List.set_cons_succ])
    refine wpAnyH_take (i := 17) (v := undef) rfl (by kernel_rfl) (by kernel_rfl) (by kernel_rfl) (fun _ _ _ h => h) (Or.inr ⟨by rfl, rfl⟩) (by with_reducible assumption) ?_
    (try simp only [Act.put, List.getElem_toArray, List.getElem_cons_succ, List.getElem_cons_zero, List.setIfInBounds_toArray, List.set_cons_zero, List.set_cons_succ])
    refine wpAnyH_take (i := 18) (v := undef) rfl (by kernel_rfl) (by kernel_rfl) (by kernel_rfl) (fun _ _ _ h => h) (Or.inr ⟨by rfl, rfl⟩) (by with_reducible assumption) ?_
    (try simp only [Act.put, List.getElem_toArray, List.getElem_cons_succ, List.getElem_cons_zero, List.setIfInBounds_toArray, List.set_cons_zero, List.set_cons_succ])
    refine wpAnyH_take (i := 19) (v := undef) rfl (by kernel_rfl) (by kernel_rfl) (by kernel_rfl) (fun _ _ _ h => h) (Or.inr ⟨by rfl, rfl⟩) (by with_reducible assumption) ?_
    (try simp only [Act.put, List.getElem_toArray, List.getElem_cons_succ, List.getElem_cons_zero, List.setIfInBounds_toArray, List.set_cons_zero, List.set_cons_succ])
    refine wpAnyH_take (i := 20) (v := ?_) rfl (by kernel_rfl) (by kernel_rfl) (by kernel_rfl) (fun _ _ _ h => h) (Or.inl ⟨by rfl, ?_⟩) (by with_reducible assumption) ?_
    rotate_left
    · intro w hSw; (try dsimp only at hSw); go_simp; try rfl
    (try simp only [Act.put, List.getElem_toArray, List.getElem_cons_succ, List.getElem_cons_zero, List.setIfInBounds_toArray, List.set_cons_zero, List.set_cons_succ])
    refine wpAnyH_take (i := 21) (v := ?_) rfl (by kernel_rfl) (by kernel_rfl) (by kernel_rfl) (fun _ _ _ h => h) (Or.inl ⟨by rfl, ?_⟩) (by with_reducible assumption) ?_
    rotate_left
    · intro w hSw; (try dsimp only at hSw); go_simp; try rfl
    (try simp only [Act.put, List.getElem_toArray, List.getElem_cons_succ, List.getElem_cons_zero, List.setIfInBounds_toArray, List.set_cons_zero, List.set_cons_succ])
    refine wpAnyH_done (by kernel_rfl) ?_ _
    refine NoPanic.normal ?_
    go_wp2_with fail
    go_ret
    exact ⟨rfl, hS1.1.2.2.2⟩
  | true =>
    have h1 := okB_spec hO1
    have HO1 : Hid (∀ w, Calls Oajg.prog 17 #[.agg #[.int .u8 (E1 : Int), .int .u8 (M1 : Int)]] w fun e w' => e = .returned (.bool true) ∧ Below w.heap.size w w') := ok_yes h1
    clear hO1
    cases hO2 : okB E2 M2 with
    | false =>
      have HO2 : Hid (∀ w, Calls Oajg.prog 17 #[.agg #[.int .u8 (E2 : Int), .int .u8 (M2 : Int)]] w fun e w' => e = .returned (.bool false) ∧ Below w.heap.size w w') := ok_not hO2
      clear hO2 h1
      go_enter Oajg.func13, Oajg.ntmps13
      go_wp2_with fail
      refine wp_region_noPanic ?_
      refine wp_region_held_drew (S := fun W => (W.cell? ⟨w.heap.size, 0, none⟩ = some (.int .u8 (E1 : Int)) ∧ W.cell? ⟨w.heap.size, 1, none⟩ = some (.int .u8 (M1 : Int)) ∧ w.heap.size < W.heap.size ∧ Below w.heap.size w W) ∧ (W.cell? ⟨(w.heap.size + 1), 0, none⟩ = some (.int .u8 (E2 : Int)) ∧ W.cell? ⟨(w.heap.size + 1), 1, none⟩ = some (.int .u8 (M2 : Int)) ∧ (w.heap.size + 1) < W.heap.size ∧ Below w.heap.size w W)) (by kernel_rfl) (ff_drew hF) (fun hHeld => ?_)
      refine wpAnyH_take (i := 0) (v := ?_) rfl (by kernel_rfl) (by kernel_rfl) (by kernel_rfl) (fun _ _ _ h => h) (Or.inl ⟨by rfl, ?_⟩) (by with_reducible assumption) ?_
      rotate_left
      · intro w hSw; (try dsimp only at hSw); go_simp; try rfl
      (try simp only [Act.put, List.getElem_toArray, List.getElem_cons_succ, List.getElem_cons_zero, List.setIfInBounds_toArray, List.set_cons_zero, List.set_cons_succ])
      refine wpAnyH_ready (rs := [1]) (by kernel_rfl) (by simp) ?_
      refine AllReadyH.cons rfl (fun K hK => ?_) AllReadyH.nil
      go_simp
      refine Calls.mono (HO1.out _) ?_
      rintro _ w1 ⟨rfl, hq⟩
      have hS1 := ff_next hHeld hq
      clear hq hHeld
      go_wp2_with fail
      refine hK.out _ _ hS1 (fun _ => ?_)
      clear hK K
      (try simp only [Act.put, List.getElem_toArray, List.getElem_cons_succ, List.getElem_cons_zero, List.setIfInBounds_toArray, List.set_cons_zero, List.set_cons_succ])
      refine wpAnyH_take (i := 2) (v := ?_) rfl (by kernel_rfl) (by kernel_rfl) (by kernel_rfl) (fun _ _ _ h => h) (Or.inl ⟨by rfl, ?_⟩) (by with_reducible assumption) ?_
      rotate_left
      · intro w hSw; (try dsimp only at hSw); go_simp; try rfl
      (try simp only [Act.put, List.getElem_toArray, List.getElem_cons_succ, List.getElem_cons_zero, List.setIfInBounds_toArray, List.set_cons_zero, List.set_cons_succ])
      refine wpAnyH_take (i := 3) (v := ?_) rfl (by kernel_rfl) (by kernel_rfl) (by kernel_rfl) (fun _ _ _ h => h) (Or.inl ⟨by rfl, ?_⟩) (by with_reducible assumption) ?_
      rotate_left
      · intro w hSw; (try dsimp only at hSw); go_simp; try rfl
      (try simp only [Act.put, List.getElem_toArray, List.getElem_cons_succ, List.getElem_cons_zero, List.setIfInBounds_toArray, List.set_cons_zero, List.set_cons_succ])
      refine wpAnyH_take (i := 4) (v := ?_) rfl (by kernel_rfl) (by kernel_rfl) (by kernel_rfl) (fun _ _ _ h => h) (Or.inl ⟨by rfl, ?_⟩) (by with_reducible assumption) ?_
      rotate_left
      · intro w hSw; (try dsimp only at hSw); go_simp; try rfl
      (try simp only [Act.put, List.getElem_toArray, List.getElem_cons_succ, List.getElem_cons_zero, List.setIfInBounds_toArray, List.set_cons_zero, List.set_cons_succ])
      refine wpAnyH_ready (rs := [5]) (by kernel_rfl) (by simp) ?_
      refine AllReadyH.cons rfl (fun K hK => ?_) AllReadyH.nil
      go_simp
      refine Calls.mono (HO2.out _) ?_
      rintro _ w1 ⟨rfl, hq⟩
      have hS2 := ff_next hS1 hq
      clear hq hS1
      go_wp2_with fail
      refine hK.out _ _ hS2 (fun _ => ?_)
      clear hK K
      (try simp only [Act.put, List.getElem_toArray, List.getElem_cons_succ, List.getElem_cons_zero, List.setIfInBounds_toArray, List.set_cons_zero, List.set_cons_succ])
      refine wpAnyH_take (i := 6) (v := ?_) rfl (by kernel_rfl) (by kernel_rfl) (by kernel_rfl) (fun _ _ _ h => h) (Or.inl ⟨by rfl, ?_⟩) (by with_reducible assumption) ?_
      rotate_left
      · intro w hSw; (try dsimp only at hSw); go_simp; try rfl
      (try simp only [Act.put, List.getElem_toArray, List.getElem_cons_succ, List.getElem_cons_zero, List.setIfInBounds_toArray, List.set_cons_zero, List.set_cons_succ])
      refine wpAnyH_take (i := 7) (v := ?_) rfl (by kernel_rfl) (by kernel_rfl) (by kernel_rfl) (fun _ _ _ h => h) (Or.inl ⟨by rfl, ?_⟩) (by with_reducible assumption) ?_
      rotate_left
      · intro w hSw; (try dsimp only at hSw); go_simp; try rfl
      (try simp only [Act.put, List.getElem_toArray, List.getElem_cons_succ, List.getElem_cons_zero, List.setIfInBounds_toArray, List.set_cons_zero, List.set_cons_succ])
      refine wpAnyH_take (i := 8) (v := ?_) rfl (by kernel_rfl) (by kernel_rfl) (by kernel_rfl) (fun _ _ _ h => h) (Or.inl ⟨by rfl, ?_⟩) (by with_reducible assumption) ?_
      rotate_left
      · intro w hSw; (try dsimp only at hSw); go_simp; try rfl
      (try simp only [Act.put, List.getElem_toArray, List.getElem_cons_succ, List.getElem_cons_zero, List.setIfInBounds_toArray, List.set_cons_zero, List.set_cons_succ])
      refine wpAnyH_take (i := 9) (v := undef) rfl (by kernel_rfl) (by kernel_rfl) (by kernel_rfl) (fun _ _ _ h => h) (Or.inr ⟨by rfl, rfl⟩) (by with_reducible assumption) ?_
      (try simp only [Act.put, List.getElem_toArray, List.getElem_cons_succ, List.getElem_cons_zero, List.setIfInBounds_toArray, List.set_cons_zero, List.set_cons_succ])
      refine wpAnyH_take (i := 10) (v := undef) rfl (by kernel_rfl) (by kernel_rfl) (by kernel_rfl) (fun _ _ _ h => h) (Or.inr ⟨by rfl, rfl⟩) (by with_reducible assumption) ?_
      (try simp only [Act.put, List.getElem_toArray, List.getElem_cons_succ, List.getElem_cons_zero, List.setIfInBounds_toArray, List.set_cons_zero, List.set_cons_succ])
      refine wpAnyH_take (i := 11) (v := undef) rfl (by kernel_rfl) (by kernel_rfl) (by kernel_rfl) (fun _ _ _ h => h) (Or.inr ⟨by rfl, rfl⟩) (by with_reducible assumption) ?_
      (try simp only [Act.put, List.getElem_toArray, List.getElem_cons_succ, List.getElem_cons_zero, List.setIfInBounds_toArray, List.set_cons_zero, List.set_cons_succ])
      refine wpAnyH_take (i := 12) (v := undef) rfl (by kernel_rfl) (by kernel_rfl) (by kernel_rfl) (fun _ _ _ h => h) (Or.inr ⟨by rfl, rfl⟩) (by with_reducible assumption) ?_
      (try simp only [Act.put, List.getElem_toArray, List.getElem_cons_succ, List.getElem_cons_zero, List.setIfInBounds_toArray, List.set_cons_zero, List.set_cons_succ])
      refine wpAnyH_take (i := 13) (v := undef) rfl (by kernel_rfl) (by kernel_rfl) (by kernel_rfl) (fun _ _ _ h => h) (Or.inr ⟨by rfl, rfl⟩) (by with_reducible assumption) ?_
      (try simp only [Act.put, List.getElem_toArray, List.getElem_cons_succ, List.getElem_cons_zero, List.setIfInBounds_toArray, List.set_cons_zero, List.set_cons_succ])
      refine wpAnyH_take (i := 14) (v := undef) rfl (by kernel_rfl) (by kernel_rfl) (by kernel_rfl) (fun _ _ _ h => h) (Or.inr ⟨by rfl, rfl⟩) (by with_reducible assumption) ?_
      (try simp only [Act.put, List.getElem_toArray, List.getElem_cons_succ, List.getElem_cons_zero, List.setIfInBounds_toArray, List.set_cons_zero, List.set_cons_succ])
      refine wpAnyH_take (i := 15) (v := undef) rfl (by kernel_rfl) (by kernel_rfl) (by kernel_rfl) (fun _ _ _ h => h) (Or.inr ⟨by rfl, rfl⟩) (by with_reducible assumption) ?_
      (try simp only [Act.put, List.getElem_toArray, List.getElem_cons_succ, List.getElem_cons_zero, List.setIfInBounds_toArray, List.set_cons_zero, List.set_cons_succ])
      refine wpAnyH_take (i := 16) (v := undef) rfl (by kernel_rfl) (by kernel_rfl) (by kernel_rfl) (fun _ _ _ h => h) (Or.inr ⟨by rfl, rfl⟩) (by with_reducible assumption) ?_
      (try simp only [Act.put, List.getElem_toArray, List.getElem_cons_succ, List.getElem_cons_zero, List.setIfInBounds_toArray, List.set_cons_zero, List.set_cons_succ])
      refine wpAnyH_take (i := 17) (v := undef) rfl (by kernel_rfl) (by kernel_rfl) (by kernel_rfl) (fun _ _ _ h => h) (Or.inr ⟨by rfl, rfl⟩) (by with_reducible assumption) ?_
      (try simp only [Act.put, List.getElem_toArray, List.getElem_cons_succ, List.getElem_cons_zero, List.setIfInBounds_toArray, List.set_cons_zero, List.set_cons_succ])
      refine wpAnyH_take (i := 18) (v := undef) rfl (by kernel_rfl) (by kernel_rfl) (by kernel_rfl) (fun _ _ _ h => h) (Or.inr ⟨by rfl, rfl⟩) (by with_reducible assumption) ?_
      (try simp only [Act.put, List.getElem_toArray, List.getElem_cons_succ, List.getElem_cons_zero, List.setIfInBounds_toArray, List.set_cons_zero, List.set_cons_succ])
      refine wpAnyH_take (i := 19) (v := undef) rfl (by kernel_rfl) (by kernel_rfl) (by kernel_rfl) (fun _ _ _ h => h) (Or.inr ⟨by rfl, rfl⟩) (by with_reducible assumption) ?_
      (try simp only [Act.put, List.getElem_toArray, List.getElem_cons_succ, List.getElem_cons_zero, List.setIfInBounds_toArray, List.set_cons_zero, List.set_cons_succ])
      refine wpAnyH_take (i := 20) (v := ?_) rfl (by kernel_rfl) (by kernel_rfl) (by kernel_rfl) (fun _ _ _ h => h) (Or.inl ⟨by rfl, ?_⟩) (by with_reducible assumption) ?_
      rotate_left
      · intro w hSw; (try dsimp only at hSw); go_simp; try rfl
      (try simp only [Act.put, List.getElem_toArray, List.getElem_cons_succ, List.getElem_cons_zero, List.setIfInBounds_toArray, List.set_cons_zero, List.set_cons_succ])
      refine wpAnyH_take (i := 21) (v := ?_) rfl (by kernel_rfl) (by kernel_rfl) (by kernel_rfl) (fun _ _ _ h => h) (Or.inl ⟨by rfl, ?_⟩) (by with_reducible assumption) ?_
      rotate_left
      · intro w hSw; (try dsimp only at hSw); go_simp; try rfl
      (try simp only [Act.put, List.getElem_toArray, List.getElem_cons_succ, List.getElem_cons_zero, List.setIfInBounds_toArray, List.set_cons_zero, List.set_cons_succ])
      refine wpAnyH_done (by kernel_rfl) ?_ _
      refine NoPanic.normal ?_
      go_wp2_with fail
      go_ret
      exact ⟨rfl, hS2.1.2.2.2⟩
    | true =>
      have h2 := okB_spec hO2
      have HO2 : Hid (∀ w, Calls Oajg.prog 17 #[.agg #[.int .u8 (E2 : Int), .int .u8 (M2 : Int)]] w fun e w' => e = .returned (.bool true) ∧ Below w.heap.size w w') := ok_yes h2
      have HS : Hid (∀ w, Calls Oajg.prog 54 #[.agg #[.int .u8 (E1 : Int), .int .u8 (M1 : Int)], .agg #[.int .u8 (E2 : Int), .int .u8 (M2 : Int)], .int .u8 (mo : Int), .int .u64 (a : Int)] w fun e w' => e = .returned (.int .u64 (cvN E1 M1 E2 M2 mo a : Nat)) ∧ Below w.heap.size w w') := convS_ok E1 M1 E2 M2 h1 h2 mo a ha
      have HX : Hid (∀ w, Calls Oajg.prog 55 #[.agg #[.int .u8 (E1 : Int), .int .u8 (M1 : Int)], .agg #[.int .u8 (E2 : Int), .int .u8 (M2 : Int)], .int .u8 (mo : Int), .int .u64 (a : Int)] w fun e w' => e = .returned (.int .u64 (cvN E1 M1 E2 M2 mo a : Nat)) ∧ Below w.heap.size w w') := convX_ok E1 M1 E2 M2 h1 h2 mo a ha
      clear hO2 h1 h2
      generalize cvN E1 M1 E2 M2 mo a = r at *
      go_enter Oajg.func13, Oajg.ntmps13
      go_wp2_with fail
      go_region_held3 (fun W => (W.cell? ⟨w.heap.size, 0, none⟩ = some (.int .u8 (E1 : Int)) ∧ W.cell? ⟨w.heap.size, 1, none⟩ = some (.int .u8 (M1 : Int)) ∧ w.heap.size < W.heap.size ∧ Below w.heap.size w W) ∧ (W.cell? ⟨(w.heap.size + 1), 0, none⟩ = some (.int .u8 (E2 : Int)) ∧ W.cell? ⟨(w.heap.size + 1), 1, none⟩ = some (.int .u8 (M2 : Int)) ∧ (w.heap.size + 1) < W.heap.size ∧ Below w.heap.size w W))
        ((repeat' (first | with_reducible assumption | with_reducible refine ff_drew ?_)))
        ((first | (go_at_call 17; (with_reducible refine Calls.mono (HO1.out _) ?_); rintro _ w1 ⟨rfl, hb⟩; have hS1 := ff_next (by with_reducible assumption) hb; clear hb) | (go_at_call 17; (with_reducible refine Calls.mono (HO2.out _) ?_); rintro _ w2 ⟨rfl, hb⟩; have hS2 := ff_next (by with_reducible assumption) hb; clear hb) | (go_at_call 54; refine Calls.mono (HS.out _) ?_; rintro _ w3 ⟨rfl, hb⟩; have hS3 := ff_next (by with_reducible assumption) hb; clear hb) | (go_at_call 55; refine Calls.mono (HX.out _) ?_; rintro _ w4 ⟨rfl, hb⟩; have hS4 := ff_next (by with_reducible assumption) hb; clear hb)))
      go_wp2_with fail
      go_ret
      exact ⟨by simp, hS4.1.2.2.2⟩

theorem own : ownKnob Oajg.prog.godebug = none := by kernel_rfl
theorem cells23 : Oajg.prog.cellsOf 23 = 2 := by kernel_rfl

/-! ### THE ROW's STEP -/
open Go.ChangeShapes Go.WideShapes Go.ChangeAt Go.Joins
set_option maxRecDepth 100000 in
theorem lifted (os : Os) (started : os.Started) (H : Type) (enc : TypeId × Value → H) :
    ReturnsInHanded {} Oajg.checked os 13 .any (Rows.softConvertSpec.pre6 enc Oajg.prog Oajg.f13 Rows.softConvertRow.domain false) (Rows.softConvertSpec.post enc Oajg.prog Oajg.f13 false true false false) := by
  refine returnsInHanded_of_change (C := Oajg.checked) own started (by kernel_rfl) Oajg.func13
    (ChangeSpec.witness6 (enc := enc) (C := Oajg.checked) false ⟨#[], #[.agg #[.int .u8 0, .int .u8 0], .agg #[.int .u8 0, .int .u8 0], .int .u8 0, .int .u64 0], []⟩ 8 (by kernel_rfl) (by kernel_rfl) (by kernel_rfl) (by kernel_rfl)) ?_
  intro W base args ds gs before hval0 hW _ _
  have hval : ∀ (j : Nat) t v, Oajg.f13.params[j]? = some t → args[j]? = some v → Value.okWide Oajg.prog W .any base t v := hval0
  have hW' := hW
  obtain ⟨p, q, hA0, hV, rfl, hfz, hnd⟩ := hW
  have hA : DataW.TrodAll enc Oajg.prog W 0 (fun _ => true) true Oajg.f13.params.toList args.toList ds p := hA0
  rw [Oajg.params13] at hA hval
  obtain ⟨v0, vs0, d0, ds0, p0, q0, hargs, rfl, rfl, h0, r0⟩ := trodAll_cons hA
  obtain ⟨v1, vs1, d1, ds1, p1, q1, rfl, rfl, rfl, h1, r1⟩ := trodAll_cons r0
  obtain ⟨v2, vs2, d2, ds2, p2, q2, rfl, rfl, rfl, h2, r2⟩ := trodAll_cons r1
  obtain ⟨v3, vs3, d3, ds3, p3, q3, rfl, rfl, rfl, h3, r3⟩ := trodAll_cons r2
  obtain ⟨rfl, rfl, rfl⟩ := trodAll_nil r3
  obtain rfl : args = #[v0, v1, v2, v3] := by cases args; simp_all
  obtain ⟨rfl, rfl⟩ := trodVars_none hV
  obtain ⟨c0, c1, y0, y1, m, rfl, rfl, rfl, hy0, hy1⟩ := open_agg2 Oajg.underlying23 (by kernel_rfl) cells23 (hval 0 23 v0 rfl rfl) h0
  obtain ⟨a, e0, rfl, wa⟩ := DataW.trod_int Oajg.underlying5 hy0
  obtain ⟨b, e1, rfl, wb⟩ := DataW.trod_int Oajg.underlying5 hy1
  simp at e0 e1
  subst e0 e1
  obtain ⟨c2, c3, y2, y3, m2, rfl, rfl, rfl, hy2, hy3⟩ := open_agg2 Oajg.underlying23 (by kernel_rfl) cells23 (hval 1 23 v1 rfl rfl) h1
  obtain ⟨a', e2, rfl, wa'⟩ := DataW.trod_int Oajg.underlying5 hy2
  obtain ⟨b', e3, rfl, wb'⟩ := DataW.trod_int Oajg.underlying5 hy3
  simp at e2 e3
  subst e2 e3
  obtain ⟨x, rfl, rfl, rfl, wx⟩ := open_int Oajg.underlying29 (hval 2 29 v2 rfl rfl) h2
  obtain ⟨y, rfl, rfl, rfl, wy⟩ := open_int Oajg.underlying24 (hval 3 24 v3 rfl rfl) h3
  clear hA0 hval0
  have hba := bounds_u8 wa
  have hbb := bounds_u8 wb
  have hba' := bounds_u8 wa'
  have hbb' := bounds_u8 wb'
  have hbx := bounds_u8 wx
  have hby := bounds_u64 wy
  have structReads : ∀ (W' : World) (sp : Nat → Bool), DataW.Trod enc Oajg.prog W' 0 sp true 23 (.agg #[.int .u8 a, .int .u8 b]) (.agg [.lit (.int .u8 a), .lit (.int .u8 b)]) [] := fun W' sp =>
    shut_agg2 (y0 := (.lit (.int .u8 a), [])) (y1 := (.lit (.int .u8 b), [])) Oajg.underlying23 (by kernel_rfl) cells23 ⟨1, by simp [DataW.trod, Oajg.underlying5, wa]⟩ ⟨1, by simp [DataW.trod, Oajg.underlying5, wb]⟩
  have structReads2 : ∀ (W' : World) (sp : Nat → Bool), DataW.Trod enc Oajg.prog W' 0 sp true 23 (.agg #[.int .u8 a', .int .u8 b']) (.agg [.lit (.int .u8 a'), .lit (.int .u8 b')]) [] := fun W' sp =>
    shut_agg2 (y0 := (.lit (.int .u8 a'), [])) (y1 := (.lit (.int .u8 b'), [])) Oajg.underlying23 (by kernel_rfl) cells23 ⟨1, by simp [DataW.trod, Oajg.underlying5, wa']⟩ ⟨1, by simp [DataW.trod, Oajg.underlying5, wb']⟩
  simp only [List.append_nil] at hW'
  have hwalk : Calls Oajg.prog 13 #[.agg #[.int .u8 a, .int .u8 b], .agg #[.int .u8 a', .int .u8 b'], .int .u8 x, .int .u64 y] W fun e w' => e = .returned (.bool true) ∧ Below W.heap.size W w' := by
    obtain ⟨na, rfl⟩ := Int.eq_ofNat_of_zero_le hba.1
    obtain ⟨nb, rfl⟩ := Int.eq_ofNat_of_zero_le hbb.1
    obtain ⟨na', rfl⟩ := Int.eq_ofNat_of_zero_le hba'.1
    obtain ⟨nb', rfl⟩ := Int.eq_ofNat_of_zero_le hbb'.1
    obtain ⟨nx, rfl⟩ := Int.eq_ofNat_of_zero_le hbx.1
    obtain ⟨ny, rfl⟩ := Int.eq_ofNat_of_zero_le hby.1
    exact walk na nb na' nb' nx ny (by omega) W
  refine hwalk.mono fun e W' ⟨he, hg⟩ => ?_
  subst he
  exact ⟨_, rfl, post_of_below (pa := []) (pv := []) hW' (fun _ _ _ => (trodAll_cons_mk (shut_bool Oajg.underlying4 _) trodAll_mk0)) (fun sp _ => (trodAll_cons_mk (structReads _ sp) (trodAll_cons_mk (structReads2 _ sp) (trodAll_cons_mk (shut_int Oajg.underlying29 wx) (trodAll_cons_mk (shut_int Oajg.underlying24 wy) trodAll_mk0))))) (fun _ _ => rfl) rfl hg⟩

theorem over : Rows.softConvertRow.holds Oajg.pinned (OpenSpec.ofChange Rows.softConvertSpec) :=
  OpenClaim.holds_of_wide 13 Oajg.f13 rfl rfl rfl rfl rfl rfl rfl ⟨rfl, rfl, rfl, rfl, rfl⟩ rfl rfl rfl rfl rfl (by kernel_rfl) Oajg.func13 (by kernel_rfl)
    (of_decide_eq_true (by kernel_rfl)) (by unfold Func.isWrapper; first | (rw [if_pos (by decide +kernel)]; kernel_rfl) | (rw [if_neg (by decide +kernel)]; exact ⟨rfl, rfl⟩))
    (fun os started H enc _ => lifted os started H enc)

theorem proved : Rows.SoftConvertSaid :=
  over
#print axioms proved

end softConvertP
end Go.Proofs.Ygcoaj
