/-
  WALK: wide.Sub (210).
-/
import Derived.Test.YgcoajBn1
import Derived.Deep.RegionWith
set_option linter.unusedVariables false
set_option linter.unusedSimpArgs false
namespace Go.Proofs.Ygcoaj
open Go.RowKit

theorem tc_next {w W W' : World} {b n : Nat} {u0 u1 x0 x1 : Value} (h : (W.cell? ⟨b, 0, none⟩ = some u0 ∧ W.cell? ⟨b, 1, none⟩ = some u1 ∧ (∀ o, W.frozen? ⟨b, o, none⟩ = false) ∧ b < W.heap.size) ∧ (W.cell? ⟨n, 0, none⟩ = some x0 ∧ W.cell? ⟨n, 1, none⟩ = some x1 ∧ (∀ o, W.frozen? ⟨n, o, none⟩ = false) ∧ n < W.heap.size) ∧ Below w.heap.size w W) (hb : Below W.heap.size W W') : (W'.cell? ⟨b, 0, none⟩ = some u0 ∧ W'.cell? ⟨b, 1, none⟩ = some u1 ∧ (∀ o, W'.frozen? ⟨b, o, none⟩ = false) ∧ b < W'.heap.size) ∧ (W'.cell? ⟨n, 0, none⟩ = some x0 ∧ W'.cell? ⟨n, 1, none⟩ = some x1 ∧ (∀ o, W'.frozen? ⟨n, o, none⟩ = false) ∧ n < W'.heap.size) ∧ Below w.heap.size w W' := ⟨bx2_next h.1 hb, bx2_next h.2.1 hb, below_then h.2.2 hb⟩
theorem tc_drew {w W : World} {b n : Nat} {u0 u1 x0 x1 : Value} (h : (W.cell? ⟨b, 0, none⟩ = some u0 ∧ W.cell? ⟨b, 1, none⟩ = some u1 ∧ (∀ o, W.frozen? ⟨b, o, none⟩ = false) ∧ b < W.heap.size) ∧ (W.cell? ⟨n, 0, none⟩ = some x0 ∧ W.cell? ⟨n, 1, none⟩ = some x1 ∧ (∀ o, W.frozen? ⟨n, o, none⟩ = false) ∧ n < W.heap.size) ∧ Below w.heap.size w W) : (W.drew.cell? ⟨b, 0, none⟩ = some u0 ∧ W.drew.cell? ⟨b, 1, none⟩ = some u1 ∧ (∀ o, W.drew.frozen? ⟨b, o, none⟩ = false) ∧ b < W.drew.heap.size) ∧ (W.drew.cell? ⟨n, 0, none⟩ = some x0 ∧ W.drew.cell? ⟨n, 1, none⟩ = some x1 ∧ (∀ o, W.drew.frozen? ⟨n, o, none⟩ = false) ∧ n < W.drew.heap.size) ∧ Below w.heap.size w W.drew := ⟨bx2_drew h.1, bx2_drew h.2.1, h.2.2.drew⟩
theorem tc_store {w W : World} {b n : Nat} {u0 u1 x0 x1 : Value} {m q : Nat} {v : Value} (h : (W.cell? ⟨b, 0, none⟩ = some u0 ∧ W.cell? ⟨b, 1, none⟩ = some u1 ∧ (∀ o, W.frozen? ⟨b, o, none⟩ = false) ∧ b < W.heap.size) ∧ (W.cell? ⟨n, 0, none⟩ = some x0 ∧ W.cell? ⟨n, 1, none⟩ = some x1 ∧ (∀ o, W.frozen? ⟨n, o, none⟩ = false) ∧ n < W.heap.size) ∧ Below w.heap.size w W) (hm : w.heap.size ≤ m ∧ m ≠ b ∧ m ≠ n) : ((W.setCell ⟨m, q, none⟩ v).cell? ⟨b, 0, none⟩ = some u0 ∧ (W.setCell ⟨m, q, none⟩ v).cell? ⟨b, 1, none⟩ = some u1 ∧ (∀ o, (W.setCell ⟨m, q, none⟩ v).frozen? ⟨b, o, none⟩ = false) ∧ b < (W.setCell ⟨m, q, none⟩ v).heap.size) ∧ ((W.setCell ⟨m, q, none⟩ v).cell? ⟨n, 0, none⟩ = some x0 ∧ (W.setCell ⟨m, q, none⟩ v).cell? ⟨n, 1, none⟩ = some x1 ∧ (∀ o, (W.setCell ⟨m, q, none⟩ v).frozen? ⟨n, o, none⟩ = false) ∧ n < (W.setCell ⟨m, q, none⟩ v).heap.size) ∧ Below w.heap.size w (W.setCell ⟨m, q, none⟩ v) :=
  ⟨⟨by rw [other _ _ (by simp [hm.2.1.symm])]; exact h.1.1, by rw [other _ _ (by simp [hm.2.1.symm])]; exact h.1.2.1, fun o => by rw [World.frozen?_setCell]; exact h.1.2.2.1 o, by simp only [World.size_setCell]; exact h.1.2.2.2⟩,
   ⟨by rw [other _ _ (by simp [hm.2.2.symm])]; exact h.2.1.1, by rw [other _ _ (by simp [hm.2.2.symm])]; exact h.2.1.2.1, fun o => by rw [World.frozen?_setCell]; exact h.2.1.2.2.1 o, by simp only [World.size_setCell]; exact h.2.1.2.2.2⟩, h.2.2.setCell hm.1 _⟩

theorem tc_store2 {w W : World} {b n : Nat} {u0 u1 x0 x1 : Value} {m : Nat} {v0 v1 : Value} (h : (W.cell? ⟨b, 0, none⟩ = some u0 ∧ W.cell? ⟨b, 1, none⟩ = some u1 ∧ (∀ o, W.frozen? ⟨b, o, none⟩ = false) ∧ b < W.heap.size) ∧ (W.cell? ⟨n, 0, none⟩ = some x0 ∧ W.cell? ⟨n, 1, none⟩ = some x1 ∧ (∀ o, W.frozen? ⟨n, o, none⟩ = false) ∧ n < W.heap.size) ∧ Below w.heap.size w W) (hm : w.heap.size ≤ m ∧ m ≠ b ∧ m ≠ n) : (((W.setCell ⟨m, 0, none⟩ v0).setCell ⟨m, 1, none⟩ v1).cell? ⟨b, 0, none⟩ = some u0 ∧ ((W.setCell ⟨m, 0, none⟩ v0).setCell ⟨m, 1, none⟩ v1).cell? ⟨b, 1, none⟩ = some u1 ∧ (∀ o, ((W.setCell ⟨m, 0, none⟩ v0).setCell ⟨m, 1, none⟩ v1).frozen? ⟨b, o, none⟩ = false) ∧ b < ((W.setCell ⟨m, 0, none⟩ v0).setCell ⟨m, 1, none⟩ v1).heap.size) ∧ (((W.setCell ⟨m, 0, none⟩ v0).setCell ⟨m, 1, none⟩ v1).cell? ⟨n, 0, none⟩ = some x0 ∧ ((W.setCell ⟨m, 0, none⟩ v0).setCell ⟨m, 1, none⟩ v1).cell? ⟨n, 1, none⟩ = some x1 ∧ (∀ o, ((W.setCell ⟨m, 0, none⟩ v0).setCell ⟨m, 1, none⟩ v1).frozen? ⟨n, o, none⟩ = false) ∧ n < ((W.setCell ⟨m, 0, none⟩ v0).setCell ⟨m, 1, none⟩ v1).heap.size) ∧ Below w.heap.size w ((W.setCell ⟨m, 0, none⟩ v0).setCell ⟨m, 1, none⟩ v1) :=
  @tc_store w (W.setCell ⟨m, 0, none⟩ v0) b n u0 u1 x0 x1 m 1 v1 (@tc_store w W b n u0 u1 x0 x1 m 0 v0 h hm) hm

set_option maxRecDepth 100000 in
set_option maxHeartbeats 4000000 in
theorem wsub_ok (ah al bh bl A B : Nat) (hA : Wd ah al A) (hB : Wd bh bl B) (hle : B ≤ A) (w : World) :
    Calls Oajg.prog 210 #[.agg #[.int .u64 (ah : Int), .int .u64 (al : Int)], .agg #[.int .u64 (bh : Int), .int .u64 (bl : Int)]] w fun e w' => ∃ hi lo : Nat, Wd hi lo (A - B) ∧ e = .returned (.tuple #[.agg #[.int .u64 (hi : Int), .int .u64 (lo : Int)], .bool false]) ∧ Below w.heap.size w w' := by
  obtain ⟨a1, a2, rfl⟩ := hA
  obtain ⟨b1, b2, rfl⟩ := hB
  have HC : Hid (∀ w, Calls Oajg.prog 188 #[.agg #[.int .u64 (ah : Int), .int .u64 (al : Int)], .agg #[.int .u64 (bh : Int), .int .u64 (bl : Int)]] w fun e w' => e = .returned (.int .i8 (cmpZ (w128 ah al) (w128 bh bl))) ∧ Below w.heap.size w w') := wcmp_ok ah al bh bl a1 a2 b1 b2
  obtain ⟨Z, HZ⟩ : ∃ Z, Hid (cmpZ (w128 ah al) (w128 bh bl) = Z) := ⟨_, rfl⟩
  have hZ : ¬ Z < 0 := by
    rw [← HZ.out]; unfold cmpZ; rw [if_neg (by omega)]; split <;> decide
  rw [HZ.out] at HC
  have HBW : Hid (Below w.heap.size w (((w.alloc (.cells #[.int .u64 (ah : Int), .int .u64 (al : Int)] 88)).alloc (.cells #[.int .u64 (bh : Int), .int .u64 (bl : Int)] 88)).alloc (.cells #[.int .u64 (0 : Int), .int .u64 (0 : Int)] 88))) := (((Below.refl _ _).alloc (Nat.le_refl _) _).alloc (by simp) _).alloc (by simp; omega) _
  have hR := bx2_made ((w.alloc (.cells #[.int .u64 (ah : Int), .int .u64 (al : Int)] 88)).alloc (.cells #[.int .u64 (bh : Int), .int .u64 (bl : Int)] 88)) (m := w.heap.size + 1 + 1) (.int .u64 0) (.int .u64 0) 88 (by simp)
  have hP := bx2_alloc (bx2_alloc (bx2_made w (m := w.heap.size) (.int .u64 (ah : Int)) (.int .u64 (al : Int)) 88 rfl) (.cells #[.int .u64 (bh : Int), .int .u64 (bl : Int)] 88)) (.cells #[.int .u64 (0 : Int), .int .u64 (0 : Int)] 88)
  have hQ := bx2_alloc (bx2_made (w.alloc (.cells #[.int .u64 (ah : Int), .int .u64 (al : Int)] 88)) (m := w.heap.size + 1) (.int .u64 (bh : Int)) (.int .u64 (bl : Int)) 88 (by simp)) (.cells #[.int .u64 (0 : Int), .int .u64 (0 : Int)] 88)
  have hS0 : ((((w.alloc (.cells #[.int .u64 (ah : Int), .int .u64 (al : Int)] 88)).alloc (.cells #[.int .u64 (bh : Int), .int .u64 (bl : Int)] 88)).alloc (.cells #[.int .u64 (0 : Int), .int .u64 (0 : Int)] 88)).cell? ⟨w.heap.size, 0, none⟩ = some (.int .u64 (ah : Int)) ∧ (((w.alloc (.cells #[.int .u64 (ah : Int), .int .u64 (al : Int)] 88)).alloc (.cells #[.int .u64 (bh : Int), .int .u64 (bl : Int)] 88)).alloc (.cells #[.int .u64 (0 : Int), .int .u64 (0 : Int)] 88)).cell? ⟨w.heap.size, 1, none⟩ = some (.int .u64 (al : Int)) ∧ (∀ o, (((w.alloc (.cells #[.int .u64 (ah : Int), .int .u64 (al : Int)] 88)).alloc (.cells #[.int .u64 (bh : Int), .int .u64 (bl : Int)] 88)).alloc (.cells #[.int .u64 (0 : Int), .int .u64 (0 : Int)] 88)).frozen? ⟨w.heap.size, o, none⟩ = false) ∧ w.heap.size < (((w.alloc (.cells #[.int .u64 (ah : Int), .int .u64 (al : Int)] 88)).alloc (.cells #[.int .u64 (bh : Int), .int .u64 (bl : Int)] 88)).alloc (.cells #[.int .u64 (0 : Int), .int .u64 (0 : Int)] 88)).heap.size) ∧ ((((w.alloc (.cells #[.int .u64 (ah : Int), .int .u64 (al : Int)] 88)).alloc (.cells #[.int .u64 (bh : Int), .int .u64 (bl : Int)] 88)).alloc (.cells #[.int .u64 (0 : Int), .int .u64 (0 : Int)] 88)).cell? ⟨(w.heap.size + 1), 0, none⟩ = some (.int .u64 (bh : Int)) ∧ (((w.alloc (.cells #[.int .u64 (ah : Int), .int .u64 (al : Int)] 88)).alloc (.cells #[.int .u64 (bh : Int), .int .u64 (bl : Int)] 88)).alloc (.cells #[.int .u64 (0 : Int), .int .u64 (0 : Int)] 88)).cell? ⟨(w.heap.size + 1), 1, none⟩ = some (.int .u64 (bl : Int)) ∧ (∀ o, (((w.alloc (.cells #[.int .u64 (ah : Int), .int .u64 (al : Int)] 88)).alloc (.cells #[.int .u64 (bh : Int), .int .u64 (bl : Int)] 88)).alloc (.cells #[.int .u64 (0 : Int), .int .u64 (0 : Int)] 88)).frozen? ⟨(w.heap.size + 1), o, none⟩ = false) ∧ (w.heap.size + 1) < (((w.alloc (.cells #[.int .u64 (ah : Int), .int .u64 (al : Int)] 88)).alloc (.cells #[.int .u64 (bh : Int), .int .u64 (bl : Int)] 88)).alloc (.cells #[.int .u64 (0 : Int), .int .u64 (0 : Int)] 88)).heap.size) ∧ Below w.heap.size w (((w.alloc (.cells #[.int .u64 (ah : Int), .int .u64 (al : Int)] 88)).alloc (.cells #[.int .u64 (bh : Int), .int .u64 (bl : Int)] 88)).alloc (.cells #[.int .u64 (0 : Int), .int .u64 (0 : Int)] 88)) := ⟨hP, hQ, HBW.out⟩
  obtain ⟨H, L, kH, kL, kH2, hW, hcase⟩ : ∃ H L : Nat, IntKind.u64.wrap ((ah : Int) - (bh : Int)) = (H + (if al < bl then 1 else 0) : Nat) % 18446744073709551616 ∧ IntKind.u64.wrap ((al : Int) - (bl : Int)) = (L : Int) ∧ True ∧ Wd H L (w128 ah al - w128 bh bl) ∧ (H : Int) = (ah : Int) - bh - (if al < bl then 1 else 0) := by
    refine ⟨(w128 ah al - w128 bh bl) / 18446744073709551616, (w128 ah al - w128 bh bl) % 18446744073709551616, ?_, ?_, trivial, wd_split (by unfold w128; omega), ?_⟩
    · rw [IntKind.wrap_u64]; unfold w128 at hle ⊢; split <;> omega
    · rw [IntKind.wrap_u64]; unfold w128 at hle ⊢; omega
    · unfold w128 at hle ⊢; split <;> omega
  clear kH kH2
  have hB8 := HBW.out
  have hmm : w.heap.size ≤ w.heap.size + 1 + 1 ∧ w.heap.size + 1 + 1 ≠ w.heap.size ∧ w.heap.size + 1 + 1 ≠ w.heap.size + 1 := by omega
  have HW : Hid (Wd H L (w128 ah al - w128 bh bl)) := hW
  have hH64 := hW.1
  have hL64 := hW.2.1
  clear hW HZ
  by_cases hc : al < bl
  · rw [if_pos hc] at hcase
    obtain ⟨H1, hH1⟩ : ∃ H1 : Nat, H1 = H + 1 := ⟨_, rfl⟩
    have jc : (al : Int) < (bl : Int) := by omega
    have kA : (ah : Int) - (bh : Int) = (H1 : Int) := by omega
    have kA2 : IntKind.u64.wrap ((ah : Int) - (bh : Int)) = (H1 : Int) := by rw [kA, IntKind.wrap_u64]; omega
    have kB : (H1 : Int) - 1 = (H : Int) := by omega
    have kB2 : IntKind.u64.wrap ((H1 : Int) - 1) = (H : Int) := by rw [kB, IntKind.wrap_u64]; omega
    clear hle hcase hc
    go_enter Oajg.func210, Oajg.ntmps210
    go_wp2_with fail
    go_region_held3 (fun W => (W.cell? ⟨w.heap.size, 0, none⟩ = some (.int .u64 (ah : Int)) ∧ W.cell? ⟨w.heap.size, 1, none⟩ = some (.int .u64 (al : Int)) ∧ (∀ o, W.frozen? ⟨w.heap.size, o, none⟩ = false) ∧ w.heap.size < W.heap.size) ∧ (W.cell? ⟨(w.heap.size + 1), 0, none⟩ = some (.int .u64 (bh : Int)) ∧ W.cell? ⟨(w.heap.size + 1), 1, none⟩ = some (.int .u64 (bl : Int)) ∧ (∀ o, W.frozen? ⟨(w.heap.size + 1), o, none⟩ = false) ∧ (w.heap.size + 1) < W.heap.size) ∧ Below w.heap.size w W)
      ((first | with_reducible assumption | (with_reducible refine tc_drew ?_; with_reducible assumption) | (with_reducible refine tc_store2 ?_ ?_ <;> with_reducible assumption)))
      ((go_at_call 188; refine Calls.mono (HC.out _) ?_; rintro _ w1 ⟨rfl, hb⟩; have hG2 := tc_next (by with_reducible assumption) hb; (first | (have hR1 := bx2_next hR hb) | (have hR1 := bx2_next (bx2_drew hR) hb)); clear hb))
    clear hS0 hP hQ hR
    have hB9 := hG2.2.2
    go_wp2_with fail
    refine bodyPost_ret (v := .tuple #[.agg #[.int .u64 (H : Int), .int .u64 (L : Int)], .bool false]) (by simp [results, Oajg.results210, go_sem, hR1, hZ]) rfl ⟨H, L, HW.out, rfl, ?_⟩
    exact (hB9.setCell (show w.heap.size ≤ w.heap.size + 1 + 1 by omega) _).setCell (show w.heap.size ≤ w.heap.size + 1 + 1 by omega) _
  · rw [if_neg hc] at hcase
    have jc : ¬ (al : Int) < (bl : Int) := by omega
    have kA : (ah : Int) - (bh : Int) = (H : Int) := by omega
    have kA2 : IntKind.u64.wrap ((ah : Int) - (bh : Int)) = (H : Int) := by rw [kA, IntKind.wrap_u64]; omega
    clear hle hcase hc
    go_enter Oajg.func210, Oajg.ntmps210
    go_wp2_with fail
    go_region_held3 (fun W => (W.cell? ⟨w.heap.size, 0, none⟩ = some (.int .u64 (ah : Int)) ∧ W.cell? ⟨w.heap.size, 1, none⟩ = some (.int .u64 (al : Int)) ∧ (∀ o, W.frozen? ⟨w.heap.size, o, none⟩ = false) ∧ w.heap.size < W.heap.size) ∧ (W.cell? ⟨(w.heap.size + 1), 0, none⟩ = some (.int .u64 (bh : Int)) ∧ W.cell? ⟨(w.heap.size + 1), 1, none⟩ = some (.int .u64 (bl : Int)) ∧ (∀ o, W.frozen? ⟨(w.heap.size + 1), o, none⟩ = false) ∧ (w.heap.size + 1) < W.heap.size) ∧ Below w.heap.size w W)
      ((first | with_reducible assumption | (with_reducible refine tc_drew ?_; with_reducible assumption) | (with_reducible refine tc_store2 ?_ ?_ <;> with_reducible assumption)))
      ((go_at_call 188; refine Calls.mono (HC.out _) ?_; rintro _ w1 ⟨rfl, hb⟩; have hG2 := tc_next (by with_reducible assumption) hb; (first | (have hR1 := bx2_next hR hb) | (have hR1 := bx2_next (bx2_drew hR) hb)); clear hb))
    clear hS0 hP hQ hR
    have hB9 := hG2.2.2
    go_wp2_with fail
    refine bodyPost_ret (v := .tuple #[.agg #[.int .u64 (H : Int), .int .u64 (L : Int)], .bool false]) (by simp [results, Oajg.results210, go_sem, hR1, hZ]) rfl ⟨H, L, HW.out, rfl, ?_⟩
    exact (hB9.setCell (show w.heap.size ≤ w.heap.size + 1 + 1 by omega) _).setCell (show w.heap.size ≤ w.heap.size + 1 + 1 by omega) _

end Go.Proofs.Ygcoaj
