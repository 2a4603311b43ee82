/-
  WALKS: dec.Make.
-/
import Derived.Test.YgcoajScanA
set_option linter.unusedVariables false
namespace Go.Proofs.Ygcoaj
open Go.RowKit

/-- what Make hands back, as a value -/
def mkV : Option (Bool × ByteArray × Int) → Value
  | some (n, s, x) => .tuple #[.agg #[.bool n, .string s, .int .i16 x], .bool true]
  | none => .tuple #[.agg #[.bool false, .string ⟨#[]⟩, .int .i16 0], .bool false]

theorem min_if (a b : Int) : (if b < a then b else a) = min a b := by rw [Int.min_def]; split <;> split <;> omega

theorem ret_mk {v : Value} {o : Option (Bool × ByteArray × Int)} (h : v = mkV o) : Ending.returned v = .returned (mkV o) := by rw [h]

theorem make_any (neg : Bool) (s : ByteArray) (x : Int) (hs : s.size ≤ 1000000) (hx0 : -9223372036854775808 ≤ x) (hx1 : x ≤ 9223372036854775807) (w : World) :
    Calls Oajg.prog 46 #[.bool neg, .string s, .int .i64 x] w fun e w' => e = .returned (mkV (mkR neg s x)) ∧ Below w.heap.size w w' := by
  have Hb : ∀ k, k ≤ s.size → Hid (0 ≤ feFirst s k ∧ feFirst s k ≤ s.size ∧ 0 ≤ feEnd s k ∧ feEnd s k ≤ k ∧ (feEnd s k ≠ 0 → feFirst s k < feEnd s k) ∧ (feEnd s k = 0 → feFirst s k = s.size)) := fun k hk => fe_bd s k hk
  go_enter Oajg.func46, Oajg.ntmps46
  go_wp2
  go_loop [8, 9, 10] (fun f e i => ∃ k : Nat, k ≤ s.size ∧ i = .int .i64 k ∧ f = .int .i64 (feFirst s k) ∧ e = .int .i64 (feEnd s k) ∧ (s.data.toList.take k).all digB = true) (fun _ _ i => s.size - (intOf i).toNat)
  case atStart => exact ⟨0, Nat.zero_le _, rfl, rfl, rfl, rfl⟩
  case round =>
    obtain ⟨k, hk, rfl, rfl, rfl, hd⟩ := hrel
    have HD : Hid ((s.data.toList.take k).all digB = true) := hd
    clear hd
    by_cases hlt : k < s.size
    · obtain ⟨b1, b2, b3, b4, -, -⟩ := (Hb k hk).out
      by_cases hd : 48 ≤ (s[k].toNat : Int) ∧ (s[k].toNat : Int) ≤ 57
      · obtain ⟨d1, d2⟩ := hd
        have HS : Hid (digB s[k] = true) := by simp [Hid, digB, d1, d2]
        by_cases hc : (s[k].toNat : Int) = 48
        · have HN : Hid (feFirst s (k + 1) = feFirst s k ∧ feEnd s (k + 1) = feEnd s k) := fe_same s k hlt hc
          have hc' : ((s[k].toNat : Int) != 48) = false := by simp [hc]
          clear hc
          go_wp2
          go_round
          case rel => exact ⟨k + 1, by omega, by go_num, by rw [HN.out.1], by rw [HN.out.2], by rw [take_snoc s k hlt, List.all_append, HD.out]; simp [HS.out]⟩
          case measure => simp [intOf]; omega
        · have HN : Hid (feFirst s (k + 1) = min (feFirst s k) k ∧ feEnd s (k + 1) = k + 1) := fe_new s k hlt hc
          have hc' : ((s[k].toNat : Int) != 48) = true := by simp [hc]
          clear hc
          go_wp2
          go_round
          case rel => exact ⟨k + 1, by omega, by go_num, by rw [HN.out.1, min_if], by rw [HN.out.2], by rw [take_snoc s k hlt, List.all_append, HD.out]; simp [HS.out]⟩
          case measure => simp [intOf]; omega
      · have HS : Hid (digB s[k] = false) := by
          show digB s[k] = false
          simp only [digB, Bool.and_eq_false_iff, decide_eq_false_iff_not]
          omega
        have HR : Hid (mkR neg s x = none) := by show mkR neg s x = none; unfold mkR; rw [if_pos (allDig_no s k hlt HS.out)]
        have hd' : (s[k].toNat : Int) < 48 ∨ (48 ≤ (s[k].toNat : Int) ∧ 57 < (s[k].toNat : Int)) := by omega
        clear hd
        rcases hd' with h | ⟨h, h'⟩
        all_goals
          go_wp2
          refine bodyPost_ret (v := mkV none) (by simp [results, Oajg.results46, go_sem, mkV]) rfl ⟨ret_mk (by rw [HR.out]), ?_⟩
          exact (Below.refl _ _).alloc (Nat.le_refl _) _
    · have hks : k = s.size := by omega
      subst hks
      have HA : Hid (allDig s = true) := by have := HD.out; rw [take_all s _ hlt] at this; exact this
      obtain ⟨b1, b2, b3, b4, b5, b6⟩ := (Hb _ hk).out
      by_cases hz : feEnd s s.size = 0
      · have HR : Hid (mkR neg s x = some (neg, ⟨#[]⟩, 0)) := by
          show mkR neg s x = _
          unfold mkR; rw [if_neg (by simp [HA.out]), if_pos hz]
        have hz' : (feEnd s s.size == 0) = true := by simp [hz]
        clear hz b5 b6
        go_wp2
        refine bodyPost_ret (v := mkV (some (neg, ⟨#[]⟩, 0))) (by simp [results, Oajg.results46, go_sem, mkV]) rfl ⟨ret_mk (by rw [HR.out]), ?_⟩
        exact (Below.refl _ _).alloc (Nat.le_refl _) _
      · have hz' : (feEnd s s.size == 0) = false := by simp [hz]
        have b7 := b5 hz
        have HR0 : Hid (mkR neg s x = if 800 < feEnd s s.size - feFirst s s.size ∨ 2000 < x ∨ 2000 < x + (s.size - feEnd s s.size) ∨ x + (s.size - feEnd s s.size) < -2000 then none
            else some (neg, s.extract (feFirst s s.size).toNat (feEnd s s.size).toNat, x + (s.size - feEnd s s.size))) := by
          show mkR neg s x = _
          unfold mkR; rw [if_neg (by simp [HA.out]), if_neg hz]
        clear hz b5 b6
        generalize hE : feEnd s s.size = E at *
        generalize hF : feFirst s s.size = F at *
        clear hE hF Hb
        by_cases c1 : 800 < E - F
        · have HR : Hid (mkR neg s x = none) := HR0.out.trans (if_pos (Or.inl c1))
          go_wp2
          refine bodyPost_ret (v := mkV none) (by simp [results, Oajg.results46, go_sem, mkV]) rfl ⟨ret_mk (by rw [HR.out]), ?_⟩
          exact (Below.refl _ _).alloc (Nat.le_refl _) _
        by_cases c2 : 2000 < x
        · have HR : Hid (mkR neg s x = none) := HR0.out.trans (if_pos (Or.inr (Or.inl c2)))
          go_wp2
          refine bodyPost_ret (v := mkV none) (by simp [results, Oajg.results46, go_sem, mkV]) rfl ⟨ret_mk (by rw [HR.out]), ?_⟩
          exact (Below.refl _ _).alloc (Nat.le_refl _) _
        by_cases c3 : 2000 < x + (s.size - E)
        · have HR : Hid (mkR neg s x = none) := HR0.out.trans (if_pos (Or.inr (Or.inr (Or.inl c3))))
          go_wp2
          refine bodyPost_ret (v := mkV none) (by simp [results, Oajg.results46, go_sem, mkV]) rfl ⟨ret_mk (by rw [HR.out]), ?_⟩
          exact (Below.refl _ _).alloc (Nat.le_refl _) _
        by_cases c4 : x + (s.size - E) < -2000
        · have HR : Hid (mkR neg s x = none) := HR0.out.trans (if_pos (Or.inr (Or.inr (Or.inr c4))))
          go_wp2
          refine bodyPost_ret (v := mkV none) (by simp [results, Oajg.results46, go_sem, mkV]) rfl ⟨ret_mk (by rw [HR.out]), ?_⟩
          exact (Below.refl _ _).alloc (Nat.le_refl _) _
        · have HR : Hid (mkR neg s x = some (neg, s.extract F.toNat E.toNat, x + (s.size - E))) := HR0.out.trans (if_neg (by omega))
          go_wp2
          refine bodyPost_ret (v := mkV (some (neg, s.extract F.toNat E.toNat, x + (s.size - E)))) (by simp [results, Oajg.results46, go_sem, mkV]) rfl ⟨ret_mk (by rw [HR.out]), ?_⟩
          exact (Below.refl _ _).alloc (Nat.le_refl _) _

end Go.Proofs.Ygcoaj
namespace Go.Proofs.Ygcoaj
open Go.RowKit
theorem make_none (neg : Bool) (s : ByteArray) (x : Int) (hs : s.size ≤ 1000000) (hx0 : -9223372036854775808 ≤ x) (hx1 : x ≤ 9223372036854775807) (w : World) (h : mkR neg s x = none) :
    Calls Oajg.prog 46 #[.bool neg, .string s, .int .i64 x] w fun e w' => e = .returned (.tuple #[.agg #[.bool false, .string ⟨#[]⟩, .int .i16 0], .bool false]) ∧ Below w.heap.size w w' := by
  have := make_any neg s x hs hx0 hx1 w
  rw [h] at this
  exact this
theorem make_some (neg : Bool) (s : ByteArray) (x : Int) (hs : s.size ≤ 1000000) (hx0 : -9223372036854775808 ≤ x) (hx1 : x ≤ 9223372036854775807) (w : World) (n : Bool) (t : ByteArray) (y : Int) (h : mkR neg s x = some (n, t, y)) :
    Calls Oajg.prog 46 #[.bool neg, .string s, .int .i64 x] w fun e w' => e = .returned (.tuple #[.agg #[.bool n, .string t, .int .i16 y], .bool true]) ∧ Below w.heap.size w w' := by
  have := make_any neg s x hs hx0 hx1 w
  rw [h] at this
  exact this
end Go.Proofs.Ygcoaj
