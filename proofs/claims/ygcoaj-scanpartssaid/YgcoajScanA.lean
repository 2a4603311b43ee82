/-
  WALKS: signText, expText, isDigits, isWord.
-/
import Derived.Test.YgcoajProg
import Derived.Test.YgcoajScanPlain
import Derived.WalkKit
import Derived.WalkSpells
import Derived.WalkLawsBesides
set_option linter.unusedVariables false
namespace Go.Proofs.Ygcoaj
open Go.RowKit

theorem ret_str {a b : ByteArray} (h : a = b) : Ending.returned (.string a) = .returned (.string b) := by rw [h]
theorem ret_bool {a b : Bool} (h : a = b) : Ending.returned (.bool a) = .returned (.bool b) := by rw [h]
theorem ret_int {k : IntKind} {a b : Int} (h : a = b) : Ending.returned (.int k a) = .returned (.int k b) := by rw [h]

theorem signText_any (n : Int) (h0 : 0 ≤ n) (h1 : n < 256) (w : World) :
    Calls Oajg.prog 43 #[.int .u8 n] w fun e w' => e = .returned (.string (sgn n)) ∧ w' = w := by
  go_enter Oajg.func43, Oajg.ntmps43
  go_wp2
  all_goals (go_ret; exact ⟨ret_str (by simp_all [sgn]), rfl⟩)

theorem expText_any (n : Int) (h0 : 0 ≤ n) (h1 : n < 256) (w : World) :
    Calls Oajg.prog 44 #[.int .u8 n] w fun e w' => e = .returned (.string (exx n)) ∧ w' = w := by
  go_enter Oajg.func44, Oajg.ntmps44
  go_wp2
  all_goals (go_ret; exact ⟨ret_str (by simp_all [exx]), rfl⟩)

theorem isDigits_any (s : ByteArray) (hs : s.size ≤ maxLen) (w : World) :
    Calls Oajg.prog 42 #[.string s] w fun e w' => e = .returned (.bool (allDig s)) ∧ w' = w := by
  unfold maxLen at hs
  go_enter Oajg.func42, Oajg.ntmps42
  go_wp2
  go_loop [3] (fun i => ∃ k : Nat, k ≤ s.size ∧ i = .int .i64 k ∧ (s.data.toList.take k).all digB = true) (fun i => s.size - (intOf i).toNat)
  case atStart => exact ⟨0, Nat.zero_le _, rfl, rfl⟩
  case round =>
    obtain ⟨k, hk, rfl, hd⟩ := hrel
    have HD : Hid ((s.data.toList.take k).all digB = true) := hd
    clear hd
    by_cases hlt : k < s.size
    · by_cases hd : 48 ≤ (s[k].toNat : Int) ∧ (s[k].toNat : Int) ≤ 57
      · obtain ⟨d1, d2⟩ := hd
        have HS : Hid (digB s[k] = true) := by simp [Hid, digB, d1, d2]
        go_wp2
        go_round
        case rel => exact ⟨k + 1, by omega, by go_num, by rw [take_snoc s k hlt, List.all_append, HD.out]; simp [HS.out]⟩
        case measure => simp [intOf]; omega
      · have HS : Hid (digB s[k] = false) := by
          show digB s[k] = false
          simp only [digB, Bool.and_eq_false_iff, decide_eq_false_iff_not]
          omega
        have hd' : (s[k].toNat : Int) < 48 ∨ 57 < (s[k].toNat : Int) := by omega
        clear hd
        rcases hd' with h | h
        · go_wp2
          go_ret
          exact ⟨ret_bool (allDig_no s k hlt HS.out).symm, rfl⟩
        · have h2 : 48 ≤ (s[k].toNat : Int) := by omega
          go_wp2
          go_ret
          exact ⟨ret_bool (allDig_no s k hlt HS.out).symm, rfl⟩
    · go_wp2
      go_ret
      exact ⟨ret_bool (by have := HD.out; rw [take_all s k hlt] at this; exact this.symm), rfl⟩

theorem isWord_any (s v : ByteArray) (hs : s.size ≤ maxLen) (hv : v.size ≤ maxLen) (w : World) :
    Calls Oajg.prog 47 #[.string s, .string v] w fun e w' => e = .returned (.bool (wordB s v)) ∧ w' = w := by
  unfold maxLen at hs hv
  by_cases hl : s.size = v.size
  · have hl' : ((s.size : Int) != (v.size : Int)) = false := by simp [hl]
    have HL : Hid (s.size = v.size) := hl
    clear hl
    go_enter Oajg.func47, Oajg.ntmps47
    go_wp2
    go_loop [5] (fun i => ∃ k : Nat, k ≤ s.size ∧ i = .int .i64 k ∧ wordTo s v k) (fun i => s.size - (intOf i).toNat)
    case atStart => exact ⟨0, Nat.zero_le _, rfl, wordTo_zero _ _⟩
    case round =>
      obtain ⟨k, hk, rfl, hd⟩ := hrel
      by_cases hlt : k < s.size
      · have hlv : k < v.size := by have := HL.out; omega
        have HLow : Hid (low s[k] = if 65 ≤ (s[k].toNat : Int) ∧ (s[k].toNat : Int) ≤ 90 then (s[k].toNat : Int) + 32 else (s[k].toNat : Int)) := rfl
        by_cases hu : 65 ≤ (s[k].toNat : Int) ∧ (s[k].toNat : Int) ≤ 90
        · have H2 : Hid (low s[k] = (s[k].toNat : Int) + 32) := by have := HLow.out; rw [if_pos hu] at this; exact this
          obtain ⟨u1, u2⟩ := hu
          by_cases he : (s[k].toNat : Int) + 32 = (v[k].toNat : Int)
          · have H3 : Hid (low s[k] = (v[k].toNat : Int)) := by have := H2.out; exact this.trans he
            have he' : ((s[k].toNat : Int) + 32 != (v[k].toNat : Int)) = false := by simp [he]
            clear he
            go_wp2
            go_round
            case rel => exact ⟨k + 1, by omega, by go_num, wordTo_succ s v k hlt hlv hd H3.out⟩
            case measure => simp [intOf]; omega
          · have H3 : Hid (low s[k] ≠ (v[k].toNat : Int)) := by have := H2.out; intro h; exact he (this.symm.trans h)
            have he' : ((s[k].toNat : Int) + 32 != (v[k].toNat : Int)) = true := by simp [he]
            clear he
            go_wp2
            go_ret
            exact ⟨ret_bool (wordB_no s v k hlt hlv H3.out).symm, rfl⟩
        · have H2 : Hid (low s[k] = (s[k].toNat : Int)) := by have := HLow.out; rw [if_neg hu] at this; exact this
          have hu' : (s[k].toNat : Int) < 65 ∨ 90 < (s[k].toNat : Int) := by omega
          clear hu
          by_cases he : (s[k].toNat : Int) = (v[k].toNat : Int)
          · have H3 : Hid (low s[k] = (v[k].toNat : Int)) := by have := H2.out; exact this.trans he
            have he' : ((s[k].toNat : Int) != (v[k].toNat : Int)) = false := by simp [he]
            clear he
            rcases hu' with h | h
            · go_wp2
              go_round
              case rel => exact ⟨k + 1, by omega, by go_num, wordTo_succ s v k hlt hlv hd H3.out⟩
              case measure => simp [intOf]; omega
            · have h2 : 65 ≤ (s[k].toNat : Int) := by omega
              go_wp2
              go_round
              case rel => exact ⟨k + 1, by omega, by go_num, wordTo_succ s v k hlt hlv hd H3.out⟩
              case measure => simp [intOf]; omega
          · have H3 : Hid (low s[k] ≠ (v[k].toNat : Int)) := by have := H2.out; intro h; exact he (this.symm.trans h)
            have he' : ((s[k].toNat : Int) != (v[k].toNat : Int)) = true := by simp [he]
            clear he
            rcases hu' with h | h
            · go_wp2
              go_ret
              exact ⟨ret_bool (wordB_no s v k hlt hlv H3.out).symm, rfl⟩
            · have h2 : 65 ≤ (s[k].toNat : Int) := by omega
              go_wp2
              go_ret
              exact ⟨ret_bool (wordB_no s v k hlt hlv H3.out).symm, rfl⟩
      · have hlv : ¬ k < v.size := by have := HL.out; omega
        go_wp2
        go_ret
        exact ⟨ret_bool (wordTo_end s v k hlt hlv hd).symm, rfl⟩
  · have hl' : ((s.size : Int) != (v.size : Int)) = true := by simp [bne_iff_ne]; omega
    have HW : Hid (wordB s v = false) := wordB_len s v hl
    clear hl
    go_enter Oajg.func47, Oajg.ntmps47
    go_wp2
    go_ret
    exact ⟨ret_bool HW.out.symm, rfl⟩

end Go.Proofs.Ygcoaj
