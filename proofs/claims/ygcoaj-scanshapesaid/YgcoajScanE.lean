/-
  WALKS: law.numberShape, on a text that Scan's machine takes as a number.
-/
import Derived.Test.YgcoajScanA
import Derived.Test.YgcoajScanLawB
set_option linter.unusedVariables false
set_option linter.unusedSimpArgs false
namespace Go.Proofs.Ygcoaj
open Go.RowKit

set_option maxRecDepth 100000 in
set_option maxHeartbeats 8000000 in
theorem numberShape_ok (s : ByteArray) (hs : s.size ≤ 1024) (fin : St) (hrun : runL s.data.toList = some fin) (hfin : fin.state = 2 ∨ fin.state = 3 ∨ fin.state = 5 ∨ fin.state = 8) (w : World) :
    Calls Oajg.prog 48 #[.string s] w fun e w' => e = .returned (.bool true) ∧ w' = w := by
  have HRUN : Hid (runL s.data.toList = some fin) := hrun
  have HF9 : Hid (fin.state ≠ 9) := by show fin.state ≠ 9; omega
  have HFIN : Hid (fin.state = 2 ∨ fin.state = 3 ∨ fin.state = 5 ∨ fin.state = 8) := hfin
  clear hrun hfin
  go_enter Oajg.func48, Oajg.ntmps48
  go_wp2
  go_loop [3, 4, 5, 6, 7] (fun c3 c4 c5 c6 c7 => ∃ (k : Nat) (st : St) (d m b : Int) (l : Bool), k ≤ s.size ∧ runTo s k = some st ∧ 0 ≤ st.state ∧ NsRel st s k d m b l ∧ c3 = .int .i64 d ∧ c4 = .int .i64 m ∧ c5 = .int .i64 b ∧ c6 = .bool l ∧ c7 = .int .i64 k) (fun _ _ _ _ i => s.size - (intOf i).toNat)
  case atStart => exact ⟨0, st0, 0, 0, 0, false, Nat.zero_le _, rfl, by decide, nsRel0 s, rfl, rfl, rfl, rfl, rfl⟩
  case round =>
    obtain ⟨k, st, d, m, b, l, hk, hr, hst0, rel, rfl, rfl, rfl, rfl, rfl⟩ := hrel
    obtain ⟨d0, d1, b0, bk, m0, m1⟩ : 0 ≤ d ∧ d ≤ 1 ∧ 0 ≤ b ∧ b ≤ k ∧ 0 ≤ m ∧ m ≤ 1 := ⟨rel.d0, rel.d1, rel.b0, rel.bk, rel.m0, rel.m1⟩
    by_cases hlt : k < s.size
    · obtain ⟨st2, hs1, hs2⟩ := next_st s k hlt fin st HRUN.out hr
      have h92 := state_ne9 s (k + 1) fin st2 HRUN.out HF9.out hs2
      have HS2 : Hid (runTo s (k + 1) = some st2) := hs2
      have hst2 : 0 ≤ st2.state := ((wordRel_run s (k + 1) (by omega) st2 hs2).2).state.1
      have HST2 : Hid (0 ≤ st2.state) := hst2
      clear hr hs2 hst2
      by_cases c1 : (s[k].toNat : Int) = 46
      · obtain ⟨hm, rel2⟩ := ns_dot hlt rel hs1 h92 hst0 c1
        subst hm
        have HR2 : Hid _ := rel2
        have c1' : ((s[k].toNat : Int) == 46) = true := by simp [c1]
        clear c1 rel rel2 hs1 h92 hst0
        go_wp2
        go_round
        case rel => exact ⟨k + 1, st2, d + 1, 0, b, false, by omega, HS2.out, HST2.out, HR2.out, rfl, rfl, rfl, rfl, by go_num⟩
        case measure => simp [intOf]; omega
      have c1' : ((s[k].toNat : Int) == 46) = false := by simp [c1]
      by_cases c2 : (s[k].toNat : Int) = 101 ∨ (s[k].toNat : Int) = 69
      · obtain ⟨hb, rel2⟩ := ns_e hlt rel hs1 h92 c2
        have HR2 : Hid _ := rel2
        have hb' : (b == 0) = false := by simp [hb]
        clear c1 rel rel2 hs1 h92 hst0 hb
        rcases c2 with c2 | c2
        · have c2' : ((s[k].toNat : Int) == 101) = true := by simp [c2]
          clear c2
          go_wp2
          go_round
          case rel => exact ⟨k + 1, st2, d, m + 1, b, false, by omega, HS2.out, HST2.out, HR2.out, rfl, rfl, rfl, rfl, by go_num⟩
          case measure => simp [intOf]; omega
        · have c2' : ((s[k].toNat : Int) == 101) = false := by simp [c2]
          have c3' : ((s[k].toNat : Int) == 69) = true := by simp [c2]
          clear c2
          go_wp2
          go_round
          case rel => exact ⟨k + 1, st2, d, m + 1, b, false, by omega, HS2.out, HST2.out, HR2.out, rfl, rfl, rfl, rfl, by go_num⟩
          case measure => simp [intOf]; omega
      have c2' : ((s[k].toNat : Int) == 101) = false := by simp; omega
      have c3' : ((s[k].toNat : Int) == 69) = false := by simp; omega
      by_cases c4 : (s[k].toNat : Int) = 43 ∨ (s[k].toNat : Int) = 45
      · obtain ⟨hp, rel2⟩ := ns_sign hlt rel hs1 h92 c4
        have HR2 : Hid _ := rel2
        clear c1 c2 rel rel2 hs1 h92 hst0
        by_cases hk0 : k = 0
        · subst hk0
          clear hp
          rcases c4 with c4 | c4
          · have c4' : ((s[0].toNat : Int) == 43) = true := by simp [c4]
            clear c4
            go_wp2
            go_round
            case rel => exact ⟨0 + 1, st2, d, m, b, false, by omega, HS2.out, HST2.out, HR2.out, rfl, rfl, rfl, rfl, by go_num⟩
            case measure => simp [intOf]; omega
          · have c4' : ((s[0].toNat : Int) == 43) = false := by simp [c4]
            have c5' : ((s[0].toNat : Int) == 45) = true := by simp [c4]
            clear c4
            go_wp2
            go_round
            case rel => exact ⟨0 + 1, st2, d, m, b, false, by omega, HS2.out, HST2.out, HR2.out, rfl, rfl, rfl, rfl, by go_num⟩
            case measure => simp [intOf]; omega
        · have hp2 := (hp.resolve_left hk0).2 (by omega)
          clear hp
          obtain ⟨j, rfl⟩ : ∃ j, k = j + 1 := ⟨k - 1, by omega⟩
          have hj : j < s.size := by omega
          have hp3 : (s[j].toNat : Int) = 101 ∨ (s[j].toNat : Int) = 69 := by
            have : (s[j]'hj).toNat = 101 ∨ (s[j]'hj).toNat = 69 := hp2
            omega
          clear hp2 hk0
          rcases c4 with c4 | c4
          · have c4' : ((s[j + 1].toNat : Int) == 43) = true := by simp [c4]
            clear c4
            rcases hp3 with hp3 | hp3
            · have p1' : ((s[j].toNat : Int) != 101) = false := by simp [hp3]
              clear hp3
              go_wp2
              go_round
              case rel => exact ⟨j + 1 + 1, st2, d, m, b, false, by omega, HS2.out, HST2.out, HR2.out, rfl, rfl, rfl, rfl, by go_num⟩
              case measure => simp [intOf]; omega
            · have p1' : ((s[j].toNat : Int) != 101) = true := by simp [hp3]
              have p2' : ((s[j].toNat : Int) != 69) = false := by simp [hp3]
              clear hp3
              go_wp2
              go_round
              case rel => exact ⟨j + 1 + 1, st2, d, m, b, false, by omega, HS2.out, HST2.out, HR2.out, rfl, rfl, rfl, rfl, by go_num⟩
              case measure => simp [intOf]; omega
          · have c4' : ((s[j + 1].toNat : Int) == 43) = false := by simp [c4]
            have c5' : ((s[j + 1].toNat : Int) == 45) = true := by simp [c4]
            clear c4
            rcases hp3 with hp3 | hp3
            · have p1' : ((s[j].toNat : Int) != 101) = false := by simp [hp3]
              clear hp3
              go_wp2
              go_round
              case rel => exact ⟨j + 1 + 1, st2, d, m, b, false, by omega, HS2.out, HST2.out, HR2.out, rfl, rfl, rfl, rfl, by go_num⟩
              case measure => simp [intOf]; omega
            · have p1' : ((s[j].toNat : Int) != 101) = true := by simp [hp3]
              have p2' : ((s[j].toNat : Int) != 69) = false := by simp [hp3]
              clear hp3
              go_wp2
              go_round
              case rel => exact ⟨j + 1 + 1, st2, d, m, b, false, by omega, HS2.out, HST2.out, HR2.out, rfl, rfl, rfl, rfl, by go_num⟩
              case measure => simp [intOf]; omega
      have c4' : ((s[k].toNat : Int) == 43) = false := by simp; omega
      have c5' : ((s[k].toNat : Int) == 45) = false := by simp; omega
      obtain ⟨e1, e2, rel2⟩ := ns_dig hlt rel hs1 h92 c1 (by omega) (by omega) (by omega) (by omega)
      have HR2 : Hid _ := rel2
      clear c1 c2 c4 rel rel2 hs1 h92 hst0
      by_cases hm : m = 0
      · subst hm
        go_wp2
        go_round
        case rel => exact ⟨k + 1, st2, d, 0, b + 1, true, by omega, HS2.out, HST2.out, by have := HR2.out; rw [if_pos rfl] at this; exact this, rfl, rfl, rfl, rfl, by go_num⟩
        case measure => simp [intOf]; omega
      · have HM : Hid (¬ m = 0) := hm
        have hm' : (m == 0) = false := by simp [hm]
        clear hm
        go_wp2
        go_round
        case rel => exact ⟨k + 1, st2, d, m, b, true, by omega, HS2.out, HST2.out, by have := HR2.out; rw [if_neg HM.out] at this; exact this, rfl, rfl, rfl, rfl, by go_num⟩
        case measure => simp [intOf]; omega
    · have hks : k = s.size := by omega
      subst hks
      have hst : st = fin := by
        have : runTo s s.size = some fin := by unfold runTo; rw [take_all s _ hlt]; exact HRUN.out
        rw [hr] at this; cases this; rfl
      subst hst
      obtain ⟨f1, f2, f3, f4⟩ := ns_end rel HFIN.out
      clear rel hr hst0
      by_cases hm : m = 0
      · subst hm
        clear f4
        go_wp2
        go_ret
        exact ⟨rfl, rfl⟩
      · have hl : l = true := f4.resolve_left hm
        subst hl
        have hm' : (m == 0) = false := by simp [hm]
        clear f4 hm
        go_wp2
        go_ret
        exact ⟨rfl, rfl⟩

end Go.Proofs.Ygcoaj
