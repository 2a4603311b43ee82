/-
  'Rows.ScanShapeSaid' ('softfloat/law.ScanShape').
-/
import Derived.Test.YgcoajRows
import Derived.Test.YgcoajFrame
import Derived.Test.YgcoajScanD
import Derived.Test.YgcoajScanE
import Derived.WalkKit
import Derived.ProofKit
import Derived.OpenShut
import Derived.ShutString
set_option linter.unusedVariables false
set_option linter.unusedSimpArgs false
namespace Go.Proofs.Ygcoaj.scanShape
open Go.ChangeShapes Go.WideShapes Go.ChangeAt Go.RowKit
open Go.ChangeMaps (open_string shut_string)

theorem own : ownKnob Oajg.prog.godebug = none := by kernel_rfl
theorem below_new {w w1 : World} (hb : Below w.heap.size w w1) (O : Obj) : Below w.heap.size w (w1.alloc O) := hb.alloc hb.size O

/-- which answers of Scan there are -/
theorem scan_kinds (s : ByteArray) : scanP s = none ∨ (∃ n t x, scanP s = some (0, n, t, x) ∧ s.size ≤ 1024 ∧ ∃ st, runL s.data.toList = some st ∧ (st.state = 2 ∨ st.state = 3 ∨ st.state = 5 ∨ st.state = 8)) ∨
    (∃ n t x, scanP s = some (4, n, t, x) ∧ (1024 < s.size ∨ s.size ≤ 1024 ∧ ∃ st, runL s.data.toList = some st ∧ (st.state = 2 ∨ st.state = 3 ∨ st.state = 5 ∨ st.state = 8))) ∨
    (∃ k n t x, scanP s = some (k, n, t, x) ∧ (k = 1 ∨ k = 2) ∧ (wordB (strip s) wInf = true ∨ wordB (strip s) wInfinity = true ∨ wordB (strip s) wNan = true)) := by
  by_cases hl : 1024 < s.size
  · exact Or.inr (Or.inr (Or.inl ⟨false, ⟨#[]⟩, 0, by unfold scanP; rw [if_pos hl], Or.inl hl⟩))
  · cases hr : runL s.data.toList with
    | none => exact Or.inl (by unfold scanP; rw [if_neg hl, hr])
    | some st =>
      have e' : scanP s = finP st := by unfold scanP; rw [if_neg hl, hr]
      rw [e']
      by_cases h1 : st.state = 2 ∨ st.state = 3 ∨ st.state = 5 ∨ st.state = 8
      · have e2 : finP st = numR (mkR st.neg ⟨st.dig.toArray⟩ ((if st.expNeg then - st.exp else st.exp) - st.frac)) := by unfold finP; rw [if_pos h1]
        rw [e2]
        cases mkR st.neg ⟨st.dig.toArray⟩ ((if st.expNeg then - st.exp else st.exp) - st.frac) with
        | none => exact Or.inr (Or.inr (Or.inl ⟨_, _, _, rfl, Or.inr ⟨by omega, st, rfl, h1⟩⟩))
        | some r => obtain ⟨n, t, x⟩ := r; exact Or.inr (Or.inl ⟨n, t, x, rfl, by omega, st, rfl, h1⟩)
      · by_cases h9 : st.state = 9
        · by_cases hn : st.word = 2 ∧ st.at_ = 3
          · exact Or.inr (Or.inr (Or.inr ⟨2, false, ⟨#[]⟩, 0, by unfold finP; rw [if_neg h1, if_pos h9, if_pos hn], Or.inr rfl, word_shape s st hr h9 (Or.inr hn)⟩))
          · by_cases hi : st.word = 1 ∧ (st.at_ = 3 ∨ st.at_ = 8)
            · exact Or.inr (Or.inr (Or.inr ⟨1, st.neg, ⟨#[]⟩, 0, by unfold finP; rw [if_neg h1, if_pos h9, if_neg hn, if_pos hi], Or.inl rfl, word_shape s st hr h9 (Or.inl hi)⟩))
            · exact Or.inl (by unfold finP; rw [if_neg h1, if_pos h9, if_neg hn, if_neg hi])
        · exact Or.inl (by unfold finP; rw [if_neg h1, if_neg h9])

theorem scan_some (s : ByteArray) (hs : s.size ≤ maxLen) (k : Int) (n : Bool) (t : ByteArray) (x : Int) (h : scanP s = some (k, n, t, x)) (w : World) :
    Calls Oajg.prog 45 #[.string s] w fun e w' => e = .returned (.agg #[.int .u8 k, .bool n, .string t, .int .i16 x, .int .i64 0, .int .i32 0]) ∧ Below w.heap.size w w' := by
  refine (scan_any _ hs w).mono ?_
  rintro e w' ⟨u, rfl, hb, hsay⟩
  rw [h] at hsay
  exact ⟨by rw [show u = _ from hsay]; rfl, hb⟩
theorem scan_wrong (s : ByteArray) (hs : s.size ≤ maxLen) (h : scanP s = none) (w : World) :
    Calls Oajg.prog 45 #[.string s] w fun e w' => ∃ p g, e = .returned (.agg #[.int .u8 3, .bool false, .string ⟨#[]⟩, .int .i16 0, .int .i64 p, .int .i32 g]) ∧ Below w.heap.size w w' := by
  refine (scan_any _ hs w).mono ?_
  rintro e w' ⟨u, rfl, hb, hsay⟩
  rw [h] at hsay
  obtain ⟨p, g, hu⟩ := hsay
  exact ⟨p, g, by rw [hu]; rfl, hb⟩

theorem ne_of_size (s : ByteArray) (h : 0 < s.size) : s.toList.isEmpty = false := by
  rw [← decide_eq_emptyBytes, decide_eq_false_iff_not]
  intro e
  rw [e] at h
  exact absurd h (by decide)

theorem strip_size (s : ByteArray) : (strip s).size ≤ s.size := by
  unfold strip; split
  · rw [ByteArray.size_extract]; omega
  · exact Nat.le_refl _

theorem strip_yes (s : ByteArray) (h : 0 < s.size) (hc : (s[0].toNat : Int) = 43 ∨ (s[0].toNat : Int) = 45) : strip s = s.extract 1 s.size := by
  unfold strip
  rw [if_pos]
  refine ⟨h, ?_⟩
  rw [List.head?_eq_getElem?, get_toList s 0 h]
  rcases hc with hc | hc
  · exact Or.inl (by rw [show s[0] = 43 from UInt8.toNat_inj.1 (by show s[0].toNat = 43; omega)])
  · exact Or.inr (by rw [show s[0] = 45 from UInt8.toNat_inj.1 (by show s[0].toNat = 45; omega)])
theorem strip_no (s : ByteArray) (hc : ∀ h : 0 < s.size, (s[0].toNat : Int) ≠ 43 ∧ (s[0].toNat : Int) ≠ 45) : strip s = s := by
  unfold strip
  rw [if_neg]
  rintro ⟨h, h2⟩
  rw [List.head?_eq_getElem?, get_toList s 0 h] at h2
  have := hc h
  simp at h2
  rcases h2 with e | e <;> rw [e] at this <;> revert this <;> decide

set_option maxRecDepth 100000 in
set_option maxHeartbeats 4000000 in
theorem walk (s : ByteArray) (hs : s.size ≤ maxLen) (w : World) :
    Calls Oajg.prog 9 #[.string s] w fun e w' => e = .returned (.bool true) ∧ Below w.heap.size w w' := by
  rcases scan_kinds s with h | ⟨n, t, x, h, hsz, st, hr, hst⟩ | ⟨n, t, x, h, hl | ⟨hsz, st, hr, hst⟩⟩ | ⟨k, n, t, x, h, hk, hw⟩
  · have HS : Hid _ := scan_wrong s hs h
    clear h
    go_enter Oajg.func9, Oajg.ntmps9
    go_wp2_with (go_at_call 45; refine (HS.out _).mono ?_; rintro e w1 ⟨p, g, rfl, hb⟩)
    go_ret
    exact ⟨rfl, below_new (by assumption) _⟩
  · have HS : Hid _ := scan_some s hs 0 n t x h
    have HN : Hid _ := numberShape_ok s hsz st hr hst
    clear h hr hst
    go_enter Oajg.func9, Oajg.ntmps9
    go_wp2_with (first | (go_at_call 45; refine (HS.out _).mono ?_; rintro e w1 ⟨rfl, hb⟩) | (go_at_call 48; refine (HN.out _).mono ?_; rintro e w2 ⟨rfl, rfl⟩))
    go_ret
    exact ⟨rfl, below_new (by assumption) _⟩
  · have HS : Hid _ := scan_some s hs 4 n t x h
    clear h
    go_enter Oajg.func9, Oajg.ntmps9
    go_wp2_with (first | (go_at_call 45; refine (HS.out _).mono ?_; rintro e w1 ⟨rfl, hb⟩))
    go_ret
    exact ⟨rfl, below_new (by assumption) _⟩
  · have HS : Hid _ := scan_some s hs 4 n t x h
    have HN : Hid _ := numberShape_ok s hsz st hr hst
    clear h hr hst
    go_enter Oajg.func9, Oajg.ntmps9
    go_wp2_with (first | (go_at_call 45; refine (HS.out _).mono ?_; rintro e w1 ⟨rfl, hb⟩) | (go_at_call 48; refine (HN.out _).mono ?_; rintro e w2 ⟨rfl, rfl⟩))
    go_ret
    exact ⟨rfl, below_new (by assumption) _⟩
  · have HS : Hid _ := scan_some s hs k n t x h
    have hs2 : (strip s).size ≤ maxLen := Nat.le_trans (strip_size s) hs
    have HII : Hid (∀ w, Calls Oajg.prog 47 #[.string (strip s), .string ⟨#[105, 110, 102]⟩] w fun e w' => e = .returned (.bool (wordB (strip s) wInf)) ∧ w' = w) := fun w => isWord_any (strip s) wInf hs2 (by decide) w
    have HIY : Hid (∀ w, Calls Oajg.prog 47 #[.string (strip s), .string ⟨#[105, 110, 102, 105, 110, 105, 116, 121]⟩] w fun e w' => e = .returned (.bool (wordB (strip s) wInfinity)) ∧ w' = w) := fun w => isWord_any (strip s) wInfinity hs2 (by decide) w
    have HIN : Hid (∀ w, Calls Oajg.prog 47 #[.string (strip s), .string ⟨#[110, 97, 110]⟩] w fun e w' => e = .returned (.bool (wordB (strip s) wNan)) ∧ w' = w) := fun w => isWord_any (strip s) wNan hs2 (by decide) w
    have hm : s.size ≤ 9223372036854775807 := by unfold maxLen at hs; omega
    clear h hs hs2
    have hcase : (∃ h : 0 < s.size, (s[0].toNat : Int) = 43) ∨ (∃ h : 0 < s.size, (s[0].toNat : Int) = 45) ∨ (∃ h : 0 < s.size, (s[0].toNat : Int) ≠ 43 ∧ (s[0].toNat : Int) ≠ 45) ∨ s.size = 0 := by
      by_cases h : 0 < s.size
      · by_cases h1 : (s[0].toNat : Int) = 43
        · exact Or.inl ⟨h, h1⟩
        · by_cases h2 : (s[0].toNat : Int) = 45
          · exact Or.inr (Or.inl ⟨h, h2⟩)
          · exact Or.inr (Or.inr (Or.inl ⟨h, h1, h2⟩))
      · exact Or.inr (Or.inr (Or.inr (by omega)))
    rcases hcase with ⟨h0, hc⟩ | ⟨h0, hc⟩ | ⟨h0, hc1, hc2⟩ | h0
    · rw [strip_yes s h0 (Or.inl hc)] at HII HIY HIN hw
      have hne : s.toList.isEmpty = false := ne_of_size s h0
      have hc' : ((s[0].toNat : Int) == 43) = true := by simp [hc]
      clear hc
      cases hw1 : wordB (s.extract 1 s.size) wInf with
      | true =>
        rw [hw1] at HII
        clear hw hw1
        rcases hk with rfl | rfl
        · go_enter Oajg.func9, Oajg.ntmps9
          go_wp2_with (first | (go_at_call 45; refine (HS.out _).mono ?_; rintro e w1 ⟨rfl, hb⟩))
          refine (HII.out _).mono ?_
          rintro e w2 ⟨rfl, rfl⟩
          go_wp2_with fail
          go_ret
          exact ⟨rfl, below_new (by assumption) _⟩
        · go_enter Oajg.func9, Oajg.ntmps9
          go_wp2_with (first | (go_at_call 45; refine (HS.out _).mono ?_; rintro e w1 ⟨rfl, hb⟩))
          refine (HII.out _).mono ?_
          rintro e w2 ⟨rfl, rfl⟩
          go_wp2_with fail
          go_ret
          exact ⟨rfl, below_new (by assumption) _⟩
      | false =>
        rw [hw1] at HII hw
        clear hw1
        cases hw2 : wordB (s.extract 1 s.size) wInfinity with
        | true =>
          rw [hw2] at HIY
          clear hw hw2
          rcases hk with rfl | rfl
          · go_enter Oajg.func9, Oajg.ntmps9
            go_wp2_with (first | (go_at_call 45; refine (HS.out _).mono ?_; rintro e w1 ⟨rfl, hb⟩))
            refine (HII.out _).mono ?_
            rintro e w2 ⟨rfl, rfl⟩
            go_wp2_with fail
            refine (HIY.out _).mono ?_
            rintro e w2 ⟨rfl, rfl⟩
            go_wp2_with fail
            go_ret
            exact ⟨rfl, below_new (by assumption) _⟩
          · go_enter Oajg.func9, Oajg.ntmps9
            go_wp2_with (first | (go_at_call 45; refine (HS.out _).mono ?_; rintro e w1 ⟨rfl, hb⟩))
            refine (HII.out _).mono ?_
            rintro e w2 ⟨rfl, rfl⟩
            go_wp2_with fail
            refine (HIY.out _).mono ?_
            rintro e w2 ⟨rfl, rfl⟩
            go_wp2_with fail
            go_ret
            exact ⟨rfl, below_new (by assumption) _⟩
        | false =>
          rw [hw2] at HIY hw
          have hw3 : wordB (s.extract 1 s.size) wNan = true := by rcases hw with h | h | h; (cases h); (cases h); exact h
          rw [hw3] at HIN
          clear hw hw2 hw3
          rcases hk with rfl | rfl
          · go_enter Oajg.func9, Oajg.ntmps9
            go_wp2_with (first | (go_at_call 45; refine (HS.out _).mono ?_; rintro e w1 ⟨rfl, hb⟩))
            refine (HII.out _).mono ?_
            rintro e w2 ⟨rfl, rfl⟩
            go_wp2_with fail
            refine (HIY.out _).mono ?_
            rintro e w2 ⟨rfl, rfl⟩
            go_wp2_with fail
            refine (HIN.out _).mono ?_
            rintro e w2 ⟨rfl, rfl⟩
            go_wp2_with fail
            go_ret
            exact ⟨rfl, below_new (by assumption) _⟩
          · go_enter Oajg.func9, Oajg.ntmps9
            go_wp2_with (first | (go_at_call 45; refine (HS.out _).mono ?_; rintro e w1 ⟨rfl, hb⟩))
            refine (HII.out _).mono ?_
            rintro e w2 ⟨rfl, rfl⟩
            go_wp2_with fail
            refine (HIY.out _).mono ?_
            rintro e w2 ⟨rfl, rfl⟩
            go_wp2_with fail
            refine (HIN.out _).mono ?_
            rintro e w2 ⟨rfl, rfl⟩
            go_wp2_with fail
            go_ret
            exact ⟨rfl, below_new (by assumption) _⟩
    · rw [strip_yes s h0 (Or.inr hc)] at HII HIY HIN hw
      have hne : s.toList.isEmpty = false := ne_of_size s h0
      have hc' : ((s[0].toNat : Int) == 43) = false := by simp [hc]
      have hc2' : ((s[0].toNat : Int) == 45) = true := by simp [hc]
      clear hc
      cases hw1 : wordB (s.extract 1 s.size) wInf with
      | true =>
        rw [hw1] at HII
        clear hw hw1
        rcases hk with rfl | rfl
        · go_enter Oajg.func9, Oajg.ntmps9
          go_wp2_with (first | (go_at_call 45; refine (HS.out _).mono ?_; rintro e w1 ⟨rfl, hb⟩))
          refine (HII.out _).mono ?_
          rintro e w2 ⟨rfl, rfl⟩
          go_wp2_with fail
          go_ret
          exact ⟨rfl, below_new (by assumption) _⟩
        · go_enter Oajg.func9, Oajg.ntmps9
          go_wp2_with (first | (go_at_call 45; refine (HS.out _).mono ?_; rintro e w1 ⟨rfl, hb⟩))
          refine (HII.out _).mono ?_
          rintro e w2 ⟨rfl, rfl⟩
          go_wp2_with fail
          go_ret
          exact ⟨rfl, below_new (by assumption) _⟩
      | false =>
        rw [hw1] at HII hw
        clear hw1
        cases hw2 : wordB (s.extract 1 s.size) wInfinity with
        | true =>
          rw [hw2] at HIY
          clear hw hw2
          rcases hk with rfl | rfl
          · go_enter Oajg.func9, Oajg.ntmps9
            go_wp2_with (first | (go_at_call 45; refine (HS.out _).mono ?_; rintro e w1 ⟨rfl, hb⟩))
            refine (HII.out _).mono ?_
            rintro e w2 ⟨rfl, rfl⟩
            go_wp2_with fail
            refine (HIY.out _).mono ?_
            rintro e w2 ⟨rfl, rfl⟩
            go_wp2_with fail
            go_ret
            exact ⟨rfl, below_new (by assumption) _⟩
          · go_enter Oajg.func9, Oajg.ntmps9
            go_wp2_with (first | (go_at_call 45; refine (HS.out _).mono ?_; rintro e w1 ⟨rfl, hb⟩))
            refine (HII.out _).mono ?_
            rintro e w2 ⟨rfl, rfl⟩
            go_wp2_with fail
            refine (HIY.out _).mono ?_
            rintro e w2 ⟨rfl, rfl⟩
            go_wp2_with fail
            go_ret
            exact ⟨rfl, below_new (by assumption) _⟩
        | false =>
          rw [hw2] at HIY hw
          have hw3 : wordB (s.extract 1 s.size) wNan = true := by rcases hw with h | h | h; (cases h); (cases h); exact h
          rw [hw3] at HIN
          clear hw hw2 hw3
          rcases hk with rfl | rfl
          · go_enter Oajg.func9, Oajg.ntmps9
            go_wp2_with (first | (go_at_call 45; refine (HS.out _).mono ?_; rintro e w1 ⟨rfl, hb⟩))
            refine (HII.out _).mono ?_
            rintro e w2 ⟨rfl, rfl⟩
            go_wp2_with fail
            refine (HIY.out _).mono ?_
            rintro e w2 ⟨rfl, rfl⟩
            go_wp2_with fail
            refine (HIN.out _).mono ?_
            rintro e w2 ⟨rfl, rfl⟩
            go_wp2_with fail
            go_ret
            exact ⟨rfl, below_new (by assumption) _⟩
          · go_enter Oajg.func9, Oajg.ntmps9
            go_wp2_with (first | (go_at_call 45; refine (HS.out _).mono ?_; rintro e w1 ⟨rfl, hb⟩))
            refine (HII.out _).mono ?_
            rintro e w2 ⟨rfl, rfl⟩
            go_wp2_with fail
            refine (HIY.out _).mono ?_
            rintro e w2 ⟨rfl, rfl⟩
            go_wp2_with fail
            refine (HIN.out _).mono ?_
            rintro e w2 ⟨rfl, rfl⟩
            go_wp2_with fail
            go_ret
            exact ⟨rfl, below_new (by assumption) _⟩
    · rw [strip_no s (fun _ => ⟨hc1, hc2⟩)] at HII HIY HIN hw
      have hne : s.toList.isEmpty = false := ne_of_size s h0
      have hc' : ((s[0].toNat : Int) == 43) = false := by simp [hc1]
      have hc2' : ((s[0].toNat : Int) == 45) = false := by simp [hc2]
      clear hc1 hc2
      cases hw1 : wordB (s) wInf with
      | true =>
        rw [hw1] at HII
        clear hw hw1
        rcases hk with rfl | rfl
        · go_enter Oajg.func9, Oajg.ntmps9
          go_wp2_with (first | (go_at_call 45; refine (HS.out _).mono ?_; rintro e w1 ⟨rfl, hb⟩))
          refine (HII.out _).mono ?_
          rintro e w2 ⟨rfl, rfl⟩
          go_wp2_with fail
          go_ret
          exact ⟨rfl, below_new (by assumption) _⟩
        · go_enter Oajg.func9, Oajg.ntmps9
          go_wp2_with (first | (go_at_call 45; refine (HS.out _).mono ?_; rintro e w1 ⟨rfl, hb⟩))
          refine (HII.out _).mono ?_
          rintro e w2 ⟨rfl, rfl⟩
          go_wp2_with fail
          go_ret
          exact ⟨rfl, below_new (by assumption) _⟩
      | false =>
        rw [hw1] at HII hw
        clear hw1
        cases hw2 : wordB (s) wInfinity with
        | true =>
          rw [hw2] at HIY
          clear hw hw2
          rcases hk with rfl | rfl
          · go_enter Oajg.func9, Oajg.ntmps9
            go_wp2_with (first | (go_at_call 45; refine (HS.out _).mono ?_; rintro e w1 ⟨rfl, hb⟩))
            refine (HII.out _).mono ?_
            rintro e w2 ⟨rfl, rfl⟩
            go_wp2_with fail
            refine (HIY.out _).mono ?_
            rintro e w2 ⟨rfl, rfl⟩
            go_wp2_with fail
            go_ret
            exact ⟨rfl, below_new (by assumption) _⟩
          · go_enter Oajg.func9, Oajg.ntmps9
            go_wp2_with (first | (go_at_call 45; refine (HS.out _).mono ?_; rintro e w1 ⟨rfl, hb⟩))
            refine (HII.out _).mono ?_
            rintro e w2 ⟨rfl, rfl⟩
            go_wp2_with fail
            refine (HIY.out _).mono ?_
            rintro e w2 ⟨rfl, rfl⟩
            go_wp2_with fail
            go_ret
            exact ⟨rfl, below_new (by assumption) _⟩
        | false =>
          rw [hw2] at HIY hw
          have hw3 : wordB (s) wNan = true := by rcases hw with h | h | h; (cases h); (cases h); exact h
          rw [hw3] at HIN
          clear hw hw2 hw3
          rcases hk with rfl | rfl
          · go_enter Oajg.func9, Oajg.ntmps9
            go_wp2_with (first | (go_at_call 45; refine (HS.out _).mono ?_; rintro e w1 ⟨rfl, hb⟩))
            refine (HII.out _).mono ?_
            rintro e w2 ⟨rfl, rfl⟩
            go_wp2_with fail
            refine (HIY.out _).mono ?_
            rintro e w2 ⟨rfl, rfl⟩
            go_wp2_with fail
            refine (HIN.out _).mono ?_
            rintro e w2 ⟨rfl, rfl⟩
            go_wp2_with fail
            go_ret
            exact ⟨rfl, below_new (by assumption) _⟩
          · go_enter Oajg.func9, Oajg.ntmps9
            go_wp2_with (first | (go_at_call 45; refine (HS.out _).mono ?_; rintro e w1 ⟨rfl, hb⟩))
            refine (HII.out _).mono ?_
            rintro e w2 ⟨rfl, rfl⟩
            go_wp2_with fail
            refine (HIY.out _).mono ?_
            rintro e w2 ⟨rfl, rfl⟩
            go_wp2_with fail
            refine (HIN.out _).mono ?_
            rintro e w2 ⟨rfl, rfl⟩
            go_wp2_with fail
            go_ret
            exact ⟨rfl, below_new (by assumption) _⟩
    · exfalso
      rw [strip_no s (fun h => by omega)] at hw
      rcases hw with h | h | h <;> (have := word_len _ _ h; rw [h0] at this; revert this; decide)

/-! ### THE ROW's STEP -/
set_option maxRecDepth 100000 in
theorem lifted (os : Os) (started : os.Started) (H : Type) (enc : TypeId × Value → H) :
    ReturnsInHanded {} Oajg.checked os 9 .any (Rows.scanShapeSpec.pre6 enc Oajg.prog Oajg.f9 Rows.scanShapeRow.domain false) (Rows.scanShapeSpec.post enc Oajg.prog Oajg.f9 false true false false) := by
  refine returnsInHanded_of_change (C := Oajg.checked) own started (by kernel_rfl) Oajg.func9
    (ChangeSpec.witness6 (enc := enc) (C := Oajg.checked) false ⟨#[], #[.string ByteArray.empty], []⟩ 8 (by kernel_rfl) (by kernel_rfl) (by kernel_rfl) (by kernel_rfl)) ?_
  intro W base args ds gs before hval0 hW hcnd _
  have hval : ∀ (j : Nat) t v, Oajg.f9.params[j]? = some t → args[j]? = some v → Value.okWide Oajg.prog W .any base t v := hval0
  have hW' := hW
  obtain ⟨p, q, hA0, hV, rfl, hfz, hnd⟩ := hW
  have hA : DataW.TrodAll enc Oajg.prog W 0 (fun _ => true) true Oajg.f9.params.toList args.toList ds p := hA0
  rw [Oajg.params9] at hA hval
  obtain ⟨v0, vs0, d0, ds0, p0, q0, hargs, rfl, rfl, h0, r0⟩ := trodAll_cons hA
  obtain ⟨rfl, rfl, rfl⟩ := trodAll_nil r0
  obtain rfl : args = #[v0] := by cases args; simp_all
  obtain ⟨rfl, rfl⟩ := trodVars_none hV
  obtain ⟨a0, rfl, rfl, rfl, w0⟩ := open_string Oajg.underlying9 (hval 0 9 v0 rfl rfl) h0
  clear hA0 hval0
  simp only [List.append_nil] at hW'
  refine (walk a0 w0 W).mono fun e W' ⟨he, hg⟩ => ?_
  subst he
  exact ⟨_, rfl, post_of_below (pa := []) (pv := []) hW' (fun _ _ _ => (trodAll_cons_mk (shut_bool Oajg.underlying4 _) trodAll_mk0)) (fun sp _ => (trodAll_cons_mk (shut_string Oajg.underlying9 w0) trodAll_mk0)) (fun _ _ => rfl) rfl hg⟩

theorem over : Rows.scanShapeRow.holds Oajg.pinned (OpenSpec.ofChange Rows.scanShapeSpec) :=
  OpenClaim.holds_of_wide 9 Oajg.f9 rfl rfl rfl rfl rfl rfl rfl ⟨rfl, rfl, rfl, rfl, rfl⟩ rfl rfl rfl rfl rfl (by kernel_rfl) Oajg.func9 (by kernel_rfl)
    (of_decide_eq_true (by kernel_rfl)) (by unfold Func.isWrapper; first | (rw [if_pos (by decide +kernel)]; kernel_rfl) | (rw [if_neg (by decide +kernel)]; exact ⟨rfl, rfl⟩))
    (fun os started H enc _ => lifted os started H enc)

theorem proved : Rows.ScanShapeSaid :=
  over
#print axioms proved
end Go.Proofs.Ygcoaj.scanShape
