/-
  'Rows.ScanWordsSaid' ('softfloat/law.ScanWords'). The frame: the guide's shell, the reach handed on.
-/
import Derived.Test.YgcoajRows
import Derived.Test.YgcoajFrame
import Derived.Test.YgcoajScanD
import Derived.Test.YgcoajScanLawA
import Derived.WalkKit
import Derived.ProofKit
import Derived.OpenShut
import Derived.ShutString
import Derived.SizedLaws
set_option linter.unusedVariables false
set_option linter.unusedSimpArgs false
namespace Go.Proofs.Ygcoaj.scanWords
open Go.ChangeShapes Go.WideShapes Go.ChangeAt Go.RowKit
open Go.ChangeMaps (open_string shut_string)

theorem own : ownKnob Oajg.prog.godebug = none := by kernel_rfl

theorem below_new {w w1 : World} (hb : Below w.heap.size w w1) (O : Obj) : Below w.heap.size w (w1.alloc O) := hb.alloc hb.size O

set_option maxRecDepth 100000 in
set_option maxHeartbeats 2000000 in
theorem walk (a0 : Int) (a1 : ByteArray) (w0 : 0 ≤ a0) (w00 : a0 < 256) (w1 : a1.size ≤ 140737488351232) (w : World) :
    Calls Oajg.prog 8 #[.int .u8 a0, .string a1] w fun e w' => e = .returned (.bool true) ∧ Below w.heap.size w w' := by
  have hsg := sgn_size a0
  have hm : a1.size ≤ maxLen := by unfold maxLen; omega
  have hm2 : (sgn a0 ++ a1).size ≤ maxLen := by rw [ByteArray.size_append]; unfold maxLen; omega
  have hk1 : wInf.size ≤ maxLen := by decide
  have hk2 : wInfinity.size ≤ maxLen := by decide
  have hk3 : wNan.size ≤ maxLen := by decide
  have hii : ∀ w, Calls Oajg.prog 47 #[.string a1, .string ⟨#[105, 110, 102]⟩] w fun e w' => e = .returned (.bool (wordB a1 wInf)) ∧ w' = w := fun w => isWord_any a1 wInf hm hk1 w
  have hiy : ∀ w, Calls Oajg.prog 47 #[.string a1, .string ⟨#[105, 110, 102, 105, 110, 105, 116, 121]⟩] w fun e w' => e = .returned (.bool (wordB a1 wInfinity)) ∧ w' = w := fun w => isWord_any a1 wInfinity hm hk2 w
  have hin : ∀ w, Calls Oajg.prog 47 #[.string a1, .string ⟨#[110, 97, 110]⟩] w fun e w' => e = .returned (.bool (wordB a1 wNan)) ∧ w' = w := fun w => isWord_any a1 wNan hm hk3 w
  have HII : Hid _ := hii
  have HIY : Hid _ := hiy
  have HIN : Hid _ := hin
  clear hii hiy hin hk1 hk2 hk3
  by_cases h1 : wordB a1 wInf = true ∨ wordB a1 wInfinity = true
  · have HS : Hid (scanP (sgn a0 ++ a1) = some (1, decide (a0 % 3 = 2), ⟨#[]⟩, 0)) := scan_inf a0 w0 a1 h1
    have hsc : ∀ w, Calls Oajg.prog 45 #[.string (sgn a0 ++ a1)] w fun e w' => e = .returned (.agg #[.int .u8 1, .bool (decide (a0 % 3 = 2)), .string ⟨#[]⟩, .int .i16 0, .int .i64 0, .int .i32 0]) ∧ Below w.heap.size w w' := fun w => by
      refine (scan_any _ hm2 w).mono ?_
      rintro e w' ⟨u, rfl, hb, hsay⟩
      rw [HS.out] at hsay
      exact ⟨by rw [show u = _ from hsay]; rfl, hb⟩
    have HSC : Hid _ := hsc
    have hrem : (a0 % 3 == 2) = decide (a0 % 3 = 2) := by by_cases h : a0 % 3 = 2 <;> simp [h]
    clear hsc
    generalize decide (a0 % 3 = 2) = ng at *
    cases h2 : wordB a1 wInf with
    | true =>
      rw [h2] at HII
      clear h1 h2
      go_enter Oajg.func8, Oajg.ntmps8
      go_wp2_with (first | (go_at_call 43; refine (signText_any a0 w0 w00 _).mono ?_; rintro e w' ⟨rfl, rfl⟩) | (go_at_call 45; refine (HSC.out _).mono ?_; rintro e w1 ⟨rfl, hb⟩))
      refine (HII.out _).mono ?_
      rintro e w2 ⟨rfl, rfl⟩
      go_wp2_with fail
      go_ret
      exact ⟨rfl, below_new (by assumption) _⟩
    | false =>
      have h3 : wordB a1 wInfinity = true := by rcases h1 with h | h; (rw [h2] at h; cases h); exact h
      rw [h2] at HII
      rw [h3] at HIY
      clear h1 h2 h3
      go_enter Oajg.func8, Oajg.ntmps8
      go_wp2_with (first | (go_at_call 43; refine (signText_any a0 w0 w00 _).mono ?_; rintro e w' ⟨rfl, rfl⟩) | (go_at_call 45; refine (HSC.out _).mono ?_; rintro e w1 ⟨rfl, hb⟩))
      refine (HII.out _).mono ?_
      rintro e w2 ⟨rfl, rfl⟩
      go_wp2_with fail
      refine (HIY.out _).mono ?_
      rintro e w2 ⟨rfl, rfl⟩
      go_wp2_with fail
      go_ret
      exact ⟨rfl, below_new (by assumption) _⟩
  · have h2 : wordB a1 wInf = false := by cases h : wordB a1 wInf with | true => exact absurd (Or.inl h) h1 | false => rfl
    have h3 : wordB a1 wInfinity = false := by cases h : wordB a1 wInfinity with | true => exact absurd (Or.inr h) h1 | false => rfl
    rw [h2] at HII
    rw [h3] at HIY
    clear h1 h2 h3
    cases h4 : wordB a1 wNan with
    | true =>
      have HS : Hid (scanP (sgn a0 ++ a1) = some (2, false, ⟨#[]⟩, 0)) := scan_nan a0 w0 a1 h4
      have hsc : ∀ w, Calls Oajg.prog 45 #[.string (sgn a0 ++ a1)] w fun e w' => e = .returned (.agg #[.int .u8 2, .bool false, .string ⟨#[]⟩, .int .i16 0, .int .i64 0, .int .i32 0]) ∧ Below w.heap.size w w' := fun w => by
        refine (scan_any _ hm2 w).mono ?_
        rintro e w' ⟨u, rfl, hb, hsay⟩
        rw [HS.out] at hsay
        exact ⟨by rw [show u = _ from hsay]; rfl, hb⟩
      have HSC : Hid _ := hsc
      rw [h4] at HIN
      clear hsc h4
      go_enter Oajg.func8, Oajg.ntmps8
      go_wp2_with (first | (go_at_call 43; refine (signText_any a0 w0 w00 _).mono ?_; rintro e w' ⟨rfl, rfl⟩) | (go_at_call 45; refine (HSC.out _).mono ?_; rintro e w1 ⟨rfl, hb⟩))
      refine (HII.out _).mono ?_
      rintro e w2 ⟨rfl, rfl⟩
      go_wp2_with fail
      refine (HIY.out _).mono ?_
      rintro e w2 ⟨rfl, rfl⟩
      go_wp2_with fail
      refine (HIN.out _).mono ?_
      rintro e w2 ⟨rfl, rfl⟩
      go_wp2_with fail
      go_ret
      exact ⟨rfl, below_new (by assumption) _⟩
    | false =>
      rw [h4] at HIN
      have hsc : ∀ w, Calls Oajg.prog 45 #[.string (sgn a0 ++ a1)] w fun e w' => ∃ k n t x p g, e = .returned (.agg #[.int .u8 k, .bool n, .string t, .int .i16 x, .int .i64 p, .int .i32 g]) ∧ Below w.heap.size w w' := fun w => by
        refine (scan_any _ hm2 w).mono ?_
        rintro e w' ⟨u, rfl, hb, hsay⟩
        obtain ⟨k, n, t, x, p, g, rfl⟩ := says_form hsay
        exact ⟨k, n, t, x, p, g, rfl, hb⟩
      have HSC : Hid _ := hsc
      clear hsc h4
      go_enter Oajg.func8, Oajg.ntmps8
      go_wp2_with (first | (go_at_call 43; refine (signText_any a0 w0 w00 _).mono ?_; rintro e w' ⟨rfl, rfl⟩) | (go_at_call 45; refine (HSC.out _).mono ?_; rintro e w1 ⟨k, n, t, x, p, g, rfl, hb⟩))
      refine (HII.out _).mono ?_
      rintro e w2 ⟨rfl, rfl⟩
      go_wp2_with fail
      refine (HIY.out _).mono ?_
      rintro e w2 ⟨rfl, rfl⟩
      go_wp2_with fail
      refine (HIN.out _).mono ?_
      rintro e w2 ⟨rfl, rfl⟩
      go_wp2_with fail
      go_ret
      exact ⟨rfl, below_new (by assumption) _⟩

/-! ### THE ROW's STEP -/
set_option maxRecDepth 100000 in
theorem lifted (os : Os) (started : os.Started) (H : Type) (enc : TypeId × Value → H) :
    ReturnsInHanded {} Oajg.checked os 8 .any (Rows.scanWordsSpec.pre6 enc Oajg.prog Oajg.f8 Rows.scanWordsRow.domain false) (Rows.scanWordsSpec.post enc Oajg.prog Oajg.f8 false true false false) := by
  refine returnsInHanded_of_change_sized (C := Oajg.checked) own started (by kernel_rfl) Oajg.func8
    (ChangeSpec.witness6 (enc := enc) (C := Oajg.checked) false ⟨#[], #[.int .u8 0, .string ByteArray.empty], []⟩ 8 (by kernel_rfl) (by kernel_rfl) (by kernel_rfl) (by kernel_rfl)) ?_
  intro W base args ds gs before hval0 hW hcnd hsz0 _
  have hval : ∀ (j : Nat) t v, Oajg.f8.params[j]? = some t → args[j]? = some v → Value.okWide Oajg.prog W .any base t v := hval0
  have hsz : (DataW.weightsEach Oajg.prog (Oajg.f8.params.toList ++ Rows.scanWordsSpec.plain.varTypes Oajg.prog) (ds ++ gs)).all (· ≤ reachBytes) = true := hsz0
  have hW' := hW
  obtain ⟨p, q, hA0, hV, rfl, hfz, hnd⟩ := hW
  have hA : DataW.TrodAll enc Oajg.prog W 0 (fun _ => true) true Oajg.f8.params.toList args.toList ds p := hA0
  rw [Oajg.params8] at hA hval hsz
  obtain ⟨v0, vs0, d0, ds0, p0, q0, hargs, rfl, rfl, h0, r0⟩ := trodAll_cons hA
  obtain ⟨v1, vs1, d1, ds1, p1, q1, rfl, rfl, rfl, h1, r1⟩ := trodAll_cons r0
  obtain ⟨rfl, rfl, rfl⟩ := trodAll_nil r1
  obtain rfl : args = #[v0, v1] := by cases args; simp_all
  obtain ⟨rfl, rfl⟩ := trodVars_none hV
  obtain ⟨a0, rfl, rfl, rfl, w0⟩ := open_int Oajg.underlying5 (hval 0 5 v0 rfl rfl) h0
  obtain ⟨a1, rfl, rfl, rfl, w1⟩ := open_string Oajg.underlying9 (hval 1 9 v1 rfl rfl) h1
  clear hA0 hval0
  have hs1 := sized_string hsz (j := 1) (t := 9) rfl rfl
  have hb0 := bounds_u8 w0
  simp only [List.append_nil] at hW'
  refine (walk a0 a1 hb0.1 (by omega) (by rw [len_toList] at hs1; exact hs1) W).mono fun e W' ⟨he, hg⟩ => ?_
  subst he
  exact ⟨_, rfl, post_of_below (pa := []) (pv := []) hW' (fun _ _ _ => (trodAll_cons_mk (shut_bool Oajg.underlying4 _) trodAll_mk0)) (fun sp _ => (trodAll_cons_mk (shut_int Oajg.underlying5 w0) (trodAll_cons_mk (shut_string Oajg.underlying9 w1) trodAll_mk0))) (fun _ _ => rfl) rfl hg⟩

theorem over : Rows.scanWordsRow.holds Oajg.pinned (OpenSpec.ofChange Rows.scanWordsSpec) :=
  OpenClaim.holds_of_wide 8 Oajg.f8 rfl rfl rfl rfl rfl rfl rfl ⟨rfl, rfl, rfl, rfl, rfl⟩ rfl rfl rfl rfl rfl (by kernel_rfl) Oajg.func8 (by kernel_rfl)
    (of_decide_eq_true (by kernel_rfl)) (by unfold Func.isWrapper; first | (rw [if_pos (by decide +kernel)]; kernel_rfl) | (rw [if_neg (by decide +kernel)]; exact ⟨rfl, rfl⟩))
    (fun os started H enc _ => lifted os started H enc)

theorem proved : Rows.ScanWordsSaid :=
  over
#print axioms proved
end Go.Proofs.Ygcoaj.scanWords
