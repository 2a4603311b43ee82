/-
  'Rows.ScanPartsSaid' ('softfloat/law.ScanParts').
-/
import Derived.Test.YgcoajRows
import Derived.Test.YgcoajFrame
import Derived.Test.YgcoajScanPartsW
import Derived.WalkKit
import Derived.ProofKit
import Derived.OpenShut
import Derived.ShutString
import Derived.SizedLaws
set_option linter.unusedVariables false
set_option linter.unusedSimpArgs false
namespace Go.Proofs.Ygcoaj.scanParts
open Go.ChangeShapes Go.WideShapes Go.ChangeAt Go.RowKit
open Go.ChangeMaps (open_string shut_string)

theorem own : ownKnob Oajg.prog.godebug = none := by kernel_rfl

set_option maxRecDepth 100000 in
set_option maxHeartbeats 2000000 in
theorem not_digits (sign e esign : Int) (ip fp ed : ByteArray) (dot : Bool) (z1 : ip.size ≤ maxLen) (z2 : fp.size ≤ maxLen) (z3 : ed.size ≤ maxLen)
    (h : allDig ip = false ∨ allDig fp = false ∨ allDig ed = false) (w : World) :
    Calls Oajg.prog 7 #[.int .u8 sign, .string ip, .string fp, .bool dot, .int .u8 e, .int .u8 esign, .string ed] w fun e w' => e = .returned (.bool true) ∧ Below w.heap.size w w' := by
  have HI : Hid _ := isDigits_any ip z1
  have HF : Hid _ := isDigits_any fp z2
  have HE : Hid _ := isDigits_any ed z3
  cases h1 : allDig ip with
  | false =>
    rw [h1] at HI
    clear h h1
    go_enter Oajg.func7, Oajg.ntmps7
    go_wp2_with fail
    refine (HI.out _).mono ?_
    rintro _ _ ⟨rfl, rfl⟩
    go_wp2_with fail
    go_ret
    exact ⟨rfl, Below.refl _ _⟩
  | true =>
    rw [h1] at HI h
    clear h1
    cases h2 : allDig fp with
    | false =>
      rw [h2] at HF
      clear h h2
      go_enter Oajg.func7, Oajg.ntmps7
      go_wp2_with fail
      refine (HI.out _).mono ?_
      rintro _ _ ⟨rfl, rfl⟩
      go_wp2_with fail
      refine (HF.out _).mono ?_
      rintro _ _ ⟨rfl, rfl⟩
      go_wp2_with fail
      go_ret
      exact ⟨rfl, Below.refl _ _⟩
    | true =>
      rw [h2] at HF h
      have h3 : allDig ed = false := by rcases h with h | h | h; (cases h); (cases h); exact h
      rw [h3] at HE
      clear h h2 h3
      go_enter Oajg.func7, Oajg.ntmps7
      go_wp2_with fail
      refine (HI.out _).mono ?_
      rintro _ _ ⟨rfl, rfl⟩
      go_wp2_with fail
      refine (HF.out _).mono ?_
      rintro _ _ ⟨rfl, rfl⟩
      go_wp2_with fail
      refine (HE.out _).mono ?_
      rintro _ _ ⟨rfl, rfl⟩
      go_wp2_with fail
      go_ret
      exact ⟨rfl, Below.refl _ _⟩

theorem beqd (a : Int) : decide (a % 3 = 2) = (a % 3 == 2) := rfl
theorem long_scan (s : ByteArray) (h : 1024 < s.size) : scanP s = some (4, false, ⟨#[]⟩, 0) := by unfold scanP; rw [if_pos h]

theorem dp_all (sign e esign : Int) (ip fp ed : ByteArray) (s0 : 0 ≤ sign) (s1 : sign < 256) (e0 : 0 ≤ e) (e1 : e < 256) (t0 : 0 ≤ esign) (t1 : esign < 256)
    (z1 : ip.size ≤ 140737488351232) (z2 : fp.size ≤ 140737488351232) (z3 : ed.size ≤ 140737488351232) (a1 : allDig ip = true) (a2 : allDig fp = true) (a3 : allDig ed = true) (w : World)
    (he : (e % 3 != 0) = false) :
    Calls Oajg.prog 7 #[.int .u8 sign, .string ip, .string fp, .bool true, .int .u8 e, .int .u8 esign, .string ed] w fun e w' => e = .returned (.bool true) ∧ Below w.heap.size w w' := by
  have one : (⟨#[46]⟩ : ByteArray).size = 1 := rfl
  have nil : (⟨#[]⟩ : ByteArray).size = 0 := rfl
  have g1 := sgn_size sign
  have g2 := sgn_size esign
  have g3 := exx_size e
  have hmT : ((sgn sign ++ ip) ++ (⟨#[46]⟩ ++ fp)).size ≤ maxLen := by simp only [ByteArray.size_append, one]; unfold maxLen; omega
  by_cases hL : 1024 < ((sgn sign ++ ip) ++ (⟨#[46]⟩ ++ fp)).size
  · exact dp_long sign e esign ip fp ed s0 s1 e0 e1 t0 t1 z1 z2 z3 a1 a2 a3 w he hmT (long_scan _ hL) hL
  have hL' : ((sgn sign ++ ip) ++ (⟨#[46]⟩ ++ fp)).size ≤ 1024 := by omega
  have hp := parts_plain sign s0 ip fp true a1 a2 hL'
  have hp : scanP ((sgn sign ++ ip) ++ (⟨#[46]⟩ ++ fp)) = if ip.size = 0 ∧ fp.size = 0 then none else numR (mkR (decide (sign % 3 = 2)) (ip ++ fp) (0 - (fp.size : Int))) := hp
  rw [beqd] at hp
  by_cases hi : ip.size = 0
  · by_cases hf : fp.size = 0
    · have hq : scanP ((sgn sign ++ ip) ++ (⟨#[46]⟩ ++ fp)) = none := by rw [hp, if_pos ⟨hi, hf⟩]
      exact dp_w1 sign e esign ip fp ed s0 s1 e0 e1 t0 t1 z1 z2 z3 a1 a2 a3 w he hmT hq hL' (nil_of_size' _ hi) (nil_of_size' _ hf)
    · have HN : ¬ (ip.size = 0 ∧ fp.size = 0) := by omega
      have hq : scanP ((sgn sign ++ ip) ++ (⟨#[46]⟩ ++ fp)) = numR (mkR (sign % 3 == 2) (ip ++ fp) (-(fp.size : Int))) := by rw [hp, if_neg HN]; congr 2; simp
      cases hm : mkR (sign % 3 == 2) (ip ++ fp) (-(fp.size : Int)) with
      | none => rw [hm] at hq; exact dp_b_none0 sign e esign ip fp ed s0 s1 e0 e1 t0 t1 z1 z2 z3 a1 a2 a3 w he hmT hq hL' (nil_of_size' _ hi) (ne_of_size _ hf) hm
      | some q => obtain ⟨n, t, y⟩ := q; rw [hm] at hq; exact dp_b_some0 sign e esign ip fp ed s0 s1 e0 e1 t0 t1 z1 z2 z3 a1 a2 a3 w he hmT n t y hq hL' (nil_of_size' _ hi) (ne_of_size _ hf) hm
  · have HN : ¬ (ip.size = 0 ∧ fp.size = 0) := by omega
    have hq : scanP ((sgn sign ++ ip) ++ (⟨#[46]⟩ ++ fp)) = numR (mkR (sign % 3 == 2) (ip ++ fp) (-(fp.size : Int))) := by rw [hp, if_neg HN]; congr 2; simp
    cases hm : mkR (sign % 3 == 2) (ip ++ fp) (-(fp.size : Int)) with
    | none => rw [hm] at hq; exact dp_a_none0 sign e esign ip fp ed s0 s1 e0 e1 t0 t1 z1 z2 z3 a1 a2 a3 w he hmT hq hL' (ne_of_size _ hi) hm
    | some q => obtain ⟨n, t, y⟩ := q; rw [hm] at hq; exact dp_a_some0 sign e esign ip fp ed s0 s1 e0 e1 t0 t1 z1 z2 z3 a1 a2 a3 w he hmT n t y hq hL' (ne_of_size _ hi) hm

theorem de_all (sign e esign : Int) (ip fp ed : ByteArray) (s0 : 0 ≤ sign) (s1 : sign < 256) (e0 : 0 ≤ e) (e1 : e < 256) (t0 : 0 ≤ esign) (t1 : esign < 256)
    (z1 : ip.size ≤ 140737488351232) (z2 : fp.size ≤ 140737488351232) (z3 : ed.size ≤ 140737488351232) (a1 : allDig ip = true) (a2 : allDig fp = true) (a3 : allDig ed = true) (w : World)
    (he : (e % 3 != 0) = true) :
    Calls Oajg.prog 7 #[.int .u8 sign, .string ip, .string fp, .bool true, .int .u8 e, .int .u8 esign, .string ed] w fun e w' => e = .returned (.bool true) ∧ Below w.heap.size w w' := by
  have one : (⟨#[46]⟩ : ByteArray).size = 1 := rfl
  have nil : (⟨#[]⟩ : ByteArray).size = 0 := rfl
  have g1 := sgn_size sign
  have g2 := sgn_size esign
  have g3 := exx_size e
  have hmT : (((sgn sign ++ ip) ++ (⟨#[46]⟩ ++ fp)) ++ ((exx e ++ sgn esign) ++ ed)).size ≤ maxLen := by simp only [ByteArray.size_append, one]; unfold maxLen; omega
  by_cases hL : 1024 < (((sgn sign ++ ip) ++ (⟨#[46]⟩ ++ fp)) ++ ((exx e ++ sgn esign) ++ ed)).size
  · exact de_long sign e esign ip fp ed s0 s1 e0 e1 t0 t1 z1 z2 z3 a1 a2 a3 w he hmT (long_scan _ hL) hL
  have hL' : (((sgn sign ++ ip) ++ (⟨#[46]⟩ ++ fp)) ++ ((exx e ++ sgn esign) ++ ed)).size ≤ 1024 := by omega
  have he3 : e % 3 ≠ 0 := by simpa using he
  have hp := parts_exp sign s0 ip fp true a1 a2 e esign e0 he3 t0 ed a3 hL'
  have hp : scanP (((sgn sign ++ ip) ++ (⟨#[46]⟩ ++ fp)) ++ ((exx e ++ sgn esign) ++ ed)) = if (ip.size = 0 ∧ fp.size = 0) ∨ ed.size = 0 then none else numR (mkR (decide (sign % 3 = 2)) (ip ++ fp) ((if esign % 3 = 2 then - sat 0 ed.data.toList else sat 0 ed.data.toList) - (fp.size : Int))) := hp
  rw [beqd] at hp
  by_cases hd : ed.size = 0
  · have hq : scanP (((sgn sign ++ ip) ++ (⟨#[46]⟩ ++ fp)) ++ ((exx e ++ sgn esign) ++ ed)) = none := by rw [hp, if_pos (Or.inr hd)]
    by_cases hi : ip.size = 0
    · by_cases hf : fp.size = 0
      · exact de_w1 sign e esign ip fp ed s0 s1 e0 e1 t0 t1 z1 z2 z3 a1 a2 a3 w he hmT hq hL' (nil_of_size' _ hi) (nil_of_size' _ hf)
      · exact de_w2b sign e esign ip fp ed s0 s1 e0 e1 t0 t1 z1 z2 z3 a1 a2 a3 w he hmT hq hL' (nil_of_size' _ hi) (ne_of_size _ hf) (nil_of_size' _ hd)
    · exact de_w2a sign e esign ip fp ed s0 s1 e0 e1 t0 t1 z1 z2 z3 a1 a2 a3 w he hmT hq hL' (ne_of_size _ hi) (nil_of_size' _ hd)
  by_cases hi : ip.size = 0
  · by_cases hf : fp.size = 0
    · have hq : scanP (((sgn sign ++ ip) ++ (⟨#[46]⟩ ++ fp)) ++ ((exx e ++ sgn esign) ++ ed)) = none := by rw [hp, if_pos (Or.inl ⟨hi, hf⟩)]
      exact de_w1 sign e esign ip fp ed s0 s1 e0 e1 t0 t1 z1 z2 z3 a1 a2 a3 w he hmT hq hL' (nil_of_size' _ hi) (nil_of_size' _ hf)
    · have HN : ¬ ((ip.size = 0 ∧ fp.size = 0) ∨ ed.size = 0) := by omega
      by_cases hsg : esign % 3 = 2
      · have hq : scanP (((sgn sign ++ ip) ++ (⟨#[46]⟩ ++ fp)) ++ ((exx e ++ sgn esign) ++ ed)) = numR (mkR (sign % 3 == 2) (ip ++ fp) (- sat 0 ed.data.toList - (fp.size : Int))) := by rw [hp, if_neg HN, if_pos hsg]
        cases hm : mkR (sign % 3 == 2) (ip ++ fp) (- sat 0 ed.data.toList - (fp.size : Int)) with
        | none => rw [hm] at hq; exact de_b_none1 sign e esign ip fp ed s0 s1 e0 e1 t0 t1 z1 z2 z3 a1 a2 a3 w he hmT hq hL' (nil_of_size' _ hi) (ne_of_size _ hf) (ne_of_size _ hd) (by simp [hsg]) hm
        | some q => obtain ⟨n, t, y⟩ := q; rw [hm] at hq; exact de_b_some1 sign e esign ip fp ed s0 s1 e0 e1 t0 t1 z1 z2 z3 a1 a2 a3 w he hmT n t y hq hL' (nil_of_size' _ hi) (ne_of_size _ hf) (ne_of_size _ hd) (by simp [hsg]) hm
      · have hq : scanP (((sgn sign ++ ip) ++ (⟨#[46]⟩ ++ fp)) ++ ((exx e ++ sgn esign) ++ ed)) = numR (mkR (sign % 3 == 2) (ip ++ fp) (sat 0 ed.data.toList - (fp.size : Int))) := by rw [hp, if_neg HN, if_neg hsg]
        cases hm : mkR (sign % 3 == 2) (ip ++ fp) (sat 0 ed.data.toList - (fp.size : Int)) with
        | none => rw [hm] at hq; exact de_b_none0 sign e esign ip fp ed s0 s1 e0 e1 t0 t1 z1 z2 z3 a1 a2 a3 w he hmT hq hL' (nil_of_size' _ hi) (ne_of_size _ hf) (ne_of_size _ hd) (by simp [hsg]) hm
        | some q => obtain ⟨n, t, y⟩ := q; rw [hm] at hq; exact de_b_some0 sign e esign ip fp ed s0 s1 e0 e1 t0 t1 z1 z2 z3 a1 a2 a3 w he hmT n t y hq hL' (nil_of_size' _ hi) (ne_of_size _ hf) (ne_of_size _ hd) (by simp [hsg]) hm
  · have HN : ¬ ((ip.size = 0 ∧ fp.size = 0) ∨ ed.size = 0) := by omega
    by_cases hsg : esign % 3 = 2
    · have hq : scanP (((sgn sign ++ ip) ++ (⟨#[46]⟩ ++ fp)) ++ ((exx e ++ sgn esign) ++ ed)) = numR (mkR (sign % 3 == 2) (ip ++ fp) (- sat 0 ed.data.toList - (fp.size : Int))) := by rw [hp, if_neg HN, if_pos hsg]
      cases hm : mkR (sign % 3 == 2) (ip ++ fp) (- sat 0 ed.data.toList - (fp.size : Int)) with
      | none => rw [hm] at hq; exact de_a_none1 sign e esign ip fp ed s0 s1 e0 e1 t0 t1 z1 z2 z3 a1 a2 a3 w he hmT hq hL' (ne_of_size _ hi) (ne_of_size _ hd) (by simp [hsg]) hm
      | some q => obtain ⟨n, t, y⟩ := q; rw [hm] at hq; exact de_a_some1 sign e esign ip fp ed s0 s1 e0 e1 t0 t1 z1 z2 z3 a1 a2 a3 w he hmT n t y hq hL' (ne_of_size _ hi) (ne_of_size _ hd) (by simp [hsg]) hm
    · have hq : scanP (((sgn sign ++ ip) ++ (⟨#[46]⟩ ++ fp)) ++ ((exx e ++ sgn esign) ++ ed)) = numR (mkR (sign % 3 == 2) (ip ++ fp) (sat 0 ed.data.toList - (fp.size : Int))) := by rw [hp, if_neg HN, if_neg hsg]
      cases hm : mkR (sign % 3 == 2) (ip ++ fp) (sat 0 ed.data.toList - (fp.size : Int)) with
      | none => rw [hm] at hq; exact de_a_none0 sign e esign ip fp ed s0 s1 e0 e1 t0 t1 z1 z2 z3 a1 a2 a3 w he hmT hq hL' (ne_of_size _ hi) (ne_of_size _ hd) (by simp [hsg]) hm
      | some q => obtain ⟨n, t, y⟩ := q; rw [hm] at hq; exact de_a_some0 sign e esign ip fp ed s0 s1 e0 e1 t0 t1 z1 z2 z3 a1 a2 a3 w he hmT n t y hq hL' (ne_of_size _ hi) (ne_of_size _ hd) (by simp [hsg]) hm

theorem np_all (sign e esign : Int) (ip fp ed : ByteArray) (s0 : 0 ≤ sign) (s1 : sign < 256) (e0 : 0 ≤ e) (e1 : e < 256) (t0 : 0 ≤ esign) (t1 : esign < 256)
    (z1 : ip.size ≤ 140737488351232) (z2 : fp.size ≤ 140737488351232) (z3 : ed.size ≤ 140737488351232) (a1 : allDig ip = true) (a2 : allDig fp = true) (a3 : allDig ed = true) (w : World)
    (he : (e % 3 != 0) = false) :
    Calls Oajg.prog 7 #[.int .u8 sign, .string ip, .string fp, .bool false, .int .u8 e, .int .u8 esign, .string ed] w fun e w' => e = .returned (.bool true) ∧ Below w.heap.size w w' := by
  have one : (⟨#[46]⟩ : ByteArray).size = 1 := rfl
  have nil : (⟨#[]⟩ : ByteArray).size = 0 := rfl
  have g1 := sgn_size sign
  have g2 := sgn_size esign
  have g3 := exx_size e
  have hmT : (sgn sign ++ ip).size ≤ maxLen := by simp only [ByteArray.size_append, one]; unfold maxLen; omega
  by_cases hL : 1024 < (sgn sign ++ ip).size
  · exact np_long sign e esign ip fp ed s0 s1 e0 e1 t0 t1 z1 z2 z3 a1 a2 a3 w he hmT (long_scan _ hL) hL
  have hL' : (sgn sign ++ ip).size ≤ 1024 := by omega
  have hp := parts_plain sign s0 ip fp false a1 a2 hL'
  have hp : scanP (sgn sign ++ ip) = if ip.size = 0 ∧ (⟨#[]⟩ : ByteArray).size = 0 then none else numR (mkR (decide (sign % 3 = 2)) (ip ++ (⟨#[]⟩ : ByteArray)) (0 - ((⟨#[]⟩ : ByteArray).size : Int))) := hp
  rw [beqd] at hp
  rw [nil] at hp
  by_cases hi : ip.size = 0
  · have hq : scanP (sgn sign ++ ip) = none := by rw [hp, if_pos ⟨hi, rfl⟩]
    exact np_w1 sign e esign ip fp ed s0 s1 e0 e1 t0 t1 z1 z2 z3 a1 a2 a3 w he hmT hq hL' (nil_of_size' _ hi)
  · have HN : ¬ (ip.size = 0 ∧ (0 : Nat) = 0) := by omega
    have hq : scanP (sgn sign ++ ip) = numR (mkR (sign % 3 == 2) (ip ++ (⟨#[]⟩ : ByteArray)) 0) := by rw [hp, if_neg HN]; congr 2
    cases hm : mkR (sign % 3 == 2) (ip ++ (⟨#[]⟩ : ByteArray)) 0 with
    | none => rw [hm] at hq; exact np_a_none0 sign e esign ip fp ed s0 s1 e0 e1 t0 t1 z1 z2 z3 a1 a2 a3 w he hmT hq hL' (ne_of_size _ hi) hm
    | some q => obtain ⟨n, t, y⟩ := q; rw [hm] at hq; exact np_a_some0 sign e esign ip fp ed s0 s1 e0 e1 t0 t1 z1 z2 z3 a1 a2 a3 w he hmT n t y hq hL' (ne_of_size _ hi) hm

theorem ne_all (sign e esign : Int) (ip fp ed : ByteArray) (s0 : 0 ≤ sign) (s1 : sign < 256) (e0 : 0 ≤ e) (e1 : e < 256) (t0 : 0 ≤ esign) (t1 : esign < 256)
    (z1 : ip.size ≤ 140737488351232) (z2 : fp.size ≤ 140737488351232) (z3 : ed.size ≤ 140737488351232) (a1 : allDig ip = true) (a2 : allDig fp = true) (a3 : allDig ed = true) (w : World)
    (he : (e % 3 != 0) = true) :
    Calls Oajg.prog 7 #[.int .u8 sign, .string ip, .string fp, .bool false, .int .u8 e, .int .u8 esign, .string ed] w fun e w' => e = .returned (.bool true) ∧ Below w.heap.size w w' := by
  have one : (⟨#[46]⟩ : ByteArray).size = 1 := rfl
  have nil : (⟨#[]⟩ : ByteArray).size = 0 := rfl
  have g1 := sgn_size sign
  have g2 := sgn_size esign
  have g3 := exx_size e
  have hmT : ((sgn sign ++ ip) ++ ((exx e ++ sgn esign) ++ ed)).size ≤ maxLen := by simp only [ByteArray.size_append, one]; unfold maxLen; omega
  by_cases hL : 1024 < ((sgn sign ++ ip) ++ ((exx e ++ sgn esign) ++ ed)).size
  · exact ne_long sign e esign ip fp ed s0 s1 e0 e1 t0 t1 z1 z2 z3 a1 a2 a3 w he hmT (long_scan _ hL) hL
  have hL' : ((sgn sign ++ ip) ++ ((exx e ++ sgn esign) ++ ed)).size ≤ 1024 := by omega
  have he3 : e % 3 ≠ 0 := by simpa using he
  have hp := parts_exp sign s0 ip fp false a1 a2 e esign e0 he3 t0 ed a3 hL'
  have hp : scanP ((sgn sign ++ ip) ++ ((exx e ++ sgn esign) ++ ed)) = if (ip.size = 0 ∧ (⟨#[]⟩ : ByteArray).size = 0) ∨ ed.size = 0 then none else numR (mkR (decide (sign % 3 = 2)) (ip ++ (⟨#[]⟩ : ByteArray)) ((if esign % 3 = 2 then - sat 0 ed.data.toList else sat 0 ed.data.toList) - ((⟨#[]⟩ : ByteArray).size : Int))) := hp
  rw [beqd] at hp
  rw [nil] at hp
  by_cases hd : ed.size = 0
  · have hq : scanP ((sgn sign ++ ip) ++ ((exx e ++ sgn esign) ++ ed)) = none := by rw [hp, if_pos (Or.inr hd)]
    by_cases hi : ip.size = 0
    · exact ne_w1 sign e esign ip fp ed s0 s1 e0 e1 t0 t1 z1 z2 z3 a1 a2 a3 w he hmT hq hL' (nil_of_size' _ hi)
    · exact ne_w2a sign e esign ip fp ed s0 s1 e0 e1 t0 t1 z1 z2 z3 a1 a2 a3 w he hmT hq hL' (ne_of_size _ hi) (nil_of_size' _ hd)
  by_cases hi : ip.size = 0
  · have hq : scanP ((sgn sign ++ ip) ++ ((exx e ++ sgn esign) ++ ed)) = none := by rw [hp, if_pos (Or.inl ⟨hi, rfl⟩)]
    exact ne_w1 sign e esign ip fp ed s0 s1 e0 e1 t0 t1 z1 z2 z3 a1 a2 a3 w he hmT hq hL' (nil_of_size' _ hi)
  · have HN : ¬ ((ip.size = 0 ∧ (0 : Nat) = 0) ∨ ed.size = 0) := by omega
    by_cases hsg : esign % 3 = 2
    · have hq : scanP ((sgn sign ++ ip) ++ ((exx e ++ sgn esign) ++ ed)) = numR (mkR (sign % 3 == 2) (ip ++ (⟨#[]⟩ : ByteArray)) (- sat 0 ed.data.toList)) := by rw [hp, if_neg HN, if_pos hsg]; congr 2; simp
      cases hm : mkR (sign % 3 == 2) (ip ++ (⟨#[]⟩ : ByteArray)) (- sat 0 ed.data.toList) with
      | none => rw [hm] at hq; exact ne_a_none1 sign e esign ip fp ed s0 s1 e0 e1 t0 t1 z1 z2 z3 a1 a2 a3 w he hmT hq hL' (ne_of_size _ hi) (ne_of_size _ hd) (by simp [hsg]) hm
      | some q => obtain ⟨n, t, y⟩ := q; rw [hm] at hq; exact ne_a_some1 sign e esign ip fp ed s0 s1 e0 e1 t0 t1 z1 z2 z3 a1 a2 a3 w he hmT n t y hq hL' (ne_of_size _ hi) (ne_of_size _ hd) (by simp [hsg]) hm
    · have hq : scanP ((sgn sign ++ ip) ++ ((exx e ++ sgn esign) ++ ed)) = numR (mkR (sign % 3 == 2) (ip ++ (⟨#[]⟩ : ByteArray)) (sat 0 ed.data.toList)) := by rw [hp, if_neg HN, if_neg hsg]; congr 2; simp
      cases hm : mkR (sign % 3 == 2) (ip ++ (⟨#[]⟩ : ByteArray)) (sat 0 ed.data.toList) with
      | none => rw [hm] at hq; exact ne_a_none0 sign e esign ip fp ed s0 s1 e0 e1 t0 t1 z1 z2 z3 a1 a2 a3 w he hmT hq hL' (ne_of_size _ hi) (ne_of_size _ hd) (by simp [hsg]) hm
      | some q => obtain ⟨n, t, y⟩ := q; rw [hm] at hq; exact ne_a_some0 sign e esign ip fp ed s0 s1 e0 e1 t0 t1 z1 z2 z3 a1 a2 a3 w he hmT n t y hq hL' (ne_of_size _ hi) (ne_of_size _ hd) (by simp [hsg]) hm

theorem walk (a0 : Int) (a1 a2 : ByteArray) (a3 : Bool) (a4 a5 : Int) (a6 : ByteArray) (s0 : 0 ≤ a0) (s1 : a0 < 256) (e0 : 0 ≤ a4) (e1 : a4 < 256) (t0 : 0 ≤ a5) (t1 : a5 < 256)
    (z1 : a1.size ≤ 140737488351232) (z2 : a2.size ≤ 140737488351232) (z3 : a6.size ≤ 140737488351232) (w : World) :
    Calls Oajg.prog 7 #[.int .u8 a0, .string a1, .string a2, .bool a3, .int .u8 a4, .int .u8 a5, .string a6] w fun e w' => e = .returned (.bool true) ∧ Below w.heap.size w w' := by
  by_cases h : allDig a1 = false ∨ allDig a2 = false ∨ allDig a6 = false
  · exact not_digits a0 a4 a5 a1 a2 a6 a3 (by unfold maxLen; omega) (by unfold maxLen; omega) (by unfold maxLen; omega) h w
  · have h1 : allDig a1 = true := by cases q : allDig a1 with | true => rfl | false => exact absurd (Or.inl q) h
    have h2 : allDig a2 = true := by cases q : allDig a2 with | true => rfl | false => exact absurd (Or.inr (Or.inl q)) h
    have h3 : allDig a6 = true := by cases q : allDig a6 with | true => rfl | false => exact absurd (Or.inr (Or.inr q)) h
    by_cases he : a4 % 3 = 0
    · have he' : (a4 % 3 != 0) = false := by simp [he]
      cases a3
      · exact np_all a0 a4 a5 a1 a2 a6 s0 s1 e0 e1 t0 t1 z1 z2 z3 h1 h2 h3 w he'
      · exact dp_all a0 a4 a5 a1 a2 a6 s0 s1 e0 e1 t0 t1 z1 z2 z3 h1 h2 h3 w he'
    · have he' : (a4 % 3 != 0) = true := by simp [he]
      cases a3
      · exact ne_all a0 a4 a5 a1 a2 a6 s0 s1 e0 e1 t0 t1 z1 z2 z3 h1 h2 h3 w he'
      · exact de_all a0 a4 a5 a1 a2 a6 s0 s1 e0 e1 t0 t1 z1 z2 z3 h1 h2 h3 w he'

/-! ### THE ROW's STEP -/
set_option maxRecDepth 100000 in
theorem lifted (os : Os) (started : os.Started) (H : Type) (enc : TypeId × Value → H) :
    ReturnsInHanded {} Oajg.checked os 7 .any (Rows.scanPartsSpec.pre6 enc Oajg.prog Oajg.f7 Rows.scanPartsRow.domain false) (Rows.scanPartsSpec.post enc Oajg.prog Oajg.f7 false true false false) := by
  refine returnsInHanded_of_change_sized (C := Oajg.checked) own started (by kernel_rfl) Oajg.func7
    (ChangeSpec.witness6 (enc := enc) (C := Oajg.checked) false ⟨#[], #[.int .u8 0, .string ByteArray.empty, .string ByteArray.empty, .bool false, .int .u8 0, .int .u8 0, .string ByteArray.empty], []⟩ 8 (by kernel_rfl) (by kernel_rfl) (by kernel_rfl) (by kernel_rfl)) ?_
  intro W base args ds gs before hval0 hW hcnd hsz0 _
  have hval : ∀ (j : Nat) t v, Oajg.f7.params[j]? = some t → args[j]? = some v → Value.okWide Oajg.prog W .any base t v := hval0
  have hsz : (DataW.weightsEach Oajg.prog (Oajg.f7.params.toList ++ Rows.scanPartsSpec.plain.varTypes Oajg.prog) (ds ++ gs)).all (· ≤ reachBytes) = true := hsz0
  have hW' := hW
  obtain ⟨p, q, hA0, hV, rfl, hfz, hnd⟩ := hW
  have hA : DataW.TrodAll enc Oajg.prog W 0 (fun _ => true) true Oajg.f7.params.toList args.toList ds p := hA0
  rw [Oajg.params7] at hA hval hsz
  obtain ⟨v0, vs0, d0, ds0, p0, q0, hargs, rfl, rfl, h0, r0⟩ := trodAll_cons hA
  obtain ⟨v1, vs1, d1, ds1, p1, q1, rfl, rfl, rfl, h1, r1⟩ := trodAll_cons r0
  obtain ⟨v2, vs2, d2, ds2, p2, q2, rfl, rfl, rfl, h2, r2⟩ := trodAll_cons r1
  obtain ⟨v3, vs3, d3, ds3, p3, q3, rfl, rfl, rfl, h3, r3⟩ := trodAll_cons r2
  obtain ⟨v4, vs4, d4, ds4, p4, q4, rfl, rfl, rfl, h4, r4⟩ := trodAll_cons r3
  obtain ⟨v5, vs5, d5, ds5, p5, q5, rfl, rfl, rfl, h5, r5⟩ := trodAll_cons r4
  obtain ⟨v6, vs6, d6, ds6, p6, q6, rfl, rfl, rfl, h6, r6⟩ := trodAll_cons r5
  obtain ⟨rfl, rfl, rfl⟩ := trodAll_nil r6
  obtain rfl : args = #[v0, v1, v2, v3, v4, v5, v6] := by cases args; simp_all
  obtain ⟨rfl, rfl⟩ := trodVars_none hV
  obtain ⟨a0, rfl, rfl, rfl, w0⟩ := open_int Oajg.underlying5 (hval 0 5 v0 rfl rfl) h0
  obtain ⟨a1, rfl, rfl, rfl, w1⟩ := open_string Oajg.underlying9 (hval 1 9 v1 rfl rfl) h1
  obtain ⟨a2, rfl, rfl, rfl, w2⟩ := open_string Oajg.underlying9 (hval 2 9 v2 rfl rfl) h2
  obtain ⟨a3, rfl, rfl, rfl⟩ := open_bool Oajg.underlying4 (hval 3 4 v3 rfl rfl) h3
  obtain ⟨a4, rfl, rfl, rfl, w4⟩ := open_int Oajg.underlying5 (hval 4 5 v4 rfl rfl) h4
  obtain ⟨a5, rfl, rfl, rfl, w5⟩ := open_int Oajg.underlying5 (hval 5 5 v5 rfl rfl) h5
  obtain ⟨a6, rfl, rfl, rfl, w6⟩ := open_string Oajg.underlying9 (hval 6 9 v6 rfl rfl) h6
  clear hA0 hval0
  have hs1 := sized_string hsz (j := 1) (t := 9) rfl rfl
  have hs2 := sized_string hsz (j := 2) (t := 9) rfl rfl
  have hs6 := sized_string hsz (j := 6) (t := 9) rfl rfl
  have hb0 := bounds_u8 w0
  have hb4 := bounds_u8 w4
  have hb5 := bounds_u8 w5
  simp only [List.append_nil] at hW'
  refine (walk a0 a1 a2 a3 a4 a5 a6 hb0.1 (by omega) hb4.1 (by omega) hb5.1 (by omega) (by rw [len_toList] at hs1; exact hs1) (by rw [len_toList] at hs2; exact hs2) (by rw [len_toList] at hs6; exact hs6) W).mono fun e W' ⟨he, hg⟩ => ?_
  subst he
  exact ⟨_, rfl, post_of_below (pa := []) (pv := []) hW' (fun _ _ _ => (trodAll_cons_mk (shut_bool Oajg.underlying4 _) trodAll_mk0)) (fun sp _ => (trodAll_cons_mk (shut_int Oajg.underlying5 w0) (trodAll_cons_mk (shut_string Oajg.underlying9 w1) (trodAll_cons_mk (shut_string Oajg.underlying9 w2) (trodAll_cons_mk (shut_bool Oajg.underlying4 _) (trodAll_cons_mk (shut_int Oajg.underlying5 w4) (trodAll_cons_mk (shut_int Oajg.underlying5 w5) (trodAll_cons_mk (shut_string Oajg.underlying9 w6) trodAll_mk0)))))))) (fun _ _ => rfl) rfl hg⟩

theorem over : Rows.scanPartsRow.holds Oajg.pinned (OpenSpec.ofChange Rows.scanPartsSpec) :=
  OpenClaim.holds_of_wide 7 Oajg.f7 rfl rfl rfl rfl rfl rfl rfl ⟨rfl, rfl, rfl, rfl, rfl⟩ rfl rfl rfl rfl rfl (by kernel_rfl) Oajg.func7 (by kernel_rfl)
    (of_decide_eq_true (by kernel_rfl)) (by unfold Func.isWrapper; first | (rw [if_pos (by decide +kernel)]; kernel_rfl) | (rw [if_neg (by decide +kernel)]; exact ⟨rfl, rfl⟩))
    (fun os started H enc _ => lifted os started H enc)

theorem proved : Rows.ScanPartsSaid :=
  over
#print axioms proved
end Go.Proofs.Ygcoaj.scanParts
