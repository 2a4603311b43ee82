/-
  'Rows.ScanPartsSaid' ('softfloat/law.ScanParts'): the walks.
-/
import Derived.Test.YgcoajScanCalls
import Derived.Test.YgcoajScanLawC
import Derived.WalkKit
set_option linter.unusedVariables false
set_option linter.unusedSimpArgs false
namespace Go.Proofs.Ygcoaj.scanParts
open Go.RowKit

theorem below_new {w w1 : World} (hb : Below w.heap.size w w1) (O : Obj) : Below w.heap.size w (w1.alloc O) := hb.alloc hb.size O
theorem below_two {w w1 w2 : World} {O : Obj} (hb : Below w.heap.size w w1) (hb2 : Below (w1.alloc O).heap.size (w1.alloc O) w2) : Below w.heap.size w w2 :=
  (below_new hb O).trans (hb2.mono (by have := hb.size; simp; omega))
theorem ne_of_size (s : ByteArray) (h : s.size ≠ 0) : s.toList.isEmpty = false := by
  rw [← decide_eq_emptyBytes, decide_eq_false_iff_not]
  intro e
  rw [e] at h
  exact absurd rfl h
theorem nil_of_size' (s : ByteArray) (h : s.size = 0) : s.toList.isEmpty = true := by
  rw [← decide_eq_emptyBytes, decide_eq_true_iff]
  apply ByteArray.ext
  have : s.data.size = 0 := h
  exact Array.eq_empty_of_size_eq_zero this
theorem exx_size (n : Int) : (exx n).size ≤ 1 := by
  unfold exx; split
  · decide
  · split <;> decide
theorem sat_to (ed : ByteArray) (k : Nat) (h : k < ed.size) : sat 0 (ed.data.toList.take (k + 1)) = min (10 * sat 0 (ed.data.toList.take k) + ((ed[k].toNat : Int) - 48)) 1000000 := by
  rw [take_snoc ed k h, sat_snoc]
theorem dig_at (ed : ByteArray) (h : allDig ed = true) (k : Nat) (hk : k < ed.size) : 48 ≤ (ed[k].toNat : Int) ∧ (ed[k].toNat : Int) ≤ 57 := by
  have := List.all_eq_true.1 h ed[k] (List.mem_of_getElem? (get_toList ed k hk))
  have := digB_nat _ this
  omega
theorem take_dig (ed : ByteArray) (h : allDig ed = true) (k : Nat) : (ed.data.toList.take k).all digB = true := by
  rw [List.all_eq_true]
  intro c hc
  exact List.all_eq_true.1 h c (List.mem_of_mem_take hc)

set_option maxRecDepth 100000 in
set_option maxHeartbeats 4000000 in
theorem dp_long (sign e esign : Int) (ip fp ed : ByteArray) (s0 : 0 ≤ sign) (s1 : sign < 256) (e0 : 0 ≤ e) (e1 : e < 256) (t0 : 0 ≤ esign) (t1 : esign < 256)
    (z1 : ip.size ≤ 140737488351232) (z2 : fp.size ≤ 140737488351232) (z3 : ed.size ≤ 140737488351232) (a1 : allDig ip = true) (a2 : allDig fp = true) (a3 : allDig ed = true) (w : World)
    (he : (e % 3 != 0) = false) (hmT : ((sgn sign ++ ip) ++ (⟨#[46]⟩ ++ fp)).size ≤ maxLen) (hsc : scanP ((sgn sign ++ ip) ++ (⟨#[46]⟩ ++ fp)) = some (4, false, ⟨#[]⟩, 0)) (hL : 1024 < ((sgn sign ++ ip) ++ (⟨#[46]⟩ ++ fp)).size) :
    Calls Oajg.prog 7 #[.int .u8 sign, .string ip, .string fp, .bool true, .int .u8 e, .int .u8 esign, .string ed] w fun e w' => e = .returned (.bool true) ∧ Below w.heap.size w w' := by
  have hm1 : ip.size ≤ maxLen := by unfold maxLen; omega
  have hm2 : fp.size ≤ maxLen := by unfold maxLen; omega
  have hm3 : ed.size ≤ maxLen := by unfold maxLen; omega
  have HI : Hid (∀ w, Calls Oajg.prog 42 #[.string ip] w fun e w' => e = .returned (.bool true) ∧ w' = w) := fun w => by have := isDigits_any ip hm1 w; rw [a1] at this; exact this
  have HF : Hid (∀ w, Calls Oajg.prog 42 #[.string fp] w fun e w' => e = .returned (.bool true) ∧ w' = w) := fun w => by have := isDigits_any fp hm2 w; rw [a2] at this; exact this
  have HE : Hid (∀ w, Calls Oajg.prog 42 #[.string ed] w fun e w' => e = .returned (.bool true) ∧ w' = w) := fun w => by have := isDigits_any ed hm3 w; rw [a3] at this; exact this
  have g1 := sgn_size sign
  have g2 := sgn_size esign
  have g3 := exx_size e
  clear hm1 hm2 hm3
  have HSC : Hid _ := scan_some _ hmT 4 false ⟨#[]⟩ 0 hsc
  clear hsc
  have one : (⟨#[46]⟩ : ByteArray).size = 1 := rfl
  have hL2 : 1024 < (((sgn sign).size : Int) + ip.size) + (1 + fp.size) := by simp only [ByteArray.size_append, one] at hL; omega

  clear one hmT
  go_enter Oajg.func7, Oajg.ntmps7
  go_wp2_with fail
  refine (HI.out _).mono ?_
  rintro _ _ ⟨rfl, rfl⟩
  go_wp2_with fail
  refine (HF.out _).mono ?_
  rintro _ _ ⟨rfl, rfl⟩
  go_wp2_with fail
  refine (HE.out _).mono ?_
  rintro _ _ ⟨rfl, rfl⟩
  go_wp2_with (first | (go_at_call 43; refine (signText_any sign s0 s1 _).mono ?_; rintro _ _ ⟨rfl, rfl⟩))
  refine (HSC.out _).mono ?_
  rintro _ w1 ⟨rfl, hb⟩
  go_wp2_with fail
  go_ret
  exact ⟨rfl, below_new (by assumption) _⟩

set_option maxRecDepth 100000 in
set_option maxHeartbeats 4000000 in
theorem dp_w1 (sign e esign : Int) (ip fp ed : ByteArray) (s0 : 0 ≤ sign) (s1 : sign < 256) (e0 : 0 ≤ e) (e1 : e < 256) (t0 : 0 ≤ esign) (t1 : esign < 256)
    (z1 : ip.size ≤ 140737488351232) (z2 : fp.size ≤ 140737488351232) (z3 : ed.size ≤ 140737488351232) (a1 : allDig ip = true) (a2 : allDig fp = true) (a3 : allDig ed = true) (w : World)
    (he : (e % 3 != 0) = false) (hmT : ((sgn sign ++ ip) ++ (⟨#[46]⟩ ++ fp)).size ≤ maxLen) (hsc : scanP ((sgn sign ++ ip) ++ (⟨#[46]⟩ ++ fp)) = none) (hL : ((sgn sign ++ ip) ++ (⟨#[46]⟩ ++ fp)).size ≤ 1024) (hi : ip.toList.isEmpty = true) (hf : fp.toList.isEmpty = true) :
    Calls Oajg.prog 7 #[.int .u8 sign, .string ip, .string fp, .bool true, .int .u8 e, .int .u8 esign, .string ed] w fun e w' => e = .returned (.bool true) ∧ Below w.heap.size w w' := by
  have hm1 : ip.size ≤ maxLen := by unfold maxLen; omega
  have hm2 : fp.size ≤ maxLen := by unfold maxLen; omega
  have hm3 : ed.size ≤ maxLen := by unfold maxLen; omega
  have HI : Hid (∀ w, Calls Oajg.prog 42 #[.string ip] w fun e w' => e = .returned (.bool true) ∧ w' = w) := fun w => by have := isDigits_any ip hm1 w; rw [a1] at this; exact this
  have HF : Hid (∀ w, Calls Oajg.prog 42 #[.string fp] w fun e w' => e = .returned (.bool true) ∧ w' = w) := fun w => by have := isDigits_any fp hm2 w; rw [a2] at this; exact this
  have HE : Hid (∀ w, Calls Oajg.prog 42 #[.string ed] w fun e w' => e = .returned (.bool true) ∧ w' = w) := fun w => by have := isDigits_any ed hm3 w; rw [a3] at this; exact this
  have g1 := sgn_size sign
  have g2 := sgn_size esign
  have g3 := exx_size e
  clear hm1 hm2 hm3
  have HSC : Hid _ := scan_wrong _ hmT hsc
  clear hsc
  have one : (⟨#[46]⟩ : ByteArray).size = 1 := rfl
  have hL2 : (((sgn sign).size : Int) + ip.size) + (1 + fp.size) ≤ 1024 := by simp only [ByteArray.size_append, one] at hL; omega

  clear one hmT
  go_enter Oajg.func7, Oajg.ntmps7
  go_wp2_with fail
  refine (HI.out _).mono ?_
  rintro _ _ ⟨rfl, rfl⟩
  go_wp2_with fail
  refine (HF.out _).mono ?_
  rintro _ _ ⟨rfl, rfl⟩
  go_wp2_with fail
  refine (HE.out _).mono ?_
  rintro _ _ ⟨rfl, rfl⟩
  go_wp2_with (first | (go_at_call 43; refine (signText_any sign s0 s1 _).mono ?_; rintro _ _ ⟨rfl, rfl⟩))
  refine (HSC.out _).mono ?_
  rintro _ w1 ⟨pp, gg, rfl, hb⟩
  go_wp2_with fail
  go_ret
  exact ⟨rfl, below_new (by assumption) _⟩

set_option maxRecDepth 100000 in
set_option maxHeartbeats 4000000 in
theorem dp_a_none0 (sign e esign : Int) (ip fp ed : ByteArray) (s0 : 0 ≤ sign) (s1 : sign < 256) (e0 : 0 ≤ e) (e1 : e < 256) (t0 : 0 ≤ esign) (t1 : esign < 256)
    (z1 : ip.size ≤ 140737488351232) (z2 : fp.size ≤ 140737488351232) (z3 : ed.size ≤ 140737488351232) (a1 : allDig ip = true) (a2 : allDig fp = true) (a3 : allDig ed = true) (w : World)
    (he : (e % 3 != 0) = false) (hmT : ((sgn sign ++ ip) ++ (⟨#[46]⟩ ++ fp)).size ≤ maxLen) (hsc : scanP ((sgn sign ++ ip) ++ (⟨#[46]⟩ ++ fp)) = some (4, false, ⟨#[]⟩, 0)) (hL : ((sgn sign ++ ip) ++ (⟨#[46]⟩ ++ fp)).size ≤ 1024) (hi : ip.toList.isEmpty = false) (hmk : mkR (sign % 3 == 2) (ip ++ fp) (-(fp.size : Int)) = none) :
    Calls Oajg.prog 7 #[.int .u8 sign, .string ip, .string fp, .bool true, .int .u8 e, .int .u8 esign, .string ed] w fun e w' => e = .returned (.bool true) ∧ Below w.heap.size w w' := by
  have hm1 : ip.size ≤ maxLen := by unfold maxLen; omega
  have hm2 : fp.size ≤ maxLen := by unfold maxLen; omega
  have hm3 : ed.size ≤ maxLen := by unfold maxLen; omega
  have HI : Hid (∀ w, Calls Oajg.prog 42 #[.string ip] w fun e w' => e = .returned (.bool true) ∧ w' = w) := fun w => by have := isDigits_any ip hm1 w; rw [a1] at this; exact this
  have HF : Hid (∀ w, Calls Oajg.prog 42 #[.string fp] w fun e w' => e = .returned (.bool true) ∧ w' = w) := fun w => by have := isDigits_any fp hm2 w; rw [a2] at this; exact this
  have HE : Hid (∀ w, Calls Oajg.prog 42 #[.string ed] w fun e w' => e = .returned (.bool true) ∧ w' = w) := fun w => by have := isDigits_any ed hm3 w; rw [a3] at this; exact this
  have g1 := sgn_size sign
  have g2 := sgn_size esign
  have g3 := exx_size e
  clear hm1 hm2 hm3
  have HSC : Hid _ := scan_some _ hmT 4 false ⟨#[]⟩ 0 hsc
  clear hsc
  have HMK : Hid (mkR (sign % 3 == 2) (ip ++ fp) (-(fp.size : Int)) = none) := hmk
  clear hmk
  have one : (⟨#[46]⟩ : ByteArray).size = 1 := rfl
  have hL2 : (((sgn sign).size : Int) + ip.size) + (1 + fp.size) ≤ 1024 := by simp only [ByteArray.size_append, one] at hL; omega
  have hsz : (ip ++ fp).size ≤ 1000000 := by rw [ByteArray.size_append]; omega
  clear one hmT
  go_enter Oajg.func7, Oajg.ntmps7
  go_wp2_with fail
  refine (HI.out _).mono ?_
  rintro _ _ ⟨rfl, rfl⟩
  go_wp2_with fail
  refine (HF.out _).mono ?_
  rintro _ _ ⟨rfl, rfl⟩
  go_wp2_with fail
  refine (HE.out _).mono ?_
  rintro _ _ ⟨rfl, rfl⟩
  go_wp2_with (first | (go_at_call 43; refine (signText_any sign s0 s1 _).mono ?_; rintro _ _ ⟨rfl, rfl⟩))
  refine (HSC.out _).mono ?_
  rintro _ w1 ⟨rfl, hb⟩
  go_wp2_with fail
  refine (make_none _ _ _ hsz (by omega) (by omega) _ (by exact HMK.out)).mono ?_
  rintro _ w2 ⟨rfl, hb2⟩
  obtain ⟨hc, hf, hz⟩ := bfacts hb2 (m := w1.heap.size + 1) (by simp)
  have hz1 : w1.heap.size < w2.heap.size := by omega
  go_wp2_with fail
  go_ret
  exact ⟨rfl, below_new (below_two hb hb2) _⟩


set_option maxRecDepth 100000 in
set_option maxHeartbeats 4000000 in
theorem dp_a_some0 (sign e esign : Int) (ip fp ed : ByteArray) (s0 : 0 ≤ sign) (s1 : sign < 256) (e0 : 0 ≤ e) (e1 : e < 256) (t0 : 0 ≤ esign) (t1 : esign < 256)
    (z1 : ip.size ≤ 140737488351232) (z2 : fp.size ≤ 140737488351232) (z3 : ed.size ≤ 140737488351232) (a1 : allDig ip = true) (a2 : allDig fp = true) (a3 : allDig ed = true) (w : World)
    (he : (e % 3 != 0) = false) (hmT : ((sgn sign ++ ip) ++ (⟨#[46]⟩ ++ fp)).size ≤ maxLen) (n : Bool) (t : ByteArray) (y : Int) (hsc : scanP ((sgn sign ++ ip) ++ (⟨#[46]⟩ ++ fp)) = some (0, n, t, y)) (hL : ((sgn sign ++ ip) ++ (⟨#[46]⟩ ++ fp)).size ≤ 1024) (hi : ip.toList.isEmpty = false) (hmk : mkR (sign % 3 == 2) (ip ++ fp) (-(fp.size : Int)) = some (n, t, y)) :
    Calls Oajg.prog 7 #[.int .u8 sign, .string ip, .string fp, .bool true, .int .u8 e, .int .u8 esign, .string ed] w fun e w' => e = .returned (.bool true) ∧ Below w.heap.size w w' := by
  have hm1 : ip.size ≤ maxLen := by unfold maxLen; omega
  have hm2 : fp.size ≤ maxLen := by unfold maxLen; omega
  have hm3 : ed.size ≤ maxLen := by unfold maxLen; omega
  have HI : Hid (∀ w, Calls Oajg.prog 42 #[.string ip] w fun e w' => e = .returned (.bool true) ∧ w' = w) := fun w => by have := isDigits_any ip hm1 w; rw [a1] at this; exact this
  have HF : Hid (∀ w, Calls Oajg.prog 42 #[.string fp] w fun e w' => e = .returned (.bool true) ∧ w' = w) := fun w => by have := isDigits_any fp hm2 w; rw [a2] at this; exact this
  have HE : Hid (∀ w, Calls Oajg.prog 42 #[.string ed] w fun e w' => e = .returned (.bool true) ∧ w' = w) := fun w => by have := isDigits_any ed hm3 w; rw [a3] at this; exact this
  have g1 := sgn_size sign
  have g2 := sgn_size esign
  have g3 := exx_size e
  clear hm1 hm2 hm3
  have HSC : Hid _ := scan_some _ hmT 0 n t y hsc
  clear hsc
  have HMK : Hid (mkR (sign % 3 == 2) (ip ++ fp) (-(fp.size : Int)) = some (n, t, y)) := hmk
  clear hmk
  have one : (⟨#[46]⟩ : ByteArray).size = 1 := rfl
  have hL2 : (((sgn sign).size : Int) + ip.size) + (1 + fp.size) ≤ 1024 := by simp only [ByteArray.size_append, one] at hL; omega
  have hsz : (ip ++ fp).size ≤ 1000000 := by rw [ByteArray.size_append]; omega
  clear one hmT
  go_enter Oajg.func7, Oajg.ntmps7
  go_wp2_with fail
  refine (HI.out _).mono ?_
  rintro _ _ ⟨rfl, rfl⟩
  go_wp2_with fail
  refine (HF.out _).mono ?_
  rintro _ _ ⟨rfl, rfl⟩
  go_wp2_with fail
  refine (HE.out _).mono ?_
  rintro _ _ ⟨rfl, rfl⟩
  go_wp2_with (first | (go_at_call 43; refine (signText_any sign s0 s1 _).mono ?_; rintro _ _ ⟨rfl, rfl⟩))
  refine (HSC.out _).mono ?_
  rintro _ w1 ⟨rfl, hb⟩
  go_wp2_with fail
  refine (make_some _ _ _ hsz (by omega) (by omega) _ n t y (by exact HMK.out)).mono ?_
  rintro _ w2 ⟨rfl, hb2⟩
  obtain ⟨hc, hf, hz⟩ := bfacts hb2 (m := w1.heap.size + 1) (by simp)
  have hz1 : w1.heap.size < w2.heap.size := by omega
  go_wp2_with fail
  go_ret
  exact ⟨rfl, below_new (below_two hb hb2) _⟩


set_option maxRecDepth 100000 in
set_option maxHeartbeats 4000000 in
theorem dp_b_none0 (sign e esign : Int) (ip fp ed : ByteArray) (s0 : 0 ≤ sign) (s1 : sign < 256) (e0 : 0 ≤ e) (e1 : e < 256) (t0 : 0 ≤ esign) (t1 : esign < 256)
    (z1 : ip.size ≤ 140737488351232) (z2 : fp.size ≤ 140737488351232) (z3 : ed.size ≤ 140737488351232) (a1 : allDig ip = true) (a2 : allDig fp = true) (a3 : allDig ed = true) (w : World)
    (he : (e % 3 != 0) = false) (hmT : ((sgn sign ++ ip) ++ (⟨#[46]⟩ ++ fp)).size ≤ maxLen) (hsc : scanP ((sgn sign ++ ip) ++ (⟨#[46]⟩ ++ fp)) = some (4, false, ⟨#[]⟩, 0)) (hL : ((sgn sign ++ ip) ++ (⟨#[46]⟩ ++ fp)).size ≤ 1024) (hi : ip.toList.isEmpty = true) (hf : fp.toList.isEmpty = false) (hmk : mkR (sign % 3 == 2) (ip ++ fp) (-(fp.size : Int)) = none) :
    Calls Oajg.prog 7 #[.int .u8 sign, .string ip, .string fp, .bool true, .int .u8 e, .int .u8 esign, .string ed] w fun e w' => e = .returned (.bool true) ∧ Below w.heap.size w w' := by
  have hm1 : ip.size ≤ maxLen := by unfold maxLen; omega
  have hm2 : fp.size ≤ maxLen := by unfold maxLen; omega
  have hm3 : ed.size ≤ maxLen := by unfold maxLen; omega
  have HI : Hid (∀ w, Calls Oajg.prog 42 #[.string ip] w fun e w' => e = .returned (.bool true) ∧ w' = w) := fun w => by have := isDigits_any ip hm1 w; rw [a1] at this; exact this
  have HF : Hid (∀ w, Calls Oajg.prog 42 #[.string fp] w fun e w' => e = .returned (.bool true) ∧ w' = w) := fun w => by have := isDigits_any fp hm2 w; rw [a2] at this; exact this
  have HE : Hid (∀ w, Calls Oajg.prog 42 #[.string ed] w fun e w' => e = .returned (.bool true) ∧ w' = w) := fun w => by have := isDigits_any ed hm3 w; rw [a3] at this; exact this
  have g1 := sgn_size sign
  have g2 := sgn_size esign
  have g3 := exx_size e
  clear hm1 hm2 hm3
  have HSC : Hid _ := scan_some _ hmT 4 false ⟨#[]⟩ 0 hsc
  clear hsc
  have HMK : Hid (mkR (sign % 3 == 2) (ip ++ fp) (-(fp.size : Int)) = none) := hmk
  clear hmk
  have one : (⟨#[46]⟩ : ByteArray).size = 1 := rfl
  have hL2 : (((sgn sign).size : Int) + ip.size) + (1 + fp.size) ≤ 1024 := by simp only [ByteArray.size_append, one] at hL; omega
  have hsz : (ip ++ fp).size ≤ 1000000 := by rw [ByteArray.size_append]; omega
  clear one hmT
  go_enter Oajg.func7, Oajg.ntmps7
  go_wp2_with fail
  refine (HI.out _).mono ?_
  rintro _ _ ⟨rfl, rfl⟩
  go_wp2_with fail
  refine (HF.out _).mono ?_
  rintro _ _ ⟨rfl, rfl⟩
  go_wp2_with fail
  refine (HE.out _).mono ?_
  rintro _ _ ⟨rfl, rfl⟩
  go_wp2_with (first | (go_at_call 43; refine (signText_any sign s0 s1 _).mono ?_; rintro _ _ ⟨rfl, rfl⟩))
  refine (HSC.out _).mono ?_
  rintro _ w1 ⟨rfl, hb⟩
  go_wp2_with fail
  refine (make_none _ _ _ hsz (by omega) (by omega) _ (by exact HMK.out)).mono ?_
  rintro _ w2 ⟨rfl, hb2⟩
  obtain ⟨hc, hf, hz⟩ := bfacts hb2 (m := w1.heap.size + 1) (by simp)
  have hz1 : w1.heap.size < w2.heap.size := by omega
  go_wp2_with fail
  go_ret
  exact ⟨rfl, below_new (below_two hb hb2) _⟩


set_option maxRecDepth 100000 in
set_option maxHeartbeats 4000000 in
theorem dp_b_some0 (sign e esign : Int) (ip fp ed : ByteArray) (s0 : 0 ≤ sign) (s1 : sign < 256) (e0 : 0 ≤ e) (e1 : e < 256) (t0 : 0 ≤ esign) (t1 : esign < 256)
    (z1 : ip.size ≤ 140737488351232) (z2 : fp.size ≤ 140737488351232) (z3 : ed.size ≤ 140737488351232) (a1 : allDig ip = true) (a2 : allDig fp = true) (a3 : allDig ed = true) (w : World)
    (he : (e % 3 != 0) = false) (hmT : ((sgn sign ++ ip) ++ (⟨#[46]⟩ ++ fp)).size ≤ maxLen) (n : Bool) (t : ByteArray) (y : Int) (hsc : scanP ((sgn sign ++ ip) ++ (⟨#[46]⟩ ++ fp)) = some (0, n, t, y)) (hL : ((sgn sign ++ ip) ++ (⟨#[46]⟩ ++ fp)).size ≤ 1024) (hi : ip.toList.isEmpty = true) (hf : fp.toList.isEmpty = false) (hmk : mkR (sign % 3 == 2) (ip ++ fp) (-(fp.size : Int)) = some (n, t, y)) :
    Calls Oajg.prog 7 #[.int .u8 sign, .string ip, .string fp, .bool true, .int .u8 e, .int .u8 esign, .string ed] w fun e w' => e = .returned (.bool true) ∧ Below w.heap.size w w' := by
  have hm1 : ip.size ≤ maxLen := by unfold maxLen; omega
  have hm2 : fp.size ≤ maxLen := by unfold maxLen; omega
  have hm3 : ed.size ≤ maxLen := by unfold maxLen; omega
  have HI : Hid (∀ w, Calls Oajg.prog 42 #[.string ip] w fun e w' => e = .returned (.bool true) ∧ w' = w) := fun w => by have := isDigits_any ip hm1 w; rw [a1] at this; exact this
  have HF : Hid (∀ w, Calls Oajg.prog 42 #[.string fp] w fun e w' => e = .returned (.bool true) ∧ w' = w) := fun w => by have := isDigits_any fp hm2 w; rw [a2] at this; exact this
  have HE : Hid (∀ w, Calls Oajg.prog 42 #[.string ed] w fun e w' => e = .returned (.bool true) ∧ w' = w) := fun w => by have := isDigits_any ed hm3 w; rw [a3] at this; exact this
  have g1 := sgn_size sign
  have g2 := sgn_size esign
  have g3 := exx_size e
  clear hm1 hm2 hm3
  have HSC : Hid _ := scan_some _ hmT 0 n t y hsc
  clear hsc
  have HMK : Hid (mkR (sign % 3 == 2) (ip ++ fp) (-(fp.size : Int)) = some (n, t, y)) := hmk
  clear hmk
  have one : (⟨#[46]⟩ : ByteArray).size = 1 := rfl
  have hL2 : (((sgn sign).size : Int) + ip.size) + (1 + fp.size) ≤ 1024 := by simp only [ByteArray.size_append, one] at hL; omega
  have hsz : (ip ++ fp).size ≤ 1000000 := by rw [ByteArray.size_append]; omega
  clear one hmT
  go_enter Oajg.func7, Oajg.ntmps7
  go_wp2_with fail
  refine (HI.out _).mono ?_
  rintro _ _ ⟨rfl, rfl⟩
  go_wp2_with fail
  refine (HF.out _).mono ?_
  rintro _ _ ⟨rfl, rfl⟩
  go_wp2_with fail
  refine (HE.out _).mono ?_
  rintro _ _ ⟨rfl, rfl⟩
  go_wp2_with (first | (go_at_call 43; refine (signText_any sign s0 s1 _).mono ?_; rintro _ _ ⟨rfl, rfl⟩))
  refine (HSC.out _).mono ?_
  rintro _ w1 ⟨rfl, hb⟩
  go_wp2_with fail
  refine (make_some _ _ _ hsz (by omega) (by omega) _ n t y (by exact HMK.out)).mono ?_
  rintro _ w2 ⟨rfl, hb2⟩
  obtain ⟨hc, hf, hz⟩ := bfacts hb2 (m := w1.heap.size + 1) (by simp)
  have hz1 : w1.heap.size < w2.heap.size := by omega
  go_wp2_with fail
  go_ret
  exact ⟨rfl, below_new (below_two hb hb2) _⟩


set_option maxRecDepth 100000 in
set_option maxHeartbeats 4000000 in
theorem de_long (sign e esign : Int) (ip fp ed : ByteArray) (s0 : 0 ≤ sign) (s1 : sign < 256) (e0 : 0 ≤ e) (e1 : e < 256) (t0 : 0 ≤ esign) (t1 : esign < 256)
    (z1 : ip.size ≤ 140737488351232) (z2 : fp.size ≤ 140737488351232) (z3 : ed.size ≤ 140737488351232) (a1 : allDig ip = true) (a2 : allDig fp = true) (a3 : allDig ed = true) (w : World)
    (he : (e % 3 != 0) = true) (hmT : (((sgn sign ++ ip) ++ (⟨#[46]⟩ ++ fp)) ++ ((exx e ++ sgn esign) ++ ed)).size ≤ maxLen) (hsc : scanP (((sgn sign ++ ip) ++ (⟨#[46]⟩ ++ fp)) ++ ((exx e ++ sgn esign) ++ ed)) = some (4, false, ⟨#[]⟩, 0)) (hL : 1024 < (((sgn sign ++ ip) ++ (⟨#[46]⟩ ++ fp)) ++ ((exx e ++ sgn esign) ++ ed)).size) :
    Calls Oajg.prog 7 #[.int .u8 sign, .string ip, .string fp, .bool true, .int .u8 e, .int .u8 esign, .string ed] w fun e w' => e = .returned (.bool true) ∧ Below w.heap.size w w' := by
  have hm1 : ip.size ≤ maxLen := by unfold maxLen; omega
  have hm2 : fp.size ≤ maxLen := by unfold maxLen; omega
  have hm3 : ed.size ≤ maxLen := by unfold maxLen; omega
  have HI : Hid (∀ w, Calls Oajg.prog 42 #[.string ip] w fun e w' => e = .returned (.bool true) ∧ w' = w) := fun w => by have := isDigits_any ip hm1 w; rw [a1] at this; exact this
  have HF : Hid (∀ w, Calls Oajg.prog 42 #[.string fp] w fun e w' => e = .returned (.bool true) ∧ w' = w) := fun w => by have := isDigits_any fp hm2 w; rw [a2] at this; exact this
  have HE : Hid (∀ w, Calls Oajg.prog 42 #[.string ed] w fun e w' => e = .returned (.bool true) ∧ w' = w) := fun w => by have := isDigits_any ed hm3 w; rw [a3] at this; exact this
  have g1 := sgn_size sign
  have g2 := sgn_size esign
  have g3 := exx_size e
  clear hm1 hm2 hm3
  have HSC : Hid _ := scan_some _ hmT 4 false ⟨#[]⟩ 0 hsc
  clear hsc
  have one : (⟨#[46]⟩ : ByteArray).size = 1 := rfl
  have hL2 : 1024 < ((((sgn sign).size : Int) + ip.size) + (1 + fp.size)) + (((exx e).size : Int) + (sgn esign).size + ed.size) := by simp only [ByteArray.size_append, one] at hL; omega

  clear one hmT
  go_enter Oajg.func7, Oajg.ntmps7
  go_wp2_with fail
  refine (HI.out _).mono ?_
  rintro _ _ ⟨rfl, rfl⟩
  go_wp2_with fail
  refine (HF.out _).mono ?_
  rintro _ _ ⟨rfl, rfl⟩
  go_wp2_with fail
  refine (HE.out _).mono ?_
  rintro _ _ ⟨rfl, rfl⟩
  go_wp2_with (first | (go_at_call 43; refine (signText_any sign s0 s1 _).mono ?_; rintro _ _ ⟨rfl, rfl⟩))
  go_wp2_with (first | (go_at_call 44; refine (expText_any e e0 e1 _).mono ?_; rintro _ _ ⟨rfl, rfl⟩))
  refine (signText_any esign t0 t1 _).mono ?_
  rintro _ _ ⟨rfl, rfl⟩
  go_wp2_with fail
  refine (HSC.out _).mono ?_
  rintro _ w1 ⟨rfl, hb⟩
  go_wp2_with fail
  go_ret
  exact ⟨rfl, below_new (by assumption) _⟩

set_option maxRecDepth 100000 in
set_option maxHeartbeats 4000000 in
theorem de_w1 (sign e esign : Int) (ip fp ed : ByteArray) (s0 : 0 ≤ sign) (s1 : sign < 256) (e0 : 0 ≤ e) (e1 : e < 256) (t0 : 0 ≤ esign) (t1 : esign < 256)
    (z1 : ip.size ≤ 140737488351232) (z2 : fp.size ≤ 140737488351232) (z3 : ed.size ≤ 140737488351232) (a1 : allDig ip = true) (a2 : allDig fp = true) (a3 : allDig ed = true) (w : World)
    (he : (e % 3 != 0) = true) (hmT : (((sgn sign ++ ip) ++ (⟨#[46]⟩ ++ fp)) ++ ((exx e ++ sgn esign) ++ ed)).size ≤ maxLen) (hsc : scanP (((sgn sign ++ ip) ++ (⟨#[46]⟩ ++ fp)) ++ ((exx e ++ sgn esign) ++ ed)) = none) (hL : (((sgn sign ++ ip) ++ (⟨#[46]⟩ ++ fp)) ++ ((exx e ++ sgn esign) ++ ed)).size ≤ 1024) (hi : ip.toList.isEmpty = true) (hf : fp.toList.isEmpty = true) :
    Calls Oajg.prog 7 #[.int .u8 sign, .string ip, .string fp, .bool true, .int .u8 e, .int .u8 esign, .string ed] w fun e w' => e = .returned (.bool true) ∧ Below w.heap.size w w' := by
  have hm1 : ip.size ≤ maxLen := by unfold maxLen; omega
  have hm2 : fp.size ≤ maxLen := by unfold maxLen; omega
  have hm3 : ed.size ≤ maxLen := by unfold maxLen; omega
  have HI : Hid (∀ w, Calls Oajg.prog 42 #[.string ip] w fun e w' => e = .returned (.bool true) ∧ w' = w) := fun w => by have := isDigits_any ip hm1 w; rw [a1] at this; exact this
  have HF : Hid (∀ w, Calls Oajg.prog 42 #[.string fp] w fun e w' => e = .returned (.bool true) ∧ w' = w) := fun w => by have := isDigits_any fp hm2 w; rw [a2] at this; exact this
  have HE : Hid (∀ w, Calls Oajg.prog 42 #[.string ed] w fun e w' => e = .returned (.bool true) ∧ w' = w) := fun w => by have := isDigits_any ed hm3 w; rw [a3] at this; exact this
  have g1 := sgn_size sign
  have g2 := sgn_size esign
  have g3 := exx_size e
  clear hm1 hm2 hm3
  have HSC : Hid _ := scan_wrong _ hmT hsc
  clear hsc
  have one : (⟨#[46]⟩ : ByteArray).size = 1 := rfl
  have hL2 : ((((sgn sign).size : Int) + ip.size) + (1 + fp.size)) + (((exx e).size : Int) + (sgn esign).size + ed.size) ≤ 1024 := by simp only [ByteArray.size_append, one] at hL; omega

  clear one hmT
  go_enter Oajg.func7, Oajg.ntmps7
  go_wp2_with fail
  refine (HI.out _).mono ?_
  rintro _ _ ⟨rfl, rfl⟩
  go_wp2_with fail
  refine (HF.out _).mono ?_
  rintro _ _ ⟨rfl, rfl⟩
  go_wp2_with fail
  refine (HE.out _).mono ?_
  rintro _ _ ⟨rfl, rfl⟩
  go_wp2_with (first | (go_at_call 43; refine (signText_any sign s0 s1 _).mono ?_; rintro _ _ ⟨rfl, rfl⟩))
  go_wp2_with (first | (go_at_call 44; refine (expText_any e e0 e1 _).mono ?_; rintro _ _ ⟨rfl, rfl⟩))
  refine (signText_any esign t0 t1 _).mono ?_
  rintro _ _ ⟨rfl, rfl⟩
  go_wp2_with fail
  refine (HSC.out _).mono ?_
  rintro _ w1 ⟨pp, gg, rfl, hb⟩
  go_wp2_with fail
  go_ret
  exact ⟨rfl, below_new (by assumption) _⟩

set_option maxRecDepth 100000 in
set_option maxHeartbeats 4000000 in
theorem de_w2a (sign e esign : Int) (ip fp ed : ByteArray) (s0 : 0 ≤ sign) (s1 : sign < 256) (e0 : 0 ≤ e) (e1 : e < 256) (t0 : 0 ≤ esign) (t1 : esign < 256)
    (z1 : ip.size ≤ 140737488351232) (z2 : fp.size ≤ 140737488351232) (z3 : ed.size ≤ 140737488351232) (a1 : allDig ip = true) (a2 : allDig fp = true) (a3 : allDig ed = true) (w : World)
    (he : (e % 3 != 0) = true) (hmT : (((sgn sign ++ ip) ++ (⟨#[46]⟩ ++ fp)) ++ ((exx e ++ sgn esign) ++ ed)).size ≤ maxLen) (hsc : scanP (((sgn sign ++ ip) ++ (⟨#[46]⟩ ++ fp)) ++ ((exx e ++ sgn esign) ++ ed)) = none) (hL : (((sgn sign ++ ip) ++ (⟨#[46]⟩ ++ fp)) ++ ((exx e ++ sgn esign) ++ ed)).size ≤ 1024) (hi : ip.toList.isEmpty = false) (hd : ed.toList.isEmpty = true) :
    Calls Oajg.prog 7 #[.int .u8 sign, .string ip, .string fp, .bool true, .int .u8 e, .int .u8 esign, .string ed] w fun e w' => e = .returned (.bool true) ∧ Below w.heap.size w w' := by
  have hm1 : ip.size ≤ maxLen := by unfold maxLen; omega
  have hm2 : fp.size ≤ maxLen := by unfold maxLen; omega
  have hm3 : ed.size ≤ maxLen := by unfold maxLen; omega
  have HI : Hid (∀ w, Calls Oajg.prog 42 #[.string ip] w fun e w' => e = .returned (.bool true) ∧ w' = w) := fun w => by have := isDigits_any ip hm1 w; rw [a1] at this; exact this
  have HF : Hid (∀ w, Calls Oajg.prog 42 #[.string fp] w fun e w' => e = .returned (.bool true) ∧ w' = w) := fun w => by have := isDigits_any fp hm2 w; rw [a2] at this; exact this
  have HE : Hid (∀ w, Calls Oajg.prog 42 #[.string ed] w fun e w' => e = .returned (.bool true) ∧ w' = w) := fun w => by have := isDigits_any ed hm3 w; rw [a3] at this; exact this
  have g1 := sgn_size sign
  have g2 := sgn_size esign
  have g3 := exx_size e
  clear hm1 hm2 hm3
  have HSC : Hid _ := scan_wrong _ hmT hsc
  clear hsc
  have one : (⟨#[46]⟩ : ByteArray).size = 1 := rfl
  have hL2 : ((((sgn sign).size : Int) + ip.size) + (1 + fp.size)) + (((exx e).size : Int) + (sgn esign).size + ed.size) ≤ 1024 := by simp only [ByteArray.size_append, one] at hL; omega

  clear one hmT
  go_enter Oajg.func7, Oajg.ntmps7
  go_wp2_with fail
  refine (HI.out _).mono ?_
  rintro _ _ ⟨rfl, rfl⟩
  go_wp2_with fail
  refine (HF.out _).mono ?_
  rintro _ _ ⟨rfl, rfl⟩
  go_wp2_with fail
  refine (HE.out _).mono ?_
  rintro _ _ ⟨rfl, rfl⟩
  go_wp2_with (first | (go_at_call 43; refine (signText_any sign s0 s1 _).mono ?_; rintro _ _ ⟨rfl, rfl⟩))
  go_wp2_with (first | (go_at_call 44; refine (expText_any e e0 e1 _).mono ?_; rintro _ _ ⟨rfl, rfl⟩))
  refine (signText_any esign t0 t1 _).mono ?_
  rintro _ _ ⟨rfl, rfl⟩
  go_wp2_with fail
  refine (HSC.out _).mono ?_
  rintro _ w1 ⟨pp, gg, rfl, hb⟩
  go_wp2_with fail
  go_ret
  exact ⟨rfl, below_new (by assumption) _⟩

set_option maxRecDepth 100000 in
set_option maxHeartbeats 4000000 in
theorem de_w2b (sign e esign : Int) (ip fp ed : ByteArray) (s0 : 0 ≤ sign) (s1 : sign < 256) (e0 : 0 ≤ e) (e1 : e < 256) (t0 : 0 ≤ esign) (t1 : esign < 256)
    (z1 : ip.size ≤ 140737488351232) (z2 : fp.size ≤ 140737488351232) (z3 : ed.size ≤ 140737488351232) (a1 : allDig ip = true) (a2 : allDig fp = true) (a3 : allDig ed = true) (w : World)
    (he : (e % 3 != 0) = true) (hmT : (((sgn sign ++ ip) ++ (⟨#[46]⟩ ++ fp)) ++ ((exx e ++ sgn esign) ++ ed)).size ≤ maxLen) (hsc : scanP (((sgn sign ++ ip) ++ (⟨#[46]⟩ ++ fp)) ++ ((exx e ++ sgn esign) ++ ed)) = none) (hL : (((sgn sign ++ ip) ++ (⟨#[46]⟩ ++ fp)) ++ ((exx e ++ sgn esign) ++ ed)).size ≤ 1024) (hi : ip.toList.isEmpty = true) (hf : fp.toList.isEmpty = false) (hd : ed.toList.isEmpty = true) :
    Calls Oajg.prog 7 #[.int .u8 sign, .string ip, .string fp, .bool true, .int .u8 e, .int .u8 esign, .string ed] w fun e w' => e = .returned (.bool true) ∧ Below w.heap.size w w' := by
  have hm1 : ip.size ≤ maxLen := by unfold maxLen; omega
  have hm2 : fp.size ≤ maxLen := by unfold maxLen; omega
  have hm3 : ed.size ≤ maxLen := by unfold maxLen; omega
  have HI : Hid (∀ w, Calls Oajg.prog 42 #[.string ip] w fun e w' => e = .returned (.bool true) ∧ w' = w) := fun w => by have := isDigits_any ip hm1 w; rw [a1] at this; exact this
  have HF : Hid (∀ w, Calls Oajg.prog 42 #[.string fp] w fun e w' => e = .returned (.bool true) ∧ w' = w) := fun w => by have := isDigits_any fp hm2 w; rw [a2] at this; exact this
  have HE : Hid (∀ w, Calls Oajg.prog 42 #[.string ed] w fun e w' => e = .returned (.bool true) ∧ w' = w) := fun w => by have := isDigits_any ed hm3 w; rw [a3] at this; exact this
  have g1 := sgn_size sign
  have g2 := sgn_size esign
  have g3 := exx_size e
  clear hm1 hm2 hm3
  have HSC : Hid _ := scan_wrong _ hmT hsc
  clear hsc
  have one : (⟨#[46]⟩ : ByteArray).size = 1 := rfl
  have hL2 : ((((sgn sign).size : Int) + ip.size) + (1 + fp.size)) + (((exx e).size : Int) + (sgn esign).size + ed.size) ≤ 1024 := by simp only [ByteArray.size_append, one] at hL; omega

  clear one hmT
  go_enter Oajg.func7, Oajg.ntmps7
  go_wp2_with fail
  refine (HI.out _).mono ?_
  rintro _ _ ⟨rfl, rfl⟩
  go_wp2_with fail
  refine (HF.out _).mono ?_
  rintro _ _ ⟨rfl, rfl⟩
  go_wp2_with fail
  refine (HE.out _).mono ?_
  rintro _ _ ⟨rfl, rfl⟩
  go_wp2_with (first | (go_at_call 43; refine (signText_any sign s0 s1 _).mono ?_; rintro _ _ ⟨rfl, rfl⟩))
  go_wp2_with (first | (go_at_call 44; refine (expText_any e e0 e1 _).mono ?_; rintro _ _ ⟨rfl, rfl⟩))
  refine (signText_any esign t0 t1 _).mono ?_
  rintro _ _ ⟨rfl, rfl⟩
  go_wp2_with fail
  refine (HSC.out _).mono ?_
  rintro _ w1 ⟨pp, gg, rfl, hb⟩
  go_wp2_with fail
  go_ret
  exact ⟨rfl, below_new (by assumption) _⟩

set_option maxRecDepth 100000 in
set_option maxHeartbeats 4000000 in
theorem de_a_none0 (sign e esign : Int) (ip fp ed : ByteArray) (s0 : 0 ≤ sign) (s1 : sign < 256) (e0 : 0 ≤ e) (e1 : e < 256) (t0 : 0 ≤ esign) (t1 : esign < 256)
    (z1 : ip.size ≤ 140737488351232) (z2 : fp.size ≤ 140737488351232) (z3 : ed.size ≤ 140737488351232) (a1 : allDig ip = true) (a2 : allDig fp = true) (a3 : allDig ed = true) (w : World)
    (he : (e % 3 != 0) = true) (hmT : (((sgn sign ++ ip) ++ (⟨#[46]⟩ ++ fp)) ++ ((exx e ++ sgn esign) ++ ed)).size ≤ maxLen) (hsc : scanP (((sgn sign ++ ip) ++ (⟨#[46]⟩ ++ fp)) ++ ((exx e ++ sgn esign) ++ ed)) = some (4, false, ⟨#[]⟩, 0)) (hL : (((sgn sign ++ ip) ++ (⟨#[46]⟩ ++ fp)) ++ ((exx e ++ sgn esign) ++ ed)).size ≤ 1024) (hi : ip.toList.isEmpty = false) (hd : ed.toList.isEmpty = false) (hsg : (esign % 3 == 2) = false) (hmk : mkR (sign % 3 == 2) (ip ++ fp) (sat 0 ed.data.toList - (fp.size : Int)) = none) :
    Calls Oajg.prog 7 #[.int .u8 sign, .string ip, .string fp, .bool true, .int .u8 e, .int .u8 esign, .string ed] w fun e w' => e = .returned (.bool true) ∧ Below w.heap.size w w' := by
  have hm1 : ip.size ≤ maxLen := by unfold maxLen; omega
  have hm2 : fp.size ≤ maxLen := by unfold maxLen; omega
  have hm3 : ed.size ≤ maxLen := by unfold maxLen; omega
  have HI : Hid (∀ w, Calls Oajg.prog 42 #[.string ip] w fun e w' => e = .returned (.bool true) ∧ w' = w) := fun w => by have := isDigits_any ip hm1 w; rw [a1] at this; exact this
  have HF : Hid (∀ w, Calls Oajg.prog 42 #[.string fp] w fun e w' => e = .returned (.bool true) ∧ w' = w) := fun w => by have := isDigits_any fp hm2 w; rw [a2] at this; exact this
  have HE : Hid (∀ w, Calls Oajg.prog 42 #[.string ed] w fun e w' => e = .returned (.bool true) ∧ w' = w) := fun w => by have := isDigits_any ed hm3 w; rw [a3] at this; exact this
  have g1 := sgn_size sign
  have g2 := sgn_size esign
  have g3 := exx_size e
  clear hm1 hm2 hm3
  have HSC : Hid _ := scan_some _ hmT 4 false ⟨#[]⟩ 0 hsc
  clear hsc
  have HMK : Hid (mkR (sign % 3 == 2) (ip ++ fp) (sat 0 ed.data.toList - (fp.size : Int)) = none) := hmk
  clear hmk
  have one : (⟨#[46]⟩ : ByteArray).size = 1 := rfl
  have hL2 : ((((sgn sign).size : Int) + ip.size) + (1 + fp.size)) + (((exx e).size : Int) + (sgn esign).size + ed.size) ≤ 1024 := by simp only [ByteArray.size_append, one] at hL; omega
  have hsz : (ip ++ fp).size ≤ 1000000 := by rw [ByteArray.size_append]; omega
  clear one hmT
  go_enter Oajg.func7, Oajg.ntmps7
  go_wp2_with fail
  refine (HI.out _).mono ?_
  rintro _ _ ⟨rfl, rfl⟩
  go_wp2_with fail
  refine (HF.out _).mono ?_
  rintro _ _ ⟨rfl, rfl⟩
  go_wp2_with fail
  refine (HE.out _).mono ?_
  rintro _ _ ⟨rfl, rfl⟩
  go_wp2_with (first | (go_at_call 43; refine (signText_any sign s0 s1 _).mono ?_; rintro _ _ ⟨rfl, rfl⟩))
  go_wp2_with (first | (go_at_call 44; refine (expText_any e e0 e1 _).mono ?_; rintro _ _ ⟨rfl, rfl⟩))
  refine (signText_any esign t0 t1 _).mono ?_
  rintro _ _ ⟨rfl, rfl⟩
  go_wp2_with fail
  refine (HSC.out _).mono ?_
  rintro _ w1 ⟨rfl, hb⟩
  go_wp2_with fail
  go_loop [17, 18] (fun cx ci => ∃ k : Nat, k ≤ ed.size ∧ ci = .int .i64 k ∧ cx = .int .i64 (sat 0 (ed.data.toList.take k))) (fun _ i => ed.size - (intOf i).toNat)
  case atStart => exact ⟨0, Nat.zero_le _, rfl, rfl⟩
  case round =>
    obtain ⟨k, hk, rfl, rfl⟩ := hrel
    obtain ⟨q1, q2⟩ := sat_bd (ed.data.toList.take k) 0 (take_dig ed a3 k) (by decide) (by decide)
    by_cases hlt : k < ed.size
    · have HN : Hid (sat 0 (ed.data.toList.take (k + 1)) = min (10 * sat 0 (ed.data.toList.take k) + ((ed[k].toNat : Int) - 48)) 1000000) := sat_to ed k hlt
      obtain ⟨p1, p2⟩ := dig_at ed a3 k hlt
      generalize sat 0 (ed.data.toList.take k) = X at *
      by_cases hx : 1000000 < 10 * X + ((ed[k].toNat : Int) - 48)
      · go_wp2
        go_round
        case rel => exact ⟨k + 1, by omega, by go_num, by rw [HN.out]; congr 1; omega⟩
        case measure => simp [intOf]; omega
      · go_wp2
        go_round
        case rel => exact ⟨k + 1, by omega, by go_num, by rw [HN.out]; congr 1; omega⟩
        case measure => simp [intOf]; omega
    · have hke : k = ed.size := by omega
      subst hke
      rw [take_all ed _ hlt] at *
      generalize sat 0 ed.data.toList = X at *
      go_wp2_with fail
      refine (make_none _ _ _ hsz (by omega) (by omega) _ (by exact HMK.out)).mono ?_
      rintro _ w2 ⟨rfl, hb2⟩
      obtain ⟨hc, hf, hz⟩ := bfacts hb2 (m := w1.heap.size + 1) (by simp)
      have hz1 : w1.heap.size < w2.heap.size := by omega
      go_wp2_with fail
      go_ret
      exact ⟨rfl, below_new (below_two hb hb2) _⟩


set_option maxRecDepth 100000 in
set_option maxHeartbeats 4000000 in
theorem de_a_none1 (sign e esign : Int) (ip fp ed : ByteArray) (s0 : 0 ≤ sign) (s1 : sign < 256) (e0 : 0 ≤ e) (e1 : e < 256) (t0 : 0 ≤ esign) (t1 : esign < 256)
    (z1 : ip.size ≤ 140737488351232) (z2 : fp.size ≤ 140737488351232) (z3 : ed.size ≤ 140737488351232) (a1 : allDig ip = true) (a2 : allDig fp = true) (a3 : allDig ed = true) (w : World)
    (he : (e % 3 != 0) = true) (hmT : (((sgn sign ++ ip) ++ (⟨#[46]⟩ ++ fp)) ++ ((exx e ++ sgn esign) ++ ed)).size ≤ maxLen) (hsc : scanP (((sgn sign ++ ip) ++ (⟨#[46]⟩ ++ fp)) ++ ((exx e ++ sgn esign) ++ ed)) = some (4, false, ⟨#[]⟩, 0)) (hL : (((sgn sign ++ ip) ++ (⟨#[46]⟩ ++ fp)) ++ ((exx e ++ sgn esign) ++ ed)).size ≤ 1024) (hi : ip.toList.isEmpty = false) (hd : ed.toList.isEmpty = false) (hsg : (esign % 3 == 2) = true) (hmk : mkR (sign % 3 == 2) (ip ++ fp) (- sat 0 ed.data.toList - (fp.size : Int)) = none) :
    Calls Oajg.prog 7 #[.int .u8 sign, .string ip, .string fp, .bool true, .int .u8 e, .int .u8 esign, .string ed] w fun e w' => e = .returned (.bool true) ∧ Below w.heap.size w w' := by
  have hm1 : ip.size ≤ maxLen := by unfold maxLen; omega
  have hm2 : fp.size ≤ maxLen := by unfold maxLen; omega
  have hm3 : ed.size ≤ maxLen := by unfold maxLen; omega
  have HI : Hid (∀ w, Calls Oajg.prog 42 #[.string ip] w fun e w' => e = .returned (.bool true) ∧ w' = w) := fun w => by have := isDigits_any ip hm1 w; rw [a1] at this; exact this
  have HF : Hid (∀ w, Calls Oajg.prog 42 #[.string fp] w fun e w' => e = .returned (.bool true) ∧ w' = w) := fun w => by have := isDigits_any fp hm2 w; rw [a2] at this; exact this
  have HE : Hid (∀ w, Calls Oajg.prog 42 #[.string ed] w fun e w' => e = .returned (.bool true) ∧ w' = w) := fun w => by have := isDigits_any ed hm3 w; rw [a3] at this; exact this
  have g1 := sgn_size sign
  have g2 := sgn_size esign
  have g3 := exx_size e
  clear hm1 hm2 hm3
  have HSC : Hid _ := scan_some _ hmT 4 false ⟨#[]⟩ 0 hsc
  clear hsc
  have HMK : Hid (mkR (sign % 3 == 2) (ip ++ fp) (- sat 0 ed.data.toList - (fp.size : Int)) = none) := hmk
  clear hmk
  have one : (⟨#[46]⟩ : ByteArray).size = 1 := rfl
  have hL2 : ((((sgn sign).size : Int) + ip.size) + (1 + fp.size)) + (((exx e).size : Int) + (sgn esign).size + ed.size) ≤ 1024 := by simp only [ByteArray.size_append, one] at hL; omega
  have hsz : (ip ++ fp).size ≤ 1000000 := by rw [ByteArray.size_append]; omega
  clear one hmT
  go_enter Oajg.func7, Oajg.ntmps7
  go_wp2_with fail
  refine (HI.out _).mono ?_
  rintro _ _ ⟨rfl, rfl⟩
  go_wp2_with fail
  refine (HF.out _).mono ?_
  rintro _ _ ⟨rfl, rfl⟩
  go_wp2_with fail
  refine (HE.out _).mono ?_
  rintro _ _ ⟨rfl, rfl⟩
  go_wp2_with (first | (go_at_call 43; refine (signText_any sign s0 s1 _).mono ?_; rintro _ _ ⟨rfl, rfl⟩))
  go_wp2_with (first | (go_at_call 44; refine (expText_any e e0 e1 _).mono ?_; rintro _ _ ⟨rfl, rfl⟩))
  refine (signText_any esign t0 t1 _).mono ?_
  rintro _ _ ⟨rfl, rfl⟩
  go_wp2_with fail
  refine (HSC.out _).mono ?_
  rintro _ w1 ⟨rfl, hb⟩
  go_wp2_with fail
  go_loop [17, 18] (fun cx ci => ∃ k : Nat, k ≤ ed.size ∧ ci = .int .i64 k ∧ cx = .int .i64 (sat 0 (ed.data.toList.take k))) (fun _ i => ed.size - (intOf i).toNat)
  case atStart => exact ⟨0, Nat.zero_le _, rfl, rfl⟩
  case round =>
    obtain ⟨k, hk, rfl, rfl⟩ := hrel
    obtain ⟨q1, q2⟩ := sat_bd (ed.data.toList.take k) 0 (take_dig ed a3 k) (by decide) (by decide)
    by_cases hlt : k < ed.size
    · have HN : Hid (sat 0 (ed.data.toList.take (k + 1)) = min (10 * sat 0 (ed.data.toList.take k) + ((ed[k].toNat : Int) - 48)) 1000000) := sat_to ed k hlt
      obtain ⟨p1, p2⟩ := dig_at ed a3 k hlt
      generalize sat 0 (ed.data.toList.take k) = X at *
      by_cases hx : 1000000 < 10 * X + ((ed[k].toNat : Int) - 48)
      · go_wp2
        go_round
        case rel => exact ⟨k + 1, by omega, by go_num, by rw [HN.out]; congr 1; omega⟩
        case measure => simp [intOf]; omega
      · go_wp2
        go_round
        case rel => exact ⟨k + 1, by omega, by go_num, by rw [HN.out]; congr 1; omega⟩
        case measure => simp [intOf]; omega
    · have hke : k = ed.size := by omega
      subst hke
      rw [take_all ed _ hlt] at *
      generalize sat 0 ed.data.toList = X at *
      go_wp2_with fail
      refine (make_none _ _ _ hsz (by omega) (by omega) _ (by exact HMK.out)).mono ?_
      rintro _ w2 ⟨rfl, hb2⟩
      obtain ⟨hc, hf, hz⟩ := bfacts hb2 (m := w1.heap.size + 1) (by simp)
      have hz1 : w1.heap.size < w2.heap.size := by omega
      go_wp2_with fail
      go_ret
      exact ⟨rfl, below_new (below_two hb hb2) _⟩


set_option maxRecDepth 100000 in
set_option maxHeartbeats 4000000 in
theorem de_a_some0 (sign e esign : Int) (ip fp ed : ByteArray) (s0 : 0 ≤ sign) (s1 : sign < 256) (e0 : 0 ≤ e) (e1 : e < 256) (t0 : 0 ≤ esign) (t1 : esign < 256)
    (z1 : ip.size ≤ 140737488351232) (z2 : fp.size ≤ 140737488351232) (z3 : ed.size ≤ 140737488351232) (a1 : allDig ip = true) (a2 : allDig fp = true) (a3 : allDig ed = true) (w : World)
    (he : (e % 3 != 0) = true) (hmT : (((sgn sign ++ ip) ++ (⟨#[46]⟩ ++ fp)) ++ ((exx e ++ sgn esign) ++ ed)).size ≤ maxLen) (n : Bool) (t : ByteArray) (y : Int) (hsc : scanP (((sgn sign ++ ip) ++ (⟨#[46]⟩ ++ fp)) ++ ((exx e ++ sgn esign) ++ ed)) = some (0, n, t, y)) (hL : (((sgn sign ++ ip) ++ (⟨#[46]⟩ ++ fp)) ++ ((exx e ++ sgn esign) ++ ed)).size ≤ 1024) (hi : ip.toList.isEmpty = false) (hd : ed.toList.isEmpty = false) (hsg : (esign % 3 == 2) = false) (hmk : mkR (sign % 3 == 2) (ip ++ fp) (sat 0 ed.data.toList - (fp.size : Int)) = some (n, t, y)) :
    Calls Oajg.prog 7 #[.int .u8 sign, .string ip, .string fp, .bool true, .int .u8 e, .int .u8 esign, .string ed] w fun e w' => e = .returned (.bool true) ∧ Below w.heap.size w w' := by
  have hm1 : ip.size ≤ maxLen := by unfold maxLen; omega
  have hm2 : fp.size ≤ maxLen := by unfold maxLen; omega
  have hm3 : ed.size ≤ maxLen := by unfold maxLen; omega
  have HI : Hid (∀ w, Calls Oajg.prog 42 #[.string ip] w fun e w' => e = .returned (.bool true) ∧ w' = w) := fun w => by have := isDigits_any ip hm1 w; rw [a1] at this; exact this
  have HF : Hid (∀ w, Calls Oajg.prog 42 #[.string fp] w fun e w' => e = .returned (.bool true) ∧ w' = w) := fun w => by have := isDigits_any fp hm2 w; rw [a2] at this; exact this
  have HE : Hid (∀ w, Calls Oajg.prog 42 #[.string ed] w fun e w' => e = .returned (.bool true) ∧ w' = w) := fun w => by have := isDigits_any ed hm3 w; rw [a3] at this; exact this
  have g1 := sgn_size sign
  have g2 := sgn_size esign
  have g3 := exx_size e
  clear hm1 hm2 hm3
  have HSC : Hid _ := scan_some _ hmT 0 n t y hsc
  clear hsc
  have HMK : Hid (mkR (sign % 3 == 2) (ip ++ fp) (sat 0 ed.data.toList - (fp.size : Int)) = some (n, t, y)) := hmk
  clear hmk
  have one : (⟨#[46]⟩ : ByteArray).size = 1 := rfl
  have hL2 : ((((sgn sign).size : Int) + ip.size) + (1 + fp.size)) + (((exx e).size : Int) + (sgn esign).size + ed.size) ≤ 1024 := by simp only [ByteArray.size_append, one] at hL; omega
  have hsz : (ip ++ fp).size ≤ 1000000 := by rw [ByteArray.size_append]; omega
  clear one hmT
  go_enter Oajg.func7, Oajg.ntmps7
  go_wp2_with fail
  refine (HI.out _).mono ?_
  rintro _ _ ⟨rfl, rfl⟩
  go_wp2_with fail
  refine (HF.out _).mono ?_
  rintro _ _ ⟨rfl, rfl⟩
  go_wp2_with fail
  refine (HE.out _).mono ?_
  rintro _ _ ⟨rfl, rfl⟩
  go_wp2_with (first | (go_at_call 43; refine (signText_any sign s0 s1 _).mono ?_; rintro _ _ ⟨rfl, rfl⟩))
  go_wp2_with (first | (go_at_call 44; refine (expText_any e e0 e1 _).mono ?_; rintro _ _ ⟨rfl, rfl⟩))
  refine (signText_any esign t0 t1 _).mono ?_
  rintro _ _ ⟨rfl, rfl⟩
  go_wp2_with fail
  refine (HSC.out _).mono ?_
  rintro _ w1 ⟨rfl, hb⟩
  go_wp2_with fail
  go_loop [17, 18] (fun cx ci => ∃ k : Nat, k ≤ ed.size ∧ ci = .int .i64 k ∧ cx = .int .i64 (sat 0 (ed.data.toList.take k))) (fun _ i => ed.size - (intOf i).toNat)
  case atStart => exact ⟨0, Nat.zero_le _, rfl, rfl⟩
  case round =>
    obtain ⟨k, hk, rfl, rfl⟩ := hrel
    obtain ⟨q1, q2⟩ := sat_bd (ed.data.toList.take k) 0 (take_dig ed a3 k) (by decide) (by decide)
    by_cases hlt : k < ed.size
    · have HN : Hid (sat 0 (ed.data.toList.take (k + 1)) = min (10 * sat 0 (ed.data.toList.take k) + ((ed[k].toNat : Int) - 48)) 1000000) := sat_to ed k hlt
      obtain ⟨p1, p2⟩ := dig_at ed a3 k hlt
      generalize sat 0 (ed.data.toList.take k) = X at *
      by_cases hx : 1000000 < 10 * X + ((ed[k].toNat : Int) - 48)
      · go_wp2
        go_round
        case rel => exact ⟨k + 1, by omega, by go_num, by rw [HN.out]; congr 1; omega⟩
        case measure => simp [intOf]; omega
      · go_wp2
        go_round
        case rel => exact ⟨k + 1, by omega, by go_num, by rw [HN.out]; congr 1; omega⟩
        case measure => simp [intOf]; omega
    · have hke : k = ed.size := by omega
      subst hke
      rw [take_all ed _ hlt] at *
      generalize sat 0 ed.data.toList = X at *
      go_wp2_with fail
      refine (make_some _ _ _ hsz (by omega) (by omega) _ n t y (by exact HMK.out)).mono ?_
      rintro _ w2 ⟨rfl, hb2⟩
      obtain ⟨hc, hf, hz⟩ := bfacts hb2 (m := w1.heap.size + 1) (by simp)
      have hz1 : w1.heap.size < w2.heap.size := by omega
      go_wp2_with fail
      go_ret
      exact ⟨rfl, below_new (below_two hb hb2) _⟩


set_option maxRecDepth 100000 in
set_option maxHeartbeats 4000000 in
theorem de_a_some1 (sign e esign : Int) (ip fp ed : ByteArray) (s0 : 0 ≤ sign) (s1 : sign < 256) (e0 : 0 ≤ e) (e1 : e < 256) (t0 : 0 ≤ esign) (t1 : esign < 256)
    (z1 : ip.size ≤ 140737488351232) (z2 : fp.size ≤ 140737488351232) (z3 : ed.size ≤ 140737488351232) (a1 : allDig ip = true) (a2 : allDig fp = true) (a3 : allDig ed = true) (w : World)
    (he : (e % 3 != 0) = true) (hmT : (((sgn sign ++ ip) ++ (⟨#[46]⟩ ++ fp)) ++ ((exx e ++ sgn esign) ++ ed)).size ≤ maxLen) (n : Bool) (t : ByteArray) (y : Int) (hsc : scanP (((sgn sign ++ ip) ++ (⟨#[46]⟩ ++ fp)) ++ ((exx e ++ sgn esign) ++ ed)) = some (0, n, t, y)) (hL : (((sgn sign ++ ip) ++ (⟨#[46]⟩ ++ fp)) ++ ((exx e ++ sgn esign) ++ ed)).size ≤ 1024) (hi : ip.toList.isEmpty = false) (hd : ed.toList.isEmpty = false) (hsg : (esign % 3 == 2) = true) (hmk : mkR (sign % 3 == 2) (ip ++ fp) (- sat 0 ed.data.toList - (fp.size : Int)) = some (n, t, y)) :
    Calls Oajg.prog 7 #[.int .u8 sign, .string ip, .string fp, .bool true, .int .u8 e, .int .u8 esign, .string ed] w fun e w' => e = .returned (.bool true) ∧ Below w.heap.size w w' := by
  have hm1 : ip.size ≤ maxLen := by unfold maxLen; omega
  have hm2 : fp.size ≤ maxLen := by unfold maxLen; omega
  have hm3 : ed.size ≤ maxLen := by unfold maxLen; omega
  have HI : Hid (∀ w, Calls Oajg.prog 42 #[.string ip] w fun e w' => e = .returned (.bool true) ∧ w' = w) := fun w => by have := isDigits_any ip hm1 w; rw [a1] at this; exact this
  have HF : Hid (∀ w, Calls Oajg.prog 42 #[.string fp] w fun e w' => e = .returned (.bool true) ∧ w' = w) := fun w => by have := isDigits_any fp hm2 w; rw [a2] at this; exact this
  have HE : Hid (∀ w, Calls Oajg.prog 42 #[.string ed] w fun e w' => e = .returned (.bool true) ∧ w' = w) := fun w => by have := isDigits_any ed hm3 w; rw [a3] at this; exact this
  have g1 := sgn_size sign
  have g2 := sgn_size esign
  have g3 := exx_size e
  clear hm1 hm2 hm3
  have HSC : Hid _ := scan_some _ hmT 0 n t y hsc
  clear hsc
  have HMK : Hid (mkR (sign % 3 == 2) (ip ++ fp) (- sat 0 ed.data.toList - (fp.size : Int)) = some (n, t, y)) := hmk
  clear hmk
  have one : (⟨#[46]⟩ : ByteArray).size = 1 := rfl
  have hL2 : ((((sgn sign).size : Int) + ip.size) + (1 + fp.size)) + (((exx e).size : Int) + (sgn esign).size + ed.size) ≤ 1024 := by simp only [ByteArray.size_append, one] at hL; omega
  have hsz : (ip ++ fp).size ≤ 1000000 := by rw [ByteArray.size_append]; omega
  clear one hmT
  go_enter Oajg.func7, Oajg.ntmps7
  go_wp2_with fail
  refine (HI.out _).mono ?_
  rintro _ _ ⟨rfl, rfl⟩
  go_wp2_with fail
  refine (HF.out _).mono ?_
  rintro _ _ ⟨rfl, rfl⟩
  go_wp2_with fail
  refine (HE.out _).mono ?_
  rintro _ _ ⟨rfl, rfl⟩
  go_wp2_with (first | (go_at_call 43; refine (signText_any sign s0 s1 _).mono ?_; rintro _ _ ⟨rfl, rfl⟩))
  go_wp2_with (first | (go_at_call 44; refine (expText_any e e0 e1 _).mono ?_; rintro _ _ ⟨rfl, rfl⟩))
  refine (signText_any esign t0 t1 _).mono ?_
  rintro _ _ ⟨rfl, rfl⟩
  go_wp2_with fail
  refine (HSC.out _).mono ?_
  rintro _ w1 ⟨rfl, hb⟩
  go_wp2_with fail
  go_loop [17, 18] (fun cx ci => ∃ k : Nat, k ≤ ed.size ∧ ci = .int .i64 k ∧ cx = .int .i64 (sat 0 (ed.data.toList.take k))) (fun _ i => ed.size - (intOf i).toNat)
  case atStart => exact ⟨0, Nat.zero_le _, rfl, rfl⟩
  case round =>
    obtain ⟨k, hk, rfl, rfl⟩ := hrel
    obtain ⟨q1, q2⟩ := sat_bd (ed.data.toList.take k) 0 (take_dig ed a3 k) (by decide) (by decide)
    by_cases hlt : k < ed.size
    · have HN : Hid (sat 0 (ed.data.toList.take (k + 1)) = min (10 * sat 0 (ed.data.toList.take k) + ((ed[k].toNat : Int) - 48)) 1000000) := sat_to ed k hlt
      obtain ⟨p1, p2⟩ := dig_at ed a3 k hlt
      generalize sat 0 (ed.data.toList.take k) = X at *
      by_cases hx : 1000000 < 10 * X + ((ed[k].toNat : Int) - 48)
      · go_wp2
        go_round
        case rel => exact ⟨k + 1, by omega, by go_num, by rw [HN.out]; congr 1; omega⟩
        case measure => simp [intOf]; omega
      · go_wp2
        go_round
        case rel => exact ⟨k + 1, by omega, by go_num, by rw [HN.out]; congr 1; omega⟩
        case measure => simp [intOf]; omega
    · have hke : k = ed.size := by omega
      subst hke
      rw [take_all ed _ hlt] at *
      generalize sat 0 ed.data.toList = X at *
      go_wp2_with fail
      refine (make_some _ _ _ hsz (by omega) (by omega) _ n t y (by exact HMK.out)).mono ?_
      rintro _ w2 ⟨rfl, hb2⟩
      obtain ⟨hc, hf, hz⟩ := bfacts hb2 (m := w1.heap.size + 1) (by simp)
      have hz1 : w1.heap.size < w2.heap.size := by omega
      go_wp2_with fail
      go_ret
      exact ⟨rfl, below_new (below_two hb hb2) _⟩


set_option maxRecDepth 100000 in
set_option maxHeartbeats 4000000 in
theorem de_b_none0 (sign e esign : Int) (ip fp ed : ByteArray) (s0 : 0 ≤ sign) (s1 : sign < 256) (e0 : 0 ≤ e) (e1 : e < 256) (t0 : 0 ≤ esign) (t1 : esign < 256)
    (z1 : ip.size ≤ 140737488351232) (z2 : fp.size ≤ 140737488351232) (z3 : ed.size ≤ 140737488351232) (a1 : allDig ip = true) (a2 : allDig fp = true) (a3 : allDig ed = true) (w : World)
    (he : (e % 3 != 0) = true) (hmT : (((sgn sign ++ ip) ++ (⟨#[46]⟩ ++ fp)) ++ ((exx e ++ sgn esign) ++ ed)).size ≤ maxLen) (hsc : scanP (((sgn sign ++ ip) ++ (⟨#[46]⟩ ++ fp)) ++ ((exx e ++ sgn esign) ++ ed)) = some (4, false, ⟨#[]⟩, 0)) (hL : (((sgn sign ++ ip) ++ (⟨#[46]⟩ ++ fp)) ++ ((exx e ++ sgn esign) ++ ed)).size ≤ 1024) (hi : ip.toList.isEmpty = true) (hf : fp.toList.isEmpty = false) (hd : ed.toList.isEmpty = false) (hsg : (esign % 3 == 2) = false) (hmk : mkR (sign % 3 == 2) (ip ++ fp) (sat 0 ed.data.toList - (fp.size : Int)) = none) :
    Calls Oajg.prog 7 #[.int .u8 sign, .string ip, .string fp, .bool true, .int .u8 e, .int .u8 esign, .string ed] w fun e w' => e = .returned (.bool true) ∧ Below w.heap.size w w' := by
  have hm1 : ip.size ≤ maxLen := by unfold maxLen; omega
  have hm2 : fp.size ≤ maxLen := by unfold maxLen; omega
  have hm3 : ed.size ≤ maxLen := by unfold maxLen; omega
  have HI : Hid (∀ w, Calls Oajg.prog 42 #[.string ip] w fun e w' => e = .returned (.bool true) ∧ w' = w) := fun w => by have := isDigits_any ip hm1 w; rw [a1] at this; exact this
  have HF : Hid (∀ w, Calls Oajg.prog 42 #[.string fp] w fun e w' => e = .returned (.bool true) ∧ w' = w) := fun w => by have := isDigits_any fp hm2 w; rw [a2] at this; exact this
  have HE : Hid (∀ w, Calls Oajg.prog 42 #[.string ed] w fun e w' => e = .returned (.bool true) ∧ w' = w) := fun w => by have := isDigits_any ed hm3 w; rw [a3] at this; exact this
  have g1 := sgn_size sign
  have g2 := sgn_size esign
  have g3 := exx_size e
  clear hm1 hm2 hm3
  have HSC : Hid _ := scan_some _ hmT 4 false ⟨#[]⟩ 0 hsc
  clear hsc
  have HMK : Hid (mkR (sign % 3 == 2) (ip ++ fp) (sat 0 ed.data.toList - (fp.size : Int)) = none) := hmk
  clear hmk
  have one : (⟨#[46]⟩ : ByteArray).size = 1 := rfl
  have hL2 : ((((sgn sign).size : Int) + ip.size) + (1 + fp.size)) + (((exx e).size : Int) + (sgn esign).size + ed.size) ≤ 1024 := by simp only [ByteArray.size_append, one] at hL; omega
  have hsz : (ip ++ fp).size ≤ 1000000 := by rw [ByteArray.size_append]; omega
  clear one hmT
  go_enter Oajg.func7, Oajg.ntmps7
  go_wp2_with fail
  refine (HI.out _).mono ?_
  rintro _ _ ⟨rfl, rfl⟩
  go_wp2_with fail
  refine (HF.out _).mono ?_
  rintro _ _ ⟨rfl, rfl⟩
  go_wp2_with fail
  refine (HE.out _).mono ?_
  rintro _ _ ⟨rfl, rfl⟩
  go_wp2_with (first | (go_at_call 43; refine (signText_any sign s0 s1 _).mono ?_; rintro _ _ ⟨rfl, rfl⟩))
  go_wp2_with (first | (go_at_call 44; refine (expText_any e e0 e1 _).mono ?_; rintro _ _ ⟨rfl, rfl⟩))
  refine (signText_any esign t0 t1 _).mono ?_
  rintro _ _ ⟨rfl, rfl⟩
  go_wp2_with fail
  refine (HSC.out _).mono ?_
  rintro _ w1 ⟨rfl, hb⟩
  go_wp2_with fail
  go_loop [17, 18] (fun cx ci => ∃ k : Nat, k ≤ ed.size ∧ ci = .int .i64 k ∧ cx = .int .i64 (sat 0 (ed.data.toList.take k))) (fun _ i => ed.size - (intOf i).toNat)
  case atStart => exact ⟨0, Nat.zero_le _, rfl, rfl⟩
  case round =>
    obtain ⟨k, hk, rfl, rfl⟩ := hrel
    obtain ⟨q1, q2⟩ := sat_bd (ed.data.toList.take k) 0 (take_dig ed a3 k) (by decide) (by decide)
    by_cases hlt : k < ed.size
    · have HN : Hid (sat 0 (ed.data.toList.take (k + 1)) = min (10 * sat 0 (ed.data.toList.take k) + ((ed[k].toNat : Int) - 48)) 1000000) := sat_to ed k hlt
      obtain ⟨p1, p2⟩ := dig_at ed a3 k hlt
      generalize sat 0 (ed.data.toList.take k) = X at *
      by_cases hx : 1000000 < 10 * X + ((ed[k].toNat : Int) - 48)
      · go_wp2
        go_round
        case rel => exact ⟨k + 1, by omega, by go_num, by rw [HN.out]; congr 1; omega⟩
        case measure => simp [intOf]; omega
      · go_wp2
        go_round
        case rel => exact ⟨k + 1, by omega, by go_num, by rw [HN.out]; congr 1; omega⟩
        case measure => simp [intOf]; omega
    · have hke : k = ed.size := by omega
      subst hke
      rw [take_all ed _ hlt] at *
      generalize sat 0 ed.data.toList = X at *
      go_wp2_with fail
      refine (make_none _ _ _ hsz (by omega) (by omega) _ (by exact HMK.out)).mono ?_
      rintro _ w2 ⟨rfl, hb2⟩
      obtain ⟨hc, hf, hz⟩ := bfacts hb2 (m := w1.heap.size + 1) (by simp)
      have hz1 : w1.heap.size < w2.heap.size := by omega
      go_wp2_with fail
      go_ret
      exact ⟨rfl, below_new (below_two hb hb2) _⟩


set_option maxRecDepth 100000 in
set_option maxHeartbeats 4000000 in
theorem de_b_none1 (sign e esign : Int) (ip fp ed : ByteArray) (s0 : 0 ≤ sign) (s1 : sign < 256) (e0 : 0 ≤ e) (e1 : e < 256) (t0 : 0 ≤ esign) (t1 : esign < 256)
    (z1 : ip.size ≤ 140737488351232) (z2 : fp.size ≤ 140737488351232) (z3 : ed.size ≤ 140737488351232) (a1 : allDig ip = true) (a2 : allDig fp = true) (a3 : allDig ed = true) (w : World)
    (he : (e % 3 != 0) = true) (hmT : (((sgn sign ++ ip) ++ (⟨#[46]⟩ ++ fp)) ++ ((exx e ++ sgn esign) ++ ed)).size ≤ maxLen) (hsc : scanP (((sgn sign ++ ip) ++ (⟨#[46]⟩ ++ fp)) ++ ((exx e ++ sgn esign) ++ ed)) = some (4, false, ⟨#[]⟩, 0)) (hL : (((sgn sign ++ ip) ++ (⟨#[46]⟩ ++ fp)) ++ ((exx e ++ sgn esign) ++ ed)).size ≤ 1024) (hi : ip.toList.isEmpty = true) (hf : fp.toList.isEmpty = false) (hd : ed.toList.isEmpty = false) (hsg : (esign % 3 == 2) = true) (hmk : mkR (sign % 3 == 2) (ip ++ fp) (- sat 0 ed.data.toList - (fp.size : Int)) = none) :
    Calls Oajg.prog 7 #[.int .u8 sign, .string ip, .string fp, .bool true, .int .u8 e, .int .u8 esign, .string ed] w fun e w' => e = .returned (.bool true) ∧ Below w.heap.size w w' := by
  have hm1 : ip.size ≤ maxLen := by unfold maxLen; omega
  have hm2 : fp.size ≤ maxLen := by unfold maxLen; omega
  have hm3 : ed.size ≤ maxLen := by unfold maxLen; omega
  have HI : Hid (∀ w, Calls Oajg.prog 42 #[.string ip] w fun e w' => e = .returned (.bool true) ∧ w' = w) := fun w => by have := isDigits_any ip hm1 w; rw [a1] at this; exact this
  have HF : Hid (∀ w, Calls Oajg.prog 42 #[.string fp] w fun e w' => e = .returned (.bool true) ∧ w' = w) := fun w => by have := isDigits_any fp hm2 w; rw [a2] at this; exact this
  have HE : Hid (∀ w, Calls Oajg.prog 42 #[.string ed] w fun e w' => e = .returned (.bool true) ∧ w' = w) := fun w => by have := isDigits_any ed hm3 w; rw [a3] at this; exact this
  have g1 := sgn_size sign
  have g2 := sgn_size esign
  have g3 := exx_size e
  clear hm1 hm2 hm3
  have HSC : Hid _ := scan_some _ hmT 4 false ⟨#[]⟩ 0 hsc
  clear hsc
  have HMK : Hid (mkR (sign % 3 == 2) (ip ++ fp) (- sat 0 ed.data.toList - (fp.size : Int)) = none) := hmk
  clear hmk
  have one : (⟨#[46]⟩ : ByteArray).size = 1 := rfl
  have hL2 : ((((sgn sign).size : Int) + ip.size) + (1 + fp.size)) + (((exx e).size : Int) + (sgn esign).size + ed.size) ≤ 1024 := by simp only [ByteArray.size_append, one] at hL; omega
  have hsz : (ip ++ fp).size ≤ 1000000 := by rw [ByteArray.size_append]; omega
  clear one hmT
  go_enter Oajg.func7, Oajg.ntmps7
  go_wp2_with fail
  refine (HI.out _).mono ?_
  rintro _ _ ⟨rfl, rfl⟩
  go_wp2_with fail
  refine (HF.out _).mono ?_
  rintro _ _ ⟨rfl, rfl⟩
  go_wp2_with fail
  refine (HE.out _).mono ?_
  rintro _ _ ⟨rfl, rfl⟩
  go_wp2_with (first | (go_at_call 43; refine (signText_any sign s0 s1 _).mono ?_; rintro _ _ ⟨rfl, rfl⟩))
  go_wp2_with (first | (go_at_call 44; refine (expText_any e e0 e1 _).mono ?_; rintro _ _ ⟨rfl, rfl⟩))
  refine (signText_any esign t0 t1 _).mono ?_
  rintro _ _ ⟨rfl, rfl⟩
  go_wp2_with fail
  refine (HSC.out _).mono ?_
  rintro _ w1 ⟨rfl, hb⟩
  go_wp2_with fail
  go_loop [17, 18] (fun cx ci => ∃ k : Nat, k ≤ ed.size ∧ ci = .int .i64 k ∧ cx = .int .i64 (sat 0 (ed.data.toList.take k))) (fun _ i => ed.size - (intOf i).toNat)
  case atStart => exact ⟨0, Nat.zero_le _, rfl, rfl⟩
  case round =>
    obtain ⟨k, hk, rfl, rfl⟩ := hrel
    obtain ⟨q1, q2⟩ := sat_bd (ed.data.toList.take k) 0 (take_dig ed a3 k) (by decide) (by decide)
    by_cases hlt : k < ed.size
    · have HN : Hid (sat 0 (ed.data.toList.take (k + 1)) = min (10 * sat 0 (ed.data.toList.take k) + ((ed[k].toNat : Int) - 48)) 1000000) := sat_to ed k hlt
      obtain ⟨p1, p2⟩ := dig_at ed a3 k hlt
      generalize sat 0 (ed.data.toList.take k) = X at *
      by_cases hx : 1000000 < 10 * X + ((ed[k].toNat : Int) - 48)
      · go_wp2
        go_round
        case rel => exact ⟨k + 1, by omega, by go_num, by rw [HN.out]; congr 1; omega⟩
        case measure => simp [intOf]; omega
      · go_wp2
        go_round
        case rel => exact ⟨k + 1, by omega, by go_num, by rw [HN.out]; congr 1; omega⟩
        case measure => simp [intOf]; omega
    · have hke : k = ed.size := by omega
      subst hke
      rw [take_all ed _ hlt] at *
      generalize sat 0 ed.data.toList = X at *
      go_wp2_with fail
      refine (make_none _ _ _ hsz (by omega) (by omega) _ (by exact HMK.out)).mono ?_
      rintro _ w2 ⟨rfl, hb2⟩
      obtain ⟨hc, hf, hz⟩ := bfacts hb2 (m := w1.heap.size + 1) (by simp)
      have hz1 : w1.heap.size < w2.heap.size := by omega
      go_wp2_with fail
      go_ret
      exact ⟨rfl, below_new (below_two hb hb2) _⟩


set_option maxRecDepth 100000 in
set_option maxHeartbeats 4000000 in
theorem de_b_some0 (sign e esign : Int) (ip fp ed : ByteArray) (s0 : 0 ≤ sign) (s1 : sign < 256) (e0 : 0 ≤ e) (e1 : e < 256) (t0 : 0 ≤ esign) (t1 : esign < 256)
    (z1 : ip.size ≤ 140737488351232) (z2 : fp.size ≤ 140737488351232) (z3 : ed.size ≤ 140737488351232) (a1 : allDig ip = true) (a2 : allDig fp = true) (a3 : allDig ed = true) (w : World)
    (he : (e % 3 != 0) = true) (hmT : (((sgn sign ++ ip) ++ (⟨#[46]⟩ ++ fp)) ++ ((exx e ++ sgn esign) ++ ed)).size ≤ maxLen) (n : Bool) (t : ByteArray) (y : Int) (hsc : scanP (((sgn sign ++ ip) ++ (⟨#[46]⟩ ++ fp)) ++ ((exx e ++ sgn esign) ++ ed)) = some (0, n, t, y)) (hL : (((sgn sign ++ ip) ++ (⟨#[46]⟩ ++ fp)) ++ ((exx e ++ sgn esign) ++ ed)).size ≤ 1024) (hi : ip.toList.isEmpty = true) (hf : fp.toList.isEmpty = false) (hd : ed.toList.isEmpty = false) (hsg : (esign % 3 == 2) = false) (hmk : mkR (sign % 3 == 2) (ip ++ fp) (sat 0 ed.data.toList - (fp.size : Int)) = some (n, t, y)) :
    Calls Oajg.prog 7 #[.int .u8 sign, .string ip, .string fp, .bool true, .int .u8 e, .int .u8 esign, .string ed] w fun e w' => e = .returned (.bool true) ∧ Below w.heap.size w w' := by
  have hm1 : ip.size ≤ maxLen := by unfold maxLen; omega
  have hm2 : fp.size ≤ maxLen := by unfold maxLen; omega
  have hm3 : ed.size ≤ maxLen := by unfold maxLen; omega
  have HI : Hid (∀ w, Calls Oajg.prog 42 #[.string ip] w fun e w' => e = .returned (.bool true) ∧ w' = w) := fun w => by have := isDigits_any ip hm1 w; rw [a1] at this; exact this
  have HF : Hid (∀ w, Calls Oajg.prog 42 #[.string fp] w fun e w' => e = .returned (.bool true) ∧ w' = w) := fun w => by have := isDigits_any fp hm2 w; rw [a2] at this; exact this
  have HE : Hid (∀ w, Calls Oajg.prog 42 #[.string ed] w fun e w' => e = .returned (.bool true) ∧ w' = w) := fun w => by have := isDigits_any ed hm3 w; rw [a3] at this; exact this
  have g1 := sgn_size sign
  have g2 := sgn_size esign
  have g3 := exx_size e
  clear hm1 hm2 hm3
  have HSC : Hid _ := scan_some _ hmT 0 n t y hsc
  clear hsc
  have HMK : Hid (mkR (sign % 3 == 2) (ip ++ fp) (sat 0 ed.data.toList - (fp.size : Int)) = some (n, t, y)) := hmk
  clear hmk
  have one : (⟨#[46]⟩ : ByteArray).size = 1 := rfl
  have hL2 : ((((sgn sign).size : Int) + ip.size) + (1 + fp.size)) + (((exx e).size : Int) + (sgn esign).size + ed.size) ≤ 1024 := by simp only [ByteArray.size_append, one] at hL; omega
  have hsz : (ip ++ fp).size ≤ 1000000 := by rw [ByteArray.size_append]; omega
  clear one hmT
  go_enter Oajg.func7, Oajg.ntmps7
  go_wp2_with fail
  refine (HI.out _).mono ?_
  rintro _ _ ⟨rfl, rfl⟩
  go_wp2_with fail
  refine (HF.out _).mono ?_
  rintro _ _ ⟨rfl, rfl⟩
  go_wp2_with fail
  refine (HE.out _).mono ?_
  rintro _ _ ⟨rfl, rfl⟩
  go_wp2_with (first | (go_at_call 43; refine (signText_any sign s0 s1 _).mono ?_; rintro _ _ ⟨rfl, rfl⟩))
  go_wp2_with (first | (go_at_call 44; refine (expText_any e e0 e1 _).mono ?_; rintro _ _ ⟨rfl, rfl⟩))
  refine (signText_any esign t0 t1 _).mono ?_
  rintro _ _ ⟨rfl, rfl⟩
  go_wp2_with fail
  refine (HSC.out _).mono ?_
  rintro _ w1 ⟨rfl, hb⟩
  go_wp2_with fail
  go_loop [17, 18] (fun cx ci => ∃ k : Nat, k ≤ ed.size ∧ ci = .int .i64 k ∧ cx = .int .i64 (sat 0 (ed.data.toList.take k))) (fun _ i => ed.size - (intOf i).toNat)
  case atStart => exact ⟨0, Nat.zero_le _, rfl, rfl⟩
  case round =>
    obtain ⟨k, hk, rfl, rfl⟩ := hrel
    obtain ⟨q1, q2⟩ := sat_bd (ed.data.toList.take k) 0 (take_dig ed a3 k) (by decide) (by decide)
    by_cases hlt : k < ed.size
    · have HN : Hid (sat 0 (ed.data.toList.take (k + 1)) = min (10 * sat 0 (ed.data.toList.take k) + ((ed[k].toNat : Int) - 48)) 1000000) := sat_to ed k hlt
      obtain ⟨p1, p2⟩ := dig_at ed a3 k hlt
      generalize sat 0 (ed.data.toList.take k) = X at *
      by_cases hx : 1000000 < 10 * X + ((ed[k].toNat : Int) - 48)
      · go_wp2
        go_round
        case rel => exact ⟨k + 1, by omega, by go_num, by rw [HN.out]; congr 1; omega⟩
        case measure => simp [intOf]; omega
      · go_wp2
        go_round
        case rel => exact ⟨k + 1, by omega, by go_num, by rw [HN.out]; congr 1; omega⟩
        case measure => simp [intOf]; omega
    · have hke : k = ed.size := by omega
      subst hke
      rw [take_all ed _ hlt] at *
      generalize sat 0 ed.data.toList = X at *
      go_wp2_with fail
      refine (make_some _ _ _ hsz (by omega) (by omega) _ n t y (by exact HMK.out)).mono ?_
      rintro _ w2 ⟨rfl, hb2⟩
      obtain ⟨hc, hf, hz⟩ := bfacts hb2 (m := w1.heap.size + 1) (by simp)
      have hz1 : w1.heap.size < w2.heap.size := by omega
      go_wp2_with fail
      go_ret
      exact ⟨rfl, below_new (below_two hb hb2) _⟩


set_option maxRecDepth 100000 in
set_option maxHeartbeats 4000000 in
theorem de_b_some1 (sign e esign : Int) (ip fp ed : ByteArray) (s0 : 0 ≤ sign) (s1 : sign < 256) (e0 : 0 ≤ e) (e1 : e < 256) (t0 : 0 ≤ esign) (t1 : esign < 256)
    (z1 : ip.size ≤ 140737488351232) (z2 : fp.size ≤ 140737488351232) (z3 : ed.size ≤ 140737488351232) (a1 : allDig ip = true) (a2 : allDig fp = true) (a3 : allDig ed = true) (w : World)
    (he : (e % 3 != 0) = true) (hmT : (((sgn sign ++ ip) ++ (⟨#[46]⟩ ++ fp)) ++ ((exx e ++ sgn esign) ++ ed)).size ≤ maxLen) (n : Bool) (t : ByteArray) (y : Int) (hsc : scanP (((sgn sign ++ ip) ++ (⟨#[46]⟩ ++ fp)) ++ ((exx e ++ sgn esign) ++ ed)) = some (0, n, t, y)) (hL : (((sgn sign ++ ip) ++ (⟨#[46]⟩ ++ fp)) ++ ((exx e ++ sgn esign) ++ ed)).size ≤ 1024) (hi : ip.toList.isEmpty = true) (hf : fp.toList.isEmpty = false) (hd : ed.toList.isEmpty = false) (hsg : (esign % 3 == 2) = true) (hmk : mkR (sign % 3 == 2) (ip ++ fp) (- sat 0 ed.data.toList - (fp.size : Int)) = some (n, t, y)) :
    Calls Oajg.prog 7 #[.int .u8 sign, .string ip, .string fp, .bool true, .int .u8 e, .int .u8 esign, .string ed] w fun e w' => e = .returned (.bool true) ∧ Below w.heap.size w w' := by
  have hm1 : ip.size ≤ maxLen := by unfold maxLen; omega
  have hm2 : fp.size ≤ maxLen := by unfold maxLen; omega
  have hm3 : ed.size ≤ maxLen := by unfold maxLen; omega
  have HI : Hid (∀ w, Calls Oajg.prog 42 #[.string ip] w fun e w' => e = .returned (.bool true) ∧ w' = w) := fun w => by have := isDigits_any ip hm1 w; rw [a1] at this; exact this
  have HF : Hid (∀ w, Calls Oajg.prog 42 #[.string fp] w fun e w' => e = .returned (.bool true) ∧ w' = w) := fun w => by have := isDigits_any fp hm2 w; rw [a2] at this; exact this
  have HE : Hid (∀ w, Calls Oajg.prog 42 #[.string ed] w fun e w' => e = .returned (.bool true) ∧ w' = w) := fun w => by have := isDigits_any ed hm3 w; rw [a3] at this; exact this
  have g1 := sgn_size sign
  have g2 := sgn_size esign
  have g3 := exx_size e
  clear hm1 hm2 hm3
  have HSC : Hid _ := scan_some _ hmT 0 n t y hsc
  clear hsc
  have HMK : Hid (mkR (sign % 3 == 2) (ip ++ fp) (- sat 0 ed.data.toList - (fp.size : Int)) = some (n, t, y)) := hmk
  clear hmk
  have one : (⟨#[46]⟩ : ByteArray).size = 1 := rfl
  have hL2 : ((((sgn sign).size : Int) + ip.size) + (1 + fp.size)) + (((exx e).size : Int) + (sgn esign).size + ed.size) ≤ 1024 := by simp only [ByteArray.size_append, one] at hL; omega
  have hsz : (ip ++ fp).size ≤ 1000000 := by rw [ByteArray.size_append]; omega
  clear one hmT
  go_enter Oajg.func7, Oajg.ntmps7
  go_wp2_with fail
  refine (HI.out _).mono ?_
  rintro _ _ ⟨rfl, rfl⟩
  go_wp2_with fail
  refine (HF.out _).mono ?_
  rintro _ _ ⟨rfl, rfl⟩
  go_wp2_with fail
  refine (HE.out _).mono ?_
  rintro _ _ ⟨rfl, rfl⟩
  go_wp2_with (first | (go_at_call 43; refine (signText_any sign s0 s1 _).mono ?_; rintro _ _ ⟨rfl, rfl⟩))
  go_wp2_with (first | (go_at_call 44; refine (expText_any e e0 e1 _).mono ?_; rintro _ _ ⟨rfl, rfl⟩))
  refine (signText_any esign t0 t1 _).mono ?_
  rintro _ _ ⟨rfl, rfl⟩
  go_wp2_with fail
  refine (HSC.out _).mono ?_
  rintro _ w1 ⟨rfl, hb⟩
  go_wp2_with fail
  go_loop [17, 18] (fun cx ci => ∃ k : Nat, k ≤ ed.size ∧ ci = .int .i64 k ∧ cx = .int .i64 (sat 0 (ed.data.toList.take k))) (fun _ i => ed.size - (intOf i).toNat)
  case atStart => exact ⟨0, Nat.zero_le _, rfl, rfl⟩
  case round =>
    obtain ⟨k, hk, rfl, rfl⟩ := hrel
    obtain ⟨q1, q2⟩ := sat_bd (ed.data.toList.take k) 0 (take_dig ed a3 k) (by decide) (by decide)
    by_cases hlt : k < ed.size
    · have HN : Hid (sat 0 (ed.data.toList.take (k + 1)) = min (10 * sat 0 (ed.data.toList.take k) + ((ed[k].toNat : Int) - 48)) 1000000) := sat_to ed k hlt
      obtain ⟨p1, p2⟩ := dig_at ed a3 k hlt
      generalize sat 0 (ed.data.toList.take k) = X at *
      by_cases hx : 1000000 < 10 * X + ((ed[k].toNat : Int) - 48)
      · go_wp2
        go_round
        case rel => exact ⟨k + 1, by omega, by go_num, by rw [HN.out]; congr 1; omega⟩
        case measure => simp [intOf]; omega
      · go_wp2
        go_round
        case rel => exact ⟨k + 1, by omega, by go_num, by rw [HN.out]; congr 1; omega⟩
        case measure => simp [intOf]; omega
    · have hke : k = ed.size := by omega
      subst hke
      rw [take_all ed _ hlt] at *
      generalize sat 0 ed.data.toList = X at *
      go_wp2_with fail
      refine (make_some _ _ _ hsz (by omega) (by omega) _ n t y (by exact HMK.out)).mono ?_
      rintro _ w2 ⟨rfl, hb2⟩
      obtain ⟨hc, hf, hz⟩ := bfacts hb2 (m := w1.heap.size + 1) (by simp)
      have hz1 : w1.heap.size < w2.heap.size := by omega
      go_wp2_with fail
      go_ret
      exact ⟨rfl, below_new (below_two hb hb2) _⟩


set_option maxRecDepth 100000 in
set_option maxHeartbeats 4000000 in
theorem np_long (sign e esign : Int) (ip fp ed : ByteArray) (s0 : 0 ≤ sign) (s1 : sign < 256) (e0 : 0 ≤ e) (e1 : e < 256) (t0 : 0 ≤ esign) (t1 : esign < 256)
    (z1 : ip.size ≤ 140737488351232) (z2 : fp.size ≤ 140737488351232) (z3 : ed.size ≤ 140737488351232) (a1 : allDig ip = true) (a2 : allDig fp = true) (a3 : allDig ed = true) (w : World)
    (he : (e % 3 != 0) = false) (hmT : (sgn sign ++ ip).size ≤ maxLen) (hsc : scanP (sgn sign ++ ip) = some (4, false, ⟨#[]⟩, 0)) (hL : 1024 < (sgn sign ++ ip).size) :
    Calls Oajg.prog 7 #[.int .u8 sign, .string ip, .string fp, .bool false, .int .u8 e, .int .u8 esign, .string ed] w fun e w' => e = .returned (.bool true) ∧ Below w.heap.size w w' := by
  have hm1 : ip.size ≤ maxLen := by unfold maxLen; omega
  have hm2 : fp.size ≤ maxLen := by unfold maxLen; omega
  have hm3 : ed.size ≤ maxLen := by unfold maxLen; omega
  have HI : Hid (∀ w, Calls Oajg.prog 42 #[.string ip] w fun e w' => e = .returned (.bool true) ∧ w' = w) := fun w => by have := isDigits_any ip hm1 w; rw [a1] at this; exact this
  have HF : Hid (∀ w, Calls Oajg.prog 42 #[.string fp] w fun e w' => e = .returned (.bool true) ∧ w' = w) := fun w => by have := isDigits_any fp hm2 w; rw [a2] at this; exact this
  have HE : Hid (∀ w, Calls Oajg.prog 42 #[.string ed] w fun e w' => e = .returned (.bool true) ∧ w' = w) := fun w => by have := isDigits_any ed hm3 w; rw [a3] at this; exact this
  have g1 := sgn_size sign
  have g2 := sgn_size esign
  have g3 := exx_size e
  clear hm1 hm2 hm3
  have HSC : Hid _ := scan_some _ hmT 4 false ⟨#[]⟩ 0 hsc
  clear hsc
  have one : (⟨#[46]⟩ : ByteArray).size = 1 := rfl
  have hL2 : 1024 < ((sgn sign).size : Int) + ip.size := by simp only [ByteArray.size_append, one] at hL; omega

  clear one hmT
  go_enter Oajg.func7, Oajg.ntmps7
  go_wp2_with fail
  refine (HI.out _).mono ?_
  rintro _ _ ⟨rfl, rfl⟩
  go_wp2_with fail
  refine (HF.out _).mono ?_
  rintro _ _ ⟨rfl, rfl⟩
  go_wp2_with fail
  refine (HE.out _).mono ?_
  rintro _ _ ⟨rfl, rfl⟩
  go_wp2_with (first | (go_at_call 43; refine (signText_any sign s0 s1 _).mono ?_; rintro _ _ ⟨rfl, rfl⟩))
  refine (HSC.out _).mono ?_
  rintro _ w1 ⟨rfl, hb⟩
  go_wp2_with fail
  go_ret
  exact ⟨rfl, below_new (by assumption) _⟩

set_option maxRecDepth 100000 in
set_option maxHeartbeats 4000000 in
theorem np_w1 (sign e esign : Int) (ip fp ed : ByteArray) (s0 : 0 ≤ sign) (s1 : sign < 256) (e0 : 0 ≤ e) (e1 : e < 256) (t0 : 0 ≤ esign) (t1 : esign < 256)
    (z1 : ip.size ≤ 140737488351232) (z2 : fp.size ≤ 140737488351232) (z3 : ed.size ≤ 140737488351232) (a1 : allDig ip = true) (a2 : allDig fp = true) (a3 : allDig ed = true) (w : World)
    (he : (e % 3 != 0) = false) (hmT : (sgn sign ++ ip).size ≤ maxLen) (hsc : scanP (sgn sign ++ ip) = none) (hL : (sgn sign ++ ip).size ≤ 1024) (hi : ip.toList.isEmpty = true) :
    Calls Oajg.prog 7 #[.int .u8 sign, .string ip, .string fp, .bool false, .int .u8 e, .int .u8 esign, .string ed] w fun e w' => e = .returned (.bool true) ∧ Below w.heap.size w w' := by
  have hm1 : ip.size ≤ maxLen := by unfold maxLen; omega
  have hm2 : fp.size ≤ maxLen := by unfold maxLen; omega
  have hm3 : ed.size ≤ maxLen := by unfold maxLen; omega
  have HI : Hid (∀ w, Calls Oajg.prog 42 #[.string ip] w fun e w' => e = .returned (.bool true) ∧ w' = w) := fun w => by have := isDigits_any ip hm1 w; rw [a1] at this; exact this
  have HF : Hid (∀ w, Calls Oajg.prog 42 #[.string fp] w fun e w' => e = .returned (.bool true) ∧ w' = w) := fun w => by have := isDigits_any fp hm2 w; rw [a2] at this; exact this
  have HE : Hid (∀ w, Calls Oajg.prog 42 #[.string ed] w fun e w' => e = .returned (.bool true) ∧ w' = w) := fun w => by have := isDigits_any ed hm3 w; rw [a3] at this; exact this
  have g1 := sgn_size sign
  have g2 := sgn_size esign
  have g3 := exx_size e
  clear hm1 hm2 hm3
  have HSC : Hid _ := scan_wrong _ hmT hsc
  clear hsc
  have one : (⟨#[46]⟩ : ByteArray).size = 1 := rfl
  have hL2 : ((sgn sign).size : Int) + ip.size ≤ 1024 := by simp only [ByteArray.size_append, one] at hL; omega

  clear one hmT
  go_enter Oajg.func7, Oajg.ntmps7
  go_wp2_with fail
  refine (HI.out _).mono ?_
  rintro _ _ ⟨rfl, rfl⟩
  go_wp2_with fail
  refine (HF.out _).mono ?_
  rintro _ _ ⟨rfl, rfl⟩
  go_wp2_with fail
  refine (HE.out _).mono ?_
  rintro _ _ ⟨rfl, rfl⟩
  go_wp2_with (first | (go_at_call 43; refine (signText_any sign s0 s1 _).mono ?_; rintro _ _ ⟨rfl, rfl⟩))
  refine (HSC.out _).mono ?_
  rintro _ w1 ⟨pp, gg, rfl, hb⟩
  go_wp2_with fail
  go_ret
  exact ⟨rfl, below_new (by assumption) _⟩

set_option maxRecDepth 100000 in
set_option maxHeartbeats 4000000 in
theorem np_a_none0 (sign e esign : Int) (ip fp ed : ByteArray) (s0 : 0 ≤ sign) (s1 : sign < 256) (e0 : 0 ≤ e) (e1 : e < 256) (t0 : 0 ≤ esign) (t1 : esign < 256)
    (z1 : ip.size ≤ 140737488351232) (z2 : fp.size ≤ 140737488351232) (z3 : ed.size ≤ 140737488351232) (a1 : allDig ip = true) (a2 : allDig fp = true) (a3 : allDig ed = true) (w : World)
    (he : (e % 3 != 0) = false) (hmT : (sgn sign ++ ip).size ≤ maxLen) (hsc : scanP (sgn sign ++ ip) = some (4, false, ⟨#[]⟩, 0)) (hL : (sgn sign ++ ip).size ≤ 1024) (hi : ip.toList.isEmpty = false) (hmk : mkR (sign % 3 == 2) (ip ++ (⟨#[]⟩ : ByteArray)) 0 = none) :
    Calls Oajg.prog 7 #[.int .u8 sign, .string ip, .string fp, .bool false, .int .u8 e, .int .u8 esign, .string ed] w fun e w' => e = .returned (.bool true) ∧ Below w.heap.size w w' := by
  have hm1 : ip.size ≤ maxLen := by unfold maxLen; omega
  have hm2 : fp.size ≤ maxLen := by unfold maxLen; omega
  have hm3 : ed.size ≤ maxLen := by unfold maxLen; omega
  have HI : Hid (∀ w, Calls Oajg.prog 42 #[.string ip] w fun e w' => e = .returned (.bool true) ∧ w' = w) := fun w => by have := isDigits_any ip hm1 w; rw [a1] at this; exact this
  have HF : Hid (∀ w, Calls Oajg.prog 42 #[.string fp] w fun e w' => e = .returned (.bool true) ∧ w' = w) := fun w => by have := isDigits_any fp hm2 w; rw [a2] at this; exact this
  have HE : Hid (∀ w, Calls Oajg.prog 42 #[.string ed] w fun e w' => e = .returned (.bool true) ∧ w' = w) := fun w => by have := isDigits_any ed hm3 w; rw [a3] at this; exact this
  have g1 := sgn_size sign
  have g2 := sgn_size esign
  have g3 := exx_size e
  clear hm1 hm2 hm3
  have HSC : Hid _ := scan_some _ hmT 4 false ⟨#[]⟩ 0 hsc
  clear hsc
  have HMK : Hid (mkR (sign % 3 == 2) (ip ++ (⟨#[]⟩ : ByteArray)) 0 = none) := hmk
  clear hmk
  have one : (⟨#[46]⟩ : ByteArray).size = 1 := rfl
  have hL2 : ((sgn sign).size : Int) + ip.size ≤ 1024 := by simp only [ByteArray.size_append, one] at hL; omega
  have hsz : (ip ++ (⟨#[]⟩ : ByteArray)).size ≤ 1000000 := by rw [ByteArray.size_append]; show ip.size + 0 ≤ 1000000; omega
  clear one hmT
  go_enter Oajg.func7, Oajg.ntmps7
  go_wp2_with fail
  refine (HI.out _).mono ?_
  rintro _ _ ⟨rfl, rfl⟩
  go_wp2_with fail
  refine (HF.out _).mono ?_
  rintro _ _ ⟨rfl, rfl⟩
  go_wp2_with fail
  refine (HE.out _).mono ?_
  rintro _ _ ⟨rfl, rfl⟩
  go_wp2_with (first | (go_at_call 43; refine (signText_any sign s0 s1 _).mono ?_; rintro _ _ ⟨rfl, rfl⟩))
  refine (HSC.out _).mono ?_
  rintro _ w1 ⟨rfl, hb⟩
  go_wp2_with fail
  refine (make_none _ _ _ hsz (by omega) (by omega) _ (by exact HMK.out)).mono ?_
  rintro _ w2 ⟨rfl, hb2⟩
  obtain ⟨hc, hf, hz⟩ := bfacts hb2 (m := w1.heap.size + 1) (by simp)
  have hz1 : w1.heap.size < w2.heap.size := by omega
  go_wp2_with fail
  go_ret
  exact ⟨rfl, below_new (below_two hb hb2) _⟩


set_option maxRecDepth 100000 in
set_option maxHeartbeats 4000000 in
theorem np_a_some0 (sign e esign : Int) (ip fp ed : ByteArray) (s0 : 0 ≤ sign) (s1 : sign < 256) (e0 : 0 ≤ e) (e1 : e < 256) (t0 : 0 ≤ esign) (t1 : esign < 256)
    (z1 : ip.size ≤ 140737488351232) (z2 : fp.size ≤ 140737488351232) (z3 : ed.size ≤ 140737488351232) (a1 : allDig ip = true) (a2 : allDig fp = true) (a3 : allDig ed = true) (w : World)
    (he : (e % 3 != 0) = false) (hmT : (sgn sign ++ ip).size ≤ maxLen) (n : Bool) (t : ByteArray) (y : Int) (hsc : scanP (sgn sign ++ ip) = some (0, n, t, y)) (hL : (sgn sign ++ ip).size ≤ 1024) (hi : ip.toList.isEmpty = false) (hmk : mkR (sign % 3 == 2) (ip ++ (⟨#[]⟩ : ByteArray)) 0 = some (n, t, y)) :
    Calls Oajg.prog 7 #[.int .u8 sign, .string ip, .string fp, .bool false, .int .u8 e, .int .u8 esign, .string ed] w fun e w' => e = .returned (.bool true) ∧ Below w.heap.size w w' := by
  have hm1 : ip.size ≤ maxLen := by unfold maxLen; omega
  have hm2 : fp.size ≤ maxLen := by unfold maxLen; omega
  have hm3 : ed.size ≤ maxLen := by unfold maxLen; omega
  have HI : Hid (∀ w, Calls Oajg.prog 42 #[.string ip] w fun e w' => e = .returned (.bool true) ∧ w' = w) := fun w => by have := isDigits_any ip hm1 w; rw [a1] at this; exact this
  have HF : Hid (∀ w, Calls Oajg.prog 42 #[.string fp] w fun e w' => e = .returned (.bool true) ∧ w' = w) := fun w => by have := isDigits_any fp hm2 w; rw [a2] at this; exact this
  have HE : Hid (∀ w, Calls Oajg.prog 42 #[.string ed] w fun e w' => e = .returned (.bool true) ∧ w' = w) := fun w => by have := isDigits_any ed hm3 w; rw [a3] at this; exact this
  have g1 := sgn_size sign
  have g2 := sgn_size esign
  have g3 := exx_size e
  clear hm1 hm2 hm3
  have HSC : Hid _ := scan_some _ hmT 0 n t y hsc
  clear hsc
  have HMK : Hid (mkR (sign % 3 == 2) (ip ++ (⟨#[]⟩ : ByteArray)) 0 = some (n, t, y)) := hmk
  clear hmk
  have one : (⟨#[46]⟩ : ByteArray).size = 1 := rfl
  have hL2 : ((sgn sign).size : Int) + ip.size ≤ 1024 := by simp only [ByteArray.size_append, one] at hL; omega
  have hsz : (ip ++ (⟨#[]⟩ : ByteArray)).size ≤ 1000000 := by rw [ByteArray.size_append]; show ip.size + 0 ≤ 1000000; omega
  clear one hmT
  go_enter Oajg.func7, Oajg.ntmps7
  go_wp2_with fail
  refine (HI.out _).mono ?_
  rintro _ _ ⟨rfl, rfl⟩
  go_wp2_with fail
  refine (HF.out _).mono ?_
  rintro _ _ ⟨rfl, rfl⟩
  go_wp2_with fail
  refine (HE.out _).mono ?_
  rintro _ _ ⟨rfl, rfl⟩
  go_wp2_with (first | (go_at_call 43; refine (signText_any sign s0 s1 _).mono ?_; rintro _ _ ⟨rfl, rfl⟩))
  refine (HSC.out _).mono ?_
  rintro _ w1 ⟨rfl, hb⟩
  go_wp2_with fail
  refine (make_some _ _ _ hsz (by omega) (by omega) _ n t y (by exact HMK.out)).mono ?_
  rintro _ w2 ⟨rfl, hb2⟩
  obtain ⟨hc, hf, hz⟩ := bfacts hb2 (m := w1.heap.size + 1) (by simp)
  have hz1 : w1.heap.size < w2.heap.size := by omega
  go_wp2_with fail
  go_ret
  exact ⟨rfl, below_new (below_two hb hb2) _⟩


set_option maxRecDepth 100000 in
set_option maxHeartbeats 4000000 in
theorem ne_long (sign e esign : Int) (ip fp ed : ByteArray) (s0 : 0 ≤ sign) (s1 : sign < 256) (e0 : 0 ≤ e) (e1 : e < 256) (t0 : 0 ≤ esign) (t1 : esign < 256)
    (z1 : ip.size ≤ 140737488351232) (z2 : fp.size ≤ 140737488351232) (z3 : ed.size ≤ 140737488351232) (a1 : allDig ip = true) (a2 : allDig fp = true) (a3 : allDig ed = true) (w : World)
    (he : (e % 3 != 0) = true) (hmT : ((sgn sign ++ ip) ++ ((exx e ++ sgn esign) ++ ed)).size ≤ maxLen) (hsc : scanP ((sgn sign ++ ip) ++ ((exx e ++ sgn esign) ++ ed)) = some (4, false, ⟨#[]⟩, 0)) (hL : 1024 < ((sgn sign ++ ip) ++ ((exx e ++ sgn esign) ++ ed)).size) :
    Calls Oajg.prog 7 #[.int .u8 sign, .string ip, .string fp, .bool false, .int .u8 e, .int .u8 esign, .string ed] w fun e w' => e = .returned (.bool true) ∧ Below w.heap.size w w' := by
  have hm1 : ip.size ≤ maxLen := by unfold maxLen; omega
  have hm2 : fp.size ≤ maxLen := by unfold maxLen; omega
  have hm3 : ed.size ≤ maxLen := by unfold maxLen; omega
  have HI : Hid (∀ w, Calls Oajg.prog 42 #[.string ip] w fun e w' => e = .returned (.bool true) ∧ w' = w) := fun w => by have := isDigits_any ip hm1 w; rw [a1] at this; exact this
  have HF : Hid (∀ w, Calls Oajg.prog 42 #[.string fp] w fun e w' => e = .returned (.bool true) ∧ w' = w) := fun w => by have := isDigits_any fp hm2 w; rw [a2] at this; exact this
  have HE : Hid (∀ w, Calls Oajg.prog 42 #[.string ed] w fun e w' => e = .returned (.bool true) ∧ w' = w) := fun w => by have := isDigits_any ed hm3 w; rw [a3] at this; exact this
  have g1 := sgn_size sign
  have g2 := sgn_size esign
  have g3 := exx_size e
  clear hm1 hm2 hm3
  have HSC : Hid _ := scan_some _ hmT 4 false ⟨#[]⟩ 0 hsc
  clear hsc
  have one : (⟨#[46]⟩ : ByteArray).size = 1 := rfl
  have hL2 : 1024 < (((sgn sign).size : Int) + ip.size) + (((exx e).size : Int) + (sgn esign).size + ed.size) := by simp only [ByteArray.size_append, one] at hL; omega

  clear one hmT
  go_enter Oajg.func7, Oajg.ntmps7
  go_wp2_with fail
  refine (HI.out _).mono ?_
  rintro _ _ ⟨rfl, rfl⟩
  go_wp2_with fail
  refine (HF.out _).mono ?_
  rintro _ _ ⟨rfl, rfl⟩
  go_wp2_with fail
  refine (HE.out _).mono ?_
  rintro _ _ ⟨rfl, rfl⟩
  go_wp2_with (first | (go_at_call 43; refine (signText_any sign s0 s1 _).mono ?_; rintro _ _ ⟨rfl, rfl⟩))
  go_wp2_with (first | (go_at_call 44; refine (expText_any e e0 e1 _).mono ?_; rintro _ _ ⟨rfl, rfl⟩))
  refine (signText_any esign t0 t1 _).mono ?_
  rintro _ _ ⟨rfl, rfl⟩
  go_wp2_with fail
  refine (HSC.out _).mono ?_
  rintro _ w1 ⟨rfl, hb⟩
  go_wp2_with fail
  go_ret
  exact ⟨rfl, below_new (by assumption) _⟩

set_option maxRecDepth 100000 in
set_option maxHeartbeats 4000000 in
theorem ne_w1 (sign e esign : Int) (ip fp ed : ByteArray) (s0 : 0 ≤ sign) (s1 : sign < 256) (e0 : 0 ≤ e) (e1 : e < 256) (t0 : 0 ≤ esign) (t1 : esign < 256)
    (z1 : ip.size ≤ 140737488351232) (z2 : fp.size ≤ 140737488351232) (z3 : ed.size ≤ 140737488351232) (a1 : allDig ip = true) (a2 : allDig fp = true) (a3 : allDig ed = true) (w : World)
    (he : (e % 3 != 0) = true) (hmT : ((sgn sign ++ ip) ++ ((exx e ++ sgn esign) ++ ed)).size ≤ maxLen) (hsc : scanP ((sgn sign ++ ip) ++ ((exx e ++ sgn esign) ++ ed)) = none) (hL : ((sgn sign ++ ip) ++ ((exx e ++ sgn esign) ++ ed)).size ≤ 1024) (hi : ip.toList.isEmpty = true) :
    Calls Oajg.prog 7 #[.int .u8 sign, .string ip, .string fp, .bool false, .int .u8 e, .int .u8 esign, .string ed] w fun e w' => e = .returned (.bool true) ∧ Below w.heap.size w w' := by
  have hm1 : ip.size ≤ maxLen := by unfold maxLen; omega
  have hm2 : fp.size ≤ maxLen := by unfold maxLen; omega
  have hm3 : ed.size ≤ maxLen := by unfold maxLen; omega
  have HI : Hid (∀ w, Calls Oajg.prog 42 #[.string ip] w fun e w' => e = .returned (.bool true) ∧ w' = w) := fun w => by have := isDigits_any ip hm1 w; rw [a1] at this; exact this
  have HF : Hid (∀ w, Calls Oajg.prog 42 #[.string fp] w fun e w' => e = .returned (.bool true) ∧ w' = w) := fun w => by have := isDigits_any fp hm2 w; rw [a2] at this; exact this
  have HE : Hid (∀ w, Calls Oajg.prog 42 #[.string ed] w fun e w' => e = .returned (.bool true) ∧ w' = w) := fun w => by have := isDigits_any ed hm3 w; rw [a3] at this; exact this
  have g1 := sgn_size sign
  have g2 := sgn_size esign
  have g3 := exx_size e
  clear hm1 hm2 hm3
  have HSC : Hid _ := scan_wrong _ hmT hsc
  clear hsc
  have one : (⟨#[46]⟩ : ByteArray).size = 1 := rfl
  have hL2 : (((sgn sign).size : Int) + ip.size) + (((exx e).size : Int) + (sgn esign).size + ed.size) ≤ 1024 := by simp only [ByteArray.size_append, one] at hL; omega

  clear one hmT
  go_enter Oajg.func7, Oajg.ntmps7
  go_wp2_with fail
  refine (HI.out _).mono ?_
  rintro _ _ ⟨rfl, rfl⟩
  go_wp2_with fail
  refine (HF.out _).mono ?_
  rintro _ _ ⟨rfl, rfl⟩
  go_wp2_with fail
  refine (HE.out _).mono ?_
  rintro _ _ ⟨rfl, rfl⟩
  go_wp2_with (first | (go_at_call 43; refine (signText_any sign s0 s1 _).mono ?_; rintro _ _ ⟨rfl, rfl⟩))
  go_wp2_with (first | (go_at_call 44; refine (expText_any e e0 e1 _).mono ?_; rintro _ _ ⟨rfl, rfl⟩))
  refine (signText_any esign t0 t1 _).mono ?_
  rintro _ _ ⟨rfl, rfl⟩
  go_wp2_with fail
  refine (HSC.out _).mono ?_
  rintro _ w1 ⟨pp, gg, rfl, hb⟩
  go_wp2_with fail
  go_ret
  exact ⟨rfl, below_new (by assumption) _⟩

set_option maxRecDepth 100000 in
set_option maxHeartbeats 4000000 in
theorem ne_w2a (sign e esign : Int) (ip fp ed : ByteArray) (s0 : 0 ≤ sign) (s1 : sign < 256) (e0 : 0 ≤ e) (e1 : e < 256) (t0 : 0 ≤ esign) (t1 : esign < 256)
    (z1 : ip.size ≤ 140737488351232) (z2 : fp.size ≤ 140737488351232) (z3 : ed.size ≤ 140737488351232) (a1 : allDig ip = true) (a2 : allDig fp = true) (a3 : allDig ed = true) (w : World)
    (he : (e % 3 != 0) = true) (hmT : ((sgn sign ++ ip) ++ ((exx e ++ sgn esign) ++ ed)).size ≤ maxLen) (hsc : scanP ((sgn sign ++ ip) ++ ((exx e ++ sgn esign) ++ ed)) = none) (hL : ((sgn sign ++ ip) ++ ((exx e ++ sgn esign) ++ ed)).size ≤ 1024) (hi : ip.toList.isEmpty = false) (hd : ed.toList.isEmpty = true) :
    Calls Oajg.prog 7 #[.int .u8 sign, .string ip, .string fp, .bool false, .int .u8 e, .int .u8 esign, .string ed] w fun e w' => e = .returned (.bool true) ∧ Below w.heap.size w w' := by
  have hm1 : ip.size ≤ maxLen := by unfold maxLen; omega
  have hm2 : fp.size ≤ maxLen := by unfold maxLen; omega
  have hm3 : ed.size ≤ maxLen := by unfold maxLen; omega
  have HI : Hid (∀ w, Calls Oajg.prog 42 #[.string ip] w fun e w' => e = .returned (.bool true) ∧ w' = w) := fun w => by have := isDigits_any ip hm1 w; rw [a1] at this; exact this
  have HF : Hid (∀ w, Calls Oajg.prog 42 #[.string fp] w fun e w' => e = .returned (.bool true) ∧ w' = w) := fun w => by have := isDigits_any fp hm2 w; rw [a2] at this; exact this
  have HE : Hid (∀ w, Calls Oajg.prog 42 #[.string ed] w fun e w' => e = .returned (.bool true) ∧ w' = w) := fun w => by have := isDigits_any ed hm3 w; rw [a3] at this; exact this
  have g1 := sgn_size sign
  have g2 := sgn_size esign
  have g3 := exx_size e
  clear hm1 hm2 hm3
  have HSC : Hid _ := scan_wrong _ hmT hsc
  clear hsc
  have one : (⟨#[46]⟩ : ByteArray).size = 1 := rfl
  have hL2 : (((sgn sign).size : Int) + ip.size) + (((exx e).size : Int) + (sgn esign).size + ed.size) ≤ 1024 := by simp only [ByteArray.size_append, one] at hL; omega

  clear one hmT
  go_enter Oajg.func7, Oajg.ntmps7
  go_wp2_with fail
  refine (HI.out _).mono ?_
  rintro _ _ ⟨rfl, rfl⟩
  go_wp2_with fail
  refine (HF.out _).mono ?_
  rintro _ _ ⟨rfl, rfl⟩
  go_wp2_with fail
  refine (HE.out _).mono ?_
  rintro _ _ ⟨rfl, rfl⟩
  go_wp2_with (first | (go_at_call 43; refine (signText_any sign s0 s1 _).mono ?_; rintro _ _ ⟨rfl, rfl⟩))
  go_wp2_with (first | (go_at_call 44; refine (expText_any e e0 e1 _).mono ?_; rintro _ _ ⟨rfl, rfl⟩))
  refine (signText_any esign t0 t1 _).mono ?_
  rintro _ _ ⟨rfl, rfl⟩
  go_wp2_with fail
  refine (HSC.out _).mono ?_
  rintro _ w1 ⟨pp, gg, rfl, hb⟩
  go_wp2_with fail
  go_ret
  exact ⟨rfl, below_new (by assumption) _⟩

set_option maxRecDepth 100000 in
set_option maxHeartbeats 4000000 in
theorem ne_a_none0 (sign e esign : Int) (ip fp ed : ByteArray) (s0 : 0 ≤ sign) (s1 : sign < 256) (e0 : 0 ≤ e) (e1 : e < 256) (t0 : 0 ≤ esign) (t1 : esign < 256)
    (z1 : ip.size ≤ 140737488351232) (z2 : fp.size ≤ 140737488351232) (z3 : ed.size ≤ 140737488351232) (a1 : allDig ip = true) (a2 : allDig fp = true) (a3 : allDig ed = true) (w : World)
    (he : (e % 3 != 0) = true) (hmT : ((sgn sign ++ ip) ++ ((exx e ++ sgn esign) ++ ed)).size ≤ maxLen) (hsc : scanP ((sgn sign ++ ip) ++ ((exx e ++ sgn esign) ++ ed)) = some (4, false, ⟨#[]⟩, 0)) (hL : ((sgn sign ++ ip) ++ ((exx e ++ sgn esign) ++ ed)).size ≤ 1024) (hi : ip.toList.isEmpty = false) (hd : ed.toList.isEmpty = false) (hsg : (esign % 3 == 2) = false) (hmk : mkR (sign % 3 == 2) (ip ++ (⟨#[]⟩ : ByteArray)) (sat 0 ed.data.toList) = none) :
    Calls Oajg.prog 7 #[.int .u8 sign, .string ip, .string fp, .bool false, .int .u8 e, .int .u8 esign, .string ed] w fun e w' => e = .returned (.bool true) ∧ Below w.heap.size w w' := by
  have hm1 : ip.size ≤ maxLen := by unfold maxLen; omega
  have hm2 : fp.size ≤ maxLen := by unfold maxLen; omega
  have hm3 : ed.size ≤ maxLen := by unfold maxLen; omega
  have HI : Hid (∀ w, Calls Oajg.prog 42 #[.string ip] w fun e w' => e = .returned (.bool true) ∧ w' = w) := fun w => by have := isDigits_any ip hm1 w; rw [a1] at this; exact this
  have HF : Hid (∀ w, Calls Oajg.prog 42 #[.string fp] w fun e w' => e = .returned (.bool true) ∧ w' = w) := fun w => by have := isDigits_any fp hm2 w; rw [a2] at this; exact this
  have HE : Hid (∀ w, Calls Oajg.prog 42 #[.string ed] w fun e w' => e = .returned (.bool true) ∧ w' = w) := fun w => by have := isDigits_any ed hm3 w; rw [a3] at this; exact this
  have g1 := sgn_size sign
  have g2 := sgn_size esign
  have g3 := exx_size e
  clear hm1 hm2 hm3
  have HSC : Hid _ := scan_some _ hmT 4 false ⟨#[]⟩ 0 hsc
  clear hsc
  have HMK : Hid (mkR (sign % 3 == 2) (ip ++ (⟨#[]⟩ : ByteArray)) (sat 0 ed.data.toList) = none) := hmk
  clear hmk
  have one : (⟨#[46]⟩ : ByteArray).size = 1 := rfl
  have hL2 : (((sgn sign).size : Int) + ip.size) + (((exx e).size : Int) + (sgn esign).size + ed.size) ≤ 1024 := by simp only [ByteArray.size_append, one] at hL; omega
  have hsz : (ip ++ (⟨#[]⟩ : ByteArray)).size ≤ 1000000 := by rw [ByteArray.size_append]; show ip.size + 0 ≤ 1000000; omega
  clear one hmT
  go_enter Oajg.func7, Oajg.ntmps7
  go_wp2_with fail
  refine (HI.out _).mono ?_
  rintro _ _ ⟨rfl, rfl⟩
  go_wp2_with fail
  refine (HF.out _).mono ?_
  rintro _ _ ⟨rfl, rfl⟩
  go_wp2_with fail
  refine (HE.out _).mono ?_
  rintro _ _ ⟨rfl, rfl⟩
  go_wp2_with (first | (go_at_call 43; refine (signText_any sign s0 s1 _).mono ?_; rintro _ _ ⟨rfl, rfl⟩))
  go_wp2_with (first | (go_at_call 44; refine (expText_any e e0 e1 _).mono ?_; rintro _ _ ⟨rfl, rfl⟩))
  refine (signText_any esign t0 t1 _).mono ?_
  rintro _ _ ⟨rfl, rfl⟩
  go_wp2_with fail
  refine (HSC.out _).mono ?_
  rintro _ w1 ⟨rfl, hb⟩
  go_wp2_with fail
  go_loop [17, 18] (fun cx ci => ∃ k : Nat, k ≤ ed.size ∧ ci = .int .i64 k ∧ cx = .int .i64 (sat 0 (ed.data.toList.take k))) (fun _ i => ed.size - (intOf i).toNat)
  case atStart => exact ⟨0, Nat.zero_le _, rfl, rfl⟩
  case round =>
    obtain ⟨k, hk, rfl, rfl⟩ := hrel
    obtain ⟨q1, q2⟩ := sat_bd (ed.data.toList.take k) 0 (take_dig ed a3 k) (by decide) (by decide)
    by_cases hlt : k < ed.size
    · have HN : Hid (sat 0 (ed.data.toList.take (k + 1)) = min (10 * sat 0 (ed.data.toList.take k) + ((ed[k].toNat : Int) - 48)) 1000000) := sat_to ed k hlt
      obtain ⟨p1, p2⟩ := dig_at ed a3 k hlt
      generalize sat 0 (ed.data.toList.take k) = X at *
      by_cases hx : 1000000 < 10 * X + ((ed[k].toNat : Int) - 48)
      · go_wp2
        go_round
        case rel => exact ⟨k + 1, by omega, by go_num, by rw [HN.out]; congr 1; omega⟩
        case measure => simp [intOf]; omega
      · go_wp2
        go_round
        case rel => exact ⟨k + 1, by omega, by go_num, by rw [HN.out]; congr 1; omega⟩
        case measure => simp [intOf]; omega
    · have hke : k = ed.size := by omega
      subst hke
      rw [take_all ed _ hlt] at *
      generalize sat 0 ed.data.toList = X at *
      go_wp2_with fail
      refine (make_none _ _ _ hsz (by omega) (by omega) _ (by exact HMK.out)).mono ?_
      rintro _ w2 ⟨rfl, hb2⟩
      obtain ⟨hc, hf, hz⟩ := bfacts hb2 (m := w1.heap.size + 1) (by simp)
      have hz1 : w1.heap.size < w2.heap.size := by omega
      go_wp2_with fail
      go_ret
      exact ⟨rfl, below_new (below_two hb hb2) _⟩


set_option maxRecDepth 100000 in
set_option maxHeartbeats 4000000 in
theorem ne_a_none1 (sign e esign : Int) (ip fp ed : ByteArray) (s0 : 0 ≤ sign) (s1 : sign < 256) (e0 : 0 ≤ e) (e1 : e < 256) (t0 : 0 ≤ esign) (t1 : esign < 256)
    (z1 : ip.size ≤ 140737488351232) (z2 : fp.size ≤ 140737488351232) (z3 : ed.size ≤ 140737488351232) (a1 : allDig ip = true) (a2 : allDig fp = true) (a3 : allDig ed = true) (w : World)
    (he : (e % 3 != 0) = true) (hmT : ((sgn sign ++ ip) ++ ((exx e ++ sgn esign) ++ ed)).size ≤ maxLen) (hsc : scanP ((sgn sign ++ ip) ++ ((exx e ++ sgn esign) ++ ed)) = some (4, false, ⟨#[]⟩, 0)) (hL : ((sgn sign ++ ip) ++ ((exx e ++ sgn esign) ++ ed)).size ≤ 1024) (hi : ip.toList.isEmpty = false) (hd : ed.toList.isEmpty = false) (hsg : (esign % 3 == 2) = true) (hmk : mkR (sign % 3 == 2) (ip ++ (⟨#[]⟩ : ByteArray)) (- sat 0 ed.data.toList) = none) :
    Calls Oajg.prog 7 #[.int .u8 sign, .string ip, .string fp, .bool false, .int .u8 e, .int .u8 esign, .string ed] w fun e w' => e = .returned (.bool true) ∧ Below w.heap.size w w' := by
  have hm1 : ip.size ≤ maxLen := by unfold maxLen; omega
  have hm2 : fp.size ≤ maxLen := by unfold maxLen; omega
  have hm3 : ed.size ≤ maxLen := by unfold maxLen; omega
  have HI : Hid (∀ w, Calls Oajg.prog 42 #[.string ip] w fun e w' => e = .returned (.bool true) ∧ w' = w) := fun w => by have := isDigits_any ip hm1 w; rw [a1] at this; exact this
  have HF : Hid (∀ w, Calls Oajg.prog 42 #[.string fp] w fun e w' => e = .returned (.bool true) ∧ w' = w) := fun w => by have := isDigits_any fp hm2 w; rw [a2] at this; exact this
  have HE : Hid (∀ w, Calls Oajg.prog 42 #[.string ed] w fun e w' => e = .returned (.bool true) ∧ w' = w) := fun w => by have := isDigits_any ed hm3 w; rw [a3] at this; exact this
  have g1 := sgn_size sign
  have g2 := sgn_size esign
  have g3 := exx_size e
  clear hm1 hm2 hm3
  have HSC : Hid _ := scan_some _ hmT 4 false ⟨#[]⟩ 0 hsc
  clear hsc
  have HMK : Hid (mkR (sign % 3 == 2) (ip ++ (⟨#[]⟩ : ByteArray)) (- sat 0 ed.data.toList) = none) := hmk
  clear hmk
  have one : (⟨#[46]⟩ : ByteArray).size = 1 := rfl
  have hL2 : (((sgn sign).size : Int) + ip.size) + (((exx e).size : Int) + (sgn esign).size + ed.size) ≤ 1024 := by simp only [ByteArray.size_append, one] at hL; omega
  have hsz : (ip ++ (⟨#[]⟩ : ByteArray)).size ≤ 1000000 := by rw [ByteArray.size_append]; show ip.size + 0 ≤ 1000000; omega
  clear one hmT
  go_enter Oajg.func7, Oajg.ntmps7
  go_wp2_with fail
  refine (HI.out _).mono ?_
  rintro _ _ ⟨rfl, rfl⟩
  go_wp2_with fail
  refine (HF.out _).mono ?_
  rintro _ _ ⟨rfl, rfl⟩
  go_wp2_with fail
  refine (HE.out _).mono ?_
  rintro _ _ ⟨rfl, rfl⟩
  go_wp2_with (first | (go_at_call 43; refine (signText_any sign s0 s1 _).mono ?_; rintro _ _ ⟨rfl, rfl⟩))
  go_wp2_with (first | (go_at_call 44; refine (expText_any e e0 e1 _).mono ?_; rintro _ _ ⟨rfl, rfl⟩))
  refine (signText_any esign t0 t1 _).mono ?_
  rintro _ _ ⟨rfl, rfl⟩
  go_wp2_with fail
  refine (HSC.out _).mono ?_
  rintro _ w1 ⟨rfl, hb⟩
  go_wp2_with fail
  go_loop [17, 18] (fun cx ci => ∃ k : Nat, k ≤ ed.size ∧ ci = .int .i64 k ∧ cx = .int .i64 (sat 0 (ed.data.toList.take k))) (fun _ i => ed.size - (intOf i).toNat)
  case atStart => exact ⟨0, Nat.zero_le _, rfl, rfl⟩
  case round =>
    obtain ⟨k, hk, rfl, rfl⟩ := hrel
    obtain ⟨q1, q2⟩ := sat_bd (ed.data.toList.take k) 0 (take_dig ed a3 k) (by decide) (by decide)
    by_cases hlt : k < ed.size
    · have HN : Hid (sat 0 (ed.data.toList.take (k + 1)) = min (10 * sat 0 (ed.data.toList.take k) + ((ed[k].toNat : Int) - 48)) 1000000) := sat_to ed k hlt
      obtain ⟨p1, p2⟩ := dig_at ed a3 k hlt
      generalize sat 0 (ed.data.toList.take k) = X at *
      by_cases hx : 1000000 < 10 * X + ((ed[k].toNat : Int) - 48)
      · go_wp2
        go_round
        case rel => exact ⟨k + 1, by omega, by go_num, by rw [HN.out]; congr 1; omega⟩
        case measure => simp [intOf]; omega
      · go_wp2
        go_round
        case rel => exact ⟨k + 1, by omega, by go_num, by rw [HN.out]; congr 1; omega⟩
        case measure => simp [intOf]; omega
    · have hke : k = ed.size := by omega
      subst hke
      rw [take_all ed _ hlt] at *
      generalize sat 0 ed.data.toList = X at *
      go_wp2_with fail
      refine (make_none _ _ _ hsz (by omega) (by omega) _ (by exact HMK.out)).mono ?_
      rintro _ w2 ⟨rfl, hb2⟩
      obtain ⟨hc, hf, hz⟩ := bfacts hb2 (m := w1.heap.size + 1) (by simp)
      have hz1 : w1.heap.size < w2.heap.size := by omega
      go_wp2_with fail
      go_ret
      exact ⟨rfl, below_new (below_two hb hb2) _⟩


set_option maxRecDepth 100000 in
set_option maxHeartbeats 4000000 in
theorem ne_a_some0 (sign e esign : Int) (ip fp ed : ByteArray) (s0 : 0 ≤ sign) (s1 : sign < 256) (e0 : 0 ≤ e) (e1 : e < 256) (t0 : 0 ≤ esign) (t1 : esign < 256)
    (z1 : ip.size ≤ 140737488351232) (z2 : fp.size ≤ 140737488351232) (z3 : ed.size ≤ 140737488351232) (a1 : allDig ip = true) (a2 : allDig fp = true) (a3 : allDig ed = true) (w : World)
    (he : (e % 3 != 0) = true) (hmT : ((sgn sign ++ ip) ++ ((exx e ++ sgn esign) ++ ed)).size ≤ maxLen) (n : Bool) (t : ByteArray) (y : Int) (hsc : scanP ((sgn sign ++ ip) ++ ((exx e ++ sgn esign) ++ ed)) = some (0, n, t, y)) (hL : ((sgn sign ++ ip) ++ ((exx e ++ sgn esign) ++ ed)).size ≤ 1024) (hi : ip.toList.isEmpty = false) (hd : ed.toList.isEmpty = false) (hsg : (esign % 3 == 2) = false) (hmk : mkR (sign % 3 == 2) (ip ++ (⟨#[]⟩ : ByteArray)) (sat 0 ed.data.toList) = some (n, t, y)) :
    Calls Oajg.prog 7 #[.int .u8 sign, .string ip, .string fp, .bool false, .int .u8 e, .int .u8 esign, .string ed] w fun e w' => e = .returned (.bool true) ∧ Below w.heap.size w w' := by
  have hm1 : ip.size ≤ maxLen := by unfold maxLen; omega
  have hm2 : fp.size ≤ maxLen := by unfold maxLen; omega
  have hm3 : ed.size ≤ maxLen := by unfold maxLen; omega
  have HI : Hid (∀ w, Calls Oajg.prog 42 #[.string ip] w fun e w' => e = .returned (.bool true) ∧ w' = w) := fun w => by have := isDigits_any ip hm1 w; rw [a1] at this; exact this
  have HF : Hid (∀ w, Calls Oajg.prog 42 #[.string fp] w fun e w' => e = .returned (.bool true) ∧ w' = w) := fun w => by have := isDigits_any fp hm2 w; rw [a2] at this; exact this
  have HE : Hid (∀ w, Calls Oajg.prog 42 #[.string ed] w fun e w' => e = .returned (.bool true) ∧ w' = w) := fun w => by have := isDigits_any ed hm3 w; rw [a3] at this; exact this
  have g1 := sgn_size sign
  have g2 := sgn_size esign
  have g3 := exx_size e
  clear hm1 hm2 hm3
  have HSC : Hid _ := scan_some _ hmT 0 n t y hsc
  clear hsc
  have HMK : Hid (mkR (sign % 3 == 2) (ip ++ (⟨#[]⟩ : ByteArray)) (sat 0 ed.data.toList) = some (n, t, y)) := hmk
  clear hmk
  have one : (⟨#[46]⟩ : ByteArray).size = 1 := rfl
  have hL2 : (((sgn sign).size : Int) + ip.size) + (((exx e).size : Int) + (sgn esign).size + ed.size) ≤ 1024 := by simp only [ByteArray.size_append, one] at hL; omega
  have hsz : (ip ++ (⟨#[]⟩ : ByteArray)).size ≤ 1000000 := by rw [ByteArray.size_append]; show ip.size + 0 ≤ 1000000; omega
  clear one hmT
  go_enter Oajg.func7, Oajg.ntmps7
  go_wp2_with fail
  refine (HI.out _).mono ?_
  rintro _ _ ⟨rfl, rfl⟩
  go_wp2_with fail
  refine (HF.out _).mono ?_
  rintro _ _ ⟨rfl, rfl⟩
  go_wp2_with fail
  refine (HE.out _).mono ?_
  rintro _ _ ⟨rfl, rfl⟩
  go_wp2_with (first | (go_at_call 43; refine (signText_any sign s0 s1 _).mono ?_; rintro _ _ ⟨rfl, rfl⟩))
  go_wp2_with (first | (go_at_call 44; refine (expText_any e e0 e1 _).mono ?_; rintro _ _ ⟨rfl, rfl⟩))
  refine (signText_any esign t0 t1 _).mono ?_
  rintro _ _ ⟨rfl, rfl⟩
  go_wp2_with fail
  refine (HSC.out _).mono ?_
  rintro _ w1 ⟨rfl, hb⟩
  go_wp2_with fail
  go_loop [17, 18] (fun cx ci => ∃ k : Nat, k ≤ ed.size ∧ ci = .int .i64 k ∧ cx = .int .i64 (sat 0 (ed.data.toList.take k))) (fun _ i => ed.size - (intOf i).toNat)
  case atStart => exact ⟨0, Nat.zero_le _, rfl, rfl⟩
  case round =>
    obtain ⟨k, hk, rfl, rfl⟩ := hrel
    obtain ⟨q1, q2⟩ := sat_bd (ed.data.toList.take k) 0 (take_dig ed a3 k) (by decide) (by decide)
    by_cases hlt : k < ed.size
    · have HN : Hid (sat 0 (ed.data.toList.take (k + 1)) = min (10 * sat 0 (ed.data.toList.take k) + ((ed[k].toNat : Int) - 48)) 1000000) := sat_to ed k hlt
      obtain ⟨p1, p2⟩ := dig_at ed a3 k hlt
      generalize sat 0 (ed.data.toList.take k) = X at *
      by_cases hx : 1000000 < 10 * X + ((ed[k].toNat : Int) - 48)
      · go_wp2
        go_round
        case rel => exact ⟨k + 1, by omega, by go_num, by rw [HN.out]; congr 1; omega⟩
        case measure => simp [intOf]; omega
      · go_wp2
        go_round
        case rel => exact ⟨k + 1, by omega, by go_num, by rw [HN.out]; congr 1; omega⟩
        case measure => simp [intOf]; omega
    · have hke : k = ed.size := by omega
      subst hke
      rw [take_all ed _ hlt] at *
      generalize sat 0 ed.data.toList = X at *
      go_wp2_with fail
      refine (make_some _ _ _ hsz (by omega) (by omega) _ n t y (by exact HMK.out)).mono ?_
      rintro _ w2 ⟨rfl, hb2⟩
      obtain ⟨hc, hf, hz⟩ := bfacts hb2 (m := w1.heap.size + 1) (by simp)
      have hz1 : w1.heap.size < w2.heap.size := by omega
      go_wp2_with fail
      go_ret
      exact ⟨rfl, below_new (below_two hb hb2) _⟩


set_option maxRecDepth 100000 in
set_option maxHeartbeats 4000000 in
theorem ne_a_some1 (sign e esign : Int) (ip fp ed : ByteArray) (s0 : 0 ≤ sign) (s1 : sign < 256) (e0 : 0 ≤ e) (e1 : e < 256) (t0 : 0 ≤ esign) (t1 : esign < 256)
    (z1 : ip.size ≤ 140737488351232) (z2 : fp.size ≤ 140737488351232) (z3 : ed.size ≤ 140737488351232) (a1 : allDig ip = true) (a2 : allDig fp = true) (a3 : allDig ed = true) (w : World)
    (he : (e % 3 != 0) = true) (hmT : ((sgn sign ++ ip) ++ ((exx e ++ sgn esign) ++ ed)).size ≤ maxLen) (n : Bool) (t : ByteArray) (y : Int) (hsc : scanP ((sgn sign ++ ip) ++ ((exx e ++ sgn esign) ++ ed)) = some (0, n, t, y)) (hL : ((sgn sign ++ ip) ++ ((exx e ++ sgn esign) ++ ed)).size ≤ 1024) (hi : ip.toList.isEmpty = false) (hd : ed.toList.isEmpty = false) (hsg : (esign % 3 == 2) = true) (hmk : mkR (sign % 3 == 2) (ip ++ (⟨#[]⟩ : ByteArray)) (- sat 0 ed.data.toList) = some (n, t, y)) :
    Calls Oajg.prog 7 #[.int .u8 sign, .string ip, .string fp, .bool false, .int .u8 e, .int .u8 esign, .string ed] w fun e w' => e = .returned (.bool true) ∧ Below w.heap.size w w' := by
  have hm1 : ip.size ≤ maxLen := by unfold maxLen; omega
  have hm2 : fp.size ≤ maxLen := by unfold maxLen; omega
  have hm3 : ed.size ≤ maxLen := by unfold maxLen; omega
  have HI : Hid (∀ w, Calls Oajg.prog 42 #[.string ip] w fun e w' => e = .returned (.bool true) ∧ w' = w) := fun w => by have := isDigits_any ip hm1 w; rw [a1] at this; exact this
  have HF : Hid (∀ w, Calls Oajg.prog 42 #[.string fp] w fun e w' => e = .returned (.bool true) ∧ w' = w) := fun w => by have := isDigits_any fp hm2 w; rw [a2] at this; exact this
  have HE : Hid (∀ w, Calls Oajg.prog 42 #[.string ed] w fun e w' => e = .returned (.bool true) ∧ w' = w) := fun w => by have := isDigits_any ed hm3 w; rw [a3] at this; exact this
  have g1 := sgn_size sign
  have g2 := sgn_size esign
  have g3 := exx_size e
  clear hm1 hm2 hm3
  have HSC : Hid _ := scan_some _ hmT 0 n t y hsc
  clear hsc
  have HMK : Hid (mkR (sign % 3 == 2) (ip ++ (⟨#[]⟩ : ByteArray)) (- sat 0 ed.data.toList) = some (n, t, y)) := hmk
  clear hmk
  have one : (⟨#[46]⟩ : ByteArray).size = 1 := rfl
  have hL2 : (((sgn sign).size : Int) + ip.size) + (((exx e).size : Int) + (sgn esign).size + ed.size) ≤ 1024 := by simp only [ByteArray.size_append, one] at hL; omega
  have hsz : (ip ++ (⟨#[]⟩ : ByteArray)).size ≤ 1000000 := by rw [ByteArray.size_append]; show ip.size + 0 ≤ 1000000; omega
  clear one hmT
  go_enter Oajg.func7, Oajg.ntmps7
  go_wp2_with fail
  refine (HI.out _).mono ?_
  rintro _ _ ⟨rfl, rfl⟩
  go_wp2_with fail
  refine (HF.out _).mono ?_
  rintro _ _ ⟨rfl, rfl⟩
  go_wp2_with fail
  refine (HE.out _).mono ?_
  rintro _ _ ⟨rfl, rfl⟩
  go_wp2_with (first | (go_at_call 43; refine (signText_any sign s0 s1 _).mono ?_; rintro _ _ ⟨rfl, rfl⟩))
  go_wp2_with (first | (go_at_call 44; refine (expText_any e e0 e1 _).mono ?_; rintro _ _ ⟨rfl, rfl⟩))
  refine (signText_any esign t0 t1 _).mono ?_
  rintro _ _ ⟨rfl, rfl⟩
  go_wp2_with fail
  refine (HSC.out _).mono ?_
  rintro _ w1 ⟨rfl, hb⟩
  go_wp2_with fail
  go_loop [17, 18] (fun cx ci => ∃ k : Nat, k ≤ ed.size ∧ ci = .int .i64 k ∧ cx = .int .i64 (sat 0 (ed.data.toList.take k))) (fun _ i => ed.size - (intOf i).toNat)
  case atStart => exact ⟨0, Nat.zero_le _, rfl, rfl⟩
  case round =>
    obtain ⟨k, hk, rfl, rfl⟩ := hrel
    obtain ⟨q1, q2⟩ := sat_bd (ed.data.toList.take k) 0 (take_dig ed a3 k) (by decide) (by decide)
    by_cases hlt : k < ed.size
    · have HN : Hid (sat 0 (ed.data.toList.take (k + 1)) = min (10 * sat 0 (ed.data.toList.take k) + ((ed[k].toNat : Int) - 48)) 1000000) := sat_to ed k hlt
      obtain ⟨p1, p2⟩ := dig_at ed a3 k hlt
      generalize sat 0 (ed.data.toList.take k) = X at *
      by_cases hx : 1000000 < 10 * X + ((ed[k].toNat : Int) - 48)
      · go_wp2
        go_round
        case rel => exact ⟨k + 1, by omega, by go_num, by rw [HN.out]; congr 1; omega⟩
        case measure => simp [intOf]; omega
      · go_wp2
        go_round
        case rel => exact ⟨k + 1, by omega, by go_num, by rw [HN.out]; congr 1; omega⟩
        case measure => simp [intOf]; omega
    · have hke : k = ed.size := by omega
      subst hke
      rw [take_all ed _ hlt] at *
      generalize sat 0 ed.data.toList = X at *
      go_wp2_with fail
      refine (make_some _ _ _ hsz (by omega) (by omega) _ n t y (by exact HMK.out)).mono ?_
      rintro _ w2 ⟨rfl, hb2⟩
      obtain ⟨hc, hf, hz⟩ := bfacts hb2 (m := w1.heap.size + 1) (by simp)
      have hz1 : w1.heap.size < w2.heap.size := by omega
      go_wp2_with fail
      go_ret
      exact ⟨rfl, below_new (below_two hb hb2) _⟩


end Go.Proofs.Ygcoaj.scanParts
