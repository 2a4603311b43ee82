/-
  WALKS: nat.Succ, exact.toU64, nat.Shr (by less than 32), nat.divLimb.
-/
import Derived.Test.YgcoajNat5
set_option linter.unusedVariables false
set_option linter.unusedSimpArgs false
namespace Go.Proofs.Ygcoaj
open Go.RowKit

/-! ### Succ -/
theorem valL_zeros_behind (l : List Nat) (k : Nat) : valL (l ++ List.replicate k 0) = valL l := by rw [valL_append, valL_zero]; simp

theorem succ_more {c : List Nat} {i n : Nat} (hi : i < c.length) (hv : valL c + 4294967296 ^ i = n + 1) (hx : c.getD i 0 = 4294967295) : valL (c.set i 0) + 4294967296 ^ (i + 1) = n + 1 := by
  have e := valL_set c i 0 hi
  rw [hx] at e
  rw [Nat.pow_succ]
  generalize valL (c.set i 0) = V at *
  generalize valL c = U at *
  clear hx hi
  generalize 4294967296 ^ i = P at *
  have h2 : P * 4294967296 = P * 4294967295 + P := Nat.mul_succ P 4294967295
  obtain ⟨a, ha⟩ : ∃ a, a = P * 4294967295 := ⟨_, rfl⟩
  rw [← ha] at e h2
  rw [h2]
  omega
theorem succ_done {c : List Nat} {i n : Nat} (hi : i < c.length) (hv : valL c + 4294967296 ^ i = n + 1) : valL (c.set i (c.getD i 0 + 1)) = n + 1 := by
  have e := valL_set c i (c.getD i 0 + 1) hi
  rw [Nat.mul_add] at e
  omega

set_option maxRecDepth 100000 in
set_option maxHeartbeats 2000000 in
theorem succ_ok (B : Nat) (v : Value) (n : Nat) (w : World) (h : NatIs B w v n) (hB : B ≤ 1073741824) :
    Calls Oajg.prog 173 #[v] w fun e w' => ∃ v', e = .returned v' ∧ NatIs (B + 1) w' v' (n + 1) ∧ Below w.heap.size w w' := by
  have HT : Hid (Calls Oajg.prog 112 #[v] w fun e w' => e = .returned v ∧ w' = w) := trim_norm w h (by omega)
  have hcopy : ∃ (l : List Nat) (ad : Option Addr) (cap : Nat) (wc : World) (r : Value), v = .slice ad l.length cap ∧ valL l = n ∧ Limbs l ∧ l.length ≤ B ∧
      (Builtin.copy_ #[46, 46] 3 #[.slice (some ⟨w.heap.size, 0, none⟩) (l.length + 1) (l.length + 1), .slice ad l.length cap]).run Oajg.prog (w.alloc (.cells (madeCells #[.int .u32 0] (l.length + 1)) 57)) = .ok r wc ∧ RowAt wc w.heap.size (l ++ [0]) ∧ Below w.heap.size w wc := by
    by_cases hn : n = 0
    · subst hn
      have hv := h.of_zero
      subst hv
      exact ⟨[], none, 0, w.alloc (.cells (madeCells #[.int .u32 0] (0 + 1)) 57), _, rfl, rfl, by intro x hx; simp at hx, by simp, run_copy_none _ 46 46 3 57 _ _ _ _ _ _ Oajg.underlying46 (by kernel_rfl) (by simp), RowAt.made _ _, (Below.refl _ _).alloc (Nat.le_refl _) _⟩
    · obtain ⟨l, b, cap, h1, h2, h3, h4, h5, rfl, h7, h8, h9⟩ := h.of_pos hn
      obtain ⟨wc, hcp, hrow, hbel⟩ := copy_limbs (w := w.alloc (.cells (madeCells #[.int .u32 0] (l.length + 1)) 57)) (g := w.heap.size) (n := l.length + 1) (b := b) (cap := cap) (l := l) (RowAt.made _ _) (h9.kept h8 ((Below.refl _ _).alloc (Nat.le_refl _) _)) (Nat.le_succ _)
      rw [Nat.add_sub_cancel_left, List.replicate_one] at hrow
      exact ⟨l, _, cap, wc, _, rfl, h1, h2, h4, hcp, hrow, hbel _ _ (Nat.le_refl _) ((Below.refl _ _).alloc (Nat.le_refl _) _)⟩
  obtain ⟨l, ad, cap, wc, r, rfl, h1, h2, h4, hcp, hrow, hbel⟩ := hcopy
  have hmk : ∀ w, (Instr.makeSlice 46 (.int .i64 ((l.length : Int) + 1)) (.int .i64 ((l.length : Int) + 1))).run Oajg.prog w = .ok (.slice (some ⟨w.heap.size, 0, none⟩) (l.length + 1) (l.length + 1)) (w.alloc (.cells (madeCells #[.int .u32 0] (l.length + 1)) 57)) := run_make_limbs (l.length + 1) (by omega)
  have hlt := valL_lt l h2
  have HLT : Hid (n < 4294967296 ^ l.length) := by show _ < _; rw [← h1]; exact hlt
  have HROW : Hid (RowAt wc w.heap.size (l ++ [0])) := hrow
  have HBEL : Hid (Below w.heap.size w wc) := hbel
  have HV0 : Hid (valL (l ++ [0]) + 4294967296 ^ 0 = n + 1) := by
    show _ = _
    have := valL_zeros_behind l 1
    rw [List.replicate_one] at this
    rw [this, h1]
  have HLIM : Hid (Limbs (l ++ [0])) := by
    intro x hx
    simp only [List.mem_append, List.mem_singleton] at hx
    rcases hx with hx | hx
    · exact h2 x hx
    · subst hx; decide
  clear h h1 h2 hlt hrow hbel
  go_enter Oajg.func173, Oajg.ntmps173
  go_wp2_with fail
  refine Calls.mono HT.out ?_
  rintro _ w0 ⟨rfl, hw⟩
  subst w0
  go_wp2_with fail
  clear hcp HT
  go_loopw [16] (fun ci wr => ∃ i c, ci = .int .i64 (i : Nat) ∧ i ≤ l.length + 1 ∧ c.length = l.length + 1 ∧ Limbs c ∧ valL c + 4294967296 ^ i = n + 1 ∧ RowAt wr w.heap.size c ∧ Below w.heap.size w wr) (fun ci _ => l.length + 1 - (intOf ci).toNat)
  case atStart => exact ⟨0, _, rfl, by omega, by simp, HLIM.out, HV0.out, HROW.out, HBEL.out⟩
  case round =>
    clear HLIM HV0 HROW HBEL
    obtain ⟨i, c, rfl, hi, hcl, hlim, hv, hrow, hbel⟩ := hrel
    by_cases hil : i < l.length + 1
    · have hic : i < c.length := by omega
      have x3 := hrow.cell i hic
      have x4 := hrow.frozen
      have hxb := limbs_get c i hlim
      by_cases hx : c.getD i 0 = 4294967295
      · have HV : Hid (valL (c.set i 0) + 4294967296 ^ (i + 1) = n + 1) := succ_more hic hv hx
        have HR : Hid (RowAt (wr.setCell ⟨w.heap.size, i, none⟩ (.int .u32 ((0 : Nat) : Int))) w.heap.size (c.set i 0)) := hrow.set i 0
        have HB : Hid (Below w.heap.size w (wr.setCell ⟨w.heap.size, i, none⟩ (.int .u32 ((0 : Nat) : Int)))) := hbel.setCell (Nat.le_refl _) _
        have HLM : Hid (Limbs (c.set i 0)) := limbs_set _ _ _ hlim (by decide)
        have x5 := HR.out.cell i (by simpa using hic)
        rw [getD_set_same _ _ _ hic] at x5
        rw [hx] at x3
        have hcl2 : Hid ((c.set i 0).length = l.length + 1) := by show _ = _; simpa using hcl
        simp only [Int.natCast_zero] at HR HB x5
        clear hx hlim hv hrow hbel hxb hcl
        go_wp2_with fail
        go_roundw
        case rel => exact ⟨i + 1, _, by go_num, by omega, hcl2.out, HLM.out, HV.out, HR.out, HB.out⟩
        case measure => simp [intOf]; omega
      · have HV := succ_done hic hv
        have hR := hrow.set i (c.getD i 0 + 1)
        have HB : Hid (Below w.heap.size w (wr.setCell ⟨w.heap.size, i, none⟩ (.int .u32 ((c.getD i 0 + 1 : Nat) : Int)))) := hbel.setCell (Nat.le_refl _) _
        have x5 := hR.cell i (by simpa using hic)
        rw [getD_set_same _ _ _ hic] at x5
        have hT := trim_new w.heap.size (l.length + 1) (c.set i (c.getD i 0 + 1)) (B + 1) (by simp; omega) (by omega) (by simp; omega) (limbs_set _ _ _ hlim (by omega)) _ hR.lt hR.limbs
        have hcl2 : (c.set i (c.getD i 0 + 1)).length = l.length + 1 := by simpa using hcl
        rw [hcl2, HV] at hT
        have HTN : Hid (Calls Oajg.prog 112 #[.slice (some ⟨w.heap.size, 0, none⟩) (l.length + 1) (l.length + 1)] (wr.setCell ⟨w.heap.size, i, none⟩ (.int .u32 ((c.getD i 0 + 1 : Nat) : Int))) fun e w' => w' = (wr.setCell ⟨w.heap.size, i, none⟩ (.int .u32 ((c.getD i 0 + 1 : Nat) : Int))) ∧ ∃ v, e = .returned v ∧ NatIs (B + 1) (wr.setCell ⟨w.heap.size, i, none⟩ (.int .u32 ((c.getD i 0 + 1 : Nat) : Int))) v (n + 1)) := hT
        clear HV hR hT hcl2 hlim hv hrow hbel
        push_cast at HTN HB x5
        generalize c.getD i 0 = X at *
        have hx0 : (((X : Int) + 1) != 0) = true := by simp; omega
        go_wp2_with fail
        refine Calls.mono HTN.out ?_
        rintro _ w0 ⟨hw, v, rfl, hN⟩
        subst w0
        have HN : Hid (NatIs (B + 1) (wr.setCell ⟨w.heap.size, i, none⟩ (.int .u32 ((X : Int) + 1))) v (n + 1)) := hN
        clear hN
        go_wp2_with fail
        go_ret
        exact ⟨_, rfl, HN.out, HB.out⟩
    · exfalso
      have hie : i = l.length + 1 := by omega
      subst hie
      have := HLT.out
      have h3 := Nat.pow_succ 4294967296 l.length
      have h4 : 0 < 4294967296 ^ l.length := Nat.pow_pos (by decide)
      omega

/-! ### toU64 -/
theorem valL_low2 (x y : Nat) (l : List Nat) : valL (x :: y :: l) = x + 4294967296 * y + 18446744073709551616 * valL l := by simp only [valL]; omega

theorem or32 (r x : Nat) (hr : r < 4294967296) (hx : x < 4294967296) : bits .or .u64 ((r : Int) * 4294967296) (x : Int) = ((r * 4294967296 + x : Nat) : Int) := by
  have e : bits .or .u64 ((r * 4294967296 : Nat) : Int) (x : Int) = ((r * 4294967296 ||| x : Nat) : Int) := u64_or_nat _ _ (by omega) (by omega)
  rw [nat_join 32 (r * 4294967296) x (by omega) (by omega)] at e
  rw [← e]; congr 1

set_option maxRecDepth 100000 in
set_option maxHeartbeats 1000000 in
theorem toU64_ok (B : Nat) (v : Value) (n : Nat) (w : World) (h : NatIs B w v n) (hB : B ≤ 1073741824) (hn64 : n < 18446744073709551616) :
    Calls Oajg.prog 125 #[v] w fun e w' => e = .returned (.int .u64 (n : Int)) ∧ Below w.heap.size w w' := by
  by_cases hn : n = 0
  · subst hn
    have hv := h.of_zero
    subst hv
    clear h
    go_enter Oajg.func125, Oajg.ntmps125
    go_wp2_with fail
    go_ret
    exact ⟨rfl, Below.refl _ _⟩
  · obtain ⟨l, b, cap, h1, h2, h3, h4, h5, rfl, h7, h8, h9⟩ := h.of_pos hn
    have hpos := List.length_pos_iff.2 h5
    have hx := h9 0 _ (get_some l 0 hpos)
    rw [Nat.zero_add] at hx
    unfold lv at hx
    have hxb := limbs_get l 0 h2
    by_cases hl : 1 < l.length
    · have hy := h9 1 _ (get_some l 1 hl)
      rw [Nat.zero_add] at hy
      unfold lv at hy
      have hyb := limbs_get l 1 h2
      have hval : n = l.getD 1 0 * 4294967296 + l.getD 0 0 := by
        match l, hl, h1 with
        | x :: y :: r, _, h1 =>
          rw [valL_low2] at h1
          simp only [List.getD_cons_zero, List.getD_cons_succ] at *
          omega
      have k1 := or32 (l.getD 1 0) (l.getD 0 0) hyb hxb
      rw [← hval] at k1
      generalize l.getD 0 0 = X at *
      generalize l.getD 1 0 = Y at *
      generalize l.length = Z at *
      clear h h1 h2 h3 h5 h7 h9 hn hval
      go_enter Oajg.func125, Oajg.ntmps125
      go_wp2_with fail
      go_ret
      exact ⟨rfl, Below.refl _ _⟩
    · have hval : n = l.getD 0 0 := by
        match l, hl, h5, h1 with
        | [x], _, _, h1 => simp only [valL, List.getD_cons_zero] at *; omega
        | x :: y :: r, hl, _, _ => simp at hl
      subst hval
      have k1 : bits .or .u64 0 ((l.getD 0 0 : Nat) : Int) = ((l.getD 0 0 : Nat) : Int) := by
        have := or32 0 (l.getD 0 0) (by decide) hxb
        simpa using this
      generalize l.getD 0 0 = X at *
      generalize l.length = Z at *
      clear h h1 h2 h3 h5 h7 h9 hn
      go_enter Oajg.func125, Oajg.ntmps125
      go_wp2_with fail
      go_ret
      exact ⟨rfl, Below.refl _ _⟩


/-! ### divLimb -/
structure LimbTo (a : List Nat) (d i : Nat) (q : List Nat) (rest : Nat) : Prop where
  len : q.length = a.length
  lim : Limbs q
  val : valL a = valL q * d + 4294967296 ^ i * rest + valL (a.take i)
  zero : ∀ k, k < i → q.getD k 0 = 0
  lt : rest < d

theorem limb_step {a : List Nat} {d i : Nat} {q : List Nat} {rest : Nat} (h : LimbTo a d (i + 1) q rest) (hi : i < a.length) (ha : Limbs a) {t : Nat} (ht : t = rest * 4294967296 + a.getD i 0) :
    t / d < 4294967296 ∧ LimbTo a d i (q.set i (t / d)) (t % d) := by
  obtain ⟨h1, h2, h3, h4, h5⟩ := h
  have hx := limbs_get a i ha
  have hd : 0 < d := by omega
  have htd : t / d < 4294967296 := by
    refine (Nat.div_lt_iff_lt_mul hd).2 ?_
    have h3 : (rest + 1) * 4294967296 ≤ d * 4294967296 := Nat.mul_le_mul_right _ h5
    rw [Nat.mul_comm 4294967296]
    rw [ht]; omega
  refine ⟨htd, by simp [h1], limbs_set _ _ _ h2 htd, ?_, ?_, Nat.mod_lt _ hd⟩
  · have e1 := valL_set q i (t / d) (by omega)
    rw [h4 i (by omega), Nat.mul_zero, Nat.add_zero] at e1
    rw [e1]
    conv => lhs; rw [h3]
    rw [valL_take_succ a i hi, Nat.pow_succ]
    have e2 := Nat.div_add_mod t d
    generalize t / d = x at *
    generalize t % d = y at *
    generalize 4294967296 ^ i = P at *
    generalize a.getD i 0 = z at *
    generalize valL (List.take i a) = u at *
    generalize valL q = v at *
    have e3 : P * (d * x + y) = P * (rest * 4294967296 + z) := by rw [e2, ht]
    grind
  · intro k hk
    rw [getD_set_ne' _ _ _ _ (by omega)]
    exact h4 k (by omega)

theorem limb0 (a : List Nat) (d : Nat) (hd : 0 < d) : LimbTo a d a.length (List.replicate a.length 0) 0 :=
  ⟨by simp, limbs_zero _, by simp [valL_zero], fun k _ => getD_zero _ _, hd⟩
theorem limb_end {a : List Nat} {d : Nat} {q : List Nat} {rest : Nat} (h : LimbTo a d 0 q rest) : valL q = valL a / d ∧ rest = valL a % d := by
  have h3 := h.val
  have h5 := h.lt
  have hd : 0 < d := by omega
  rw [List.take_zero, Nat.pow_zero, Nat.one_mul] at h3
  have h3' : valL a = d * valL q + rest := by rw [h3, Nat.mul_comm]; simp [valL]
  rw [h3', Nat.mul_add_mod, Nat.mod_eq_of_lt h5, Nat.mul_add_div hd, Nat.div_eq_of_lt h5]
  simp

set_option maxRecDepth 100000 in
set_option maxHeartbeats 2000000 in
theorem divLimb_ok (B : Nat) (l : List Nat) (b cap d : Nat) (h2 : Limbs l) (h4 : l.length ≤ B) (w : World) (h8 : b < w.heap.size) (h9 : LimbsAt w b 0 l) (hB : B ≤ 1073741824) (hd0 : 0 < d) (hd : d < 4294967296) :
    Calls Oajg.prog 167 #[.slice (some ⟨b, 0, none⟩) l.length cap, .int .u32 (d : Int)] w fun e w' => ∃ ad k c, e = .returned (.tuple #[.slice ad k c, .int .u32 ((valL l % d : Nat) : Int)]) ∧ NatIs B w' (.slice ad k c) (valL l / d) ∧ Below w.heap.size w w' := by
  have hmk := run_make_limbs l.length (by omega)
  have HAT : Hid (LimbsAt w b 0 l) := h9
  have HL0 : Hid (LimbTo l d l.length (List.replicate l.length 0) 0) := limb0 l d hd0
  have HB0 : Hid (Below w.heap.size w (w.alloc (.cells (madeCells #[.int .u32 0] l.length) 57))) := (Below.refl _ _).alloc (Nat.le_refl _) _
  clear h9
  go_enter Oajg.func167, Oajg.ntmps167
  go_wp2_with fail
  go_loopw [8, 7] (fun ci cr wr => ∃ i c rest : _, ci = .int .i64 ((i : Nat) - 1 : Int) ∧ cr = .int .u64 (rest : Nat) ∧ i ≤ l.length ∧ LimbTo l d i c rest ∧ RowAt wr w.heap.size c ∧ Below w.heap.size w wr) (fun ci _ _ => (intOf ci + 1).toNat)
  case atStart => exact ⟨l.length, _, 0, rfl, rfl, Nat.le_refl _, HL0.out, RowAt.made _ _, HB0.out⟩
  case round =>
    clear HL0 HB0
    obtain ⟨i, c, rest, rfl, rfl, hi, hm, hrow, hbel⟩ := hrel
    cases i with
    | zero =>
      obtain ⟨e1, e2⟩ := limb_end hm
      have hlen := hm.len
      have hT := trim_new w.heap.size l.length c B (by rw [hlen]; omega) (by omega) (by rw [hlen]; exact Nat.le_refl _) hm.lim _ hrow.lt hrow.limbs
      rw [hlen, e1] at hT
      have HTN : Hid (Calls Oajg.prog 112 #[.slice (some ⟨w.heap.size, 0, none⟩) l.length l.length] wr fun e w' => w' = wr ∧ ∃ v, e = .returned v ∧ NatIs B wr v (valL l / d)) := hT
      have HB : Hid (Below w.heap.size w wr) := hbel
      have hrd := hm.lt
      have HRE : Hid (rest = valL l % d) := e2
      clear hm hrow hbel hT hlen e1 e2
      go_wp2_with fail
      refine Calls.mono HTN.out ?_
      rintro _ w0 ⟨hw, v, rfl, hN⟩
      subst w0
      have HN : Hid (NatIs B wr v (valL l / d)) := hN
      obtain ⟨ad, k, cc, rfl⟩ : ∃ ad k c, v = .slice ad k c := by
        obtain ⟨l', _, _, _, _, hh⟩ := hN
        rcases hh with ⟨_, rfl⟩ | ⟨_, b', cap', rfl, _⟩
        · exact ⟨_, _, _, rfl⟩
        · exact ⟨_, _, _, rfl⟩
      clear hN
      go_wp2_with fail
      go_ret2
      exact ⟨_, _, _, by rw [← HRE.out]; rfl, HN.out, HB.out⟩
    | succ i =>
      have hil : i < l.length := by omega
      have x1 := limb_at HAT.out h8 hbel i hil
      have hxb := limbs_get l i h2
      have hrd := hm.lt
      obtain ⟨t, ht⟩ : ∃ t, t = rest * 4294967296 + l.getD i 0 := ⟨_, rfl⟩
      obtain ⟨g1, g2⟩ := limb_step hm hil h2 ht
      have k1 := or32 rest (l.getD i 0) (by omega) hxb
      rw [← ht] at k1
      have ht64 : t < 18446744073709551616 := by omega
      have k2 : (t : Int).tdiv (d : Int) = ((t / d : Nat) : Int) := by rw [Int.tdiv_eq_ediv_of_nonneg (by omega)]; rfl
      have k3 : (t : Int).tmod (d : Int) = ((t % d : Nat) : Int) := by rw [Int.tmod_eq_emod_of_nonneg (by omega)]; rfl
      have k4 : (t : Int) / (d : Int) = ((t / d : Nat) : Int) := rfl
      have k5 : (t : Int) % (d : Int) = ((t % d : Nat) : Int) := rfl
      have hrem : t % d < 4294967296 := by have := Nat.mod_lt t hd0; omega
      have hcl : i < c.length := by rw [hm.len]; exact hil
      have x3 := hrow.cell i hcl
      have x4 := hrow.frozen
      have HM : Hid (LimbTo l d i (c.set i (t / d)) (t % d)) := g2
      have HR : Hid (RowAt (wr.setCell ⟨w.heap.size, i, none⟩ (.int .u32 ((t / d : Nat) : Int))) w.heap.size (c.set i (t / d))) := hrow.set _ _
      have HB : Hid (Below w.heap.size w (wr.setCell ⟨w.heap.size, i, none⟩ (.int .u32 ((t / d : Nat) : Int)))) := hbel.setCell (Nat.le_refl _) _
      have hd0' : ((d : Int) == 0) = false := by simp; omega
      generalize t / d = Q at *
      generalize t % d = R at *
      generalize l.getD i 0 = X at *
      generalize c.getD i 0 = C at *
      clear hm hrow hbel g2 ht
      go_wp2_with fail
      go_roundw
      case rel => exact ⟨i, _, _, by go_num, rfl, by omega, HM.out, HR.out, HB.out⟩
      case measure => simp [intOf]

end Go.Proofs.Ygcoaj
