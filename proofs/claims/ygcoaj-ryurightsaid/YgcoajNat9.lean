/-
  WALKS: nat.divLong.
-/
import Derived.Test.YgcoajNat8
import Derived.Test.YgcoajRat0
import Derived.Deep.RegionHeld3
set_option linter.unusedVariables false
set_option linter.unusedSimpArgs false
namespace Go.Proofs.Ygcoaj
open Go.RowKit

theorem lifted_len {a A : List Nat} {s : Nat} (ha : Limbs a) (hA : Limbs A) (hn : NormL A) (hne : A ≠ []) (e : valL A = valL a * 2 ^ s) (hs : s ≤ 32) : A.length ≤ a.length + 1 := by
  have h1 := normL_pos A hn hne
  have h2 := valL_lt a ha
  have h3 : valL a * 2 ^ s < 4294967296 ^ a.length * 4294967296 := by
    have : 2 ^ s ≤ 2 ^ 32 := Nat.pow_le_pow_right (by decide) hs
    have h4 : valL a * 2 ^ s < 4294967296 ^ a.length * 2 ^ s := Nat.mul_lt_mul_of_pos_right h2 (Nat.pow_pos (by decide))
    have h5 : 4294967296 ^ a.length * 2 ^ s ≤ 4294967296 ^ a.length * 4294967296 := Nat.mul_le_mul_left _ this
    omega
  rw [← e, ← Nat.pow_succ] at h3
  have h6 : 4294967296 ^ (A.length - 1) < 4294967296 ^ (a.length + 1) := Nat.lt_of_le_of_lt h1 h3
  have := (Nat.pow_lt_pow_iff_right (by decide)).1 h6
  omega

theorem dv_next {wr W W' : World} {b1 o1 b2 o2 b3 o3 b4 o4 b5 o5 : Nat} {v1 v2 v3 v4 v5 : Value} (h : W.cell? ⟨b1, o1, none⟩ = some v1 ∧ W.cell? ⟨b2, o2, none⟩ = some v2 ∧ W.cell? ⟨b3, o3, none⟩ = some v3 ∧ W.cell? ⟨b4, o4, none⟩ = some v4 ∧ W.cell? ⟨b5, o5, none⟩ = some v5 ∧ Below wr.heap.size wr W) (hb : Below W.heap.size W W') :
    W'.cell? ⟨b1, o1, none⟩ = some v1 ∧ W'.cell? ⟨b2, o2, none⟩ = some v2 ∧ W'.cell? ⟨b3, o3, none⟩ = some v3 ∧ W'.cell? ⟨b4, o4, none⟩ = some v4 ∧ W'.cell? ⟨b5, o5, none⟩ = some v5 ∧ Below wr.heap.size wr W' := by
  obtain ⟨h1, h2, h3, h4, h5, h6⟩ := h
  exact ⟨(hb.cell (p := ⟨b1, o1, none⟩) (cell_lt h1)).trans h1, (hb.cell (p := ⟨b2, o2, none⟩) (cell_lt h2)).trans h2, (hb.cell (p := ⟨b3, o3, none⟩) (cell_lt h3)).trans h3, (hb.cell (p := ⟨b4, o4, none⟩) (cell_lt h4)).trans h4, (hb.cell (p := ⟨b5, o5, none⟩) (cell_lt h5)).trans h5, below_then h6 hb⟩
theorem dv_drew {wr W : World} {b1 o1 b2 o2 b3 o3 b4 o4 b5 o5 : Nat} {v1 v2 v3 v4 v5 : Value} (h : W.cell? ⟨b1, o1, none⟩ = some v1 ∧ W.cell? ⟨b2, o2, none⟩ = some v2 ∧ W.cell? ⟨b3, o3, none⟩ = some v3 ∧ W.cell? ⟨b4, o4, none⟩ = some v4 ∧ W.cell? ⟨b5, o5, none⟩ = some v5 ∧ Below wr.heap.size wr W) :
    W.drew.cell? ⟨b1, o1, none⟩ = some v1 ∧ W.drew.cell? ⟨b2, o2, none⟩ = some v2 ∧ W.drew.cell? ⟨b3, o3, none⟩ = some v3 ∧ W.drew.cell? ⟨b4, o4, none⟩ = some v4 ∧ W.drew.cell? ⟨b5, o5, none⟩ = some v5 ∧ Below wr.heap.size wr W.drew := by
  obtain ⟨h1, h2, h3, h4, h5, h6⟩ := h
  exact ⟨h1, h2, h3, h4, h5, h6.drew⟩

set_option maxRecDepth 100000 in
set_option maxHeartbeats 2000000 in
theorem divLong_ok (B : Nat) (a b : List Nat) (ba ca bb cb m : Nat) (la : Limbs a) (lb : Limbs b) (na : NormL a) (nb : NormL b) (hla : a.length ≤ B) (hlb : b.length = m + 2) (hge : b.length ≤ a.length) (hca : a.length ≤ ca) (hcb : b.length ≤ cb) (w : World)
    (hba : ba < w.heap.size) (hbb : bb < w.heap.size) (ata : LimbsAt w ba 0 a) (atb : LimbsAt w bb 0 b) (hB : B ≤ 1000000000) :
    Calls Oajg.prog 168 #[.slice (some ⟨ba, 0, none⟩) a.length ca, .slice (some ⟨bb, 0, none⟩) b.length cb] w fun e w' => ∃ ad1 k1 c1 ad2 k2 c2, e = .returned (.tuple #[.slice ad1 k1 c1, .slice ad2 k2 c2]) ∧ NatIs (B + 1) w' (.slice ad1 k1 c1) (valL a / valL b) ∧ NatIs (B + 1) w' (.slice ad2 k2 c2) (valL a % valL b) ∧ Below w.heap.size w w' := by
  have htop := norm_top (t := m + 1) hlb nb
  have hane : a ≠ [] := by rintro rfl; rw [hlb] at hge; simp at hge
  have hxb := limbs_get b (m + 1) lb
  have HW : Hid (∀ w, Calls Oajg.prog 126 #[.int .u32 ((b.getD (m + 1) 0 : Nat) : Int)] w fun e w' => e = .returned (.int .i64 (bitLen (b.getD (m + 1) 0) : Nat)) ∧ w' = w) := width32_ok _ hxb
  have x0 := atb (m + 1) _ (get_some b (m + 1) (by omega))
  rw [Nat.zero_add] at x0
  unfold lv at x0
  have hL := bitLen_le_of_lt (n := 32) (x := b.getD (m + 1) 0) hxb
  have hL1 := bitLen_pos htop
  obtain ⟨s, hs⟩ : ∃ s, s = 32 - bitLen (b.getD (m + 1) 0) := ⟨_, rfl⟩
  have HS : Hid (s = 32 - bitLen (b.getD (m + 1) 0)) := hs
  have hs31 : s ≤ 31 := by omega
  have ks : (32 : Int) - ((bitLen (b.getD (m + 1) 0) : Nat) : Int) = (s : Int) := by omega
  have hNb : NatIs B w (.slice (some ⟨bb, 0, none⟩) b.length cb) (valL b) := ⟨b, rfl, lb, nb, by omega, Or.inr ⟨by rintro rfl; simp at hlb, bb, cb, rfl, hcb, hbb, atb⟩⟩
  have hNa : NatIs B w (.slice (some ⟨ba, 0, none⟩) a.length ca) (valL a) := ⟨a, rfl, la, na, hla, Or.inr ⟨hane, ba, ca, rfl, hca, hba, ata⟩⟩
  have hvb : valL b ≠ 0 := by
    intro h0
    have := normL_zero b nb h0
    rw [this] at hlb; simp at hlb
  have hva : valL a ≠ 0 := by
    intro h0
    exact hane (normL_zero a na h0)
  have HTOP : Hid (b.getD (m + 1) 0 ≠ 0) := htop
  have HL1 := lift_any B _ _ s w hNb (by omega) (by omega)
  have HLB : Hid (Calls Oajg.prog 130 #[.slice (some ⟨bb, 0, none⟩) b.length cb, .int .i64 (s : Int)] w fun e w' => ∃ v', e = .returned v' ∧ NatIs (B + s / 32 + 1) w' v' (valL b * 2 ^ s) ∧ Below w.heap.size w w') := HL1
  have HNA : Hid (NatIs B w (.slice (some ⟨ba, 0, none⟩) a.length ca) (valL a)) := hNa
  have HVA : Hid (valL a ≠ 0) := hva
  have HVB : Hid (valL b ≠ 0) := hvb
  have HLEN : Hid (b.length = m + 2) := hlb
  rw [hlb] at HLB hge ⊢
  obtain ⟨k, hk⟩ : ∃ k, k = a.length - (m + 1) := ⟨_, rfl⟩
  have kq : (a.length : Int) - ((m : Int) + 2) + 1 = (k : Int) := by omega
  have HK : Hid (k = a.length - (m + 1)) := hk
  clear HL1 hNb hNa na nb ata atb hs hva hvb htop hlb hcb hca hk hane
  obtain ⟨X, HX⟩ : ∃ X, Hid (b.getD (m + 1) 0 = X) := ⟨_, rfl⟩
  rw [HX.out] at x0 HW hxb ks hL hL1
  generalize bitLen X = L at ks hL hL1 HW
  have hmk : ∀ w, (Instr.makeSlice 46 (.int .i64 ((a.length : Int) + 1)) (.int .i64 ((a.length : Int) + 1))).run Oajg.prog w = .ok (.slice (some ⟨w.heap.size, 0, none⟩) (a.length + 1) (a.length + 1)) (w.alloc (.cells (madeCells #[.int .u32 0] (a.length + 1)) 57)) := run_make_limbs (a.length + 1) (by omega)
  have hmk2 := run_make_limbs k (by omega)
  go_enter Oajg.func168, Oajg.ntmps168
  go_wp2_with fail
  refine Calls.mono (HW.out _) ?_
  rintro _ w0 ⟨rfl, hw⟩
  subst w0
  go_wp2_with fail
  refine Calls.mono HLB.out ?_
  rintro _ w1 ⟨v1, rfl, hd, hb1⟩
  obtain ⟨d, bd, cd, ed, ld, nd, hdl, hdne, rfl, hcd, hbd, atd⟩ := hd.of_pos (Nat.mul_ne_zero HVB.out (Nat.ne_of_gt (Nat.pow_pos (by decide))))
  obtain ⟨hdl2, hdtop⟩ := lifted_top (n := m + 1) HLEN.out lb HTOP.out HS.out ld nd ed
  have hdlen : d.length = m + 2 := hdl2
  clear hdl2
  have HB1 : Hid (Below w.heap.size w w1) := hb1
  have HATD : Hid (LimbsAt w1 bd 0 d) := atd
  have HED : Hid (valL d = valL b * 2 ^ s) := ed
  have HLA : Hid (Calls Oajg.prog 130 #[.slice (some ⟨ba, 0, none⟩) a.length ca, .int .i64 (s : Int)] (w1.alloc (.cells (madeCells #[.int .u32 0] (a.length + 1)) 57)) fun e w' => ∃ v', e = .returned v' ∧ NatIs (B + s / 32 + 1) w' v' (valL a * 2 ^ s) ∧ Below (w1.alloc (.cells (madeCells #[.int .u32 0] (a.length + 1)) 57)).heap.size (w1.alloc (.cells (madeCells #[.int .u32 0] (a.length + 1)) 57)) w') :=
    lift_any B _ _ s _ (HNA.out.kept (hb1.alloc hb1.size _)) (by omega) (by omega)
  clear hd hb1 nd atd ed HLB HW
  go_wp2_with fail
  refine Calls.mono HLA.out ?_
  rintro _ w2 ⟨v2, rfl, hA, hb2⟩
  obtain ⟨A2, bA, cA, eA, lA, nA, hAl, hAne, rfl, hcA, hbA, atA⟩ := hA.of_pos (Nat.mul_ne_zero HVA.out (Nat.ne_of_gt (Nat.pow_pos (by decide))))
  have hlenA := lifted_len la lA nA hAne eA (by omega)
  have hgl : w1.heap.size < (w1.alloc (.cells (madeCells #[.int .u32 0] (a.length + 1)) 57)).heap.size := by simp
  obtain ⟨wc, hcp, hrowc, hbelc⟩ := copy_limbs (w := w2) (g := w1.heap.size) (n := a.length + 1) (b := bA) (cap := cA) (l := A2) ((RowAt.made w1 (a.length + 1)).kept (hb2.block _ hgl)) atA hlenA
  have HBC : Hid (Below w1.heap.size w1 wc) := hbelc _ _ (Nat.le_refl _) (below_then ((Below.refl _ _).alloc (Nat.le_refl _) _) hb2)
  have HU0 : Hid (DivTo (valL a * 2 ^ s) d a.length k (A2 ++ List.replicate (a.length + 1 - A2.length) 0) (List.replicate k 0)) := by
    refine div0 (n := m + 1) HLEN.out lb HTOP.out la hdlen HED.out rfl (by rw [valL_zeros_behind, eA]) (by simp; omega) ?_ hge k HK.out
    intro x hx
    simp only [List.mem_append] at hx
    rcases hx with hx | hx
    · exact lA x hx
    · exact limbs_zero _ x hx
  have HROWC : Hid (RowAt wc w1.heap.size (A2 ++ List.replicate (a.length + 1 - A2.length) 0)) := hrowc
  generalize A2 ++ List.replicate (a.length + 1 - A2.length) 0 = U0 at *
  clear hA hb2 lA nA hAl hAne hcA atA eA hbelc hrowc HLA
  go_wp2_with fail
  have HBQ : Hid (Below w1.heap.size w1 (wc.alloc (.cells (madeCells #[.int .u32 0] k) 57))) := HBC.out.alloc HBC.out.size _
  have hgc : Hid (w1.heap.size < wc.heap.size) := HROWC.out.lt
  have HRQ : Hid (RowAt (wc.alloc (.cells (madeCells #[.int .u32 0] k) 57)) w1.heap.size U0) := HROWC.out.kept (Below.heap_alloc wc _ _ hgc.out)
  clear HROWC HBC hcp
  have hbdg : bd ≠ w1.heap.size := by omega
  have hgq : w1.heap.size ≠ wc.heap.size := by have := hgc.out; omega
  have hgq2 : w1.heap.size ≠ wc.heap.size := hgq
  go_loopw [11] (fun cj wr => ∃ j U q, cj = .int .i64 ((j : Nat) - 1 : Int) ∧ DivTo (valL a * 2 ^ s) d a.length j U q ∧ RowAt wr w1.heap.size U ∧ RowAt wr wc.heap.size q ∧ Below w1.heap.size w1 wr) (fun cj _ => (intOf cj + 1).toNat)
  case atStart => exact ⟨k, U0, _, rfl, HU0.out, HRQ.out, RowAt.made _ _, HBQ.out⟩
  case round =>
    clear HU0 HRQ HBQ U0
    obtain ⟨j, U, q, rfl, hm, hrow, hrq, hbel⟩ := hrel
    cases j with
    | zero =>
      obtain ⟨e1, e2⟩ := div_end hm
      rw [HED.out, Nat.mul_div_mul_right _ _ (Nat.pow_pos (by decide))] at e1
      rw [HED.out, Nat.mul_mod_mul_right] at e2
      have hlu := hm.lenU
      have hlq := hm.lenq
      have hT := trim_new w1.heap.size (a.length + 1) U (B + 1) (by omega) (by omega) (by omega) hm.limU wr hrow.lt hrow.limbs
      rw [hlu, e2] at hT
      have hSR := shr_ok (B + 1) _ _ s wr (by omega) hs31 hT
      rw [Nat.mul_div_cancel _ (Nat.pow_pos (by decide))] at hSR
      have HSR : Hid (Calls Oajg.prog 115 #[.slice (some ⟨w1.heap.size, 0, none⟩) (a.length + 1) (a.length + 1), .int .u16 (s : Int)] wr fun e w' => ∃ ad k c lo, e = .returned (.tuple #[.slice ad k c, .bool lo]) ∧ NatIs (B + 1) w' (.slice ad k c) (valL a % valL b) ∧ Below wr.heap.size wr w') := hSR
      have HQ : Hid (RowAt wr wc.heap.size q ∧ q.length = k ∧ Limbs q ∧ valL q = valL a / valL b) := ⟨hrq, by have := HK.out; omega, hm.limq, e1⟩
      have HBW : Hid (Below w.heap.size w wr) := below_then HB1.out hbel
      clear hT hSR e1 e2 hlu hlq hm hrow hrq hbel
      go_wp2_with fail
      refine Calls.mono HSR.out ?_
      rintro _ w6 ⟨ad2, k2, c2, lo, rfl, hN2, hb6⟩
      have hq6 : RowAt w6 wc.heap.size q := HQ.out.1.kept (hb6.block _ HQ.out.1.lt)
      have hT2 := trim_new wc.heap.size k q (B + 1) (by have := HQ.out.2.1; have := HK.out; omega) (by omega) (by have := HQ.out.2.1; omega) HQ.out.2.2.1 w6 hq6.lt hq6.limbs
      rw [HQ.out.2.1, HQ.out.2.2.2] at hT2
      have HT2 : Hid (Calls Oajg.prog 112 #[.slice (some ⟨wc.heap.size, 0, none⟩) k k] w6 fun e w' => w' = w6 ∧ ∃ v, e = .returned v ∧ NatIs (B + 1) w6 v (valL a / valL b)) := hT2
      have HN2 : Hid (NatIs (B + 1) w6 (.slice ad2 k2 c2) (valL a % valL b)) := hN2
      have HB6 : Hid (Below w.heap.size w w6) := below_then HBW.out hb6
      clear hN2 hb6 hq6 hT2 HSR HBW
      go_wp2_with fail
      refine Calls.mono HT2.out ?_
      rintro _ w7 ⟨hw7, v, rfl, hN1⟩
      subst w7
      obtain ⟨ad1, k1, c1, rfl⟩ := hN1.shape
      have HN1 : Hid (NatIs (B + 1) w6 (.slice ad1 k1 c1) (valL a / valL b)) := hN1
      clear hN1
      go_wp2_with fail
      go_ret2
      exact ⟨_, _, _, _, _, _, rfl, HN1.out, HN2.out, HB6.out⟩
    | succ j =>
      obtain ⟨pre, seg, post, rfl, hpl, hsl, hsm, hpm, hval, hslt, hp0, hpostm⟩ := div_cut hm ld
      rw [hdlen] at hsl
      have hjl := hm.jl
      have hlq := hm.lenq
      have hlu := hm.lenU
      have HM : Hid (DivTo (valL a * 2 ^ s) d a.length (j + 1) (pre ++ (seg ++ post)) q) := hm
      have HROW : Hid (RowAt wr w1.heap.size (pre ++ (seg ++ post))) := hrow
      have HRQ : Hid (RowAt wr wc.heap.size q) := hrq
      have HBEL : Hid (Below w1.heap.size w1 wr) := hbel
      have y2 := hrow.cell (pre.length + (m + 2)) (by simp; omega)
      have y1 := hrow.cell (pre.length + (m + 1)) (by simp; omega)
      have y0 := hrow.cell (pre.length + m) (by simp; omega)
      rw [mid_get _ _ _ _ (by omega), hpl] at y2 y1 y0
      have HATW : Hid (LimbsAt wr bd 0 d) := HATD.out.kept hbd hbel
      have z1 := HATW.out (m + 1) _ (get_some d (m + 1) (by omega))
      have z0 := HATW.out m _ (get_some d m (by omega))
      rw [Nat.zero_add] at z1 z0
      unfold lv at z1 z0
      have hgl2 : seg.getD (m + 2) 0 ≤ d.getD (m + 1) 0 := top_le hsl hdlen hsm ld hslt
      have HG : Hid (∀ w, Calls Oajg.prog 197 #[.int .u32 ((seg.getD (m + 2) 0 : Nat) : Int), .int .u32 ((seg.getD (m + 1) 0 : Nat) : Int), .int .u32 ((seg.getD m 0 : Nat) : Int), .int .u32 ((d.getD (m + 1) 0 : Nat) : Int), .int .u32 ((d.getD m 0 : Nat) : Int)] w fun e w' => e = .returned (.int .u32 (gN (seg.getD (m + 2) 0) (seg.getD (m + 1) 0) (seg.getD m 0) (d.getD (m + 1) 0) (d.getD m 0) : Nat)) ∧ ∃ k, w' = w.drewN k) :=
        guess_quiet hgl2 (limbs_get _ _ hsm) (limbs_get _ _ hsm) (limbs_get _ _ ld) (limbs_get _ _ ld) hdtop
      have hgg : Guessed (seg.getD (m + 2) 0) (seg.getD (m + 1) 0) (seg.getD m 0) (d.getD (m + 1) 0) (d.getD m 0) (gN (seg.getD (m + 2) 0) (seg.getD (m + 1) 0) (seg.getD m 0) (d.getD (m + 1) 0) (d.getD m 0)) := gN_guessed (by omega)
      obtain ⟨hg1, hg2⟩ := guessed_digit hsl hdlen hsm ld hslt hdtop hgg
      have hg0 := hgg.lt
      generalize gN (seg.getD (m + 2) 0) (seg.getD (m + 1) 0) (seg.getD m 0) (d.getD (m + 1) 0) (d.getD m 0) = r at *
      have HGD : Hid (valL seg < (r + 1) * valL d ∧ r * valL d ≤ valL seg + valL d) := ⟨hg1, hg2⟩
      have HSEG : Hid (Limbs seg ∧ pre.length = j ∧ valL (pre ++ (seg ++ post)) = valL pre + 4294967296 ^ j * valL seg ∧ valL post = 0) := ⟨hsm, hpl, hval, hp0⟩
      simp only [List.length_append] at hlu
      have HARI : Hid (seg.length = m + 2 + 1 ∧ j + 1 ≤ q.length ∧ q.length + d.length = a.length + 1 ∧ pre.length + (seg.length + post.length) = a.length + 1 ∧ m + 2 ≤ a.length) := ⟨hsl, hjl, hlq, hlu, hge⟩
      have hjN : j + (m + 2) < a.length + 1 := by omega
      have hj1 : ((j + 1 : Nat) : Int) - 1 = (j : Int) := by omega
      rw [hj1]
      clear hj1
      clear hsl hjl hlq hlu kq hL hL1 ks hs31 hgq hcd hdl
      clear hm hrow hrq hbel hval hp0 hpostm hpm hgl2 hslt hpl hsm
      generalize seg.getD (m + 2) 0 = u2 at *
      generalize seg.getD (m + 1) 0 = u1 at *
      generalize seg.getD m 0 = u0 at *
      generalize d.getD (m + 1) 0 = d1 at *
      generalize d.getD m 0 = d0 at *
      go_wp2_with fail
      obtain ⟨n2, hn2⟩ : ∃ n2, n2 = j + (m + 2) := ⟨_, rfl⟩
      obtain ⟨n1, hn1⟩ : ∃ n1, n1 = j + (m + 1) := ⟨_, rfl⟩
      obtain ⟨n0, hn0⟩ : ∃ n0, n0 = j + m := ⟨_, rfl⟩
      rw [← hn2] at y2
      rw [← hn1] at y1
      rw [← hn0] at y0
      have e2 : (j : Int) + ((m : Int) + 2) = (n2 : Int) := by omega
      have e1 : (n2 : Int) - 1 = (n1 : Int) := by omega
      have e0 : (n2 : Int) - 2 = (n0 : Int) := by omega
      have f1 : (m : Int) + 2 - 1 = ((m + 1 : Nat) : Int) := by omega
      have f0 : (m : Int) + 2 - 2 = (m : Int) := by omega
      have i2 : (n2 : Int) < (a.length : Int) + 1 := by omega
      have i1 : (n1 : Int) < (a.length : Int) + 1 := by omega
      have i0 : (n0 : Int) < (a.length : Int) + 1 := by omega
      have i2n : n2 < a.length + 1 := by omega
      have i1n : n1 < a.length + 1 := by omega
      have i0n : n0 < a.length + 1 := by omega
      have HN2 : Hid (n2 = j + (m + 2)) := hn2
      clear hn2 hn1 hn0
      clear hg1 hg2 hgg
      go_quiet ((go_at_call 197; exact Calls.quiet_of (HG.out _)))
      have i3 : (n2 : Int) + 1 ≤ (a.length : Int) + 1 := by omega
      have i4 : (j : Int) ≤ (n2 : Int) + 1 := by have := HN2.out; omega
      have i5 : n2 + 1 - j = m + 3 := by have := HN2.out; omega
      clear y2 y1 y0 z1 z0 HG i2 i1 i0 i1n i0n e1 e0 f1 f0
      go_wp2_with fail
      have hbn : Below wr.heap.size wr (wr.drewN nq) := below_drewN (Below.refl _ _) _
      have HRD : Hid (RowAt (wr.drewN nq) w1.heap.size (pre ++ (seg ++ post))) := HROW.out.kept (hbn.block _ HROW.out.lt)
      have HQD : Hid (RowAt (wr.drewN nq) wc.heap.size q) := HRQ.out.kept (hbn.block _ HRQ.out.lt)
      have HAD : Hid (LimbsAt (wr.drewN nq) bd 0 d) := HATW.out.kept (by have := HBEL.out.size; omega) hbn
      have HBD : Hid (Below w1.heap.size w1 (wr.drewN nq)) := below_drewN HBEL.out _
      clear hbn HROW HRQ HATW HBEL
      generalize wr.drewN nq = W at *
      obtain ⟨hsl, hjl, hlq, hlu, hge2⟩ := HARI.out
      have hbdW : bd < W.heap.size := by have := HBD.out.size; omega
      have hcapI : m + 3 ≤ a.length + 1 - j := by have := HN2.out; omega
      have HTA : Hid (Calls Oajg.prog 198 #[.slice (some ⟨w1.heap.size, j, none⟩) (m + 3) (a.length + 1 - j), .slice (some ⟨bd, 0, none⟩) (m + 2) cd, .int .u32 (r : Int)] W fun e w' => ∃ c bo, e = .returned (.bool bo) ∧ c.length = seg.length ∧ Limbs c ∧ valL c + r * valL d = valL seg + (if bo then 4294967296 ^ seg.length else 0) ∧ RowAt w' w1.heap.size (pre ++ (c ++ post)) ∧ Only w1.heap.size W w') := by
        have := takeAway_ok pre seg post d w1.heap.size (a.length + 1 - j) bd cd r W HSEG.out.1 ld hg0 (by omega) (by omega) (by omega) HRD.out HAD.out hbdW hbdg
        rw [HSEG.out.2.1, hdlen] at this
        have h3 : seg.length = m + 3 := hsl
        rw [h3] at this ⊢
        exact this
      have hqk : q.length = k := by have := HK.out; omega
      have hjk : j < k := by omega
      have hjkI : (j : Int) < (k : Int) := by omega
      clear hsl hjl hlq hlu
      refine Calls.mono HTA.out ?_
      rintro _ w4 ⟨c, bo, rfl, hcl, hcm, hcv, hrow4, hon4⟩
      clear HTA HRD
      have hrq4 : RowAt w4 wc.heap.size q := HQD.out.kept (hon4.block _ HQD.out.lt (Ne.symm hgq2))
      cases bo with
      | false =>
        simp only [Bool.false_eq_true, if_false, Nat.add_zero] at hcv
        obtain ⟨d1', d2'⟩ := digit_stays hcv HGD.out.1
        have HD : Hid (DivTo (valL a * 2 ^ s) d a.length j (pre ++ (c ++ post)) (q.set j r)) := div_step HM.out HSEG.out.2.1 hcl HSEG.out.2.2.1 HSEG.out.2.2.2 hcm hg0 d1' d2'
        have x3 := hrq4.cell j (by omega)
        have x4 := hrq4.frozen
        have HR1 : Hid (RowAt (w4.setCell ⟨wc.heap.size, j, none⟩ (.int .u32 (r : Int))) w1.heap.size (pre ++ (c ++ post))) := hrow4.kept (Below.heap_setCell w4 ⟨wc.heap.size, j, none⟩ _ _ hgq2)
        have HR2 : Hid (RowAt (w4.setCell ⟨wc.heap.size, j, none⟩ (.int .u32 (r : Int))) wc.heap.size (q.set j r)) := hrq4.set _ _
        have HB4 : Hid (Below w1.heap.size w1 (w4.setCell ⟨wc.heap.size, j, none⟩ (.int .u32 (r : Int)))) := (hon4.below HBD.out (Nat.le_refl _) HBD.out.size).setCell (Nat.le_of_lt hgc.out) _
        clear hcv hcl hcm hrow4 hon4 hrq4 d1' d2'
        generalize q.getD j 0 = C0 at *
        go_wp2_with fail
        go_roundw
        case rel => exact ⟨j, _, _, by go_num, HD.out, HR1.out, HR2.out, HB4.out⟩
        case measure => simp [intOf]
      | true =>
        simp only [if_true] at hcv
        have hcb := valL_lt c hcm
        rw [hcl] at hcb
        have hr0 := digit_pos hcv hcb
        obtain ⟨r1, hr1⟩ : ∃ r1, r1 = r - 1 := ⟨_, rfl⟩
        have k9 : (r : Int) - 1 = (r1 : Int) := by omega
        have hr1b : r1 < 4294967296 := by omega
        have HPB : Hid (Calls Oajg.prog 199 #[.slice (some ⟨w1.heap.size, j, none⟩) (m + 3) (a.length + 1 - j), .slice (some ⟨bd, 0, none⟩) (m + 2) cd] w4 fun e w' => ∃ c' kk, e = .returned (.tuple #[]) ∧ c'.length = c.length ∧ Limbs c' ∧ kk ≤ 1 ∧ valL c' + kk * 4294967296 ^ c.length = valL c + valL d ∧ RowAt w' w1.heap.size (pre ++ (c' ++ post)) ∧ Only w1.heap.size w4 w') := by
          obtain ⟨hsl, hjl, hlq, hlu, hge2⟩ := HARI.out
          have := putBack_ok pre c post d w1.heap.size (a.length + 1 - j) bd cd w4 hcm ld (by omega) (by omega) (by omega) hrow4 (fun i x hi => by rw [hon4.cell hbdW hbdg]; exact HAD.out i x hi) (by have := hon4.size; omega) hbdg
          rw [HSEG.out.2.1, hdlen] at this
          have h3 : c.length = m + 3 := by omega
          rw [h3] at this ⊢
          exact this
        have HCV : Hid (valL c + r * valL d = valL seg + 4294967296 ^ seg.length ∧ valL c < 4294967296 ^ seg.length ∧ r ≠ 0 ∧ c.length = seg.length ∧ r1 = r - 1) := ⟨hcv, hcb, hr0, hcl, hr1⟩
        have HO4 : Hid (Only w1.heap.size W w4) := hon4
        have HQ4 : Hid (RowAt w4 wc.heap.size q) := hrq4
        clear hcv hcb hr0 hcl hr1 hcm hrow4 hon4 hrq4
        go_wp2_with fail
        refine Calls.mono HPB.out ?_
        rintro _ w5 ⟨c', kk, rfl, hcl', hcm', hkk, hcv', hrow5, hon5⟩
        have hrq5 : RowAt w5 wc.heap.size q := HQ4.out.kept (hon5.block _ HQ4.out.lt (Ne.symm hgq2))
        have hcb' := valL_lt c' hcm'
        obtain ⟨q1, q2, q3, q4, q5⟩ := HCV.out
        rw [hcl', q4] at hcb'
        rw [q4] at hcv'
        obtain ⟨d1', d2'⟩ := digit_back q1 hcv' hkk q2 hcb' HGD.out.2 q3
        rw [← q5] at d1'
        have HD : Hid (DivTo (valL a * 2 ^ s) d a.length j (pre ++ (c' ++ post)) (q.set j r1)) := div_step HM.out HSEG.out.2.1 (hcl'.trans q4) HSEG.out.2.2.1 HSEG.out.2.2.2 hcm' hr1b d1' d2'
        have x3 := hrq5.cell j (by omega)
        have x4 := hrq5.frozen
        have HR1 : Hid (RowAt (w5.setCell ⟨wc.heap.size, j, none⟩ (.int .u32 (r1 : Int))) w1.heap.size (pre ++ (c' ++ post))) := hrow5.kept (Below.heap_setCell w5 ⟨wc.heap.size, j, none⟩ _ _ hgq2)
        have HR2 : Hid (RowAt (w5.setCell ⟨wc.heap.size, j, none⟩ (.int .u32 (r1 : Int))) wc.heap.size (q.set j r1)) := hrq5.set _ _
        have hb4 := HO4.out.below HBD.out (Nat.le_refl _) HBD.out.size
        have HB4 : Hid (Below w1.heap.size w1 (w5.setCell ⟨wc.heap.size, j, none⟩ (.int .u32 (r1 : Int)))) := (hon5.below hb4 (Nat.le_refl _) hb4.size).setCell (Nat.le_of_lt hgc.out) _
        clear hcv' hcl' hcm' hrow5 hon5 hrq5 d1' d2' q1 q2 q3 q4 q5 hb4 hcb'
        generalize q.getD j 0 = C0 at *
        go_wp2_with fail
        go_roundw
        case rel => exact ⟨j, _, _, by go_num, HD.out, HR1.out, HR2.out, HB4.out⟩
        case measure => simp [intOf]

end Go.Proofs.Ygcoaj
