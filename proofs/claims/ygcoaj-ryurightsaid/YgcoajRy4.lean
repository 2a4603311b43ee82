/-
  WALKS: dec.Itoa (160); blocks of cells.
-/
import Derived.Test.YgcoajRy3
import Derived.Laws.IdiomStrings
set_option linter.unusedVariables false
set_option linter.unusedSimpArgs false
namespace Go.Proofs.Ygcoaj
open Go.RowKit

/-! ### a block of cells -/
def Blk (w : World) (b : Nat) (C : Array Value) (t : Nat) : Prop := w.heap[b]? = some (.cells C t (0, 0))
theorem Blk.cell {w : World} {b : Nat} {C : Array Value} {t : Nat} (h : Blk w b C t) (k : Nat) : w.cell? ⟨b, k, none⟩ = C[k]? := by
  unfold World.cell?; rw [show w.heap[b]? = _ from h]; simp
theorem Blk.frozen {w : World} {b : Nat} {C : Array Value} {t : Nat} (h : Blk w b C t) (o : Nat) : w.frozen? ⟨b, o, none⟩ = false := by
  unfold World.frozen?; rw [show w.heap[b]? = _ from h]; simp
theorem Blk.lt {w : World} {b : Nat} {C : Array Value} {t : Nat} (h : Blk w b C t) : b < w.heap.size := (Array.getElem?_eq_some_iff.1 (show w.heap[b]? = _ from h)).1
theorem Blk.set {w : World} {b : Nat} {C : Array Value} {t : Nat} (h : Blk w b C t) (k : Nat) (v : Value) : Blk (w.setCell ⟨b, k, none⟩ v) b (C.setIfInBounds k v) t := by
  unfold Blk World.setCell
  simp only [Array.getElem?_modify]
  rw [show w.heap[b]? = _ from h]; simp
theorem Blk.made (w : World) (C : Array Value) (t : Nat) : Blk (w.alloc (.cells C t)) w.heap.size C t := by
  show (w.heap.push (.cells C t))[w.heap.size]? = _; simp
theorem Blk.next {w w' : World} {b : Nat} {C : Array Value} {t : Nat} (h : Blk w b C t) (hb : Below w.heap.size w w') : Blk w' b C t := (hb.block b h.lt).trans h

def dgt (n j : Nat) : Nat := 48 + n / 10 ^ j % 10
theorem dgt_lo (n j : Nat) : 48 ≤ dgt n j := by unfold dgt; omega
theorem dgt_hi (n j : Nat) : dgt n j ≤ 57 := by unfold dgt; omega


/-- the digits of n, L of them -/
def dlist (L n : Nat) : List UInt8 := (List.range L).map fun i => UInt8.ofNat (dgt n (L - 1 - i))
def dstr (L n : Nat) : ByteArray := ⟨(dlist L n).toArray⟩
theorem dlist_len (L n : Nat) : (dlist L n).length = L := by simp [dlist]
theorem dlist_get (L n i : Nat) (h : i < (dlist L n).length) : (dlist L n)[i] = UInt8.ofNat (dgt n (L - 1 - i)) := by simp [dlist]
theorem dgt_byte (n j : Nat) : (UInt8.ofNat (dgt n j)).toNat = dgt n j := by
  have := dgt_hi n j
  simp; omega
def IB (n t : Nat) (C : Array Value) : Prop := C.size = 20 ∧ ∀ j, j < t → C[19 - j]? = some (.int .u8 (dgt n j : Nat))
theorem ib_set {n t : Nat} {C : Array Value} (h : IB n t C) (ht : t < 20) : IB n (t + 1) (C.setIfInBounds (19 - t) (.int .u8 (dgt n t : Nat))) := by
  refine ⟨by simp [h.1], fun j hj => ?_⟩
  rw [Array.getElem?_setIfInBounds]
  by_cases e : j = t
  · subst e; rw [if_pos rfl, if_pos (by rw [h.1]; omega)]
  · rw [if_neg (by omega)]; exact h.2 j (by omega)

theorem slice20 (m P : Nat) (hP : P < 20) (w : World) : (Instr.sliceAt 208 (.pointer (some ⟨m, 0, none⟩)) (some (.int .i64 (P : Int))) none none).run Oajg.prog w = .ok (.slice (some ⟨m, P, none⟩) (20 - P) (20 - P)) w := by
  have h0 : Oajg.prog.underlying 208 = some (.array 20 5) := by kernel_rfl
  have h5 : Oajg.prog.underlying 5 = some (.int .u8) := by kernel_rfl
  have h1 : Oajg.prog.arrayLen 208 = 20 := by simp [Program.arrayLen, h0]
  have h2 : Oajg.prog.elem 208 = 5 := by simp [Program.elem, h0]
  rw [run_sliceAt_array_l w 208 ⟨m, 0, none⟩ (by rw [h1, h2]; exact h0) .i64 (P : Int) (by omega) (by rw [h1]; omega), h1, h2]
  have h3 : (sizeOf 5).run Oajg.prog w = .ok 1 w := by kernel_rfl
  rw [h3]
  simp only [Result.andThen, slicedAt, Int.toNat_natCast]
  rw [if_neg (by omega)]
  simp [Addr.add]
  intro h; exact h.symm
set_option maxRecDepth 100000 in
set_option maxHeartbeats 1000000 in
theorem itoa_ok (n L : Nat) (hL1 : 1 ≤ L) (hL2 : L ≤ 18) (hn : n < 10 ^ L) (hlow : L = 1 ∨ 10 ^ (L - 1) ≤ n) (w : World) : Calls Oajg.prog 160 #[.int .i64 (n : Int)] w fun x w' => x = .returned (.string (dstr L n)) ∧ Below w.heap.size w w' := by
  have hn9 : n < 1000000000000000000 := Nat.lt_of_lt_of_le hn (by have := Nat.pow_le_pow_right (n := 10) (by decide) hL2; exact this)
  have k1 : IntKind.u64.wrap (n : Int) = (n : Int) := by rw [IntKind.wrap_u64]; omega
  have k2 : ¬ (n : Int) < 0 := by omega
  have HL : Hid (n < 10 ^ L ∧ (L = 1 ∨ 10 ^ (L - 1) ≤ n)) := ⟨hn, hlow⟩
  clear hn hlow
  go_enter Oajg.func160, Oajg.ntmps160
  go_wp2_with fail
  go_loopw [4, 5] (fun c4 c5 wr => ∃ (t P : Nat) (C : Array Value), c4 = .int .i64 ((P + 1 : Nat) : Int) ∧ P + t = 19 ∧ c5 = .int .u64 ((n / 10 ^ t : Nat) : Int) ∧ t < L ∧ IB n t C ∧ Blk wr w.heap.size C 208 ∧ Below w.heap.size w wr) (fun c4 _ _ => (intOf c4).toNat)
  case atStart => exact ⟨0, 19, _, rfl, rfl, by simp, by omega, ⟨by simp, fun j hj => absurd hj (Nat.not_lt_zero j)⟩, Blk.made _ _ _, (Below.refl _ _).alloc (Nat.le_refl _) _⟩
  case round =>
    obtain ⟨t, P, C, rfl, hP, rfl, ht, hib, hblk, hbel⟩ := hrel
    obtain ⟨U, hU⟩ : ∃ U, U = n / 10 ^ t := ⟨_, rfl⟩
    have hUn : U ≤ n := by rw [hU]; exact Nat.div_le_self _ _
    have hU2 : U / 10 = n / 10 ^ (t + 1) := by rw [hU, Nat.div_div_eq_div_mul, Nat.pow_succ]
    have hD : dgt n t = 48 + U % 10 := by unfold dgt; rw [hU]
    have hPe : 19 - t = P := by omega
    have m1 : wr.cell? ⟨w.heap.size, P, none⟩ = C[P]? := hblk.cell _
    have m2 := hblk.frozen
    obtain ⟨cv, hcv⟩ : ∃ cv, C[P]? = some cv := ⟨_, Array.getElem?_eq_getElem (by rw [hib.1]; omega)⟩
    rw [hcv] at m1
    have HBL := hid_mk (hblk.set P (.int .u8 (dgt n t : Nat)))
    have HIB := hid_mk (ib_set hib (by omega))
    have HBE := hid_mk (hbel.setCell (p := ⟨w.heap.size, P, none⟩) (Nat.le_refl _) (.int .u8 (dgt n t : Nat)))
    rw [← hU]
    have HU2 := hid_mk hU2
    rw [hPe] at HIB
    rw [hD] at HBL HIB HBE
    have q1 : IntKind.u64.wrap (48 + (U : Int) % 10) = ((48 + U % 10 : Nat) : Int) := by rw [IntKind.wrap_u64]; omega
    have q2 : IntKind.u8.wrap ((48 + U % 10 : Nat) : Int) = ((48 + U % 10 : Nat) : Int) := by rw [IntKind.wrap_u8]; omega
    have hP20 : P < 20 := by omega
    have HT := hid_mk (show t < L ∧ P + t = 19 from ⟨ht, hP⟩)
    by_cases hz : U / 10 = 0
    · have hLt : L = t + 1 := by
        obtain ⟨a1, a2⟩ := HL.out
        rcases a2 with a2 | a2
        · omega
        · rcases Nat.lt_or_ge (t + 1) L with hc | hc
          · exfalso
            have h1 : 10 ^ (t + 1) ≤ 10 ^ (L - 1) := Nat.pow_le_pow_right (by decide) (by omega)
            have h2 : 0 < n / 10 ^ (t + 1) := Nat.div_pos (by omega) (Nat.pow_pos (by decide))
            rw [← hU2, hz] at h2
            exact absurd h2 (by decide)
          · omega
      have hzb : ((U : Int) / 10 == 0) = true := by rw [show ((U : Int) / 10 = 0) from by omega]; rfl
      have hcv : ∀ j (hj : j < (dlist L n).length), (wr.setCell ⟨w.heap.size, P, none⟩ (.int .u8 ((48 + U % 10 : Nat) : Int))).cell? ((⟨w.heap.size, P, none⟩ : Addr).add j) = some (.int .u8 ((dlist L n)[j].toNat : Int)) := by
        intro j hj
        rw [dlist_get, dgt_byte]
        rw [dlist_len] at hj
        have h1 := HIB.out.2 (L - 1 - j) (by omega)
        have e : (⟨w.heap.size, P, none⟩ : Addr).add j = ⟨w.heap.size, P + j, none⟩ := by simp [Addr.add]
        rw [e, HBL.out.cell, show P + j = 19 - (L - 1 - j) from by omega]
        exact h1
      have hconv := run_convert_bytes_back (P := Oajg.prog) (wr.setCell ⟨w.heap.size, P, none⟩ (.int .u8 ((48 + U % 10 : Nat) : Int))) 127 9 5 ⟨w.heap.size, P, none⟩ (20 - P) (dlist L n) (by kernel_rfl) (by kernel_rfl) (by kernel_rfl) hcv
      rw [dlist_len, show L = 20 - P from by omega] at hconv
      rw [← show L = 20 - P from by omega] at hconv
      have hLP : 20 - P = L := by omega
      have hsl := slice20 w.heap.size P hP20
      rw [hLP] at hsl
      clear hU hU2 hz hLt hcv hblk hib hbel hD hP ht
      generalize 48 + U % 10 = G at *
      go_wp2_with fail
      go_ret
      exact ⟨rfl, HBE.out⟩
    · have hzb : ((U : Int) / 10 == 0) = false := by rw [beq_eq_false_iff_ne]; omega
      have hnext : t + 1 < L := by
        rcases Nat.lt_or_ge (t + 1) L with hc | hc
        · exact hc
        · exfalso
          have h1 : n / 10 ^ (t + 1) = 0 := Nat.div_eq_of_lt (Nat.lt_of_lt_of_le HL.out.1 (Nat.pow_le_pow_right (by decide) hc))
          omega
      have HN := hid_mk hnext
      clear hU hU2 hz hnext hblk hib hbel hD hP ht
      generalize 48 + U % 10 = G at *
      go_wp2_with fail
      go_roundw
      case rel => exact ⟨t + 1, P - 1, _, by have := HT.out; have := HN.out; rw [show P - 1 + 1 = P from by omega], by have := HT.out; have := HN.out; omega, by rw [← HU2.out]; rfl, HN.out, HIB.out, HBL.out, HBE.out⟩
      case measure => simp [intOf]

end Go.Proofs.Ygcoaj
