/-
  WALKS: Table.Ok (58) on a right table.
-/
import Derived.Test.YgcoajRy19
set_option linter.unusedVariables false
set_option linter.unusedSimpArgs false
namespace Go.Proofs.Ygcoaj
open Go.RowKit

set_option maxRecDepth 100000 in
set_option maxHeartbeats 4000000 in
theorem tabOk_ok (tb t : Nat) (C : Array Value) (hC : TabAt C) (w : World) (hB : Blk w tb C t) :
    Calls Oajg.prog 58 #[.pointer (some ⟨tb, 0, none⟩)] w fun e w' => e = .returned (.bool true) ∧ Below w.heap.size w w' := by
  have hlt := hB.lt
  have HC := hid_mk hC
  have HBK := hid_mk hB
  clear hC hB
  go_enter Oajg.func58, Oajg.ntmps58
  go_wp2_with fail
  go_loopw [10] (fun c10 wr => ∃ i : Nat, c10 = .int .i64 (i : Int) ∧ i ≤ 696 ∧ Below w.heap.size w wr) (fun c10 _ => 696 - (intOf c10).toNat)
  case atStart => exact ⟨0, rfl, Nat.zero_le _, Below.refl _ _⟩
  case round =>
    obtain ⟨i, rfl, hi, hbel⟩ := hrel
    have hblk : Blk wr tb C t := HBK.out.next hbel
    have m9 := hblk.lt
    by_cases hi6 : i < 696
    · obtain ⟨c1, c2, c3⟩ := HC.out.2 i hi6
      have hf := fits_all (q := (i : Int) - 348) (by omega) (by omega)
      have HFT := hid_mk (fits_ok (tnM ((i : Int) - 348) / 18446744073709551616) (tnM ((i : Int) - 348) % 18446744073709551616) (tnE ((i : Int) - 348)) hf.1 hf.2.1 (Nat.mod_lt _ (by decide)) (by omega) hf.2.2.2.1 hf.2.2.2.2)
      clear hf
      have m0 := (hblk.cell (i * 2)).trans c1
      have m1 := (hblk.cell (i * 2 + 1)).trans c2
      have m2 := (hblk.cell (1392 + i)).trans c3
      clear c1 c2 c3
      generalize ((tnM ((i : Int) - 348) / 18446744073709551616 : Nat) : Int) = H at *
      generalize ((tnM ((i : Int) - 348) % 18446744073709551616 : Nat) : Int) = L at *
      generalize tnE ((i : Int) - 348) = E at *
      have n0 : wr.drew.cell? ⟨tb, i * 2, none⟩ = some (.int .u64 H) := m0
      have n1 : wr.drew.cell? ⟨tb, i * 2 + 1, none⟩ = some (.int .u64 L) := m1
      have n2 : wr.drew.cell? ⟨tb, 1392 + i, none⟩ = some (.int .i16 E) := m2
      have HBE := hid_mk hbel
      clear hblk hbel
      go_wp2_with fail
      go_region_with ((refine Calls.mono (HFT.out _) ?_); rintro _ w1 ⟨rfl, hb⟩; (have HB1 := hid_mk (below_then HBE.out.drew hb)); clear hb)
      all_goals (
        go_wp2_with fail
        go_roundw
        case rel => exact ⟨i + 1, by go_num, by omega, HB1.out⟩
        case measure => simp [intOf]; omega)
    · have b1 : decide ((i : Int) < 696) = false := decide_eq_false (by omega)
      have HBE := hid_mk hbel
      clear hblk hbel m9
      clear hi
      go_wp2_with fail
      go_loopw [5, 28] (fun c5 c28 wr2 => ∃ i : Nat, c28 = .int .i64 (i : Int) ∧ i ≤ 696 ∧ Below w.heap.size w wr2) (fun _ c28 _ => 696 - (intOf c28).toNat)
      case atStart => exact ⟨0, rfl, Nat.zero_le _, HBE.out⟩
      case round =>
        clear HBE
        obtain ⟨i, rfl, hi, hbel⟩ := hrel
        by_cases hi6 : i < 696
        · obtain ⟨c1, c2, c3⟩ := HC.out.2 i hi6
          have HEN := hid_mk (Entry_ok ((i : Int) - 348) (by omega) (by omega))
          generalize ((tnM ((i : Int) - 348) / 18446744073709551616 : Nat) : Int) = H at *
          generalize ((tnM ((i : Int) - 348) % 18446744073709551616 : Nat) : Int) = L at *
          generalize tnE ((i : Int) - 348) = E at *
          have HBE := hid_mk hbel
          have k1 : IntKind.i16.wrap (i : Int) = (i : Int) := by rw [i16_wrap]; omega
          have k2 : IntKind.i16.wrap ((i : Int) - 348) = (i : Int) - 348 := by rw [i16_wrap]; omega
          clear hbel
          go_wp2_with fail
          refine Calls.mono (HEN.out _) ?_
          rintro _ w1 ⟨rfl, hb⟩
          have HB1 := hid_mk (below_then HBE.out hb)
          have HB2 := hid_mk (below_then HB1.out ((Below.refl w1.heap.size w1).alloc (Nat.le_refl _) (.cells #[.int .u64 H, .int .u64 L] 88)))
          have hblk : Blk (w1.alloc (.cells #[.int .u64 H, .int .u64 L] 88)) tb C t := HBK.out.next HB2.out
          have m0 := (hblk.cell (i * 2)).trans c1
          have m1 := (hblk.cell (i * 2 + 1)).trans c2
          have m2 := (hblk.cell (1392 + i)).trans c3
          have m3 := bx2_made w1 (m := w1.heap.size) (.int .u64 H) (.int .u64 L) 88 rfl
          have m9 := hblk.lt
          clear hb c1 c2 c3 hblk HEN
          go_wp2_with fail
          go_quiet (fail)
          go_wp2_with fail
          go_roundw
          case rel => exact ⟨i + 1, by go_num, by omega, below_drewN HB2.out _⟩
          case measure => simp [intOf]; omega
        · obtain rfl : i = 696 := by omega
          have HBE := hid_mk hbel
          clear hbel
          go_wp2_with fail
          exact bodyPost_ret (v := .bool true) (by simp [results, Oajg.results58, go_sem]) rfl ⟨rfl, HBE.out⟩

end Go.Proofs.Ygcoaj
