/-
  WALKS: dec.Scan, by its two answers.
-/
import Derived.Test.YgcoajScanD
namespace Go.Proofs.Ygcoaj
open Go.RowKit

theorem scan_some (s : ByteArray) (hs : s.size ≤ maxLen) (k : Int) (n : Bool) (t : ByteArray) (x : Int) (h : scanP s = some (k, n, t, x)) (w : World) :
    Calls Oajg.prog 45 #[.string s] w fun e w' => e = .returned (.agg #[.int .u8 k, .bool n, .string t, .int .i16 x, .int .i64 0, .int .i32 0]) ∧ Below w.heap.size w w' := by
  refine (scan_any _ hs w).mono ?_
  rintro e w' ⟨u, rfl, hb, hsay⟩
  rw [h] at hsay
  exact ⟨by rw [show u = _ from hsay]; rfl, hb⟩
theorem scan_wrong (s : ByteArray) (hs : s.size ≤ maxLen) (h : scanP s = none) (w : World) :
    Calls Oajg.prog 45 #[.string s] w fun e w' => ∃ p g, e = .returned (.agg #[.int .u8 3, .bool false, .string ⟨#[]⟩, .int .i16 0, .int .i64 p, .int .i32 g]) ∧ Below w.heap.size w w' := by
  refine (scan_any _ hs w).mono ?_
  rintro e w' ⟨u, rfl, hb, hsay⟩
  rw [h] at hsay
  obtain ⟨p, g, hu⟩ := hsay
  exact ⟨p, g, by rw [hu]; rfl, hb⟩
end Go.Proofs.Ygcoaj
