/-
  WALKS: dec.Scan, whole.
-/
import Derived.Test.YgcoajScanR0
import Derived.Test.YgcoajScanR1
import Derived.Test.YgcoajScanR2
import Derived.Test.YgcoajScanR3
set_option linter.unusedVariables false
set_option linter.unusedSimpArgs false
namespace Go.Proofs.Ygcoaj
open Go.RowKit Go.Lib


theorem ret_wrong {s : ByteArray} (h : scanP s = none) {w w1 w' : World} (hb1 : Below w.heap.size w w1) (hb : Below w.heap.size w1 w') {tmps : Array Value} {p g : Int}
    (hres : (results Oajg.f45 tmps).run Oajg.prog w' = .ok (scV 3 false ⟨#[]⟩ 0 p g) w') :
    bodyPost Oajg.prog Oajg.f45 (fun e w' => ∃ u, e = .returned u ∧ Below w.heap.size w w' ∧ Says (scanP s) u) .ret ⟨tmps, []⟩ w' :=
  bodyPost_ret (v := scV 3 false ⟨#[]⟩ 0 p g) hres rfl ⟨_, rfl, hb1.trans hb, says_none h⟩


set_option maxRecDepth 100000 in
set_option maxHeartbeats 40000000 in
theorem scan_any (s : ByteArray) (hs : s.size ≤ maxLen) (w : World) :
    Calls Oajg.prog 45 #[.string s] w fun e w' => ∃ u, e = .returned u ∧ Below w.heap.size w w' ∧ Says (scanP s) u := by
  unfold maxLen at hs
  by_cases hlong : 1024 < s.size
  · have HL : Hid (scanP s = some (4, false, ⟨#[]⟩, 0)) := by show scanP s = _; unfold scanP; rw [if_pos hlong]
    go_enter Oajg.func45, Oajg.ntmps45
    go_wp2
    go_step3
    go_wp2
    rw [Exit.noGoto_ret]
    refine bodyPost_ret (v := scV 4 false ⟨#[]⟩ 0 0 0) (by simp [results, Oajg.results45, go_sem, scV]) rfl ⟨_, rfl, ?_, says_some HL.out⟩
    repeat' (first | with_reducible exact Below.refl _ _ | with_reducible refine Below.alloc ?_ ?_ _ | with_reducible refine Below.setCell ?_ ?_ _ | omega | (simp only [World.size_alloc, World.size_setCell]; omega))
  · have hlong' : s.size ≤ 1024 := by omega
    go_enter Oajg.func45, Oajg.ntmps45
    go_wp2
    go_step3
    go_wp2
    go_step3
    go_wp2
    go_loopw [5, 6, 7] (fun c5 c6 c7 wr => ∃ st pos v g, pos ≤ s.size ∧ runTo s pos = some st ∧ Reach st pos ∧ c5 = .int .i64 st.state ∧ c6 = .string (wordOf st.word) ∧ c7 = .int .i64 st.at_ ∧ ScanW w w.heap.size s pos st v g wr)
      (fun _ _ _ wr => s.size - wr.iterPos (w.heap.size + 3))
    case atStart => exact ⟨st0, 0, .slice (some ⟨w.heap.size + 1, 0, none⟩) 0 40, w.heap.size + 1, Nat.zero_le _, rfl, reach0, rfl, rfl, rfl, scanW0 w s⟩

    case round =>
      obtain ⟨st, pos, v, g, hpos, hrun, hreach, rfl, rfl, rfl, hW⟩ := hrel
      by_cases hlt : pos < s.size
      · have HR : Hid (runTo s pos = some st) := hrun
        have HIT : Hid (wr.heap[w.heap.size + 3]? = some (.stringIter s pos)) := hW.iter
        have HRE : Hid (Reach st pos) := hreach
        obtain ⟨q1, q2⟩ := hreach.state
        obtain ⟨q3, q4⟩ := hreach.exp
        obtain ⟨q5, q6⟩ := hreach.frac
        obtain ⟨q7, q8⟩ := hreach.at_
        have q9 := hreach.dig
        have HQ : Hid (st.state = 9 → st.word = 1 ∨ st.word = 2) := hreach.word
        have HSZ : Hid (s.size ≤ 1024) := hlong'
        clear hrun hreach hs hlong
        have hst : st.state = 0 ∨ st.state = 1 ∨ st.state = 2 ∨ st.state = 3 ∨ st.state = 4 ∨ st.state = 5 ∨ st.state = 6 ∨ st.state = 7 ∨ st.state = 8 ∨ st.state = 9 := by omega
        by_cases hd : 48 ≤ ((s[pos]'hlt).toNat : Int) ∧ ((s[pos]'hlt).toNat : Int) ≤ 57
        · obtain ⟨e1, e2⟩ := hd
          have HD : Hid (step st (s[pos]'hlt) = stepD st (s[pos]'hlt)) := step_digit _ _ ⟨e1, e2⟩
          have hW1 := hW.moved (pos + 1)
          have hnext : ∀ ty, (Instr.next (.pointer (some ⟨w.heap.size + 1 + 1 + 1, 0, none⟩)) true ty).run Oajg.prog _ = _ := fun ty => run_next_ascii_at (P := Oajg.prog) _ _ s pos ty hW.iter hlt (by omega)
          generalize World.iterAt _ _ _ _ = w1 at hnext hW1
          obtain ⟨c0, c1, c2, c3, c4, f0, f1, d0, d1, d2, d3, d4, d5⟩ := hW1.cells
          have HW : Hid (ScanW w w.heap.size s (pos + 1) st v g w1) := hW1
          clear hW hW1 q1 q2
          rcases hst with hst | hst | hst | hst | hst | hst | hst | hst | hst | hst
          · have HS : Hid (st.state = 0) := hst
            rw [hst]
            clear hst
            obtain ⟨cap2, w2, g2, hap, a1, a2, a3, a4⟩ := run_append_dig (w1.alloc (.cells #[.int .u8 ((s[pos]'hlt).toNat : Int)] 5)) v st.dig g (s[pos]'hlt) w1.heap.size (HW.out.dig.kept (Below.heap_alloc _ _ _ HW.out.glt)) (by have := HSZ.out; omega) (by simp [go_sem, dv]) 127
            obtain ⟨⟨b1, b2⟩, b3⟩ := HW.out.appended a1 a2 a3 a4
            refine rd0 s w.heap.size pos ((s[pos]'hlt).toNat : Int) (wordOf st.word) st.at_ _ _ _ _ _ _ _ _ _ _ _ _ _ _ _ _ _ _ _ _ _ _ _ _ _ _ _ _ _ _ _ _ _ _ _ _ _ _ _ _ _ _ _ _ _ _ _ _ _ _ _ _ _ _ _ _ _ _ _ _ _ _ _ _ _ _ _ _ _ _ _ _ _ _ _ _ _ _ _ _ _ _ _ _ _ _ _ _ _ _ _ _ _ _ _ _ _ _ _ _ _ _ _ _ _ _ _ _ _ _ _ _ _ _ _ _ _ _ _ _ _ _ _ _ _ _ _ _ _ _ _ _ _ _ _ _ _ _ _ _ _ _ _ _ _ _ _ _ _ _ _ _ _ _ _ _ _ _ _ _ _ _ _ _ _ _ _ _ _ wr w1 hnext st.neg st.expNeg v st.frac st.exp c0 c1 c2 c3 c4 f0 f1 d0 d1 d2 d3 d4 d5 q5 (by omega) q3 q4 q7 (by omega) e1 e2 w2 _ g2 _ cap2 rfl b1 b2 hap ?_
            intro _ _ _ _ _ _ _ _ _ _ _ _ _ _ _ _ _ _ _ _ _ _ _ _ _ _ _ _ _ _ _ _ _ _ _ _ _ _ _ _ _ _ _ _ _ _ _ _ _ _ _ _ _ _ _ _ _ _ _ _ _ _ _ _ _ _ _ _ _ _ _ _ _ _ _ _ _ _ _ _ _ _ _ _ _ _ _ _ _ _ _ _ _ _ _ _ _ _ _ _ _ _ _ _ _ _ _ _ _ _ _ _ _ _ _ _ _ _ _ _ _ _ _ _ _ _ _ _ _ _ _ _ _ _ _ _ _ _ _ _ _ _ _ _ _ _ _ _ _ _ _
            have hWx := b3.same (st' := { st with state := 2, dig := st.dig ++ [s[pos]'hlt] }) rfl rfl rfl rfl rfl
            have hst2 : step st (s[pos]'hlt) = some { st with state := 2, dig := st.dig ++ [s[pos]'hlt] } := by rw [HD.out]; simp [stepD, HS.out]
            go_roundw
            case rel => exact ⟨_, _, _, _, _, _, _, _, _, _, _, _, _, _, _, _, _, _, _, _, _, _, _, _, _, _, _, _, _, _, _, _, _, _, _, _, _, _, _, _, _, _, _, _, _, _, _, _, _, _, _, _, _, _, _, _, _, _, _, _, _, _, _, _, _, _, _, _, _, _, _, _, _, _, _, _, _, _, _, _, _, _, _, _, _, _, _, _, _, _, _, _, _, _, _, _, _, _, _, _, _, _, _, _, _, _, _, _, _, _, _, _, _, _, _, _, _, _, _, _, _, _, _, _, _, _, _, _, _, _, _, _, _, _, _, _, _, _, _, _, _, _, _, _, _, _, _, _, _, _, _, _, _, _,  (round_fin hlt HR.out HRE.out HIT.out _ hst2 hWx rfl rfl rfl).1, rfl⟩
            case measure => exact (round_fin hlt HR.out HRE.out HIT.out _ hst2 hWx rfl rfl rfl).2
          · have HS : Hid (st.state = 1) := hst
            rw [hst]
            clear hst
            obtain ⟨cap2, w2, g2, hap, a1, a2, a3, a4⟩ := run_append_dig (w1.alloc (.cells #[.int .u8 ((s[pos]'hlt).toNat : Int)] 5)) v st.dig g (s[pos]'hlt) w1.heap.size (HW.out.dig.kept (Below.heap_alloc _ _ _ HW.out.glt)) (by have := HSZ.out; omega) (by simp [go_sem, dv]) 127
            obtain ⟨⟨b1, b2⟩, b3⟩ := HW.out.appended a1 a2 a3 a4
            refine rd1 s w.heap.size pos ((s[pos]'hlt).toNat : Int) (wordOf st.word) st.at_ _ _ _ _ _ _ _ _ _ _ _ _ _ _ _ _ _ _ _ _ _ _ _ _ _ _ _ _ _ _ _ _ _ _ _ _ _ _ _ _ _ _ _ _ _ _ _ _ _ _ _ _ _ _ _ _ _ _ _ _ _ _ _ _ _ _ _ _ _ _ _ _ _ _ _ _ _ _ _ _ _ _ _ _ _ _ _ _ _ _ _ _ _ _ _ _ _ _ _ _ _ _ _ _ _ _ _ _ _ _ _ _ _ _ _ _ _ _ _ _ _ _ _ _ _ _ _ _ _ _ _ _ _ _ _ _ _ _ _ _ _ _ _ _ _ _ _ _ _ _ _ _ _ _ _ _ _ _ _ _ _ _ _ _ _ _ _ _ _ wr w1 hnext st.neg st.expNeg v st.frac st.exp c0 c1 c2 c3 c4 f0 f1 d0 d1 d2 d3 d4 d5 q5 (by omega) q3 q4 q7 (by omega) e1 e2 w2 _ g2 _ cap2 rfl b1 b2 hap ?_
            intro _ _ _ _ _ _ _ _ _ _ _ _ _ _ _ _ _ _ _ _ _ _ _ _ _ _ _ _ _ _ _ _ _ _ _ _ _ _ _ _ _ _ _ _ _ _ _ _ _ _ _ _ _ _ _ _ _ _ _ _ _ _ _ _ _ _ _ _ _ _ _ _ _ _ _ _ _ _ _ _ _ _ _ _ _ _ _ _ _ _ _ _ _ _ _ _ _ _ _ _ _ _ _ _ _ _ _ _ _ _ _ _ _ _ _ _ _ _ _ _ _ _ _ _ _ _ _ _ _ _ _ _ _ _ _ _ _ _ _ _ _ _ _ _ _ _ _ _ _ _ _
            have hWx := b3.same (st' := { st with state := 2, dig := st.dig ++ [s[pos]'hlt] }) rfl rfl rfl rfl rfl
            have hst2 : step st (s[pos]'hlt) = some { st with state := 2, dig := st.dig ++ [s[pos]'hlt] } := by rw [HD.out]; simp [stepD, HS.out]
            go_roundw
            case rel => exact ⟨_, _, _, _, _, _, _, _, _, _, _, _, _, _, _, _, _, _, _, _, _, _, _, _, _, _, _, _, _, _, _, _, _, _, _, _, _, _, _, _, _, _, _, _, _, _, _, _, _, _, _, _, _, _, _, _, _, _, _, _, _, _, _, _, _, _, _, _, _, _, _, _, _, _, _, _, _, _, _, _, _, _, _, _, _, _, _, _, _, _, _, _, _, _, _, _, _, _, _, _, _, _, _, _, _, _, _, _, _, _, _, _, _, _, _, _, _, _, _, _, _, _, _, _, _, _, _, _, _, _, _, _, _, _, _, _, _, _, _, _, _, _, _, _, _, _, _, _, _, _, _, _, _, _,  (round_fin hlt HR.out HRE.out HIT.out _ hst2 hWx rfl rfl rfl).1, rfl⟩
            case measure => exact (round_fin hlt HR.out HRE.out HIT.out _ hst2 hWx rfl rfl rfl).2
          · have HS : Hid (st.state = 2) := hst
            rw [hst]
            clear hst
            obtain ⟨cap2, w2, g2, hap, a1, a2, a3, a4⟩ := run_append_dig (w1.alloc (.cells #[.int .u8 ((s[pos]'hlt).toNat : Int)] 5)) v st.dig g (s[pos]'hlt) w1.heap.size (HW.out.dig.kept (Below.heap_alloc _ _ _ HW.out.glt)) (by have := HSZ.out; omega) (by simp [go_sem, dv]) 127
            obtain ⟨⟨b1, b2⟩, b3⟩ := HW.out.appended a1 a2 a3 a4
            refine rd2 s w.heap.size pos ((s[pos]'hlt).toNat : Int) (wordOf st.word) st.at_ _ _ _ _ _ _ _ _ _ _ _ _ _ _ _ _ _ _ _ _ _ _ _ _ _ _ _ _ _ _ _ _ _ _ _ _ _ _ _ _ _ _ _ _ _ _ _ _ _ _ _ _ _ _ _ _ _ _ _ _ _ _ _ _ _ _ _ _ _ _ _ _ _ _ _ _ _ _ _ _ _ _ _ _ _ _ _ _ _ _ _ _ _ _ _ _ _ _ _ _ _ _ _ _ _ _ _ _ _ _ _ _ _ _ _ _ _ _ _ _ _ _ _ _ _ _ _ _ _ _ _ _ _ _ _ _ _ _ _ _ _ _ _ _ _ _ _ _ _ _ _ _ _ _ _ _ _ _ _ _ _ _ _ _ _ _ _ _ _ wr w1 hnext st.neg st.expNeg v st.frac st.exp c0 c1 c2 c3 c4 f0 f1 d0 d1 d2 d3 d4 d5 q5 (by omega) q3 q4 q7 (by omega) e1 e2 w2 _ g2 _ cap2 rfl b1 b2 hap ?_
            intro _ _ _ _ _ _ _ _ _ _ _ _ _ _ _ _ _ _ _ _ _ _ _ _ _ _ _ _ _ _ _ _ _ _ _ _ _ _ _ _ _ _ _ _ _ _ _ _ _ _ _ _ _ _ _ _ _ _ _ _ _ _ _ _ _ _ _ _ _ _ _ _ _ _ _ _ _ _ _ _ _ _ _ _ _ _ _ _ _ _ _ _ _ _ _ _ _ _ _ _ _ _ _ _ _ _ _ _ _ _ _ _ _ _ _ _ _ _ _ _ _ _ _ _ _ _ _ _ _ _ _ _ _ _ _ _ _ _ _ _ _ _ _ _ _ _ _ _ _ _ _
            have hWx := b3.same (st' := { st with state := 2, dig := st.dig ++ [s[pos]'hlt] }) rfl rfl rfl rfl rfl
            have hst2 : step st (s[pos]'hlt) = some { st with state := 2, dig := st.dig ++ [s[pos]'hlt] } := by rw [HD.out]; simp [stepD, HS.out]
            go_roundw
            case rel => exact ⟨_, _, _, _, _, _, _, _, _, _, _, _, _, _, _, _, _, _, _, _, _, _, _, _, _, _, _, _, _, _, _, _, _, _, _, _, _, _, _, _, _, _, _, _, _, _, _, _, _, _, _, _, _, _, _, _, _, _, _, _, _, _, _, _, _, _, _, _, _, _, _, _, _, _, _, _, _, _, _, _, _, _, _, _, _, _, _, _, _, _, _, _, _, _, _, _, _, _, _, _, _, _, _, _, _, _, _, _, _, _, _, _, _, _, _, _, _, _, _, _, _, _, _, _, _, _, _, _, _, _, _, _, _, _, _, _, _, _, _, _, _, _, _, _, _, _, _, _, _, _, _, _, _, _,  (round_fin hlt HR.out HRE.out HIT.out _ hst2 hWx rfl rfl rfl).1, rfl⟩
            case measure => exact (round_fin hlt HR.out HRE.out HIT.out _ hst2 hWx rfl rfl rfl).2
          · have HS : Hid (st.state = 3) := hst
            rw [hst]
            clear hst
            have HF : Hid (ScanW w w.heap.size s (pos + 1) { st with frac := st.frac + 1 } v g (w1.setCell ⟨w.heap.size + 1 + 1, 3, none⟩ (.int .i64 (st.frac + 1)))) := HW.out.wrote (v' := v) 3 _ rfl rfl
            obtain ⟨cap2, w2, g2, hap, a1, a2, a3, a4⟩ := run_append_dig ((w1.setCell ⟨w.heap.size + 1 + 1, 3, none⟩ (.int .i64 (st.frac + 1))).alloc (.cells #[.int .u8 ((s[pos]'hlt).toNat : Int)] 5)) v st.dig g (s[pos]'hlt) w1.heap.size (HF.out.dig.kept (Below.heap_alloc _ _ _ HF.out.glt)) (by have := HSZ.out; omega) (by simp [go_sem, dv]) 127
            obtain ⟨⟨b1, b2⟩, b3⟩ := HF.out.appended a1 a2 a3 a4
            refine rd3 s w.heap.size pos ((s[pos]'hlt).toNat : Int) (wordOf st.word) st.at_ _ _ _ _ _ _ _ _ _ _ _ _ _ _ _ _ _ _ _ _ _ _ _ _ _ _ _ _ _ _ _ _ _ _ _ _ _ _ _ _ _ _ _ _ _ _ _ _ _ _ _ _ _ _ _ _ _ _ _ _ _ _ _ _ _ _ _ _ _ _ _ _ _ _ _ _ _ _ _ _ _ _ _ _ _ _ _ _ _ _ _ _ _ _ _ _ _ _ _ _ _ _ _ _ _ _ _ _ _ _ _ _ _ _ _ _ _ _ _ _ _ _ _ _ _ _ _ _ _ _ _ _ _ _ _ _ _ _ _ _ _ _ _ _ _ _ _ _ _ _ _ _ _ _ _ _ _ _ _ _ _ _ _ _ _ _ _ _ _ wr w1 hnext st.neg st.expNeg v st.frac st.exp c0 c1 c2 c3 c4 f0 f1 d0 d1 d2 d3 d4 d5 q5 (by omega) q3 q4 q7 (by omega) e1 e2 w2 _ g2 _ cap2 rfl b1 b2 hap ?_
            intro _ _ _ _ _ _ _ _ _ _ _ _ _ _ _ _ _ _ _ _ _ _ _ _ _ _ _ _ _ _ _ _ _ _ _ _ _ _ _ _ _ _ _ _ _ _ _ _ _ _ _ _ _ _ _ _ _ _ _ _ _ _ _ _ _ _ _ _ _ _ _ _ _ _ _ _ _ _ _ _ _ _ _ _ _ _ _ _ _ _ _ _ _ _ _ _ _ _ _ _ _ _ _ _ _ _ _ _ _ _ _ _ _ _ _ _ _ _ _ _ _ _ _ _ _ _ _ _ _ _ _ _ _ _ _ _ _ _ _ _ _ _ _ _ _ _ _ _ _ _ _
            have hWx := b3.same (st' := { st with frac := st.frac + 1, state := 5, dig := st.dig ++ [s[pos]'hlt] }) rfl rfl rfl rfl rfl
            have hst2 : step st (s[pos]'hlt) = some { st with frac := st.frac + 1, state := 5, dig := st.dig ++ [s[pos]'hlt] } := by rw [HD.out]; simp [stepD, HS.out]
            go_roundw
            case rel => exact ⟨_, _, _, _, _, _, _, _, _, _, _, _, _, _, _, _, _, _, _, _, _, _, _, _, _, _, _, _, _, _, _, _, _, _, _, _, _, _, _, _, _, _, _, _, _, _, _, _, _, _, _, _, _, _, _, _, _, _, _, _, _, _, _, _, _, _, _, _, _, _, _, _, _, _, _, _, _, _, _, _, _, _, _, _, _, _, _, _, _, _, _, _, _, _, _, _, _, _, _, _, _, _, _, _, _, _, _, _, _, _, _, _, _, _, _, _, _, _, _, _, _, _, _, _, _, _, _, _, _, _, _, _, _, _, _, _, _, _, _, _, _, _, _, _, _, _, _, _, _, _, _, _, _, _,  (round_fin hlt HR.out HRE.out HIT.out _ hst2 hWx rfl rfl rfl).1, rfl⟩
            case measure => exact (round_fin hlt HR.out HRE.out HIT.out _ hst2 hWx rfl rfl rfl).2
          · have HS : Hid (st.state = 4) := hst
            rw [hst]
            clear hst
            have HF : Hid (ScanW w w.heap.size s (pos + 1) { st with frac := st.frac + 1 } v g (w1.setCell ⟨w.heap.size + 1 + 1, 3, none⟩ (.int .i64 (st.frac + 1)))) := HW.out.wrote (v' := v) 3 _ rfl rfl
            obtain ⟨cap2, w2, g2, hap, a1, a2, a3, a4⟩ := run_append_dig ((w1.setCell ⟨w.heap.size + 1 + 1, 3, none⟩ (.int .i64 (st.frac + 1))).alloc (.cells #[.int .u8 ((s[pos]'hlt).toNat : Int)] 5)) v st.dig g (s[pos]'hlt) w1.heap.size (HF.out.dig.kept (Below.heap_alloc _ _ _ HF.out.glt)) (by have := HSZ.out; omega) (by simp [go_sem, dv]) 127
            obtain ⟨⟨b1, b2⟩, b3⟩ := HF.out.appended a1 a2 a3 a4
            refine rd4 s w.heap.size pos ((s[pos]'hlt).toNat : Int) (wordOf st.word) st.at_ _ _ _ _ _ _ _ _ _ _ _ _ _ _ _ _ _ _ _ _ _ _ _ _ _ _ _ _ _ _ _ _ _ _ _ _ _ _ _ _ _ _ _ _ _ _ _ _ _ _ _ _ _ _ _ _ _ _ _ _ _ _ _ _ _ _ _ _ _ _ _ _ _ _ _ _ _ _ _ _ _ _ _ _ _ _ _ _ _ _ _ _ _ _ _ _ _ _ _ _ _ _ _ _ _ _ _ _ _ _ _ _ _ _ _ _ _ _ _ _ _ _ _ _ _ _ _ _ _ _ _ _ _ _ _ _ _ _ _ _ _ _ _ _ _ _ _ _ _ _ _ _ _ _ _ _ _ _ _ _ _ _ _ _ _ _ _ _ _ wr w1 hnext st.neg st.expNeg v st.frac st.exp c0 c1 c2 c3 c4 f0 f1 d0 d1 d2 d3 d4 d5 q5 (by omega) q3 q4 q7 (by omega) e1 e2 w2 _ g2 _ cap2 rfl b1 b2 hap ?_
            intro _ _ _ _ _ _ _ _ _ _ _ _ _ _ _ _ _ _ _ _ _ _ _ _ _ _ _ _ _ _ _ _ _ _ _ _ _ _ _ _ _ _ _ _ _ _ _ _ _ _ _ _ _ _ _ _ _ _ _ _ _ _ _ _ _ _ _ _ _ _ _ _ _ _ _ _ _ _ _ _ _ _ _ _ _ _ _ _ _ _ _ _ _ _ _ _ _ _ _ _ _ _ _ _ _ _ _ _ _ _ _ _ _ _ _ _ _ _ _ _ _ _ _ _ _ _ _ _ _ _ _ _ _ _ _ _ _ _ _ _ _ _ _ _ _ _ _ _ _ _ _
            have hWx := b3.same (st' := { st with frac := st.frac + 1, state := 5, dig := st.dig ++ [s[pos]'hlt] }) rfl rfl rfl rfl rfl
            have hst2 : step st (s[pos]'hlt) = some { st with frac := st.frac + 1, state := 5, dig := st.dig ++ [s[pos]'hlt] } := by rw [HD.out]; simp [stepD, HS.out]
            go_roundw
            case rel => exact ⟨_, _, _, _, _, _, _, _, _, _, _, _, _, _, _, _, _, _, _, _, _, _, _, _, _, _, _, _, _, _, _, _, _, _, _, _, _, _, _, _, _, _, _, _, _, _, _, _, _, _, _, _, _, _, _, _, _, _, _, _, _, _, _, _, _, _, _, _, _, _, _, _, _, _, _, _, _, _, _, _, _, _, _, _, _, _, _, _, _, _, _, _, _, _, _, _, _, _, _, _, _, _, _, _, _, _, _, _, _, _, _, _, _, _, _, _, _, _, _, _, _, _, _, _, _, _, _, _, _, _, _, _, _, _, _, _, _, _, _, _, _, _, _, _, _, _, _, _, _, _, _, _, _, _,  (round_fin hlt HR.out HRE.out HIT.out _ hst2 hWx rfl rfl rfl).1, rfl⟩
            case measure => exact (round_fin hlt HR.out HRE.out HIT.out _ hst2 hWx rfl rfl rfl).2
          · have HS : Hid (st.state = 5) := hst
            rw [hst]
            clear hst
            have HF : Hid (ScanW w w.heap.size s (pos + 1) { st with frac := st.frac + 1 } v g (w1.setCell ⟨w.heap.size + 1 + 1, 3, none⟩ (.int .i64 (st.frac + 1)))) := HW.out.wrote (v' := v) 3 _ rfl rfl
            obtain ⟨cap2, w2, g2, hap, a1, a2, a3, a4⟩ := run_append_dig ((w1.setCell ⟨w.heap.size + 1 + 1, 3, none⟩ (.int .i64 (st.frac + 1))).alloc (.cells #[.int .u8 ((s[pos]'hlt).toNat : Int)] 5)) v st.dig g (s[pos]'hlt) w1.heap.size (HF.out.dig.kept (Below.heap_alloc _ _ _ HF.out.glt)) (by have := HSZ.out; omega) (by simp [go_sem, dv]) 127
            obtain ⟨⟨b1, b2⟩, b3⟩ := HF.out.appended a1 a2 a3 a4
            refine rd5 s w.heap.size pos ((s[pos]'hlt).toNat : Int) (wordOf st.word) st.at_ _ _ _ _ _ _ _ _ _ _ _ _ _ _ _ _ _ _ _ _ _ _ _ _ _ _ _ _ _ _ _ _ _ _ _ _ _ _ _ _ _ _ _ _ _ _ _ _ _ _ _ _ _ _ _ _ _ _ _ _ _ _ _ _ _ _ _ _ _ _ _ _ _ _ _ _ _ _ _ _ _ _ _ _ _ _ _ _ _ _ _ _ _ _ _ _ _ _ _ _ _ _ _ _ _ _ _ _ _ _ _ _ _ _ _ _ _ _ _ _ _ _ _ _ _ _ _ _ _ _ _ _ _ _ _ _ _ _ _ _ _ _ _ _ _ _ _ _ _ _ _ _ _ _ _ _ _ _ _ _ _ _ _ _ _ _ _ _ _ wr w1 hnext st.neg st.expNeg v st.frac st.exp c0 c1 c2 c3 c4 f0 f1 d0 d1 d2 d3 d4 d5 q5 (by omega) q3 q4 q7 (by omega) e1 e2 w2 _ g2 _ cap2 rfl b1 b2 hap ?_
            intro _ _ _ _ _ _ _ _ _ _ _ _ _ _ _ _ _ _ _ _ _ _ _ _ _ _ _ _ _ _ _ _ _ _ _ _ _ _ _ _ _ _ _ _ _ _ _ _ _ _ _ _ _ _ _ _ _ _ _ _ _ _ _ _ _ _ _ _ _ _ _ _ _ _ _ _ _ _ _ _ _ _ _ _ _ _ _ _ _ _ _ _ _ _ _ _ _ _ _ _ _ _ _ _ _ _ _ _ _ _ _ _ _ _ _ _ _ _ _ _ _ _ _ _ _ _ _ _ _ _ _ _ _ _ _ _ _ _ _ _ _ _ _ _ _ _ _ _ _ _ _
            have hWx := b3.same (st' := { st with frac := st.frac + 1, state := 5, dig := st.dig ++ [s[pos]'hlt] }) rfl rfl rfl rfl rfl
            have hst2 : step st (s[pos]'hlt) = some { st with frac := st.frac + 1, state := 5, dig := st.dig ++ [s[pos]'hlt] } := by rw [HD.out]; simp [stepD, HS.out]
            go_roundw
            case rel => exact ⟨_, _, _, _, _, _, _, _, _, _, _, _, _, _, _, _, _, _, _, _, _, _, _, _, _, _, _, _, _, _, _, _, _, _, _, _, _, _, _, _, _, _, _, _, _, _, _, _, _, _, _, _, _, _, _, _, _, _, _, _, _, _, _, _, _, _, _, _, _, _, _, _, _, _, _, _, _, _, _, _, _, _, _, _, _, _, _, _, _, _, _, _, _, _, _, _, _, _, _, _, _, _, _, _, _, _, _, _, _, _, _, _, _, _, _, _, _, _, _, _, _, _, _, _, _, _, _, _, _, _, _, _, _, _, _, _, _, _, _, _, _, _, _, _, _, _, _, _, _, _, _, _, _, _,  (round_fin hlt HR.out HRE.out HIT.out _ hst2 hWx rfl rfl rfl).1, rfl⟩
            case measure => exact (round_fin hlt HR.out HRE.out HIT.out _ hst2 hWx rfl rfl rfl).2
          · have HS : Hid (st.state = 6) := hst
            rw [hst]
            clear hst
            refine rd6 s w.heap.size pos ((s[pos]'hlt).toNat : Int) (wordOf st.word) st.at_ _ _ _ _ _ _ _ _ _ _ _ _ _ _ _ _ _ _ _ _ _ _ _ _ _ _ _ _ _ _ _ _ _ _ _ _ _ _ _ _ _ _ _ _ _ _ _ _ _ _ _ _ _ _ _ _ _ _ _ _ _ _ _ _ _ _ _ _ _ _ _ _ _ _ _ _ _ _ _ _ _ _ _ _ _ _ _ _ _ _ _ _ _ _ _ _ _ _ _ _ _ _ _ _ _ _ _ _ _ _ _ _ _ _ _ _ _ _ _ _ _ _ _ _ _ _ _ _ _ _ _ _ _ _ _ _ _ _ _ _ _ _ _ _ _ _ _ _ _ _ _ _ _ _ _ _ _ _ _ _ _ _ _ _ _ _ _ _ _ wr w1 hnext st.neg st.expNeg v st.frac st.exp c0 c1 c2 c3 c4 f0 f1 d0 d1 d2 d3 d4 d5 q5 (by omega) q3 q4 q7 (by omega) e1 e2 _ rfl ?_
            intro _ _ _ _ _ _ _ _ _ _ _ _ _ _ _ _ _ _ _ _ _ _ _ _ _ _ _ _ _ _ _ _ _ _ _ _ _ _ _ _ _ _ _ _ _ _ _ _ _ _ _ _ _ _ _ _ _ _ _ _ _ _ _ _ _ _ _ _ _ _ _ _ _ _ _ _ _ _ _ _ _ _ _ _ _ _ _ _ _ _ _ _ _ _ _ _ _ _ _ _ _ _ _ _ _ _ _ _ _ _ _ _ _ _ _ _ _ _ _ _ _ _ _ _ _ _ _ _ _ _ _ _ _ _ _ _ _ _ _ _ _ _ _ _ _ _ _ _ _ _ _
            have hWx := HW.out.wrote (st' := { st with exp := min (10 * st.exp + (((s[pos]'hlt).toNat : Int) - 48)) 1000000, state := 8 }) (v' := v) 4 (.int .i64 (min (10 * st.exp + (((s[pos]'hlt).toNat : Int) - 48)) 1000000)) rfl rfl
            have hst2 : step st (s[pos]'hlt) = some { st with exp := min (10 * st.exp + (((s[pos]'hlt).toNat : Int) - 48)) 1000000, state := 8 } := by rw [HD.out]; simp [stepD, HS.out]
            go_roundw
            case rel => exact ⟨_, _, _, _, _, _, _, _, _, _, _, _, _, _, _, _, _, _, _, _, _, _, _, _, _, _, _, _, _, _, _, _, _, _, _, _, _, _, _, _, _, _, _, _, _, _, _, _, _, _, _, _, _, _, _, _, _, _, _, _, _, _, _, _, _, _, _, _, _, _, _, _, _, _, _, _, _, _, _, _, _, _, _, _, _, _, _, _, _, _, _, _, _, _, _, _, _, _, _, _, _, _, _, _, _, _, _, _, _, _, _, _, _, _, _, _, _, _, _, _, _, _, _, _, _, _, _, _, _, _, _, _, _, _, _, _, _, _, _, _, _, _, _, _, _, _, _, _, _, _, _, _, _, _,  (round_fin hlt HR.out HRE.out HIT.out _ hst2 hWx rfl rfl rfl).1, rfl⟩
            case measure => exact (round_fin hlt HR.out HRE.out HIT.out _ hst2 hWx rfl rfl rfl).2
          · have HS : Hid (st.state = 7) := hst
            rw [hst]
            clear hst
            refine rd7 s w.heap.size pos ((s[pos]'hlt).toNat : Int) (wordOf st.word) st.at_ _ _ _ _ _ _ _ _ _ _ _ _ _ _ _ _ _ _ _ _ _ _ _ _ _ _ _ _ _ _ _ _ _ _ _ _ _ _ _ _ _ _ _ _ _ _ _ _ _ _ _ _ _ _ _ _ _ _ _ _ _ _ _ _ _ _ _ _ _ _ _ _ _ _ _ _ _ _ _ _ _ _ _ _ _ _ _ _ _ _ _ _ _ _ _ _ _ _ _ _ _ _ _ _ _ _ _ _ _ _ _ _ _ _ _ _ _ _ _ _ _ _ _ _ _ _ _ _ _ _ _ _ _ _ _ _ _ _ _ _ _ _ _ _ _ _ _ _ _ _ _ _ _ _ _ _ _ _ _ _ _ _ _ _ _ _ _ _ _ wr w1 hnext st.neg st.expNeg v st.frac st.exp c0 c1 c2 c3 c4 f0 f1 d0 d1 d2 d3 d4 d5 q5 (by omega) q3 q4 q7 (by omega) e1 e2 _ rfl ?_
            intro _ _ _ _ _ _ _ _ _ _ _ _ _ _ _ _ _ _ _ _ _ _ _ _ _ _ _ _ _ _ _ _ _ _ _ _ _ _ _ _ _ _ _ _ _ _ _ _ _ _ _ _ _ _ _ _ _ _ _ _ _ _ _ _ _ _ _ _ _ _ _ _ _ _ _ _ _ _ _ _ _ _ _ _ _ _ _ _ _ _ _ _ _ _ _ _ _ _ _ _ _ _ _ _ _ _ _ _ _ _ _ _ _ _ _ _ _ _ _ _ _ _ _ _ _ _ _ _ _ _ _ _ _ _ _ _ _ _ _ _ _ _ _ _ _ _ _ _ _ _ _
            have hWx := HW.out.wrote (st' := { st with exp := min (10 * st.exp + (((s[pos]'hlt).toNat : Int) - 48)) 1000000, state := 8 }) (v' := v) 4 (.int .i64 (min (10 * st.exp + (((s[pos]'hlt).toNat : Int) - 48)) 1000000)) rfl rfl
            have hst2 : step st (s[pos]'hlt) = some { st with exp := min (10 * st.exp + (((s[pos]'hlt).toNat : Int) - 48)) 1000000, state := 8 } := by rw [HD.out]; simp [stepD, HS.out]
            go_roundw
            case rel => exact ⟨_, _, _, _, _, _, _, _, _, _, _, _, _, _, _, _, _, _, _, _, _, _, _, _, _, _, _, _, _, _, _, _, _, _, _, _, _, _, _, _, _, _, _, _, _, _, _, _, _, _, _, _, _, _, _, _, _, _, _, _, _, _, _, _, _, _, _, _, _, _, _, _, _, _, _, _, _, _, _, _, _, _, _, _, _, _, _, _, _, _, _, _, _, _, _, _, _, _, _, _, _, _, _, _, _, _, _, _, _, _, _, _, _, _, _, _, _, _, _, _, _, _, _, _, _, _, _, _, _, _, _, _, _, _, _, _, _, _, _, _, _, _, _, _, _, _, _, _, _, _, _, _, _, _,  (round_fin hlt HR.out HRE.out HIT.out _ hst2 hWx rfl rfl rfl).1, rfl⟩
            case measure => exact (round_fin hlt HR.out HRE.out HIT.out _ hst2 hWx rfl rfl rfl).2
          · have HS : Hid (st.state = 8) := hst
            rw [hst]
            clear hst
            refine rd8 s w.heap.size pos ((s[pos]'hlt).toNat : Int) (wordOf st.word) st.at_ _ _ _ _ _ _ _ _ _ _ _ _ _ _ _ _ _ _ _ _ _ _ _ _ _ _ _ _ _ _ _ _ _ _ _ _ _ _ _ _ _ _ _ _ _ _ _ _ _ _ _ _ _ _ _ _ _ _ _ _ _ _ _ _ _ _ _ _ _ _ _ _ _ _ _ _ _ _ _ _ _ _ _ _ _ _ _ _ _ _ _ _ _ _ _ _ _ _ _ _ _ _ _ _ _ _ _ _ _ _ _ _ _ _ _ _ _ _ _ _ _ _ _ _ _ _ _ _ _ _ _ _ _ _ _ _ _ _ _ _ _ _ _ _ _ _ _ _ _ _ _ _ _ _ _ _ _ _ _ _ _ _ _ _ _ _ _ _ _ wr w1 hnext st.neg st.expNeg v st.frac st.exp c0 c1 c2 c3 c4 f0 f1 d0 d1 d2 d3 d4 d5 q5 (by omega) q3 q4 q7 (by omega) e1 e2 _ rfl ?_
            intro _ _ _ _ _ _ _ _ _ _ _ _ _ _ _ _ _ _ _ _ _ _ _ _ _ _ _ _ _ _ _ _ _ _ _ _ _ _ _ _ _ _ _ _ _ _ _ _ _ _ _ _ _ _ _ _ _ _ _ _ _ _ _ _ _ _ _ _ _ _ _ _ _ _ _ _ _ _ _ _ _ _ _ _ _ _ _ _ _ _ _ _ _ _ _ _ _ _ _ _ _ _ _ _ _ _ _ _ _ _ _ _ _ _ _ _ _ _ _ _ _ _ _ _ _ _ _ _ _ _ _ _ _ _ _ _ _ _ _ _ _ _ _ _ _ _ _ _ _ _ _
            have hWx := HW.out.wrote (st' := { st with exp := min (10 * st.exp + (((s[pos]'hlt).toNat : Int) - 48)) 1000000, state := 8 }) (v' := v) 4 (.int .i64 (min (10 * st.exp + (((s[pos]'hlt).toNat : Int) - 48)) 1000000)) rfl rfl
            have hst2 : step st (s[pos]'hlt) = some { st with exp := min (10 * st.exp + (((s[pos]'hlt).toNat : Int) - 48)) 1000000, state := 8 } := by rw [HD.out]; simp [stepD, HS.out]
            go_roundw
            case rel => exact ⟨_, _, _, _, _, _, _, _, _, _, _, _, _, _, _, _, _, _, _, _, _, _, _, _, _, _, _, _, _, _, _, _, _, _, _, _, _, _, _, _, _, _, _, _, _, _, _, _, _, _, _, _, _, _, _, _, _, _, _, _, _, _, _, _, _, _, _, _, _, _, _, _, _, _, _, _, _, _, _, _, _, _, _, _, _, _, _, _, _, _, _, _, _, _, _, _, _, _, _, _, _, _, _, _, _, _, _, _, _, _, _, _, _, _, _, _, _, _, _, _, _, _, _, _, _, _, _, _, _, _, _, _, _, _, _, _, _, _, _, _, _, _, _, _, _, _, _, _, _, _, _, _, _, _,  (round_fin hlt HR.out HRE.out HIT.out _ hst2 hWx rfl rfl rfl).1, rfl⟩
            case measure => exact (round_fin hlt HR.out HRE.out HIT.out _ hst2 hWx rfl rfl rfl).2
          · have HS : Hid (st.state = 9) := hst
            rw [hst]
            clear hst
            refine rd9 s w.heap.size pos ((s[pos]'hlt).toNat : Int) (wordOf st.word) st.at_ _ _ _ _ _ _ _ _ _ _ _ _ _ _ _ _ _ _ _ _ _ _ _ _ _ _ _ _ _ _ _ _ _ _ _ _ _ _ _ _ _ _ _ _ _ _ _ _ _ _ _ _ _ _ _ _ _ _ _ _ _ _ _ _ _ _ _ _ _ _ _ _ _ _ _ _ _ _ _ _ _ _ _ _ _ _ _ _ _ _ _ _ _ _ _ _ _ _ _ _ _ _ _ _ _ _ _ _ _ _ _ _ _ _ _ _ _ _ _ _ _ _ _ _ _ _ _ _ _ _ _ _ _ _ _ _ _ _ _ _ _ _ _ _ _ _ _ _ _ _ _ _ _ _ _ _ _ _ _ _ _ _ _ _ _ _ _ _ _ wr w1 hnext st.neg st.expNeg v st.frac st.exp c0 c1 c2 c3 c4 f0 f1 d0 d1 d2 d3 d4 d5 q5 (by omega) q3 q4 q7 (by omega) e1 e2 ?_
            intro tmps w' hres hb
            obtain ⟨p, g, hres⟩ := hres
            exact ret_wrong (scan_none hlt HSZ.out HR.out (by rw [HD.out]; simp [stepD, HS.out])) (HW.out.below) hb hres
        · obtain ⟨r, w1, hr0, hr1, hrs, hnext, hr47⟩ : ∃ (r : Int) (w1 : World), 0 ≤ r ∧ r ≤ 2147483647 ∧ step st (s[pos]'hlt) = stepR st r ∧ (∀ ty, (Instr.next (.pointer (some ⟨w.heap.size + 1 + 1 + 1, 0, none⟩)) true ty).run Oajg.prog wr = .ok (.tuple #[.bool true, .int .i64 pos, .int .i32 r]) w1) ∧ ¬ (48 ≤ r ∧ r ≤ 57) ∧ (r < 128 → w1 = wr.iterAt (w.heap.size + 3) s (pos + 1)) ∧ ∃ p, w1 = wr.iterAt (w.heap.size + 3) s p := by
            by_cases ha : (s[pos]'hlt).toNat < 128
            · exact ⟨_, _, by omega, by omega, step_ascii _ _ hd, fun ty => run_next_ascii_at (P := Oajg.prog) _ _ s pos ty hW.iter hlt ha, hd, fun _ => rfl, _, rfl⟩
            · have h1 := decode_high s pos hlt (by omega)
              have h2 := decode_le s pos
              refine ⟨_, _, ?_, ?_, ?_, fun ty => run_next_any_at (P := Oajg.prog) _ _ s pos ty hW.iter hlt, ?_, ?_, _, rfl⟩
              · omega
              · omega
              · rw [step_high _ _ (by omega), stepR_high _ _ (by omega)]
              · omega
              · intro h; omega
          obtain ⟨hnd, hasc, p, hp⟩ := hr47
          have hor := i32_or32 r hr0 hr1
          have HST : Hid (step st (s[pos]'hlt) = stepR st r) := hrs
          have hW1 := hW.moved p
          rw [← hp] at hW1
          have HW : Hid (r < 128 → ScanW w w.heap.size s (pos + 1) st v g w1) := fun h => by rw [hasc h]; exact hW.moved (pos + 1)
          obtain ⟨c0, c1, c2, c3, c4, f0, f1, d0, d1, d2, d3, d4, d5⟩ := hW1.cells
          have HB : Hid (Below w.heap.size w w1) := hW1.below
          have hL0 : lc r.toNat < 128 → r < 128 := fun h => by have := Nat.left_le_or (n := r.toNat) (m := 32); unfold lc at h; omega
          have HL0 : Hid (lc r.toNat < 128 → r < 128) := hL0
          generalize hl : (lc r.toNat : Int) = l at hor
          have HLC : Hid ((lc r.toNat : Int) = l) := hl
          clear hl hL0 hasc hp hrs hW hW1 hd q1 q2
          rcases hst with hst | hst | hst | hst | hst | hst | hst | hst | hst | hst
          · have HS : Hid (st.state = 0) := hst
            rw [hst]
            clear hst
            by_cases t0 : r = 43
            · have H128 : r < 128 := by omega
              refine rc0_r43 s w.heap.size pos r (wordOf st.word) st.at_ _ _ _ _ _ _ _ _ _ _ _ _ _ _ _ _ _ _ _ _ _ _ _ _ _ _ _ _ _ _ _ _ _ _ _ _ _ _ _ _ _ _ _ _ _ _ _ _ _ _ _ _ _ _ _ _ _ _ _ _ _ _ _ _ _ _ _ _ _ _ _ _ _ _ _ _ _ _ _ _ _ _ _ _ _ _ _ _ _ _ _ _ _ _ _ _ _ _ _ _ _ _ _ _ _ _ _ _ _ _ _ _ _ _ _ _ _ _ _ _ _ _ _ _ _ _ _ _ _ _ _ _ _ _ _ _ _ _ _ _ _ _ _ _ _ _ _ _ _ _ _ _ _ _ _ _ _ _ _ _ _ _ _ _ _ _ _ _ _ wr w1 hnext st.neg st.expNeg v st.frac st.exp c0 c1 c2 c3 c4 f0 f1 d0 d1 d2 d3 d4 d5 q5 (by omega) q3 q4 q7 (by omega) hr0 hr1 hnd l hor (by simp [t0]) (by simp; omega) ?_
              intro _ _ _ _ _ _ _ _ _ _ _ _ _ _ _ _ _ _ _ _ _ _ _ _ _ _ _ _ _ _ _ _ _ _ _ _ _ _ _ _ _ _ _ _ _ _ _ _ _ _ _ _ _ _ _ _ _ _ _ _ _ _ _ _ _ _ _ _ _ _ _ _ _ _ _ _ _ _ _ _ _ _ _ _ _ _ _ _ _ _ _ _ _ _ _ _ _ _ _ _ _ _ _ _ _ _ _ _ _ _ _ _ _ _ _ _ _ _ _ _ _ _ _ _ _ _ _ _ _ _ _ _ _ _ _ _ _ _ _ _ _ _ _ _ _ _ _ _ _ _ _
              have hWx := (HW.out H128).wrote (st' := { st with neg := decide (r = 45), state := 1 }) (v' := v) 0 (.bool false) (by simp [t0]) rfl
              have hst2 : step st (s[pos]'hlt) = some { st with neg := decide (r = 45), state := 1 } := by rw [HST.out]; simp [stepR, HS.out, HLC.out, t0]
              go_roundw
              case rel => exact ⟨_, _, _, _, _, _, _, _, _, _, _, _, _, _, _, _, _, _, _, _, _, _, _, _, _, _, _, _, _, _, _, _, _, _, _, _, _, _, _, _, _, _, _, _, _, _, _, _, _, _, _, _, _, _, _, _, _, _, _, _, _, _, _, _, _, _, _, _, _, _, _, _, _, _, _, _, _, _, _, _, _, _, _, _, _, _, _, _, _, _, _, _, _, _, _, _, _, _, _, _, _, _, _, _, _, _, _, _, _, _, _, _, _, _, _, _, _, _, _, _, _, _, _, _, _, _, _, _, _, _, _, _, _, _, _, _, _, _, _, _, _, _, _, _, _, _, _, _, _, _, _, _, _, _,  (round_fin hlt HR.out HRE.out HIT.out _ hst2 hWx rfl rfl rfl).1, rfl⟩
              case measure => exact (round_fin hlt HR.out HRE.out HIT.out _ hst2 hWx rfl rfl rfl).2
            by_cases t1 : r = 45
            · have H128 : r < 128 := by omega
              refine rc0_r45 s w.heap.size pos r (wordOf st.word) st.at_ _ _ _ _ _ _ _ _ _ _ _ _ _ _ _ _ _ _ _ _ _ _ _ _ _ _ _ _ _ _ _ _ _ _ _ _ _ _ _ _ _ _ _ _ _ _ _ _ _ _ _ _ _ _ _ _ _ _ _ _ _ _ _ _ _ _ _ _ _ _ _ _ _ _ _ _ _ _ _ _ _ _ _ _ _ _ _ _ _ _ _ _ _ _ _ _ _ _ _ _ _ _ _ _ _ _ _ _ _ _ _ _ _ _ _ _ _ _ _ _ _ _ _ _ _ _ _ _ _ _ _ _ _ _ _ _ _ _ _ _ _ _ _ _ _ _ _ _ _ _ _ _ _ _ _ _ _ _ _ _ _ _ _ _ _ _ _ _ _ wr w1 hnext st.neg st.expNeg v st.frac st.exp c0 c1 c2 c3 c4 f0 f1 d0 d1 d2 d3 d4 d5 q5 (by omega) q3 q4 q7 (by omega) hr0 hr1 hnd l hor (by simp [t0]) (by simp [t1]) ?_
              intro _ _ _ _ _ _ _ _ _ _ _ _ _ _ _ _ _ _ _ _ _ _ _ _ _ _ _ _ _ _ _ _ _ _ _ _ _ _ _ _ _ _ _ _ _ _ _ _ _ _ _ _ _ _ _ _ _ _ _ _ _ _ _ _ _ _ _ _ _ _ _ _ _ _ _ _ _ _ _ _ _ _ _ _ _ _ _ _ _ _ _ _ _ _ _ _ _ _ _ _ _ _ _ _ _ _ _ _ _ _ _ _ _ _ _ _ _ _ _ _ _ _ _ _ _ _ _ _ _ _ _ _ _ _ _ _ _ _ _ _ _ _ _ _ _ _ _ _ _ _ _
              have hWx := (HW.out H128).wrote (st' := { st with neg := decide (r = 45), state := 1 }) (v' := v) 0 (.bool true) (by simp [t1]) rfl
              have hst2 : step st (s[pos]'hlt) = some { st with neg := decide (r = 45), state := 1 } := by rw [HST.out]; simp [stepR, HS.out, HLC.out, t1, t0]
              go_roundw
              case rel => exact ⟨_, _, _, _, _, _, _, _, _, _, _, _, _, _, _, _, _, _, _, _, _, _, _, _, _, _, _, _, _, _, _, _, _, _, _, _, _, _, _, _, _, _, _, _, _, _, _, _, _, _, _, _, _, _, _, _, _, _, _, _, _, _, _, _, _, _, _, _, _, _, _, _, _, _, _, _, _, _, _, _, _, _, _, _, _, _, _, _, _, _, _, _, _, _, _, _, _, _, _, _, _, _, _, _, _, _, _, _, _, _, _, _, _, _, _, _, _, _, _, _, _, _, _, _, _, _, _, _, _, _, _, _, _, _, _, _, _, _, _, _, _, _, _, _, _, _, _, _, _, _, _, _, _, _,  (round_fin hlt HR.out HRE.out HIT.out _ hst2 hWx rfl rfl rfl).1, rfl⟩
              case measure => exact (round_fin hlt HR.out HRE.out HIT.out _ hst2 hWx rfl rfl rfl).2
            by_cases t2 : r = 46
            · have H128 : r < 128 := by omega
              refine rc0_r46 s w.heap.size pos r (wordOf st.word) st.at_ _ _ _ _ _ _ _ _ _ _ _ _ _ _ _ _ _ _ _ _ _ _ _ _ _ _ _ _ _ _ _ _ _ _ _ _ _ _ _ _ _ _ _ _ _ _ _ _ _ _ _ _ _ _ _ _ _ _ _ _ _ _ _ _ _ _ _ _ _ _ _ _ _ _ _ _ _ _ _ _ _ _ _ _ _ _ _ _ _ _ _ _ _ _ _ _ _ _ _ _ _ _ _ _ _ _ _ _ _ _ _ _ _ _ _ _ _ _ _ _ _ _ _ _ _ _ _ _ _ _ _ _ _ _ _ _ _ _ _ _ _ _ _ _ _ _ _ _ _ _ _ _ _ _ _ _ _ _ _ _ _ _ _ _ _ _ _ _ _ wr w1 hnext st.neg st.expNeg v st.frac st.exp c0 c1 c2 c3 c4 f0 f1 d0 d1 d2 d3 d4 d5 q5 (by omega) q3 q4 q7 (by omega) hr0 hr1 hnd l hor (by simp [t0]) (by simp [t1]) (by simp [t2]) ?_
              intro _ _ _ _ _ _ _ _ _ _ _ _ _ _ _ _ _ _ _ _ _ _ _ _ _ _ _ _ _ _ _ _ _ _ _ _ _ _ _ _ _ _ _ _ _ _ _ _ _ _ _ _ _ _ _ _ _ _ _ _ _ _ _ _ _ _ _ _ _ _ _ _ _ _ _ _ _ _ _ _ _ _ _ _ _ _ _ _ _ _ _ _ _ _ _ _ _ _ _ _ _ _ _ _ _ _ _ _ _ _ _ _ _ _ _ _ _ _ _ _ _ _ _ _ _ _ _ _ _ _ _ _ _ _ _ _ _ _ _ _ _ _ _ _ _ _ _ _ _ _ _
              have hWx := (HW.out H128).same (st' := { st with state := 4 }) rfl rfl rfl rfl rfl
              have hst2 : step st (s[pos]'hlt) = some { st with state := 4 } := by rw [HST.out]; simp [stepR, HS.out, HLC.out, t2, t0, t1]
              go_roundw
              case rel => exact ⟨_, _, _, _, _, _, _, _, _, _, _, _, _, _, _, _, _, _, _, _, _, _, _, _, _, _, _, _, _, _, _, _, _, _, _, _, _, _, _, _, _, _, _, _, _, _, _, _, _, _, _, _, _, _, _, _, _, _, _, _, _, _, _, _, _, _, _, _, _, _, _, _, _, _, _, _, _, _, _, _, _, _, _, _, _, _, _, _, _, _, _, _, _, _, _, _, _, _, _, _, _, _, _, _, _, _, _, _, _, _, _, _, _, _, _, _, _, _, _, _, _, _, _, _, _, _, _, _, _, _, _, _, _, _, _, _, _, _, _, _, _, _, _, _, _, _, _, _, _, _, _, _, _, _,  (round_fin hlt HR.out HRE.out HIT.out _ hst2 hWx rfl rfl rfl).1, rfl⟩
              case measure => exact (round_fin hlt HR.out HRE.out HIT.out _ hst2 hWx rfl rfl rfl).2
            by_cases t3 : l = 105
            · have H128 : r < 128 := HL0.out (by have := HLC.out; omega)
              refine rc0_l105 s w.heap.size pos r (wordOf st.word) st.at_ _ _ _ _ _ _ _ _ _ _ _ _ _ _ _ _ _ _ _ _ _ _ _ _ _ _ _ _ _ _ _ _ _ _ _ _ _ _ _ _ _ _ _ _ _ _ _ _ _ _ _ _ _ _ _ _ _ _ _ _ _ _ _ _ _ _ _ _ _ _ _ _ _ _ _ _ _ _ _ _ _ _ _ _ _ _ _ _ _ _ _ _ _ _ _ _ _ _ _ _ _ _ _ _ _ _ _ _ _ _ _ _ _ _ _ _ _ _ _ _ _ _ _ _ _ _ _ _ _ _ _ _ _ _ _ _ _ _ _ _ _ _ _ _ _ _ _ _ _ _ _ _ _ _ _ _ _ _ _ _ _ _ _ _ _ _ _ _ _ wr w1 hnext st.neg st.expNeg v st.frac st.exp c0 c1 c2 c3 c4 f0 f1 d0 d1 d2 d3 d4 d5 q5 (by omega) q3 q4 q7 (by omega) hr0 hr1 hnd l hor (by simp [t0]) (by simp [t1]) (by simp [t2]) (by simp [t3]) ?_
              intro _ _ _ _ _ _ _ _ _ _ _ _ _ _ _ _ _ _ _ _ _ _ _ _ _ _ _ _ _ _ _ _ _ _ _ _ _ _ _ _ _ _ _ _ _ _ _ _ _ _ _ _ _ _ _ _ _ _ _ _ _ _ _ _ _ _ _ _ _ _ _ _ _ _ _ _ _ _ _ _ _ _ _ _ _ _ _ _ _ _ _ _ _ _ _ _ _ _ _ _ _ _ _ _ _ _ _ _ _ _ _ _ _ _ _ _ _ _ _ _ _ _ _ _ _ _ _ _ _ _ _ _ _ _ _ _ _ _ _ _ _ _ _ _ _ _ _ _ _ _ _
              have hWx := (HW.out H128).same (st' := { st with state := 9, word := 1, at_ := 1 }) rfl rfl rfl rfl rfl
              have hst2 : step st (s[pos]'hlt) = some { st with state := 9, word := 1, at_ := 1 } := by rw [HST.out]; simp [stepR, HS.out, HLC.out, t3, t0, t1, t2]
              go_roundw
              case rel => exact ⟨_, _, _, _, _, _, _, _, _, _, _, _, _, _, _, _, _, _, _, _, _, _, _, _, _, _, _, _, _, _, _, _, _, _, _, _, _, _, _, _, _, _, _, _, _, _, _, _, _, _, _, _, _, _, _, _, _, _, _, _, _, _, _, _, _, _, _, _, _, _, _, _, _, _, _, _, _, _, _, _, _, _, _, _, _, _, _, _, _, _, _, _, _, _, _, _, _, _, _, _, _, _, _, _, _, _, _, _, _, _, _, _, _, _, _, _, _, _, _, _, _, _, _, _, _, _, _, _, _, _, _, _, _, _, _, _, _, _, _, _, _, _, _, _, _, _, _, _, _, _, _, _, _, _,  (round_fin hlt HR.out HRE.out HIT.out _ hst2 hWx rfl rfl rfl).1, rfl⟩
              case measure => exact (round_fin hlt HR.out HRE.out HIT.out _ hst2 hWx rfl rfl rfl).2
            by_cases t4 : l = 110
            · have H128 : r < 128 := HL0.out (by have := HLC.out; omega)
              refine rc0_l110 s w.heap.size pos r (wordOf st.word) st.at_ _ _ _ _ _ _ _ _ _ _ _ _ _ _ _ _ _ _ _ _ _ _ _ _ _ _ _ _ _ _ _ _ _ _ _ _ _ _ _ _ _ _ _ _ _ _ _ _ _ _ _ _ _ _ _ _ _ _ _ _ _ _ _ _ _ _ _ _ _ _ _ _ _ _ _ _ _ _ _ _ _ _ _ _ _ _ _ _ _ _ _ _ _ _ _ _ _ _ _ _ _ _ _ _ _ _ _ _ _ _ _ _ _ _ _ _ _ _ _ _ _ _ _ _ _ _ _ _ _ _ _ _ _ _ _ _ _ _ _ _ _ _ _ _ _ _ _ _ _ _ _ _ _ _ _ _ _ _ _ _ _ _ _ _ _ _ _ _ _ wr w1 hnext st.neg st.expNeg v st.frac st.exp c0 c1 c2 c3 c4 f0 f1 d0 d1 d2 d3 d4 d5 q5 (by omega) q3 q4 q7 (by omega) hr0 hr1 hnd l hor (by simp [t0]) (by simp [t1]) (by simp [t2]) (by simp [t3]) (by simp [t4]) ?_
              intro _ _ _ _ _ _ _ _ _ _ _ _ _ _ _ _ _ _ _ _ _ _ _ _ _ _ _ _ _ _ _ _ _ _ _ _ _ _ _ _ _ _ _ _ _ _ _ _ _ _ _ _ _ _ _ _ _ _ _ _ _ _ _ _ _ _ _ _ _ _ _ _ _ _ _ _ _ _ _ _ _ _ _ _ _ _ _ _ _ _ _ _ _ _ _ _ _ _ _ _ _ _ _ _ _ _ _ _ _ _ _ _ _ _ _ _ _ _ _ _ _ _ _ _ _ _ _ _ _ _ _ _ _ _ _ _ _ _ _ _ _ _ _ _ _ _ _ _ _ _ _
              have hWx := (HW.out H128).same (st' := { st with state := 9, word := 2, at_ := 1 }) rfl rfl rfl rfl rfl
              have hst2 : step st (s[pos]'hlt) = some { st with state := 9, word := 2, at_ := 1 } := by rw [HST.out]; simp [stepR, HS.out, HLC.out, t4, t0, t1, t2, t3]
              go_roundw
              case rel => exact ⟨_, _, _, _, _, _, _, _, _, _, _, _, _, _, _, _, _, _, _, _, _, _, _, _, _, _, _, _, _, _, _, _, _, _, _, _, _, _, _, _, _, _, _, _, _, _, _, _, _, _, _, _, _, _, _, _, _, _, _, _, _, _, _, _, _, _, _, _, _, _, _, _, _, _, _, _, _, _, _, _, _, _, _, _, _, _, _, _, _, _, _, _, _, _, _, _, _, _, _, _, _, _, _, _, _, _, _, _, _, _, _, _, _, _, _, _, _, _, _, _, _, _, _, _, _, _, _, _, _, _, _, _, _, _, _, _, _, _, _, _, _, _, _, _, _, _, _, _, _, _, _, _, _, _,  (round_fin hlt HR.out HRE.out HIT.out _ hst2 hWx rfl rfl rfl).1, rfl⟩
              case measure => exact (round_fin hlt HR.out HRE.out HIT.out _ hst2 hWx rfl rfl rfl).2
            refine rc0_no s w.heap.size pos r (wordOf st.word) st.at_ _ _ _ _ _ _ _ _ _ _ _ _ _ _ _ _ _ _ _ _ _ _ _ _ _ _ _ _ _ _ _ _ _ _ _ _ _ _ _ _ _ _ _ _ _ _ _ _ _ _ _ _ _ _ _ _ _ _ _ _ _ _ _ _ _ _ _ _ _ _ _ _ _ _ _ _ _ _ _ _ _ _ _ _ _ _ _ _ _ _ _ _ _ _ _ _ _ _ _ _ _ _ _ _ _ _ _ _ _ _ _ _ _ _ _ _ _ _ _ _ _ _ _ _ _ _ _ _ _ _ _ _ _ _ _ _ _ _ _ _ _ _ _ _ _ _ _ _ _ _ _ _ _ _ _ _ _ _ _ _ _ _ _ _ _ _ _ _ _ wr w1 hnext st.neg st.expNeg v st.frac st.exp c0 c1 c2 c3 c4 f0 f1 d0 d1 d2 d3 d4 d5 q5 (by omega) q3 q4 q7 (by omega) hr0 hr1 hnd l hor (by simp [t0]) (by simp [t1]) (by simp [t2]) (by simp [t3]) (by simp [t4]) ?_
            intro tmps w' hres hb
            obtain ⟨p, g, hres⟩ := hres
            exact ret_wrong (scan_none hlt HSZ.out HR.out (by rw [HST.out]; simp [stepR, HS.out, HLC.out, t0, t1, t2, t3, t4])) (HB.out) hb hres
          · have HS : Hid (st.state = 1) := hst
            rw [hst]
            clear hst
            by_cases t0 : r = 46
            · have H128 : r < 128 := by omega
              refine rc1_r46 s w.heap.size pos r (wordOf st.word) st.at_ _ _ _ _ _ _ _ _ _ _ _ _ _ _ _ _ _ _ _ _ _ _ _ _ _ _ _ _ _ _ _ _ _ _ _ _ _ _ _ _ _ _ _ _ _ _ _ _ _ _ _ _ _ _ _ _ _ _ _ _ _ _ _ _ _ _ _ _ _ _ _ _ _ _ _ _ _ _ _ _ _ _ _ _ _ _ _ _ _ _ _ _ _ _ _ _ _ _ _ _ _ _ _ _ _ _ _ _ _ _ _ _ _ _ _ _ _ _ _ _ _ _ _ _ _ _ _ _ _ _ _ _ _ _ _ _ _ _ _ _ _ _ _ _ _ _ _ _ _ _ _ _ _ _ _ _ _ _ _ _ _ _ _ _ _ _ _ _ _ wr w1 hnext st.neg st.expNeg v st.frac st.exp c0 c1 c2 c3 c4 f0 f1 d0 d1 d2 d3 d4 d5 q5 (by omega) q3 q4 q7 (by omega) hr0 hr1 hnd l hor (by simp [t0]) ?_
              intro _ _ _ _ _ _ _ _ _ _ _ _ _ _ _ _ _ _ _ _ _ _ _ _ _ _ _ _ _ _ _ _ _ _ _ _ _ _ _ _ _ _ _ _ _ _ _ _ _ _ _ _ _ _ _ _ _ _ _ _ _ _ _ _ _ _ _ _ _ _ _ _ _ _ _ _ _ _ _ _ _ _ _ _ _ _ _ _ _ _ _ _ _ _ _ _ _ _ _ _ _ _ _ _ _ _ _ _ _ _ _ _ _ _ _ _ _ _ _ _ _ _ _ _ _ _ _ _ _ _ _ _ _ _ _ _ _ _ _ _ _ _ _ _ _ _ _ _ _ _ _
              have hWx := (HW.out H128).same (st' := { st with state := 4 }) rfl rfl rfl rfl rfl
              have hst2 : step st (s[pos]'hlt) = some { st with state := 4 } := by rw [HST.out]; simp [stepR, HS.out, HLC.out, t0]
              go_roundw
              case rel => exact ⟨_, _, _, _, _, _, _, _, _, _, _, _, _, _, _, _, _, _, _, _, _, _, _, _, _, _, _, _, _, _, _, _, _, _, _, _, _, _, _, _, _, _, _, _, _, _, _, _, _, _, _, _, _, _, _, _, _, _, _, _, _, _, _, _, _, _, _, _, _, _, _, _, _, _, _, _, _, _, _, _, _, _, _, _, _, _, _, _, _, _, _, _, _, _, _, _, _, _, _, _, _, _, _, _, _, _, _, _, _, _, _, _, _, _, _, _, _, _, _, _, _, _, _, _, _, _, _, _, _, _, _, _, _, _, _, _, _, _, _, _, _, _, _, _, _, _, _, _, _, _, _, _, _, _,  (round_fin hlt HR.out HRE.out HIT.out _ hst2 hWx rfl rfl rfl).1, rfl⟩
              case measure => exact (round_fin hlt HR.out HRE.out HIT.out _ hst2 hWx rfl rfl rfl).2
            by_cases t1 : l = 105
            · have H128 : r < 128 := HL0.out (by have := HLC.out; omega)
              refine rc1_l105 s w.heap.size pos r (wordOf st.word) st.at_ _ _ _ _ _ _ _ _ _ _ _ _ _ _ _ _ _ _ _ _ _ _ _ _ _ _ _ _ _ _ _ _ _ _ _ _ _ _ _ _ _ _ _ _ _ _ _ _ _ _ _ _ _ _ _ _ _ _ _ _ _ _ _ _ _ _ _ _ _ _ _ _ _ _ _ _ _ _ _ _ _ _ _ _ _ _ _ _ _ _ _ _ _ _ _ _ _ _ _ _ _ _ _ _ _ _ _ _ _ _ _ _ _ _ _ _ _ _ _ _ _ _ _ _ _ _ _ _ _ _ _ _ _ _ _ _ _ _ _ _ _ _ _ _ _ _ _ _ _ _ _ _ _ _ _ _ _ _ _ _ _ _ _ _ _ _ _ _ _ wr w1 hnext st.neg st.expNeg v st.frac st.exp c0 c1 c2 c3 c4 f0 f1 d0 d1 d2 d3 d4 d5 q5 (by omega) q3 q4 q7 (by omega) hr0 hr1 hnd l hor (by simp [t0]) (by simp [t1]) ?_
              intro _ _ _ _ _ _ _ _ _ _ _ _ _ _ _ _ _ _ _ _ _ _ _ _ _ _ _ _ _ _ _ _ _ _ _ _ _ _ _ _ _ _ _ _ _ _ _ _ _ _ _ _ _ _ _ _ _ _ _ _ _ _ _ _ _ _ _ _ _ _ _ _ _ _ _ _ _ _ _ _ _ _ _ _ _ _ _ _ _ _ _ _ _ _ _ _ _ _ _ _ _ _ _ _ _ _ _ _ _ _ _ _ _ _ _ _ _ _ _ _ _ _ _ _ _ _ _ _ _ _ _ _ _ _ _ _ _ _ _ _ _ _ _ _ _ _ _ _ _ _ _
              have hWx := (HW.out H128).same (st' := { st with state := 9, word := 1, at_ := 1 }) rfl rfl rfl rfl rfl
              have hst2 : step st (s[pos]'hlt) = some { st with state := 9, word := 1, at_ := 1 } := by rw [HST.out]; simp [stepR, HS.out, HLC.out, t1, t0]
              go_roundw
              case rel => exact ⟨_, _, _, _, _, _, _, _, _, _, _, _, _, _, _, _, _, _, _, _, _, _, _, _, _, _, _, _, _, _, _, _, _, _, _, _, _, _, _, _, _, _, _, _, _, _, _, _, _, _, _, _, _, _, _, _, _, _, _, _, _, _, _, _, _, _, _, _, _, _, _, _, _, _, _, _, _, _, _, _, _, _, _, _, _, _, _, _, _, _, _, _, _, _, _, _, _, _, _, _, _, _, _, _, _, _, _, _, _, _, _, _, _, _, _, _, _, _, _, _, _, _, _, _, _, _, _, _, _, _, _, _, _, _, _, _, _, _, _, _, _, _, _, _, _, _, _, _, _, _, _, _, _, _,  (round_fin hlt HR.out HRE.out HIT.out _ hst2 hWx rfl rfl rfl).1, rfl⟩
              case measure => exact (round_fin hlt HR.out HRE.out HIT.out _ hst2 hWx rfl rfl rfl).2
            by_cases t2 : l = 110
            · have H128 : r < 128 := HL0.out (by have := HLC.out; omega)
              refine rc1_l110 s w.heap.size pos r (wordOf st.word) st.at_ _ _ _ _ _ _ _ _ _ _ _ _ _ _ _ _ _ _ _ _ _ _ _ _ _ _ _ _ _ _ _ _ _ _ _ _ _ _ _ _ _ _ _ _ _ _ _ _ _ _ _ _ _ _ _ _ _ _ _ _ _ _ _ _ _ _ _ _ _ _ _ _ _ _ _ _ _ _ _ _ _ _ _ _ _ _ _ _ _ _ _ _ _ _ _ _ _ _ _ _ _ _ _ _ _ _ _ _ _ _ _ _ _ _ _ _ _ _ _ _ _ _ _ _ _ _ _ _ _ _ _ _ _ _ _ _ _ _ _ _ _ _ _ _ _ _ _ _ _ _ _ _ _ _ _ _ _ _ _ _ _ _ _ _ _ _ _ _ _ wr w1 hnext st.neg st.expNeg v st.frac st.exp c0 c1 c2 c3 c4 f0 f1 d0 d1 d2 d3 d4 d5 q5 (by omega) q3 q4 q7 (by omega) hr0 hr1 hnd l hor (by simp [t0]) (by simp [t1]) (by simp [t2]) ?_
              intro _ _ _ _ _ _ _ _ _ _ _ _ _ _ _ _ _ _ _ _ _ _ _ _ _ _ _ _ _ _ _ _ _ _ _ _ _ _ _ _ _ _ _ _ _ _ _ _ _ _ _ _ _ _ _ _ _ _ _ _ _ _ _ _ _ _ _ _ _ _ _ _ _ _ _ _ _ _ _ _ _ _ _ _ _ _ _ _ _ _ _ _ _ _ _ _ _ _ _ _ _ _ _ _ _ _ _ _ _ _ _ _ _ _ _ _ _ _ _ _ _ _ _ _ _ _ _ _ _ _ _ _ _ _ _ _ _ _ _ _ _ _ _ _ _ _ _ _ _ _ _
              have hWx := (HW.out H128).same (st' := { st with state := 9, word := 2, at_ := 1 }) rfl rfl rfl rfl rfl
              have hst2 : step st (s[pos]'hlt) = some { st with state := 9, word := 2, at_ := 1 } := by rw [HST.out]; simp [stepR, HS.out, HLC.out, t2, t0, t1]
              go_roundw
              case rel => exact ⟨_, _, _, _, _, _, _, _, _, _, _, _, _, _, _, _, _, _, _, _, _, _, _, _, _, _, _, _, _, _, _, _, _, _, _, _, _, _, _, _, _, _, _, _, _, _, _, _, _, _, _, _, _, _, _, _, _, _, _, _, _, _, _, _, _, _, _, _, _, _, _, _, _, _, _, _, _, _, _, _, _, _, _, _, _, _, _, _, _, _, _, _, _, _, _, _, _, _, _, _, _, _, _, _, _, _, _, _, _, _, _, _, _, _, _, _, _, _, _, _, _, _, _, _, _, _, _, _, _, _, _, _, _, _, _, _, _, _, _, _, _, _, _, _, _, _, _, _, _, _, _, _, _, _,  (round_fin hlt HR.out HRE.out HIT.out _ hst2 hWx rfl rfl rfl).1, rfl⟩
              case measure => exact (round_fin hlt HR.out HRE.out HIT.out _ hst2 hWx rfl rfl rfl).2
            refine rc1_no s w.heap.size pos r (wordOf st.word) st.at_ _ _ _ _ _ _ _ _ _ _ _ _ _ _ _ _ _ _ _ _ _ _ _ _ _ _ _ _ _ _ _ _ _ _ _ _ _ _ _ _ _ _ _ _ _ _ _ _ _ _ _ _ _ _ _ _ _ _ _ _ _ _ _ _ _ _ _ _ _ _ _ _ _ _ _ _ _ _ _ _ _ _ _ _ _ _ _ _ _ _ _ _ _ _ _ _ _ _ _ _ _ _ _ _ _ _ _ _ _ _ _ _ _ _ _ _ _ _ _ _ _ _ _ _ _ _ _ _ _ _ _ _ _ _ _ _ _ _ _ _ _ _ _ _ _ _ _ _ _ _ _ _ _ _ _ _ _ _ _ _ _ _ _ _ _ _ _ _ _ wr w1 hnext st.neg st.expNeg v st.frac st.exp c0 c1 c2 c3 c4 f0 f1 d0 d1 d2 d3 d4 d5 q5 (by omega) q3 q4 q7 (by omega) hr0 hr1 hnd l hor (by simp [t0]) (by simp [t1]) (by simp [t2]) ?_
            intro tmps w' hres hb
            obtain ⟨p, g, hres⟩ := hres
            exact ret_wrong (scan_none hlt HSZ.out HR.out (by rw [HST.out]; simp [stepR, HS.out, HLC.out, t0, t1, t2])) (HB.out) hb hres
          · have HS : Hid (st.state = 2) := hst
            rw [hst]
            clear hst
            by_cases t0 : r = 46
            · have H128 : r < 128 := by omega
              refine rc2_r46 s w.heap.size pos r (wordOf st.word) st.at_ _ _ _ _ _ _ _ _ _ _ _ _ _ _ _ _ _ _ _ _ _ _ _ _ _ _ _ _ _ _ _ _ _ _ _ _ _ _ _ _ _ _ _ _ _ _ _ _ _ _ _ _ _ _ _ _ _ _ _ _ _ _ _ _ _ _ _ _ _ _ _ _ _ _ _ _ _ _ _ _ _ _ _ _ _ _ _ _ _ _ _ _ _ _ _ _ _ _ _ _ _ _ _ _ _ _ _ _ _ _ _ _ _ _ _ _ _ _ _ _ _ _ _ _ _ _ _ _ _ _ _ _ _ _ _ _ _ _ _ _ _ _ _ _ _ _ _ _ _ _ _ _ _ _ _ _ _ _ _ _ _ _ _ _ _ _ _ _ _ wr w1 hnext st.neg st.expNeg v st.frac st.exp c0 c1 c2 c3 c4 f0 f1 d0 d1 d2 d3 d4 d5 q5 (by omega) q3 q4 q7 (by omega) hr0 hr1 hnd l hor (by simp [t0]) ?_
              intro _ _ _ _ _ _ _ _ _ _ _ _ _ _ _ _ _ _ _ _ _ _ _ _ _ _ _ _ _ _ _ _ _ _ _ _ _ _ _ _ _ _ _ _ _ _ _ _ _ _ _ _ _ _ _ _ _ _ _ _ _ _ _ _ _ _ _ _ _ _ _ _ _ _ _ _ _ _ _ _ _ _ _ _ _ _ _ _ _ _ _ _ _ _ _ _ _ _ _ _ _ _ _ _ _ _ _ _ _ _ _ _ _ _ _ _ _ _ _ _ _ _ _ _ _ _ _ _ _ _ _ _ _ _ _ _ _ _ _ _ _ _ _ _ _ _ _ _ _ _ _
              have hWx := (HW.out H128).same (st' := { st with state := 3 }) rfl rfl rfl rfl rfl
              have hst2 : step st (s[pos]'hlt) = some { st with state := 3 } := by rw [HST.out]; simp [stepR, HS.out, HLC.out, t0]
              go_roundw
              case rel => exact ⟨_, _, _, _, _, _, _, _, _, _, _, _, _, _, _, _, _, _, _, _, _, _, _, _, _, _, _, _, _, _, _, _, _, _, _, _, _, _, _, _, _, _, _, _, _, _, _, _, _, _, _, _, _, _, _, _, _, _, _, _, _, _, _, _, _, _, _, _, _, _, _, _, _, _, _, _, _, _, _, _, _, _, _, _, _, _, _, _, _, _, _, _, _, _, _, _, _, _, _, _, _, _, _, _, _, _, _, _, _, _, _, _, _, _, _, _, _, _, _, _, _, _, _, _, _, _, _, _, _, _, _, _, _, _, _, _, _, _, _, _, _, _, _, _, _, _, _, _, _, _, _, _, _, _,  (round_fin hlt HR.out HRE.out HIT.out _ hst2 hWx rfl rfl rfl).1, rfl⟩
              case measure => exact (round_fin hlt HR.out HRE.out HIT.out _ hst2 hWx rfl rfl rfl).2
            by_cases t1 : l = 101
            · have H128 : r < 128 := HL0.out (by have := HLC.out; omega)
              refine rc2_l101 s w.heap.size pos r (wordOf st.word) st.at_ _ _ _ _ _ _ _ _ _ _ _ _ _ _ _ _ _ _ _ _ _ _ _ _ _ _ _ _ _ _ _ _ _ _ _ _ _ _ _ _ _ _ _ _ _ _ _ _ _ _ _ _ _ _ _ _ _ _ _ _ _ _ _ _ _ _ _ _ _ _ _ _ _ _ _ _ _ _ _ _ _ _ _ _ _ _ _ _ _ _ _ _ _ _ _ _ _ _ _ _ _ _ _ _ _ _ _ _ _ _ _ _ _ _ _ _ _ _ _ _ _ _ _ _ _ _ _ _ _ _ _ _ _ _ _ _ _ _ _ _ _ _ _ _ _ _ _ _ _ _ _ _ _ _ _ _ _ _ _ _ _ _ _ _ _ _ _ _ _ wr w1 hnext st.neg st.expNeg v st.frac st.exp c0 c1 c2 c3 c4 f0 f1 d0 d1 d2 d3 d4 d5 q5 (by omega) q3 q4 q7 (by omega) hr0 hr1 hnd l hor (by simp [t0]) (by simp [t1]) ?_
              intro _ _ _ _ _ _ _ _ _ _ _ _ _ _ _ _ _ _ _ _ _ _ _ _ _ _ _ _ _ _ _ _ _ _ _ _ _ _ _ _ _ _ _ _ _ _ _ _ _ _ _ _ _ _ _ _ _ _ _ _ _ _ _ _ _ _ _ _ _ _ _ _ _ _ _ _ _ _ _ _ _ _ _ _ _ _ _ _ _ _ _ _ _ _ _ _ _ _ _ _ _ _ _ _ _ _ _ _ _ _ _ _ _ _ _ _ _ _ _ _ _ _ _ _ _ _ _ _ _ _ _ _ _ _ _ _ _ _ _ _ _ _ _ _ _ _ _ _ _ _ _
              have hWx := (HW.out H128).same (st' := { st with state := 6 }) rfl rfl rfl rfl rfl
              have hst2 : step st (s[pos]'hlt) = some { st with state := 6 } := by rw [HST.out]; simp [stepR, HS.out, HLC.out, t1, t0]
              go_roundw
              case rel => exact ⟨_, _, _, _, _, _, _, _, _, _, _, _, _, _, _, _, _, _, _, _, _, _, _, _, _, _, _, _, _, _, _, _, _, _, _, _, _, _, _, _, _, _, _, _, _, _, _, _, _, _, _, _, _, _, _, _, _, _, _, _, _, _, _, _, _, _, _, _, _, _, _, _, _, _, _, _, _, _, _, _, _, _, _, _, _, _, _, _, _, _, _, _, _, _, _, _, _, _, _, _, _, _, _, _, _, _, _, _, _, _, _, _, _, _, _, _, _, _, _, _, _, _, _, _, _, _, _, _, _, _, _, _, _, _, _, _, _, _, _, _, _, _, _, _, _, _, _, _, _, _, _, _, _, _,  (round_fin hlt HR.out HRE.out HIT.out _ hst2 hWx rfl rfl rfl).1, rfl⟩
              case measure => exact (round_fin hlt HR.out HRE.out HIT.out _ hst2 hWx rfl rfl rfl).2
            refine rc2_no s w.heap.size pos r (wordOf st.word) st.at_ _ _ _ _ _ _ _ _ _ _ _ _ _ _ _ _ _ _ _ _ _ _ _ _ _ _ _ _ _ _ _ _ _ _ _ _ _ _ _ _ _ _ _ _ _ _ _ _ _ _ _ _ _ _ _ _ _ _ _ _ _ _ _ _ _ _ _ _ _ _ _ _ _ _ _ _ _ _ _ _ _ _ _ _ _ _ _ _ _ _ _ _ _ _ _ _ _ _ _ _ _ _ _ _ _ _ _ _ _ _ _ _ _ _ _ _ _ _ _ _ _ _ _ _ _ _ _ _ _ _ _ _ _ _ _ _ _ _ _ _ _ _ _ _ _ _ _ _ _ _ _ _ _ _ _ _ _ _ _ _ _ _ _ _ _ _ _ _ _ wr w1 hnext st.neg st.expNeg v st.frac st.exp c0 c1 c2 c3 c4 f0 f1 d0 d1 d2 d3 d4 d5 q5 (by omega) q3 q4 q7 (by omega) hr0 hr1 hnd l hor (by simp [t0]) (by simp [t1]) ?_
            intro tmps w' hres hb
            obtain ⟨p, g, hres⟩ := hres
            exact ret_wrong (scan_none hlt HSZ.out HR.out (by rw [HST.out]; simp [stepR, HS.out, HLC.out, t0, t1])) (HB.out) hb hres
          · have HS : Hid (st.state = 3) := hst
            rw [hst]
            clear hst
            by_cases t0 : l = 101
            · have H128 : r < 128 := HL0.out (by have := HLC.out; omega)
              refine rc3_l101 s w.heap.size pos r (wordOf st.word) st.at_ _ _ _ _ _ _ _ _ _ _ _ _ _ _ _ _ _ _ _ _ _ _ _ _ _ _ _ _ _ _ _ _ _ _ _ _ _ _ _ _ _ _ _ _ _ _ _ _ _ _ _ _ _ _ _ _ _ _ _ _ _ _ _ _ _ _ _ _ _ _ _ _ _ _ _ _ _ _ _ _ _ _ _ _ _ _ _ _ _ _ _ _ _ _ _ _ _ _ _ _ _ _ _ _ _ _ _ _ _ _ _ _ _ _ _ _ _ _ _ _ _ _ _ _ _ _ _ _ _ _ _ _ _ _ _ _ _ _ _ _ _ _ _ _ _ _ _ _ _ _ _ _ _ _ _ _ _ _ _ _ _ _ _ _ _ _ _ _ _ wr w1 hnext st.neg st.expNeg v st.frac st.exp c0 c1 c2 c3 c4 f0 f1 d0 d1 d2 d3 d4 d5 q5 (by omega) q3 q4 q7 (by omega) hr0 hr1 hnd l hor (by simp [t0]) ?_
              intro _ _ _ _ _ _ _ _ _ _ _ _ _ _ _ _ _ _ _ _ _ _ _ _ _ _ _ _ _ _ _ _ _ _ _ _ _ _ _ _ _ _ _ _ _ _ _ _ _ _ _ _ _ _ _ _ _ _ _ _ _ _ _ _ _ _ _ _ _ _ _ _ _ _ _ _ _ _ _ _ _ _ _ _ _ _ _ _ _ _ _ _ _ _ _ _ _ _ _ _ _ _ _ _ _ _ _ _ _ _ _ _ _ _ _ _ _ _ _ _ _ _ _ _ _ _ _ _ _ _ _ _ _ _ _ _ _ _ _ _ _ _ _ _ _ _ _ _ _ _ _
              have hWx := (HW.out H128).same (st' := { st with state := 6 }) rfl rfl rfl rfl rfl
              have hst2 : step st (s[pos]'hlt) = some { st with state := 6 } := by rw [HST.out]; simp [stepR, HS.out, HLC.out, t0]
              go_roundw
              case rel => exact ⟨_, _, _, _, _, _, _, _, _, _, _, _, _, _, _, _, _, _, _, _, _, _, _, _, _, _, _, _, _, _, _, _, _, _, _, _, _, _, _, _, _, _, _, _, _, _, _, _, _, _, _, _, _, _, _, _, _, _, _, _, _, _, _, _, _, _, _, _, _, _, _, _, _, _, _, _, _, _, _, _, _, _, _, _, _, _, _, _, _, _, _, _, _, _, _, _, _, _, _, _, _, _, _, _, _, _, _, _, _, _, _, _, _, _, _, _, _, _, _, _, _, _, _, _, _, _, _, _, _, _, _, _, _, _, _, _, _, _, _, _, _, _, _, _, _, _, _, _, _, _, _, _, _, _,  (round_fin hlt HR.out HRE.out HIT.out _ hst2 hWx rfl rfl rfl).1, rfl⟩
              case measure => exact (round_fin hlt HR.out HRE.out HIT.out _ hst2 hWx rfl rfl rfl).2
            refine rc3_no s w.heap.size pos r (wordOf st.word) st.at_ _ _ _ _ _ _ _ _ _ _ _ _ _ _ _ _ _ _ _ _ _ _ _ _ _ _ _ _ _ _ _ _ _ _ _ _ _ _ _ _ _ _ _ _ _ _ _ _ _ _ _ _ _ _ _ _ _ _ _ _ _ _ _ _ _ _ _ _ _ _ _ _ _ _ _ _ _ _ _ _ _ _ _ _ _ _ _ _ _ _ _ _ _ _ _ _ _ _ _ _ _ _ _ _ _ _ _ _ _ _ _ _ _ _ _ _ _ _ _ _ _ _ _ _ _ _ _ _ _ _ _ _ _ _ _ _ _ _ _ _ _ _ _ _ _ _ _ _ _ _ _ _ _ _ _ _ _ _ _ _ _ _ _ _ _ _ _ _ _ wr w1 hnext st.neg st.expNeg v st.frac st.exp c0 c1 c2 c3 c4 f0 f1 d0 d1 d2 d3 d4 d5 q5 (by omega) q3 q4 q7 (by omega) hr0 hr1 hnd l hor (by simp [t0]) ?_
            intro tmps w' hres hb
            obtain ⟨p, g, hres⟩ := hres
            exact ret_wrong (scan_none hlt HSZ.out HR.out (by rw [HST.out]; simp [stepR, HS.out, HLC.out, t0])) (HB.out) hb hres
          · have HS : Hid (st.state = 4) := hst
            rw [hst]
            clear hst
            refine rc4_no s w.heap.size pos r (wordOf st.word) st.at_ _ _ _ _ _ _ _ _ _ _ _ _ _ _ _ _ _ _ _ _ _ _ _ _ _ _ _ _ _ _ _ _ _ _ _ _ _ _ _ _ _ _ _ _ _ _ _ _ _ _ _ _ _ _ _ _ _ _ _ _ _ _ _ _ _ _ _ _ _ _ _ _ _ _ _ _ _ _ _ _ _ _ _ _ _ _ _ _ _ _ _ _ _ _ _ _ _ _ _ _ _ _ _ _ _ _ _ _ _ _ _ _ _ _ _ _ _ _ _ _ _ _ _ _ _ _ _ _ _ _ _ _ _ _ _ _ _ _ _ _ _ _ _ _ _ _ _ _ _ _ _ _ _ _ _ _ _ _ _ _ _ _ _ _ _ _ _ _ _ wr w1 hnext st.neg st.expNeg v st.frac st.exp c0 c1 c2 c3 c4 f0 f1 d0 d1 d2 d3 d4 d5 q5 (by omega) q3 q4 q7 (by omega) hr0 hr1 hnd l hor ?_
            intro tmps w' hres hb
            obtain ⟨p, g, hres⟩ := hres
            exact ret_wrong (scan_none hlt HSZ.out HR.out (by rw [HST.out]; simp [stepR, HS.out, HLC.out])) (HB.out) hb hres
          · have HS : Hid (st.state = 5) := hst
            rw [hst]
            clear hst
            by_cases t0 : l = 101
            · have H128 : r < 128 := HL0.out (by have := HLC.out; omega)
              refine rc5_l101 s w.heap.size pos r (wordOf st.word) st.at_ _ _ _ _ _ _ _ _ _ _ _ _ _ _ _ _ _ _ _ _ _ _ _ _ _ _ _ _ _ _ _ _ _ _ _ _ _ _ _ _ _ _ _ _ _ _ _ _ _ _ _ _ _ _ _ _ _ _ _ _ _ _ _ _ _ _ _ _ _ _ _ _ _ _ _ _ _ _ _ _ _ _ _ _ _ _ _ _ _ _ _ _ _ _ _ _ _ _ _ _ _ _ _ _ _ _ _ _ _ _ _ _ _ _ _ _ _ _ _ _ _ _ _ _ _ _ _ _ _ _ _ _ _ _ _ _ _ _ _ _ _ _ _ _ _ _ _ _ _ _ _ _ _ _ _ _ _ _ _ _ _ _ _ _ _ _ _ _ _ wr w1 hnext st.neg st.expNeg v st.frac st.exp c0 c1 c2 c3 c4 f0 f1 d0 d1 d2 d3 d4 d5 q5 (by omega) q3 q4 q7 (by omega) hr0 hr1 hnd l hor (by simp [t0]) ?_
              intro _ _ _ _ _ _ _ _ _ _ _ _ _ _ _ _ _ _ _ _ _ _ _ _ _ _ _ _ _ _ _ _ _ _ _ _ _ _ _ _ _ _ _ _ _ _ _ _ _ _ _ _ _ _ _ _ _ _ _ _ _ _ _ _ _ _ _ _ _ _ _ _ _ _ _ _ _ _ _ _ _ _ _ _ _ _ _ _ _ _ _ _ _ _ _ _ _ _ _ _ _ _ _ _ _ _ _ _ _ _ _ _ _ _ _ _ _ _ _ _ _ _ _ _ _ _ _ _ _ _ _ _ _ _ _ _ _ _ _ _ _ _ _ _ _ _ _ _ _ _ _
              have hWx := (HW.out H128).same (st' := { st with state := 6 }) rfl rfl rfl rfl rfl
              have hst2 : step st (s[pos]'hlt) = some { st with state := 6 } := by rw [HST.out]; simp [stepR, HS.out, HLC.out, t0]
              go_roundw
              case rel => exact ⟨_, _, _, _, _, _, _, _, _, _, _, _, _, _, _, _, _, _, _, _, _, _, _, _, _, _, _, _, _, _, _, _, _, _, _, _, _, _, _, _, _, _, _, _, _, _, _, _, _, _, _, _, _, _, _, _, _, _, _, _, _, _, _, _, _, _, _, _, _, _, _, _, _, _, _, _, _, _, _, _, _, _, _, _, _, _, _, _, _, _, _, _, _, _, _, _, _, _, _, _, _, _, _, _, _, _, _, _, _, _, _, _, _, _, _, _, _, _, _, _, _, _, _, _, _, _, _, _, _, _, _, _, _, _, _, _, _, _, _, _, _, _, _, _, _, _, _, _, _, _, _, _, _, _,  (round_fin hlt HR.out HRE.out HIT.out _ hst2 hWx rfl rfl rfl).1, rfl⟩
              case measure => exact (round_fin hlt HR.out HRE.out HIT.out _ hst2 hWx rfl rfl rfl).2
            refine rc5_no s w.heap.size pos r (wordOf st.word) st.at_ _ _ _ _ _ _ _ _ _ _ _ _ _ _ _ _ _ _ _ _ _ _ _ _ _ _ _ _ _ _ _ _ _ _ _ _ _ _ _ _ _ _ _ _ _ _ _ _ _ _ _ _ _ _ _ _ _ _ _ _ _ _ _ _ _ _ _ _ _ _ _ _ _ _ _ _ _ _ _ _ _ _ _ _ _ _ _ _ _ _ _ _ _ _ _ _ _ _ _ _ _ _ _ _ _ _ _ _ _ _ _ _ _ _ _ _ _ _ _ _ _ _ _ _ _ _ _ _ _ _ _ _ _ _ _ _ _ _ _ _ _ _ _ _ _ _ _ _ _ _ _ _ _ _ _ _ _ _ _ _ _ _ _ _ _ _ _ _ _ wr w1 hnext st.neg st.expNeg v st.frac st.exp c0 c1 c2 c3 c4 f0 f1 d0 d1 d2 d3 d4 d5 q5 (by omega) q3 q4 q7 (by omega) hr0 hr1 hnd l hor (by simp [t0]) ?_
            intro tmps w' hres hb
            obtain ⟨p, g, hres⟩ := hres
            exact ret_wrong (scan_none hlt HSZ.out HR.out (by rw [HST.out]; simp [stepR, HS.out, HLC.out, t0])) (HB.out) hb hres
          · have HS : Hid (st.state = 6) := hst
            rw [hst]
            clear hst
            by_cases t0 : r = 43
            · have H128 : r < 128 := by omega
              refine rc6_r43 s w.heap.size pos r (wordOf st.word) st.at_ _ _ _ _ _ _ _ _ _ _ _ _ _ _ _ _ _ _ _ _ _ _ _ _ _ _ _ _ _ _ _ _ _ _ _ _ _ _ _ _ _ _ _ _ _ _ _ _ _ _ _ _ _ _ _ _ _ _ _ _ _ _ _ _ _ _ _ _ _ _ _ _ _ _ _ _ _ _ _ _ _ _ _ _ _ _ _ _ _ _ _ _ _ _ _ _ _ _ _ _ _ _ _ _ _ _ _ _ _ _ _ _ _ _ _ _ _ _ _ _ _ _ _ _ _ _ _ _ _ _ _ _ _ _ _ _ _ _ _ _ _ _ _ _ _ _ _ _ _ _ _ _ _ _ _ _ _ _ _ _ _ _ _ _ _ _ _ _ _ wr w1 hnext st.neg st.expNeg v st.frac st.exp c0 c1 c2 c3 c4 f0 f1 d0 d1 d2 d3 d4 d5 q5 (by omega) q3 q4 q7 (by omega) hr0 hr1 hnd l hor (by simp [t0]) (by simp; omega) ?_
              intro _ _ _ _ _ _ _ _ _ _ _ _ _ _ _ _ _ _ _ _ _ _ _ _ _ _ _ _ _ _ _ _ _ _ _ _ _ _ _ _ _ _ _ _ _ _ _ _ _ _ _ _ _ _ _ _ _ _ _ _ _ _ _ _ _ _ _ _ _ _ _ _ _ _ _ _ _ _ _ _ _ _ _ _ _ _ _ _ _ _ _ _ _ _ _ _ _ _ _ _ _ _ _ _ _ _ _ _ _ _ _ _ _ _ _ _ _ _ _ _ _ _ _ _ _ _ _ _ _ _ _ _ _ _ _ _ _ _ _ _ _ _ _ _ _ _ _ _ _ _ _
              have hWx := (HW.out H128).wrote (st' := { st with expNeg := decide (r = 45), state := 7 }) (v' := v) 1 (.bool false) (by simp [t0]) rfl
              have hst2 : step st (s[pos]'hlt) = some { st with expNeg := decide (r = 45), state := 7 } := by rw [HST.out]; simp [stepR, HS.out, HLC.out, t0]
              go_roundw
              case rel => exact ⟨_, _, _, _, _, _, _, _, _, _, _, _, _, _, _, _, _, _, _, _, _, _, _, _, _, _, _, _, _, _, _, _, _, _, _, _, _, _, _, _, _, _, _, _, _, _, _, _, _, _, _, _, _, _, _, _, _, _, _, _, _, _, _, _, _, _, _, _, _, _, _, _, _, _, _, _, _, _, _, _, _, _, _, _, _, _, _, _, _, _, _, _, _, _, _, _, _, _, _, _, _, _, _, _, _, _, _, _, _, _, _, _, _, _, _, _, _, _, _, _, _, _, _, _, _, _, _, _, _, _, _, _, _, _, _, _, _, _, _, _, _, _, _, _, _, _, _, _, _, _, _, _, _, _,  (round_fin hlt HR.out HRE.out HIT.out _ hst2 hWx rfl rfl rfl).1, rfl⟩
              case measure => exact (round_fin hlt HR.out HRE.out HIT.out _ hst2 hWx rfl rfl rfl).2
            by_cases t1 : r = 45
            · have H128 : r < 128 := by omega
              refine rc6_r45 s w.heap.size pos r (wordOf st.word) st.at_ _ _ _ _ _ _ _ _ _ _ _ _ _ _ _ _ _ _ _ _ _ _ _ _ _ _ _ _ _ _ _ _ _ _ _ _ _ _ _ _ _ _ _ _ _ _ _ _ _ _ _ _ _ _ _ _ _ _ _ _ _ _ _ _ _ _ _ _ _ _ _ _ _ _ _ _ _ _ _ _ _ _ _ _ _ _ _ _ _ _ _ _ _ _ _ _ _ _ _ _ _ _ _ _ _ _ _ _ _ _ _ _ _ _ _ _ _ _ _ _ _ _ _ _ _ _ _ _ _ _ _ _ _ _ _ _ _ _ _ _ _ _ _ _ _ _ _ _ _ _ _ _ _ _ _ _ _ _ _ _ _ _ _ _ _ _ _ _ _ wr w1 hnext st.neg st.expNeg v st.frac st.exp c0 c1 c2 c3 c4 f0 f1 d0 d1 d2 d3 d4 d5 q5 (by omega) q3 q4 q7 (by omega) hr0 hr1 hnd l hor (by simp [t0]) (by simp [t1]) ?_
              intro _ _ _ _ _ _ _ _ _ _ _ _ _ _ _ _ _ _ _ _ _ _ _ _ _ _ _ _ _ _ _ _ _ _ _ _ _ _ _ _ _ _ _ _ _ _ _ _ _ _ _ _ _ _ _ _ _ _ _ _ _ _ _ _ _ _ _ _ _ _ _ _ _ _ _ _ _ _ _ _ _ _ _ _ _ _ _ _ _ _ _ _ _ _ _ _ _ _ _ _ _ _ _ _ _ _ _ _ _ _ _ _ _ _ _ _ _ _ _ _ _ _ _ _ _ _ _ _ _ _ _ _ _ _ _ _ _ _ _ _ _ _ _ _ _ _ _ _ _ _ _
              have hWx := (HW.out H128).wrote (st' := { st with expNeg := decide (r = 45), state := 7 }) (v' := v) 1 (.bool true) (by simp [t1]) rfl
              have hst2 : step st (s[pos]'hlt) = some { st with expNeg := decide (r = 45), state := 7 } := by rw [HST.out]; simp [stepR, HS.out, HLC.out, t1, t0]
              go_roundw
              case rel => exact ⟨_, _, _, _, _, _, _, _, _, _, _, _, _, _, _, _, _, _, _, _, _, _, _, _, _, _, _, _, _, _, _, _, _, _, _, _, _, _, _, _, _, _, _, _, _, _, _, _, _, _, _, _, _, _, _, _, _, _, _, _, _, _, _, _, _, _, _, _, _, _, _, _, _, _, _, _, _, _, _, _, _, _, _, _, _, _, _, _, _, _, _, _, _, _, _, _, _, _, _, _, _, _, _, _, _, _, _, _, _, _, _, _, _, _, _, _, _, _, _, _, _, _, _, _, _, _, _, _, _, _, _, _, _, _, _, _, _, _, _, _, _, _, _, _, _, _, _, _, _, _, _, _, _, _,  (round_fin hlt HR.out HRE.out HIT.out _ hst2 hWx rfl rfl rfl).1, rfl⟩
              case measure => exact (round_fin hlt HR.out HRE.out HIT.out _ hst2 hWx rfl rfl rfl).2
            refine rc6_no s w.heap.size pos r (wordOf st.word) st.at_ _ _ _ _ _ _ _ _ _ _ _ _ _ _ _ _ _ _ _ _ _ _ _ _ _ _ _ _ _ _ _ _ _ _ _ _ _ _ _ _ _ _ _ _ _ _ _ _ _ _ _ _ _ _ _ _ _ _ _ _ _ _ _ _ _ _ _ _ _ _ _ _ _ _ _ _ _ _ _ _ _ _ _ _ _ _ _ _ _ _ _ _ _ _ _ _ _ _ _ _ _ _ _ _ _ _ _ _ _ _ _ _ _ _ _ _ _ _ _ _ _ _ _ _ _ _ _ _ _ _ _ _ _ _ _ _ _ _ _ _ _ _ _ _ _ _ _ _ _ _ _ _ _ _ _ _ _ _ _ _ _ _ _ _ _ _ _ _ _ wr w1 hnext st.neg st.expNeg v st.frac st.exp c0 c1 c2 c3 c4 f0 f1 d0 d1 d2 d3 d4 d5 q5 (by omega) q3 q4 q7 (by omega) hr0 hr1 hnd l hor (by simp [t0]) (by simp [t1]) ?_
            intro tmps w' hres hb
            obtain ⟨p, g, hres⟩ := hres
            exact ret_wrong (scan_none hlt HSZ.out HR.out (by rw [HST.out]; simp [stepR, HS.out, HLC.out, t0, t1])) (HB.out) hb hres
          · have HS : Hid (st.state = 7) := hst
            rw [hst]
            clear hst
            refine rc7_no s w.heap.size pos r (wordOf st.word) st.at_ _ _ _ _ _ _ _ _ _ _ _ _ _ _ _ _ _ _ _ _ _ _ _ _ _ _ _ _ _ _ _ _ _ _ _ _ _ _ _ _ _ _ _ _ _ _ _ _ _ _ _ _ _ _ _ _ _ _ _ _ _ _ _ _ _ _ _ _ _ _ _ _ _ _ _ _ _ _ _ _ _ _ _ _ _ _ _ _ _ _ _ _ _ _ _ _ _ _ _ _ _ _ _ _ _ _ _ _ _ _ _ _ _ _ _ _ _ _ _ _ _ _ _ _ _ _ _ _ _ _ _ _ _ _ _ _ _ _ _ _ _ _ _ _ _ _ _ _ _ _ _ _ _ _ _ _ _ _ _ _ _ _ _ _ _ _ _ _ _ wr w1 hnext st.neg st.expNeg v st.frac st.exp c0 c1 c2 c3 c4 f0 f1 d0 d1 d2 d3 d4 d5 q5 (by omega) q3 q4 q7 (by omega) hr0 hr1 hnd l hor ?_
            intro tmps w' hres hb
            obtain ⟨p, g, hres⟩ := hres
            exact ret_wrong (scan_none hlt HSZ.out HR.out (by rw [HST.out]; simp [stepR, HS.out, HLC.out])) (HB.out) hb hres
          · have HS : Hid (st.state = 8) := hst
            rw [hst]
            clear hst
            refine rc8_no s w.heap.size pos r (wordOf st.word) st.at_ _ _ _ _ _ _ _ _ _ _ _ _ _ _ _ _ _ _ _ _ _ _ _ _ _ _ _ _ _ _ _ _ _ _ _ _ _ _ _ _ _ _ _ _ _ _ _ _ _ _ _ _ _ _ _ _ _ _ _ _ _ _ _ _ _ _ _ _ _ _ _ _ _ _ _ _ _ _ _ _ _ _ _ _ _ _ _ _ _ _ _ _ _ _ _ _ _ _ _ _ _ _ _ _ _ _ _ _ _ _ _ _ _ _ _ _ _ _ _ _ _ _ _ _ _ _ _ _ _ _ _ _ _ _ _ _ _ _ _ _ _ _ _ _ _ _ _ _ _ _ _ _ _ _ _ _ _ _ _ _ _ _ _ _ _ _ _ _ _ wr w1 hnext st.neg st.expNeg v st.frac st.exp c0 c1 c2 c3 c4 f0 f1 d0 d1 d2 d3 d4 d5 q5 (by omega) q3 q4 q7 (by omega) hr0 hr1 hnd l hor ?_
            intro tmps w' hres hb
            obtain ⟨p, g, hres⟩ := hres
            exact ret_wrong (scan_none hlt HSZ.out HR.out (by rw [HST.out]; simp [stepR, HS.out, HLC.out])) (HB.out) hb hres
          · have HS : Hid (st.state = 9) := hst
            rw [hst]
            clear hst
            by_cases t1 : st.at_ < ((wordOf st.word).size : Int)
            · by_cases t2 : l = wordAt st.word st.at_
              · have H128 : r < 128 := HL0.out (by have := HLC.out; have := wordAt_lt st.word st.at_; omega)
                refine rc9_yes s w.heap.size pos r st.word st.at_ _ _ _ _ _ _ _ _ _ _ _ _ _ _ _ _ _ _ _ _ _ _ _ _ _ _ _ _ _ _ _ _ _ _ _ _ _ _ _ _ _ _ _ _ _ _ _ _ _ _ _ _ _ _ _ _ _ _ _ _ _ _ _ _ _ _ _ _ _ _ _ _ _ _ _ _ _ _ _ _ _ _ _ _ _ _ _ _ _ _ _ _ _ _ _ _ _ _ _ _ _ _ _ _ _ _ _ _ _ _ _ _ _ _ _ _ _ _ _ _ _ _ _ _ _ _ _ _ _ _ _ _ _ _ _ _ _ _ _ _ _ _ _ _ _ _ _ _ _ _ _ _ _ _ _ _ _ _ _ _ _ _ _ _ _ _ _ _ _ wr w1 hnext st.neg st.expNeg v st.frac st.exp c0 c1 c2 c3 c4 f0 f1 d0 d1 d2 d3 d4 d5 q5 (by omega) q3 q4 q7 (by omega) hr0 hr1 hnd l hor t1 (fun wx => idx_word st.word st.at_ q7 t1 wx) (wordAt_lt st.word st.at_) (wordAt_ge st.word st.at_) (by simp [t2]) ?_
                intro _ _ _ _ _ _ _ _ _ _ _ _ _ _ _ _ _ _ _ _ _ _ _ _ _ _ _ _ _ _ _ _ _ _ _ _ _ _ _ _ _ _ _ _ _ _ _ _ _ _ _ _ _ _ _ _ _ _ _ _ _ _ _ _ _ _ _ _ _ _ _ _ _ _ _ _ _ _ _ _ _ _ _ _ _ _ _ _ _ _ _ _ _ _ _ _ _ _ _ _ _ _ _ _ _ _ _ _ _ _ _ _ _ _ _ _ _ _ _ _ _ _ _ _ _ _ _ _ _ _ _ _ _ _ _ _ _ _ _ _ _ _ _ _ _ _ _ _ _ _ _
                have hWx := (HW.out H128).same (st' := { st with at_ := st.at_ + 1 }) rfl rfl rfl rfl rfl
                have hst2 : step st (s[pos]'hlt) = some { st with at_ := st.at_ + 1 } := by rw [HST.out]; simp [stepR, HS.out, HLC.out, t2, t1]
                go_roundw
                case rel => exact ⟨_, _, _, _, _, _, _, _, _, _, _, _, _, _, _, _, _, _, _, _, _, _, _, _, _, _, _, _, _, _, _, _, _, _, _, _, _, _, _, _, _, _, _, _, _, _, _, _, _, _, _, _, _, _, _, _, _, _, _, _, _, _, _, _, _, _, _, _, _, _, _, _, _, _, _, _, _, _, _, _, _, _, _, _, _, _, _, _, _, _, _, _, _, _, _, _, _, _, _, _, _, _, _, _, _, _, _, _, _, _, _, _, _, _, _, _, _, _, _, _, _, _, _, _, _, _, _, _, _, _, _, _, _, _, _, _, _, _, _, _, _, _, _, _, _, _, _, _, _, _, _, _, _, _,  (round_fin hlt HR.out HRE.out HIT.out _ hst2 hWx (by show _ = Value.int _ st.state; rw [HS.out]) rfl rfl).1, rfl⟩
                case measure => exact (round_fin hlt HR.out HRE.out HIT.out _ hst2 hWx rfl rfl rfl).2
              · refine rc9_no s w.heap.size pos r st.word st.at_ _ _ _ _ _ _ _ _ _ _ _ _ _ _ _ _ _ _ _ _ _ _ _ _ _ _ _ _ _ _ _ _ _ _ _ _ _ _ _ _ _ _ _ _ _ _ _ _ _ _ _ _ _ _ _ _ _ _ _ _ _ _ _ _ _ _ _ _ _ _ _ _ _ _ _ _ _ _ _ _ _ _ _ _ _ _ _ _ _ _ _ _ _ _ _ _ _ _ _ _ _ _ _ _ _ _ _ _ _ _ _ _ _ _ _ _ _ _ _ _ _ _ _ _ _ _ _ _ _ _ _ _ _ _ _ _ _ _ _ _ _ _ _ _ _ _ _ _ _ _ _ _ _ _ _ _ _ _ _ _ _ _ _ _ _ _ _ _ _ wr w1 hnext st.neg st.expNeg v st.frac st.exp c0 c1 c2 c3 c4 f0 f1 d0 d1 d2 d3 d4 d5 q5 (by omega) q3 q4 q7 (by omega) hr0 hr1 hnd l hor t1 (fun wx => idx_word st.word st.at_ q7 t1 wx) (wordAt_lt st.word st.at_) (wordAt_ge st.word st.at_) (by simp [t2]) ?_
                intro tmps w' hres hb
                obtain ⟨p, g, hres⟩ := hres
                exact ret_wrong (scan_none hlt HSZ.out HR.out (by rw [HST.out]; simp [stepR, HS.out, HLC.out, t2])) (HB.out) hb hres
            · refine rc9_end s w.heap.size pos r st.word st.at_ _ _ _ _ _ _ _ _ _ _ _ _ _ _ _ _ _ _ _ _ _ _ _ _ _ _ _ _ _ _ _ _ _ _ _ _ _ _ _ _ _ _ _ _ _ _ _ _ _ _ _ _ _ _ _ _ _ _ _ _ _ _ _ _ _ _ _ _ _ _ _ _ _ _ _ _ _ _ _ _ _ _ _ _ _ _ _ _ _ _ _ _ _ _ _ _ _ _ _ _ _ _ _ _ _ _ _ _ _ _ _ _ _ _ _ _ _ _ _ _ _ _ _ _ _ _ _ _ _ _ _ _ _ _ _ _ _ _ _ _ _ _ _ _ _ _ _ _ _ _ _ _ _ _ _ _ _ _ _ _ _ _ _ _ _ _ _ _ _ wr w1 hnext st.neg st.expNeg v st.frac st.exp c0 c1 c2 c3 c4 f0 f1 d0 d1 d2 d3 d4 d5 q5 (by omega) q3 q4 q7 (by omega) hr0 hr1 hnd l hor (by simp [t1]) ?_
              intro tmps w' hres hb
              obtain ⟨p, g, hres⟩ := hres
              exact ret_wrong (scan_none hlt HSZ.out HR.out (by rw [HST.out]; simp [stepR, HS.out, HLC.out]; intro h; omega)) (HB.out) hb hres
      · have hpe : pos = s.size := by omega
        subst hpe
        have hend : ∀ ty, (Instr.next (.pointer (some ⟨w.heap.size + 1 + 1 + 1, 0, none⟩)) true ty).run Oajg.prog wr = .ok (.tuple #[.bool false]) wr := fun ty => run_next_end_at (P := Oajg.prog) _ _ s _ ty hW.iter hlt
        obtain ⟨c0, c1, c2, c3, c4, f0, f1, d0, d1, d2, d3, d4, d5⟩ := hW.cells
        have HSC : Hid (scanP s = finP st) := by
          show scanP s = finP st
          unfold scanP
          have : runL s.data.toList = some st := by have := hrun; unfold runTo at this; rw [take_all s _ hlt] at this; exact this
          rw [if_neg hlong, this]
        have HOK : Hid st.Ok := ⟨hreach.state, hreach.word, by have := hreach.dig; omega, by have := hreach.frac; omega, hreach.exp⟩
        have HDG : Hid (DigIn wr v st.dig g) := hW.dig
        have HGL : Hid (g < wr.heap.size) := hW.glt
        have HB : Hid (Below w.heap.size w wr) := hW.below
        have hz : w.heap.size + 1 + 1 < wr.heap.size := by have := hW.size; omega
        have hz1 : w.heap.size < wr.heap.size := by omega
        clear hW hreach hrun
        go_wp2_with (go_at_call 92; refine (finish_any st HOK.out v g _ _ HDG.out HGL.out).mono ?_; rintro e w2 ⟨u, rfl, hb, hsay⟩; obtain ⟨k', n', t', x', p', g', rfl⟩ := says_form hsay; obtain ⟨hc, hf, hz2⟩ := bfacts hb (m := wr.heap.size) rfl)
        try rw [Exit.noGoto_ret]
        refine bodyPost_ret (v := scV k' n' t' x' p' g') (by simp [results, Oajg.results45, go_sem, scV, hc, hz1, d0, d1, d2, d3, d4, d5]) rfl ⟨_, rfl, ?_, by rw [HSC.out]; exact hsay⟩
        have hb2 : Below w.heap.size w w2 := HB.out.trans (hb.mono (by omega))
        repeat' (first | with_reducible exact hb2 | with_reducible refine Below.alloc ?_ ?_ _ | with_reducible refine Below.setCell ?_ ?_ _ | omega | (simp only [World.size_alloc, World.size_setCell]; omega))

end Go.Proofs.Ygcoaj
