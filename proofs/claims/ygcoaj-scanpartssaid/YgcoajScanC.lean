/-
  WALKS: dec.finish; the digits that Scan gathers, in memory.
-/
import Derived.Test.YgcoajScanB
import Derived.Lib.OthersKept
set_option linter.unusedVariables false
set_option linter.unusedSimpArgs false
namespace Go.Proofs.Ygcoaj
open Go.RowKit

/-! ### the digits, in memory -/
def dv (c : UInt8) : Value := .int .u8 (c.toNat : Int)
/-- the slice v, of n digits, lies in block g -/
structure DigIn (w : World) (v : Value) (ds : List UInt8) (g : Nat) : Prop where
  at_ : ∃ cap cur ty, v = .slice (some ⟨g, 0, none⟩) ds.length cap ∧ w.heap[g]? = some (.cells cur ty (0, 0)) ∧ ds.length ≤ cap ∧ cur.size = cap ∧ cap ≤ maxLen ∧ cur.toList.take ds.length = ds.map dv

theorem DigIn.kept {w w' : World} {v : Value} {ds : List UInt8} {g : Nat} (h : DigIn w v ds g) (hk : w'.heap[g]? = w.heap[g]?) : DigIn w' v ds g := by
  obtain ⟨cap, cur, ty, h1, h2, h3⟩ := h.at_
  exact ⟨cap, cur, ty, h1, hk.trans h2, h3⟩

theorem DigIn.cells {w : World} {v : Value} {ds : List UInt8} {g : Nat} (h : DigIn w v ds g) : ∀ j u, (ds.map dv)[j]? = some u → w.cell? ((⟨g, 0, none⟩ : Addr).add j) = some u := by
  intro j u hu
  obtain ⟨cap, cur, ty, h1, h2, h3, h4, h5, h6⟩ := h.at_
  have hj : j < ds.length := by
    have := (List.getElem?_eq_some_iff.1 hu).1
    simpa using this
  rw [← h6, List.getElem?_take_of_lt hj] at hu
  rw [Addr.add_lit]
  simp only [World.cell?, h2]
  simpa using hu

theorem push_fold : ∀ (ds : List UInt8) (r : ByteArray), (ds.map (fun c => (c.toNat : Int))).foldl (fun r n => r.push (UInt8.ofNat n.toNat)) r = ⟨(r.data.toList ++ ds).toArray⟩ := by
  intro ds
  induction ds with
  | nil => intro r; simp
  | cons c ds ih =>
    intro r
    rw [List.map_cons, List.foldl_cons, ih]
    simp [ByteArray.push]

theorem DigIn.toStr {w : World} {v : Value} {ds : List UInt8} {g : Nat} (h : DigIn w v ds g) :
    Sem.run Oajg.prog (convert 127 9 v) w = .ok (.string ⟨ds.toArray⟩) w := by
  have hc := h.cells
  obtain ⟨cap, cur, ty, h1, h2, h3, h4, h5, h6⟩ := h.at_
  subst h1
  rw [run_convert_bytes_string w 127 9 5 _ _ _ Oajg.underlying127 Oajg.underlying5 Oajg.underlying9]
  have hl := run_loadCells_list (P := Oajg.prog) (w := w) ⟨g, 0, none⟩ (ds.map dv) hc
  have e : (ds.map dv) = (ds.map (fun c => (c.toNat : Int))).map (Value.int .u8) := by simp [dv]
  rw [e] at hl
  rw [run_bytesToString (P := Oajg.prog) w ⟨g, 0, none⟩ ds.length cap (ds.map (fun c => (c.toNat : Int))) (by simpa using hl)]
  rw [push_fold]
  simp

/-! ### finish -/
/-- the value that Scan and finish hand back -/
def scV (k : Int) (n : Bool) (s : ByteArray) (x p g : Int) : Value := .agg #[.int .u8 k, .bool n, .string s, .int .i16 x, .int .i64 p, .int .i32 g]
/-- v says what r says -/
def Says (r : Option (Int × Bool × ByteArray × Int)) (v : Value) : Prop :=
  match r with
  | some (k, n, s, x) => v = scV k n s x 0 0
  | none => ∃ p g, v = scV 3 false ⟨#[]⟩ 0 p g

theorem says_some {k : Int} {n : Bool} {s : ByteArray} {x : Int} {r : Option (Int × Bool × ByteArray × Int)} (h : r = some (k, n, s, x)) : Says r (scV k n s x 0 0) := by rw [h]; rfl
theorem says_none {p g : Int} {r : Option (Int × Bool × ByteArray × Int)} (h : r = none) : Says r (scV 3 false ⟨#[]⟩ 0 p g) := by rw [h]; exact ⟨p, g, rfl⟩

def gV (st : St) (v : Value) : Value := .agg #[.bool st.neg, .bool st.expNeg, v, .int .i64 st.frac, .int .i64 st.exp]

theorem below2 {w w1 : World} {A B : Obj} (h : Below ((w.alloc A).alloc B).heap.size ((w.alloc A).alloc B) w1) : Below w.heap.size w w1 :=
  (((Below.refl _ _).alloc (Nat.le_refl _) A).alloc (by simp) B).trans (h.mono (by simp; omega))

theorem mkR_bd (neg : Bool) (s : ByteArray) (x : Int) (n : Bool) (t : ByteArray) (y : Int) (h : mkR neg s x = some (n, t, y)) : -2000 ≤ y ∧ y ≤ 2000 := by
  unfold mkR at h
  split at h
  · cases h
  · split at h
    · cases h; omega
    · split at h
      · cases h
      · cases h; omega

theorem bfacts {W w1 : World} {m : Nat} (hb : Below W.heap.size W w1) (hm : W.heap.size = m) :
    (∀ b o, b < m → w1.cell? ⟨b, o, none⟩ = W.cell? ⟨b, o, none⟩) ∧ (∀ b o, b < m → w1.frozen? ⟨b, o, none⟩ = W.frozen? ⟨b, o, none⟩) ∧ m ≤ w1.heap.size := by
  subst hm
  exact ⟨fun b o h => hb.cell (p := ⟨b, o, none⟩) h, fun b o h => hb.frozen (p := ⟨b, o, none⟩) h, hb.size⟩

theorem below_end {w w1 : World} {A B C : Obj} (hb : Below ((w.alloc A).alloc B).heap.size ((w.alloc A).alloc B) w1) : Below w.heap.size w (w1.alloc C) :=
  (below2 hb).alloc (below2 hb).size C

set_option maxRecDepth 100000 in
set_option maxHeartbeats 1000000 in
theorem finish_pos (k : Int) (hk : k = 2 ∨ k = 3 ∨ k = 5 ∨ k = 8) (neg : Bool) (v : Value) (str : ByteArray) (frac exp at_ nn : Int) (word : ByteArray) (w : World)
    (hconv : ∀ A B : Obj, Sem.run Oajg.prog (convert 127 9 v) ((w.alloc A).alloc B) = .ok (.string str) ((w.alloc A).alloc B)) (hsz : str.size ≤ 1000000)
    (hf0 : 0 ≤ frac) (hf1 : frac ≤ 1024) (hx0 : 0 ≤ exp) (hx1 : exp ≤ 1000000) :
    Calls Oajg.prog 92 #[.agg #[.bool neg, .bool false, v, .int .i64 frac, .int .i64 exp], .int .i64 k, .string word, .int .i64 at_, .int .i64 nn] w fun e w' =>
      ∃ u, e = .returned u ∧ Below w.heap.size w w' ∧ Says (numR (mkR neg str (exp - frac))) u := by
  cases hm : mkR neg str (exp - frac) with
  | none =>
    have HM : Hid (mkR neg str (exp - frac) = none) := hm
    clear hm
    rcases hk with rfl | rfl | rfl | rfl
    all_goals
      go_enter Oajg.func92, Oajg.ntmps92
      go_wp2_with (go_at_call 46; refine (make_none neg str _ hsz (by omega) (by omega) _ HM.out).mono ?_; rintro e w1 ⟨rfl, hb⟩; obtain ⟨hc, hf, hz⟩ := bfacts hb (m := w.heap.size + 2) (by simp); have hz1 : w.heap.size + 1 < w1.heap.size := by omega)
      refine bodyPost_ret (v := scV 4 false ⟨#[]⟩ 0 0 0) (by simp [results, Oajg.results92, go_sem, scV, hc, hz1]) rfl ⟨_, rfl, ?_, says_some rfl⟩
      have hb2 := below2 hb
      repeat' (first | with_reducible exact hb2 | with_reducible refine Below.alloc ?_ ?_ _ | with_reducible refine Below.setCell ?_ ?_ _ | omega | (simp only [World.size_alloc, World.size_setCell]; omega))
  | some r =>
    obtain ⟨n, t, y⟩ := r
    have HM : Hid (mkR neg str (exp - frac) = some (n, t, y)) := hm
    have hy := mkR_bd _ _ _ _ _ _ hm
    clear hm
    rcases hk with rfl | rfl | rfl | rfl
    all_goals
      go_enter Oajg.func92, Oajg.ntmps92
      go_wp2_with (go_at_call 46; refine (make_some neg str _ hsz (by omega) (by omega) _ n t y HM.out).mono ?_; rintro e w1 ⟨rfl, hb⟩; obtain ⟨hc, hf, hz⟩ := bfacts hb (m := w.heap.size + 2) (by simp); have hz1 : w.heap.size + 1 < w1.heap.size := by omega)
      refine bodyPost_ret (v := scV 0 n t y 0 0) (by simp [results, Oajg.results92, go_sem, scV, hc, hz1]) rfl ⟨_, rfl, ?_, says_some rfl⟩
      have hb2 := below2 hb
      repeat' (first | with_reducible exact hb2 | with_reducible refine Below.alloc ?_ ?_ _ | with_reducible refine Below.setCell ?_ ?_ _ | omega | (simp only [World.size_alloc, World.size_setCell]; omega))

set_option maxRecDepth 100000 in
set_option maxHeartbeats 1000000 in
theorem finish_neg (k : Int) (hk : k = 2 ∨ k = 3 ∨ k = 5 ∨ k = 8) (neg : Bool) (v : Value) (str : ByteArray) (frac exp at_ nn : Int) (word : ByteArray) (w : World)
    (hconv : ∀ A B : Obj, Sem.run Oajg.prog (convert 127 9 v) ((w.alloc A).alloc B) = .ok (.string str) ((w.alloc A).alloc B)) (hsz : str.size ≤ 1000000)
    (hf0 : 0 ≤ frac) (hf1 : frac ≤ 1024) (hx0 : 0 ≤ exp) (hx1 : exp ≤ 1000000) :
    Calls Oajg.prog 92 #[.agg #[.bool neg, .bool true, v, .int .i64 frac, .int .i64 exp], .int .i64 k, .string word, .int .i64 at_, .int .i64 nn] w fun e w' =>
      ∃ u, e = .returned u ∧ Below w.heap.size w w' ∧ Says (numR (mkR neg str (-exp - frac))) u := by
  cases hm : mkR neg str (-exp - frac) with
  | none =>
    have HM : Hid (mkR neg str (-exp - frac) = none) := hm
    clear hm
    rcases hk with rfl | rfl | rfl | rfl
    all_goals
      go_enter Oajg.func92, Oajg.ntmps92
      go_wp2_with (go_at_call 46; refine (make_none neg str _ hsz (by omega) (by omega) _ HM.out).mono ?_; rintro e w1 ⟨rfl, hb⟩; obtain ⟨hc, hf, hz⟩ := bfacts hb (m := w.heap.size + 2) (by simp); have hz1 : w.heap.size + 1 < w1.heap.size := by omega)
      refine bodyPost_ret (v := scV 4 false ⟨#[]⟩ 0 0 0) (by simp [results, Oajg.results92, go_sem, scV, hc, hz1]) rfl ⟨_, rfl, ?_, says_some rfl⟩
      have hb2 := below2 hb
      repeat' (first | with_reducible exact hb2 | with_reducible refine Below.alloc ?_ ?_ _ | with_reducible refine Below.setCell ?_ ?_ _ | omega | (simp only [World.size_alloc, World.size_setCell]; omega))
  | some r =>
    obtain ⟨n, t, y⟩ := r
    have HM : Hid (mkR neg str (-exp - frac) = some (n, t, y)) := hm
    have hy := mkR_bd _ _ _ _ _ _ hm
    clear hm
    rcases hk with rfl | rfl | rfl | rfl
    all_goals
      go_enter Oajg.func92, Oajg.ntmps92
      go_wp2_with (go_at_call 46; refine (make_some neg str _ hsz (by omega) (by omega) _ n t y HM.out).mono ?_; rintro e w1 ⟨rfl, hb⟩; obtain ⟨hc, hf, hz⟩ := bfacts hb (m := w.heap.size + 2) (by simp); have hz1 : w.heap.size + 1 < w1.heap.size := by omega)
      refine bodyPost_ret (v := scV 0 n t y 0 0) (by simp [results, Oajg.results92, go_sem, scV, hc, hz1]) rfl ⟨_, rfl, ?_, says_some rfl⟩
      have hb2 := below2 hb
      repeat' (first | with_reducible exact hb2 | with_reducible refine Below.alloc ?_ ?_ _ | with_reducible refine Below.setCell ?_ ?_ _ | omega | (simp only [World.size_alloc, World.size_setCell]; omega))

theorem wordOf1 : (wordOf 1 == ⟨#[110, 97, 110]⟩) = false := by decide
theorem wordOf1' : (wordOf 1 == ⟨#[105, 110, 102, 105, 110, 105, 116, 121]⟩) = true := by decide

set_option maxRecDepth 100000 in
set_option maxHeartbeats 1000000 in
theorem finish_rest (st : St) (h : st.state = 0 ∨ st.state = 1 ∨ st.state = 4 ∨ st.state = 6 ∨ st.state = 7) (v : Value) (nn : Int) (word : ByteArray) (at_ : Int) (w : World) :
    Calls Oajg.prog 92 #[gV st v, .int .i64 st.state, .string word, .int .i64 at_, .int .i64 nn] w fun e w' =>
      ∃ u, e = .returned u ∧ Below w.heap.size w w' ∧ Says none u := by
  unfold gV
  rcases h with h | h | h | h | h
  all_goals
    rw [h]
    clear h
    go_enter Oajg.func92, Oajg.ntmps92
    go_wp2
    refine bodyPost_ret (v := scV 3 false ⟨#[]⟩ 0 nn (-1)) (by simp [results, Oajg.results92, go_sem, scV]) rfl ⟨_, rfl, ?_, says_none rfl⟩
    repeat' (first | with_reducible exact Below.refl _ _ | with_reducible refine Below.alloc ?_ ?_ _ | with_reducible refine Below.setCell ?_ ?_ _ | omega | (simp only [World.size_alloc, World.size_setCell]; omega))

set_option maxRecDepth 100000 in
set_option maxHeartbeats 1000000 in
theorem finish_inf (neg expNeg : Bool) (v : Value) (frac exp nn : Int) (at_ : Int) (w : World) :
    Calls Oajg.prog 92 #[.agg #[.bool neg, .bool expNeg, v, .int .i64 frac, .int .i64 exp], .int .i64 9, .string ⟨#[105, 110, 102, 105, 110, 105, 116, 121]⟩, .int .i64 at_, .int .i64 nn] w fun e w' =>
      ∃ u, e = .returned u ∧ Below w.heap.size w w' ∧ Says (if at_ = 3 ∨ at_ = 8 then some (1, neg, ⟨#[]⟩, 0) else none) u := by
  by_cases h3 : at_ = 3
  · subst h3
    go_enter Oajg.func92, Oajg.ntmps92
    go_wp2
    refine bodyPost_ret (v := scV 1 neg ⟨#[]⟩ 0 0 0) (by simp [results, Oajg.results92, go_sem, scV]) rfl ⟨_, rfl, ?_, says_some (by simp)⟩
    repeat' (first | with_reducible exact Below.refl _ _ | with_reducible refine Below.alloc ?_ ?_ _ | with_reducible refine Below.setCell ?_ ?_ _ | omega | (simp only [World.size_alloc, World.size_setCell]; omega))
  by_cases h8 : at_ = 8
  · subst h8
    go_enter Oajg.func92, Oajg.ntmps92
    go_wp2
    refine bodyPost_ret (v := scV 1 neg ⟨#[]⟩ 0 0 0) (by simp [results, Oajg.results92, go_sem, scV]) rfl ⟨_, rfl, ?_, says_some (by simp)⟩
    repeat' (first | with_reducible exact Below.refl _ _ | with_reducible refine Below.alloc ?_ ?_ _ | with_reducible refine Below.setCell ?_ ?_ _ | omega | (simp only [World.size_alloc, World.size_setCell]; omega))
  · have HF : Hid (¬ (at_ = 3 ∨ at_ = 8)) := fun h => h.elim h3 h8
    have h3' : (at_ == 3) = false := by simp [h3]
    have h8' : (at_ == 8) = false := by simp [h8]
    clear h3 h8
    go_enter Oajg.func92, Oajg.ntmps92
    go_wp2
    refine bodyPost_ret (v := scV 3 false ⟨#[]⟩ 0 nn (-1)) (by simp [results, Oajg.results92, go_sem, scV]) rfl ⟨_, rfl, ?_, says_none (by first | rfl | exact if_neg HF.out)⟩
    repeat' (first | with_reducible exact Below.refl _ _ | with_reducible refine Below.alloc ?_ ?_ _ | with_reducible refine Below.setCell ?_ ?_ _ | omega | (simp only [World.size_alloc, World.size_setCell]; omega))

set_option maxRecDepth 100000 in
set_option maxHeartbeats 1000000 in
theorem finish_nan (neg expNeg : Bool) (v : Value) (frac exp nn : Int) (at_ : Int) (w : World) :
    Calls Oajg.prog 92 #[.agg #[.bool neg, .bool expNeg, v, .int .i64 frac, .int .i64 exp], .int .i64 9, .string ⟨#[110, 97, 110]⟩, .int .i64 at_, .int .i64 nn] w fun e w' =>
      ∃ u, e = .returned u ∧ Below w.heap.size w w' ∧ Says (if at_ = 3 then some (2, false, ⟨#[]⟩, 0) else none) u := by
  by_cases h3 : at_ = 3
  · subst h3
    go_enter Oajg.func92, Oajg.ntmps92
    go_wp2
    refine bodyPost_ret (v := scV 2 false ⟨#[]⟩ 0 0 0) (by simp [results, Oajg.results92, go_sem, scV]) rfl ⟨_, rfl, ?_, says_some (by simp)⟩
    repeat' (first | with_reducible exact Below.refl _ _ | with_reducible refine Below.alloc ?_ ?_ _ | with_reducible refine Below.setCell ?_ ?_ _ | omega | (simp only [World.size_alloc, World.size_setCell]; omega))
  · have HF : Hid (¬ at_ = 3) := h3
    have h3' : (at_ == 3) = false := by simp [h3]
    clear h3
    go_enter Oajg.func92, Oajg.ntmps92
    go_wp2
    refine bodyPost_ret (v := scV 3 false ⟨#[]⟩ 0 nn (-1)) (by simp [results, Oajg.results92, go_sem, scV]) rfl ⟨_, rfl, ?_, says_none (by first | rfl | exact if_neg HF.out)⟩
    repeat' (first | with_reducible exact Below.refl _ _ | with_reducible refine Below.alloc ?_ ?_ _ | with_reducible refine Below.setCell ?_ ?_ _ | omega | (simp only [World.size_alloc, World.size_setCell]; omega))

/-- a machine's state that Scan can be in -/
structure St.Ok (st : St) : Prop where
  state : 0 ≤ st.state ∧ st.state ≤ 9
  word : st.state = 9 → st.word = 1 ∨ st.word = 2
  dig : st.dig.length ≤ 1024
  frac : 0 ≤ st.frac ∧ st.frac ≤ 1024
  exp : 0 ≤ st.exp ∧ st.exp ≤ 1000000

theorem finish_any (st : St) (ok : st.Ok) (v : Value) (g : Nat) (nn : Int) (w : World) (hd : DigIn w v st.dig g) (hg : g < w.heap.size) :
    Calls Oajg.prog 92 #[gV st v, .int .i64 st.state, .string (wordOf st.word), .int .i64 st.at_, .int .i64 nn] w fun e w' =>
      ∃ u, e = .returned u ∧ Below w.heap.size w w' ∧ Says (finP st) u := by
  have hconv : ∀ A B : Obj, Sem.run Oajg.prog (convert 127 9 v) ((w.alloc A).alloc B) = .ok (.string ⟨st.dig.toArray⟩) ((w.alloc A).alloc B) := fun A B =>
    DigIn.toStr (hd.kept (by rw [Below.heap_alloc _ _ _ (by simp; omega), Below.heap_alloc _ _ _ hg]))
  have hsz : (⟨st.dig.toArray⟩ : ByteArray).size ≤ 1000000 := by show st.dig.toArray.size ≤ _; have := ok.dig; simp; omega
  by_cases h1 : st.state = 2 ∨ st.state = 3 ∨ st.state = 5 ∨ st.state = 8
  · have e : finP st = numR (mkR st.neg ⟨st.dig.toArray⟩ ((if st.expNeg then - st.exp else st.exp) - st.frac)) := by
      unfold finP; rw [if_pos h1]
    rw [e]
    unfold gV
    cases hx : st.expNeg
    · exact finish_pos st.state h1 st.neg v _ st.frac st.exp st.at_ nn (wordOf st.word) w hconv hsz ok.frac.1 ok.frac.2 ok.exp.1 ok.exp.2
    · exact finish_neg st.state h1 st.neg v _ st.frac st.exp st.at_ nn (wordOf st.word) w hconv hsz ok.frac.1 ok.frac.2 ok.exp.1 ok.exp.2
  by_cases h9 : st.state = 9
  · unfold gV
    rcases ok.word h9 with hw | hw
    · have e : finP st = if st.at_ = 3 ∨ st.at_ = 8 then some (1, st.neg, ⟨#[]⟩, 0) else none := by
        unfold finP; rw [if_neg h1, if_pos h9, if_neg (by rw [hw]; omega)]; simp [hw]
      rw [e, hw, h9]
      exact finish_inf st.neg st.expNeg v st.frac st.exp nn st.at_ w
    · have e : finP st = if st.at_ = 3 then some (2, false, ⟨#[]⟩, 0) else none := by
        unfold finP; rw [if_neg h1, if_pos h9]
        by_cases h3 : st.at_ = 3
        · rw [if_pos ⟨hw, h3⟩, if_pos h3]
        · rw [if_neg (fun h => h3 h.2), if_neg h3, if_neg (by rw [hw]; omega)]
      rw [e, hw, h9]
      exact finish_nan st.neg st.expNeg v st.frac st.exp nn st.at_ w
  · have e : finP st = none := by unfold finP; rw [if_neg h1, if_neg h9]
    rw [e]
    exact finish_rest st (by have := ok.state; omega) v nn _ _ w

end Go.Proofs.Ygcoaj
