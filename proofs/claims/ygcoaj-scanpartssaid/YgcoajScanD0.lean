/-
  WALKS: dec.Scan: what its rounds do to memory.
-/
import Derived.Test.YgcoajScanC
import Derived.Test.YgcoajScanStep
set_option linter.unusedVariables false
set_option linter.unusedSimpArgs false
namespace Go.Proofs.Ygcoaj
open Go.RowKit Go.Lib

def resC : Array Value := #[.int .u8 0, .bool false, .string ⟨#[]⟩, .int .i16 0, .int .i64 0, .int .i32 0]

/-- the world in a round: N: the result; N+1: room; N+2: g; N+3: the iterator, which stands at pos -/
structure ScanW (w : World) (N : Nat) (s : ByteArray) (pos : Nat) (st : St) (v : Value) (g : Nat) (wr : World) : Prop where
  below : Below N w wr
  size : N + 4 ≤ wr.heap.size
  res : wr.heap[N]? = some (.cells resC 71 (0, 0))
  gat : wr.heap[N + 2]? = some (.cells #[.bool st.neg, .bool st.expNeg, v, .int .i64 st.frac, .int .i64 st.exp] 129 (0, 0))
  iter : wr.heap[N + 3]? = some (.stringIter s pos)
  dig : DigIn wr v st.dig g
  gne : g = N + 1 ∨ N + 4 ≤ g
  glt : g < wr.heap.size

theorem cell_of {w : World} {b : Nat} {c : Array Value} {t : TypeId} {f : Nat × Nat} (h : w.heap[b]? = some (.cells c t f)) (o : Nat) : w.cell? ⟨b, o, none⟩ = c[o]? := by simp [World.cell?, h]
theorem frozen_of {w : World} {b : Nat} {c : Array Value} {t : TypeId} (h : w.heap[b]? = some (.cells c t (0, 0))) (o : Nat) : w.frozen? ⟨b, o, none⟩ = false := by simp [World.frozen?, h]

/-- the iterator moves on -/
theorem ScanW.moved {w : World} {N : Nat} {s : ByteArray} {pos : Nat} {st : St} {v : Value} {g : Nat} {wr : World} (h : ScanW w N s pos st v g wr) (pos' : Nat) : ScanW w N s pos' st v g (wr.iterAt (N + 3) s pos') := by
  have hs := h.size
  refine ⟨below_iterAt h.below (by omega) s pos', by rw [iterAt_size]; exact h.size, ?_, ?_, iterAt_heap _ _ _ _ _ h.iter, h.dig.kept (iterAt_other _ _ _ _ _ ?_), h.gne, by rw [iterAt_size]; exact h.glt⟩
  · rw [iterAt_other _ _ _ _ _ (by omega)]; exact h.res
  · rw [iterAt_other _ _ _ _ _ (by omega)]; exact h.gat
  · have := h.gne; omega

/-- a field of g is written -/
theorem heap_set {w : World} {b o : Nat} {c : Array Value} {t : TypeId} {f : Nat × Nat} (h : w.heap[b]? = some (.cells c t f)) (v : Value) : (w.setCell ⟨b, o, none⟩ v).heap[b]? = some (.cells (c.setIfInBounds o v) t f) := by
  simp [World.setCell, Array.getElem?_modify, h]

theorem ScanW.wrote {w : World} {N : Nat} {s : ByteArray} {pos : Nat} {st st' : St} {v v' : Value} {g : Nat} {wr : World} (h : ScanW w N s pos st v g wr) (o : Nat) (x : Value)
    (he : (#[.bool st.neg, .bool st.expNeg, v, .int .i64 st.frac, .int .i64 st.exp] : Array Value).setIfInBounds o x = #[.bool st'.neg, .bool st'.expNeg, v, .int .i64 st'.frac, .int .i64 st'.exp])
    (hd : st'.dig = st.dig) : ScanW w N s pos st' v g (wr.setCell ⟨N + 2, o, none⟩ x) := by
  have hs := h.size
  have hg := h.gne
  refine ⟨h.below.setCell (by show N ≤ N + 2; omega) x, by rw [World.size_setCell]; exact h.size, ?_, ?_, ?_, ?_, h.gne, by rw [World.size_setCell]; exact h.glt⟩
  · rw [Below.heap_setCell _ _ _ _ (by show N ≠ N + 2; omega)]; exact h.res
  · rw [heap_set h.gat, he]
  · rw [Below.heap_setCell _ _ _ _ (by show N + 3 ≠ N + 2; omega)]; exact h.iter
  · rw [hd]; exact h.dig.kept (Below.heap_setCell _ _ _ _ (by show g ≠ N + 2; omega))

theorem ScanW.same {w : World} {N : Nat} {s : ByteArray} {pos : Nat} {st st' : St} {v : Value} {g : Nat} {wr : World} (h : ScanW w N s pos st v g wr)
    (h1 : st'.neg = st.neg) (h2 : st'.expNeg = st.expNeg) (h3 : st'.dig = st.dig) (h4 : st'.frac = st.frac) (h5 : st'.exp = st.exp) : ScanW w N s pos st' v g wr :=
  ⟨h.below, h.size, h.res, by rw [h1, h2, h4, h5]; exact h.gat, h.iter, by rw [h3]; exact h.dig, h.gne, h.glt⟩

/-- the facts that a round's walk uses -/
theorem ScanW.cells {w : World} {N : Nat} {s : ByteArray} {pos : Nat} {st : St} {v : Value} {g : Nat} {wr : World} (h : ScanW w N s pos st v g wr) :
    wr.cell? ⟨N + 1 + 1, 0, none⟩ = some (.bool st.neg) ∧ wr.cell? ⟨N + 1 + 1, 1, none⟩ = some (.bool st.expNeg) ∧ wr.cell? ⟨N + 1 + 1, 2, none⟩ = some v ∧ wr.cell? ⟨N + 1 + 1, 3, none⟩ = some (.int .i64 st.frac) ∧ wr.cell? ⟨N + 1 + 1, 4, none⟩ = some (.int .i64 st.exp) ∧
    (∀ o, wr.frozen? ⟨N + 1 + 1, o, none⟩ = false) ∧ (∀ o, wr.frozen? ⟨N, o, none⟩ = false) ∧
    wr.cell? ⟨N, 0, none⟩ = some (.int .u8 0) ∧ wr.cell? ⟨N, 1, none⟩ = some (.bool false) ∧ wr.cell? ⟨N, 2, none⟩ = some (.string ⟨#[]⟩) ∧ wr.cell? ⟨N, 3, none⟩ = some (.int .i16 0) ∧ wr.cell? ⟨N, 4, none⟩ = some (.int .i64 0) ∧ wr.cell? ⟨N, 5, none⟩ = some (.int .i32 0) :=
  ⟨cell_of h.gat 0, cell_of h.gat 1, cell_of h.gat 2, cell_of h.gat 3, cell_of h.gat 4, frozen_of h.gat, frozen_of h.res, cell_of h.res 0, cell_of h.res 1, cell_of h.res 2, cell_of h.res 3, cell_of h.res 4, cell_of h.res 5⟩


def zero40 : Array Value := #[.int .u8 0, .int .u8 0, .int .u8 0, .int .u8 0, .int .u8 0, .int .u8 0, .int .u8 0, .int .u8 0, .int .u8 0, .int .u8 0, .int .u8 0, .int .u8 0, .int .u8 0, .int .u8 0, .int .u8 0, .int .u8 0, .int .u8 0, .int .u8 0, .int .u8 0, .int .u8 0, .int .u8 0, .int .u8 0, .int .u8 0, .int .u8 0, .int .u8 0, .int .u8 0, .int .u8 0, .int .u8 0, .int .u8 0, .int .u8 0, .int .u8 0, .int .u8 0, .int .u8 0, .int .u8 0, .int .u8 0, .int .u8 0, .int .u8 0, .int .u8 0, .int .u8 0, .int .u8 0]

theorem heap_new (w : World) (o : Obj) (k : Nat) (h : k = w.heap.size) : (w.alloc o).heap[k]? = some o := by
  subst h
  show (w.heap.push o)[w.heap.size]? = _
  simp

theorem scanW0 (w : World) (s : ByteArray) : ScanW w w.heap.size s 0 st0 (.slice (some ⟨w.heap.size + 1, 0, none⟩) 0 40) (w.heap.size + 1)
    ((((w.alloc (.cells resC 71)).alloc (.cells zero40 126)).alloc (.cells #[.bool false, .bool false, .slice (some ⟨w.heap.size + 1, 0, none⟩) 0 40, .int .i64 0, .int .i64 0] 129)).iter s 0) := by
  unfold World.iter
  refine ⟨?_, by simp, ?_, ?_, ?_, ⟨40, zero40, 126, rfl, ?_, by decide, by decide, by decide, rfl⟩, Or.inl rfl, by simp⟩
  · exact ((((Below.refl _ _).alloc (Nat.le_refl _) _).alloc (by simp) _).alloc (by simp; omega) _).alloc (by simp; omega) _
  · rw [Below.heap_alloc _ _ _ (by simp; omega), Below.heap_alloc _ _ _ (by simp; omega), Below.heap_alloc _ _ _ (by simp)]
    exact heap_new w _ _ rfl
  · rw [Below.heap_alloc _ _ _ (by simp)]
    exact heap_new _ _ _ (by simp)
  · exact heap_new _ _ _ (by simp)
  · rw [Below.heap_alloc _ _ _ (by simp), Below.heap_alloc _ _ _ (by simp)]
    exact heap_new _ _ _ (by simp)

theorem run_append_room2 {P : Program} (w : World) (t ty e e2 : TypeId) (i : TypeInfo) (ht : P.underlying t = some (.slice e)) (hi : P.info? e = some i)
    (g sLen sCap : Nat) (cur : Array Value) (hg : w.heap[g]? = some (.cells cur e2 (0, 0)))
    (a : Addr) (m c : Nat) (news : List Value) (hl : news.length = m * i.size) (hnews : ∀ j u, news[j]? = some u → w.cell? (a.add j) = some u) (h1 : ∀ u ∈ news, u.oneCell' = true)
    (hroom : sLen + m ≤ sCap) (hfit : sLen * i.size + news.length ≤ cur.size) :
    (Builtin.append_ #[t, t] ty #[.slice (some ⟨g, 0, none⟩) sLen sCap, .slice (some a) m c]).run P w =
      .ok (.slice (some ⟨g, 0, none⟩) (sLen + m) sCap) (w.setRow g (cur.toList.take (sLen * i.size) ++ news ++ cur.toList.drop (sLen * i.size + news.length)).toArray) := by
  have hf := run_firstCells_some (P := P) w i.size m a m c news hl hnews
  have hst := run_storeCells_at P g (sLen * i.size) e2 news 0 cur w hg (by simpa using hfit) h1
  simp only [Nat.add_zero] at hst
  simp [Builtin.append_, run_underlying ht, sizeOf, typeInfo, hi, Builtin.lenOf, hroom, hf, Addr.add_lit, hst]

theorem i32_or32 (r : Int) (h0 : 0 ≤ r) (h1 : r ≤ 2147483647) : bits .or .i32 r 32 = (lc r.toNat : Int) := by
  obtain ⟨A, rfl⟩ := Int.eq_ofNat_of_zero_le h0
  have hA : A < 2147483648 := by omega
  have hx : A ||| 32 < 2 ^ 31 := Nat.or_lt_two_pow (by omega) (by decide)
  show IntKind.i32.wrap ((BitVec.ofInt 32 (A : Int) ||| BitVec.ofInt 32 ((32 : Nat) : Int)).toNat : Int) = _
  rw [BitVec.toNat_or, ofInt_u32 A (by omega), ofInt_u32 32 (by decide), Int.toNat_natCast]
  unfold lc
  rw [IntKind.wrap_i32]
  omega

theorem wpList_append_run {P : Program} {w : World} {ops : Array Oper} {rest : List Oper} {o : Oper} {a : Act} {Q : Exit → Act → World → Prop} (hgd : o.guard = none) (s x : Operand) (t : TypeId)
    (ho : o.op = .call { callee := .builtin .append, args := #[s, x], argTypes := #[t, t] }) (v' : Value) (w' : World) (hr : (Builtin.append_ #[t, t] o.type #[a.eval s, a.eval x]).run P w = .ok v' w')
    (h : wpList P ops Q rest (a.put o.dst v') w') : wpList P ops Q (o :: rest) a w :=
  wpList_plain hgd fun _ hK => by
    unfold Oper.wp execOp
    simp only [ho, resolve, invoke, builtin, Sem.run_bind, Sem.run_pure, Result.andThen_ok, List.map_toArray, List.map_cons, List.map_nil, hr]
    exact hK _ _ h

theorem dv_one (ds : List UInt8) : ∀ u ∈ ds.map dv, u.oneCell' = true := by
  intro u hu
  obtain ⟨c, _, rfl⟩ := List.mem_map.1 hu
  rfl

/-- a byte is appended to the digits -/
theorem run_append_dig (W : World) (v : Value) (ds : List UInt8) (g : Nat) (c : UInt8) (b : Nat) (hd : DigIn W v ds g) (hl : ds.length ≤ 1024) (hb : W.cell? ⟨b, 0, none⟩ = some (dv c)) (ty : TypeId) :
    ∃ cap' w' g', (Builtin.append_ #[127, 127] ty #[v, .slice (some ⟨b, 0, none⟩) 1 1]).run Oajg.prog W = .ok (.slice (some ⟨g', 0, none⟩) (ds.length + 1) cap') w' ∧ DigIn w' (.slice (some ⟨g', 0, none⟩) (ds.length + 1) cap') (ds ++ [c]) g' ∧ (g' = g ∨ W.heap.size ≤ g') ∧ g' < w'.heap.size ∧ W.grownBy w' (some g) := by
  have hcells := hd.cells
  obtain ⟨cap, cur, t, h1, h2, h3, h4, h5, h6⟩ := hd.at_
  subst h1
  have hg : g < W.heap.size := (Array.getElem?_eq_some_iff.1 h2).1
  obtain ⟨i, hi, iz, is, ib⟩ := info_parts (P := Oajg.prog) (e := 5) (z := .int .u8 0) (size := 1) (bytes := 1) (by kernel_rfl)
  have hnews : ∀ j u, [dv c][j]? = some u → W.cell? ((⟨b, 0, none⟩ : Addr).add j) = some u := by
    intro j u hu
    cases j with
    | zero => simp at hu; subst hu; rw [Addr.add_lit]; simpa using hb
    | succ j => simp at hu
  have hone : ∀ u ∈ [dv c], u.oneCell' = true := by intro u hu; simp at hu; subst hu; rfl
  by_cases hroom : ds.length + 1 ≤ cap
  · have hr := run_append_room2 (P := Oajg.prog) W 127 ty 5 t i Oajg.underlying127 hi g ds.length cap cur h2 ⟨b, 0, none⟩ 1 1 [dv c] (by simp [is]) hnews hone hroom (by simp [is]; omega)
    refine ⟨_, _, g, hr, ⟨cap, _, t, by simp, setRow_heap W g cur _ t _ h2, by simp; omega, ?_, h5, ?_⟩, Or.inl rfl, ?_, ?_⟩
    · simp [is]; omega
    · simp only [is, Nat.mul_one, h6, List.length_append, List.length_singleton, List.map_append, List.map_cons, List.map_nil]
      exact List.take_left' (by simp)
    · simpa using hg
    · exact ⟨rfl, rfl, rfl, by simp, fun k _ hk => setRow_other W g k _ (fun e => hk (by rw [e]))⟩
  · have hr := run_append_grow (P := Oajg.prog) W 127 ty 5 i (.int .u8 0) Oajg.underlying127 hi iz ⟨g, 0, none⟩ ds.length cap (ds.map dv) (by simp [is]) hcells ⟨b, 0, none⟩ 1 1 [dv c] (by simp [is]) hnews (by omega) (by omega) (growslice_fits (by omega) (by rw [ib]; omega))
    have hge := grownCap_ge W (ds.length + 1) cap 5
    have hcm : grownCap W (ds.length + 1) cap 5 ≤ maxLen := grownCap_le_maxLen W (ds.length + 1) cap 5 (by unfold maxLen; omega)
    refine ⟨_, _, W.heap.size, hr, ⟨_, _, 5, by simp, heap_alloc_new W.drew _, ?_, ?_, hcm, ?_⟩, Or.inr (Nat.le_refl _), ?_, ?_⟩
    · simpa using hge
    · have hz1 : (Value.int IntKind.u8 0).cells.size = 1 := rfl
      rw [Array.size_append, Array.size_append, size_zeroCells, hz1]
      simp
      omega
    · rw [Array.toList_append, Array.toList_append, List.take_append_of_le_length (by simp), List.take_of_length_le (by simp)]
      simp
    · show W.heap.size < (W.drew.alloc _).heap.size
      rw [World.size_alloc]; exact Nat.lt_succ_self _
    · exact ⟨rfl, rfl, rfl, by simp, fun k hk _ => Below.heap_alloc W.drew _ k hk⟩

theorem ScanW.appended {w : World} {N : Nat} {s : ByteArray} {pos : Nat} {st : St} {v : Value} {g : Nat} {W : World} (h : ScanW w N s pos st v g W) {O : Obj} {v' : Value} {w2 : World} {g2 : Nat} {c : UInt8}
    (hd : DigIn w2 v' (st.dig ++ [c]) g2) (hg2 : g2 = g ∨ (W.alloc O).heap.size ≤ g2) (hlt : g2 < w2.heap.size) (hgr : (W.alloc O).grownBy w2 (some g)) :
    (w2.cell? ⟨N + 1 + 1, 2, none⟩ = some v ∧ (∀ o, w2.frozen? ⟨N + 1 + 1, o, none⟩ = false)) ∧ ScanW w N s pos { st with dig := st.dig ++ [c] } v' g2 (w2.setCell ⟨N + 2, 2, none⟩ v') := by
  have hs := h.size
  have hg := h.gne
  have hk : ∀ k, k < W.heap.size → k ≠ g → w2.heap[k]? = W.heap[k]? := fun k hk hne => by
    rw [hgr.block k (by simp; omega) (fun e => hne (by simpa using e)), Below.heap_alloc _ _ _ hk]
  have hga : w2.heap[N + 2]? = some (.cells #[.bool st.neg, .bool st.expNeg, v, .int .i64 st.frac, .int .i64 st.exp] 129 (0, 0)) := by rw [hk _ (by omega) (by omega)]; exact h.gat
  have hsz : W.heap.size ≤ w2.heap.size := by have := hgr.size; simp at this; omega
  have hb2 : Below N w w2 := h.below.trans ⟨hgr.os, hgr.tape, hgr.output, hsz, fun k hk' => hk k (by omega) (by omega)⟩
  refine ⟨⟨cell_of hga 2, frozen_of hga⟩, ⟨hb2.setCell (by show N ≤ N + 2; omega) _, by rw [World.size_setCell]; omega, ?_, ?_, ?_, ?_, ?_, by rw [World.size_setCell]; exact hlt⟩⟩
  · rw [Below.heap_setCell _ _ _ _ (by show N ≠ N + 2; omega), hk _ (by omega) (by omega)]; exact h.res
  · rw [heap_set hga]; rfl
  · rw [Below.heap_setCell _ _ _ _ (by show N + 3 ≠ N + 2; omega), hk _ (by omega) (by omega)]; exact h.iter
  · exact hd.kept (Below.heap_setCell _ _ _ _ (by show g2 ≠ N + 2; simp at hg2; omega))
  · simp at hg2; omega

theorem round_fin {s : ByteArray} {pos : Nat} {st : St} (hlt : pos < s.size) (hrun : runTo s pos = some st) (hreach : Reach st pos) {w wr : World} {N : Nat} (hit : wr.heap[N + 3]? = some (.stringIter s pos))
    (st' : St) (hst : step st s[pos] = some st') {v' : Value} {g' : Nat} {wx : World} (hW' : ScanW w N s (pos + 1) st' v' g' wx) {c5 c6 c7 : Value}
    (h5 : c5 = .int .i64 st'.state) (h6 : c6 = .string (wordOf st'.word)) (h7 : c7 = .int .i64 st'.at_) :
    (∃ st_1 pos_1 v g, pos_1 ≤ s.size ∧ runTo s pos_1 = some st_1 ∧ Reach st_1 pos_1 ∧ c5 = .int .i64 st_1.state ∧ c6 = .string (wordOf st_1.word) ∧ c7 = .int .i64 st_1.at_ ∧ ScanW w N s pos_1 st_1 v g wx) ∧
      s.size - wx.iterPos (N + 3) < s.size - wr.iterPos (N + 3) := by
  refine ⟨⟨st', pos + 1, v', g', by omega, ?_, reach_step st st' _ pos hreach hst, h5, h6, h7, hW'⟩, ?_⟩
  · rw [runTo_succ s pos hlt, hrun]; exact hst
  · have e1 : wx.iterPos (N + 3) = pos + 1 := by simp [World.iterPos, hW'.iter]
    have e2 : wr.iterPos (N + 3) = pos := by simp [World.iterPos, hit]
    rw [e1, e2]; omega

theorem scan_none {s : ByteArray} {pos : Nat} {st : St} (hlt : pos < s.size) (hs : s.size ≤ 1024) (hrun : runTo s pos = some st) (hst : step st s[pos] = none) : scanP s = none := by
  unfold scanP
  rw [if_neg (by omega), run_none s pos hlt st hrun hst]

theorem min_if2 (a b : Int) : (if b < a then b else a) = min a b := by rw [Int.min_def]; split <;> split <;> omega

theorem wordAt_ge (k : Nat) (i : Int) : 0 ≤ wordAt k i := by
  unfold wordAt
  rw [List.getD_eq_getElem?_getD]
  cases e : (List.map (fun c : UInt8 => (c.toNat : Int)) (wordOf k).data.toList)[i.toNat]? with
  | none => decide
  | some x =>
    obtain ⟨c, _, rfl⟩ := List.mem_map.1 (List.mem_of_getElem? e)
    simp
theorem idx_word (k : Nat) (i : Int) (h0 : 0 ≤ i) (h1 : i < ((wordOf k).size : Int)) (w : World) :
    (Instr.index 9 (.string (wordOf k)) (.int .i64 i)).run Oajg.prog w = .ok (.int .u8 (wordAt k i)) w := by
  obtain ⟨n, rfl⟩ := Int.eq_ofNat_of_zero_le h0
  have hn : n < (wordOf k).size := by omega
  have e : wordAt k n = ((wordOf k)[n].toNat : Int) := by
    unfold wordAt
    rw [List.getD_eq_getElem?_getD, List.getElem?_map, Int.toNat_natCast, get_toList _ _ hn]
    rfl
  rw [e]
  simp [Instr.index, run_underlying Oajg.underlying9, go_sem, hn]
theorem says_form {r : Option (Int × Bool × ByteArray × Int)} {u : Value} (h : Says r u) : ∃ k n t x p g, u = .agg #[.int .u8 k, .bool n, .string t, .int .i16 x, .int .i64 p, .int .i32 g] := by
  unfold Says at h
  split at h
  · exact ⟨_, _, _, _, _, _, h⟩
  · obtain ⟨p, g, h⟩ := h
    exact ⟨_, _, _, _, _, _, h⟩

/-- the loop's body, taken out of the translation -/
def firstLoop : Code → Option Code
  | .loop c => some c
  | .seq a b => match firstLoop a with
    | some c => some c
    | none => firstLoop b
  | .block _ c => firstLoop c
  | .scope c => firstLoop c
  | .cond _ a b => match firstLoop a with
    | some c => some c
    | none => firstLoop b
  | _ => none

end Go.Proofs.Ygcoaj
