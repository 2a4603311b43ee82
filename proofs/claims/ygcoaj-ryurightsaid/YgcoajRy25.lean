/-
  ryu.Shortest (110) and exact.Shortest (111) give one decimal.
-/
import Derived.Test.YgcoajRy23
import Derived.Test.YgcoajRy24
import Derived.Test.YgcoajRyPA
set_option linter.unusedVariables false
set_option linter.unusedSimpArgs false
namespace Go.Proofs.Ygcoaj
open Go.RowKit

/-- one decimal from both -/
def OneDec (E M x tb t : Nat) (C : Array Value) : Prop := ∃ (ng : Bool) (sd : ByteArray) (kx : Int),
  (∀ w, Blk w tb C t → Calls Oajg.prog 110 #[.pointer (some ⟨tb, 0, none⟩), .agg #[.int .u8 (E : Int), .int .u8 (M : Int)], .int .u64 (x : Int)] w fun e w' => e = .returned (.agg #[.bool ng, .string sd, .int .i16 kx]) ∧ Below w.heap.size w w') ∧
  (∀ w, Calls Oajg.prog 111 #[.agg #[.int .u8 (E : Int), .int .u8 (M : Int)], .int .u64 (x : Int)] w fun e w' => e = .returned (.agg #[.bool ng, .string sd, .int .i16 kx]) ∧ Below w.heap.size w w')

theorem one_spec {E M x tb t : Nat} {C : Array Value} (h : FOk E M) (hx : x < 18446744073709551616) (hF : fExp E M x = 2 ^ E - 1) : OneDec E M x tb t C := by
  refine ⟨false, ⟨#[]⟩, 0, fun w _ => rs_spec E M x tb h hx hF w, fun w => ?_⟩
  have HO := hid_mk (open_ok E M h x hx)
  by_cases hf : fMan M x = 0
  · have hC : upC E M (x % 2 ^ (E + M + 1)) = 3 := by unfold upC; rw [fExp_mod, fMan_mod, if_pos hF, if_pos hf]
    exact xs_inf E M x _ _ _ _ _ _ (by rw [hC]; rfl) (by rw [hC]; rfl) (hid_mk (ok_yes h)) HO w
  · have hC : upC E M (x % 2 ^ (E + M + 1)) = 4 := by unfold upC; rw [fExp_mod, fMan_mod, if_pos hF, if_neg hf]
    exact xs_nan E M x _ _ _ _ _ _ (by rw [hC]; rfl) (by rw [hC]; rfl) (by rw [hC]; rfl) (hid_mk (ok_yes h)) HO w

theorem one_zero {E M x tb t : Nat} {C : Array Value} (h : FOk E M) (hx : x < 18446744073709551616) (hF : fExp E M x = 0) (hf : fMan M x = 0) : OneDec E M x tb t C := by
  refine ⟨fNeg E M x, ⟨#[]⟩, 0, fun w _ => rs_zero E M x tb h hx hF hf w, fun w => ?_⟩
  have HO := hid_mk (open_ok E M h x hx)
  rw [fNeg_mod] at HO
  have hC : upC E M (x % 2 ^ (E + M + 1)) = 0 := by
    have : 2 ^ 2 ≤ 2 ^ E := Nat.pow_le_pow_right (by decide) h.e2
    unfold upC; rw [fExp_mod, fMan_mod, if_neg (by omega), if_pos hF, if_pos hf]
  exact xs_zero E M x _ _ _ _ _ _ (by rw [hC]; rfl) (hid_mk (ok_yes h)) HO w

/-- exact's decimal -/
theorem xs_fin {E M x m De bel J c : Nat} {e q : Int} (h : FOk E M) (hx : x < 18446744073709551616) (hC : upC E M (x % 2 ^ (E + M + 1)) = 1 ∨ upC E M (x % 2 ^ (E + M + 1)) = 2)
    (hE1 : -1100 ≤ (M : Int) + upE E M (x % 2 ^ (E + M + 1))) (hE2 : (M : Int) + upE E M (x % 2 ^ (E + M + 1)) ≤ 1030)
    (hm0 : 0 < m) (hm2 : m < 2 * 2 ^ M) (hDe : De ≠ 0 → 2 ^ M ≤ m) (hfin : De * 2 ^ M + m < infN E M) (hX : x % 2 ^ (E + M + 1) = sgnd E M (fNeg E M x) (De * 2 ^ M + m))
    (hbel : bel = belN M m De) (he : e = (De : Int) - biasN E - M - 1) (hs : sVal E M (x % 2 ^ (E + M + 1)) = m * 2 ^ De) (hJ1 : 1 ≤ J)
    (hsh : Short (trN e q (4 * m - bel)) (trN e q (4 * m)) (trN e q (4 * m + 2)) (trD e q) (decide (m % 2 = 0)) J c) (w : World) :
    Calls Oajg.prog 111 #[.agg #[.int .u8 (E : Int), .int .u8 (M : Int)], .int .u64 (x : Int)] w fun e w' => e = .returned (decV (fNeg E M x) c (q + (J : Int))) ∧ Below w.heap.size w w' := by
  have HO := hid_mk (open_ok E M h x hx)
  rw [fNeg_mod] at HO
  obtain ⟨hd, b1, b2, b3, b4, T, hT1, hT2, hest, hTa, hTb⟩ := num_log h hC hE1 hE2
  have hvn := vNum_eq (x := x % 2 ^ (E + M + 1)) h (Or.inr hC)
  rw [hs] at hvn
  obtain ⟨ns, n1, n2, n3, HNO, HYES, hres⟩ := meet (neg := fNeg E M x) h hm0 hm2 hDe hfin hbel he hvn hd hT1 hT2 hJ1 hsh
  have hn : 0 < vNum E M (x % 2 ^ (E + M + 1)) := by
    rcases Nat.eq_zero_or_pos (vNum E M (x % 2 ^ (E + M + 1))) with h0 | h0
    · exfalso
      rw [h0, Nat.zero_mul] at hvn
      have : 0 < vDen E M (x % 2 ^ (E + M + 1)) * (m * 2 ^ De) := Nat.mul_pos hd (Nat.mul_pos hm0 (Nat.pow_pos (by decide)))
      omega
    · exact h0
  have hA := a_bounds hd hn hT1 hT2
  rw [← hX] at HNO HYES hres
  rw [show (10 : Nat) ^ 16 = 10000000000000000 from rfl, show (10 : Nat) ^ 17 = 100000000000000000 from rfl] at hA
  have hC0 : (upC E M (x % 2 ^ (E + M + 1)) == 0) = false := by rcases hC with hC | hC <;> rw [hC] <;> rfl
  have hC3 : (upC E M (x % 2 ^ (E + M + 1)) == 3) = false := by rcases hC with hC | hC <;> rw [hC] <;> rfl
  have hC4 : (upC E M (x % 2 ^ (E + M + 1)) == 4) = false := by rcases hC with hC | hC <;> rw [hC] <;> rfl
  have HCD : Hid (∀ a1 k1 c1 a2 k2 c2 (c : Nat) (k : Int) w, 0 < c → c < 1000000000000000000 → -1900 ≤ k → k ≤ 1900 → Calls Oajg.prog 165 #[.agg #[.int .u8 (E : Int), .int .u8 (M : Int)], .agg #[.int .u64 ((x % 2 ^ (E + M + 1) : Nat) : Int), .bool (fNeg E M x), .int .i8 (upC E M (x % 2 ^ (E + M + 1))), .bool (vN E M (x % 2 ^ (E + M + 1))), .slice a1 k1 c1, .slice a2 k2 c2], .int .i64 (c : Int), .int .i64 k] w fun e w' => e = .returned (.tuple #[decV (fNeg E M x) c k, .bool (cdN E M (fNeg E M x) c k == x % 2 ^ (E + M + 1))]) ∧ Below w.heap.size w w') :=
    fun a1 k1 c1 a2 k2 c2 c k w g1 g2 g3 g4 => candidate_ok E M _ h _ _ _ a1 a2 k1 c1 k2 c2 c k g1 g2 g3 g4 w
  have HLG : Hid (∀ a1 k1 c1 a2 k2 c2 w, NatIs 2050 w (.slice a1 k1 c1) (vNum E M (x % 2 ^ (E + M + 1))) → NatIs 2050 w (.slice a2 k2 c2) (vDen E M (x % 2 ^ (E + M + 1))) → Calls Oajg.prog 162 #[.agg #[.bool (vN E M (x % 2 ^ (E + M + 1))), .slice a1 k1 c1, .slice a2 k2 c2]] w fun e w' => e = .returned (.int .i64 T) ∧ Below w.heap.size w w') :=
    fun a1 k1 c1 a2 k2 c2 w g1 g2 => log10_ok _ a1 a2 k1 c1 k2 c2 2050 _ _ T hT1 hT2 hest b3 b4 b1 b2 (by omega) w g1 g2 (by decide)
  have HFA : Hid (∀ a1 k1 c1 a2 k2 c2 w, NatIs 2050 w (.slice a1 k1 c1) (vNum E M (x % 2 ^ (E + M + 1))) → NatIs 2050 w (.slice a2 k2 c2) (vDen E M (x % 2 ^ (E + M + 1))) → Calls Oajg.prog 163 #[.agg #[.bool (vN E M (x % 2 ^ (E + M + 1))), .slice a1 k1 c1, .slice a2 k2 c2], .int .i64 (T - 16)] w fun e w' => e = .returned (.tuple #[.int .i64 ((vNum E M (x % 2 ^ (E + M + 1)) * 10 ^ (-(T - 16)).toNat / (vDen E M (x % 2 ^ (E + M + 1)) * 10 ^ (T - 16).toNat) : Nat) : Int), .agg #[.int .i8 (hfX (vNum E M (x % 2 ^ (E + M + 1)) * 10 ^ (-(T - 16)).toNat) (vDen E M (x % 2 ^ (E + M + 1)) * 10 ^ (T - 16).toNat)), .bool (smX (vNum E M (x % 2 ^ (E + M + 1)) * 10 ^ (-(T - 16)).toNat) (vDen E M (x % 2 ^ (E + M + 1)) * 10 ^ (T - 16).toNat))]]) ∧ Below w.heap.size w w') :=
    fun a1 k1 c1 a2 k2 c2 w g1 g2 => floorAt_ok _ a1 a2 k1 c1 k2 c2 2050 _ _ (T - 16) (by omega) (by omega) (by omega) (by decide) (by omega) w g1 g2
  have := xs_raw E M x _ _ _ _ ns (fNeg E M x) _ _ _ _ T hC0 hC3 hC4 hA.1 hA.2 (by omega) (by omega) n1 n2 (hid_mk (ok_yes h)) HO HLG HFA HCD (hid_mk HNO) (hid_mk HYES) w
  rw [hres, n3] at this
  exact this

theorem one_fin {E M x tb t : Nat} {C : Array Value} (hTab : TabAt C) (h : FOk E M) (hx : x < 18446744073709551616) (hF : fExp E M x ≠ 2 ^ E - 1) (hnz : fExp E M x ≠ 0 ∨ fMan M x ≠ 0) : OneDec E M x tb t C := by
  obtain ⟨m, hm⟩ : ∃ m, m = if fExp E M x = 0 then fMan M x else fMan M x + 2 ^ M := ⟨_, rfl⟩
  obtain ⟨De, hDe⟩ : ∃ De, De = fExp E M x - 1 := ⟨_, rfl⟩
  obtain ⟨bel, hbel⟩ : ∃ bel, bel = belN M m De := ⟨_, rfl⟩
  obtain ⟨e, he⟩ : ∃ e : Int, e = (De : Int) - biasN E - M - 1 := ⟨_, rfl⟩
  have pE : 2 ^ E = 2 * 2 ^ (E - 1) := by
    have := h.e2
    rw [Nat.mul_comm, ← Nat.pow_succ]; congr 1; omega
  have pE1 : 2 ^ (E - 1) ≤ 2 ^ 10 := Nat.pow_le_pow_right (by decide) (by have := h.e11; omega)
  have pE2 : 2 ^ 1 ≤ 2 ^ (E - 1) := Nat.pow_le_pow_right (by decide) (by have := h.e2; omega)
  have pM : 2 ^ M ≤ 2 ^ 52 := Nat.pow_le_pow_right (by decide) h.m52
  have pM0 : 0 < 2 ^ M := Nat.pow_pos (by decide)
  have hM52 := h.m52
  have hM2 := h.m2
  have rF : fExp E M x < 2 ^ E := Nat.mod_lt _ (Nat.pow_pos (by decide))
  have rf : fMan M x < 2 ^ M := Nat.mod_lt _ pM0
  have hbias : biasN E = 2 ^ (E - 1) - 1 := rfl
  have hm0 : 0 < m := by rw [hm]; split <;> omega
  have hm2 : m < 2 * 2 ^ M := by rw [hm]; split <;> omega
  have hDe1 : De ≠ 0 → 2 ^ M ≤ m := by intro h0; rw [hm, if_neg (by omega)]; omega
  have hsum : De * 2 ^ M + m = fExp E M x * 2 ^ M + fMan M x := by
    rw [hm, hDe]
    by_cases h0 : fExp E M x = 0
    · rw [if_pos h0, h0, Nat.zero_sub]
    · rw [if_neg h0]
      obtain ⟨k, hk⟩ : ∃ k, fExp E M x = k + 1 := ⟨fExp E M x - 1, by omega⟩
      rw [hk, Nat.add_sub_cancel, Nat.add_mul, Nat.one_mul]; omega
  have hfin : De * 2 ^ M + m < infN E M := by
    rw [hsum]
    unfold infN
    have p : (fExp E M x + 1) * 2 ^ M ≤ (2 ^ E - 1) * 2 ^ M := Nat.mul_le_mul_right _ (by omega)
    rw [Nat.add_mul, Nat.one_mul] at p
    omega
  have hX : x % 2 ^ (E + M + 1) = sgnd E M (fNeg E M x) (De * 2 ^ M + m) := by
    have := pat_parts (E := E) (M := M) (x := x % 2 ^ (E + M + 1)) (Nat.mod_lt _ (Nat.pow_pos (by decide)))
    rw [fNeg_mod, fExp_mod, fMan_mod, ← hsum] at this
    exact this
  have hs : sVal E M (x % 2 ^ (E + M + 1)) = m * 2 ^ De := by
    unfold sVal
    rw [fExp_mod, fMan_mod, hm, hDe]
    split
    · rename_i h0; rw [h0, Nat.zero_sub, Nat.pow_zero, Nat.mul_one]
    · rfl
  have hbel2 : bel = if fMan M x = 0 ∧ 1 < fExp E M x then 1 else 2 := by
    rw [hbel]
    unfold belN
    by_cases hc : fMan M x = 0 ∧ 1 < fExp E M x
    · rw [if_pos hc, if_pos ⟨by rw [hm, if_neg (by omega), hc.1, Nat.zero_add], by omega⟩]
    · rw [if_neg hc, if_neg]
      rintro ⟨g1, g2⟩
      rw [hm, if_neg (by omega)] at g1
      exact hc ⟨by omega, by omega⟩
  have hbr : bel = 1 ∨ bel = 2 := by rw [hbel2]; split <;> omega
  have hC : upC E M (x % 2 ^ (E + M + 1)) = 1 ∨ upC E M (x % 2 ^ (E + M + 1)) = 2 := by
    unfold upC
    rw [fExp_mod, fMan_mod, if_neg hF]
    by_cases h0 : fExp E M x = 0
    · rw [if_pos h0, if_neg (hnz.resolve_left (fun g => g h0))]; exact Or.inl rfl
    · rw [if_neg h0]; exact Or.inr rfl
  have hUE : -1100 ≤ (M : Int) + upE E M (x % 2 ^ (E + M + 1)) ∧ (M : Int) + upE E M (x % 2 ^ (E + M + 1)) ≤ 1030 := by
    unfold upE
    rcases hC with hC | hC
    · rw [if_pos hC, fMan_mod]
      have hf0 : fMan M x ≠ 0 := by
        intro h0
        unfold upC at hC
        rw [fExp_mod, fMan_mod, if_neg hF, if_pos h0] at hC
        split at hC
        · exact absurd hC (by decide)
        · exact absurd hC (by decide)
      have b1 := bitLen_pos hf0
      omega
    · rw [if_neg (by rw [hC]; decide), if_pos hC, fExp_mod]
      omega
  have he1 : -1100 ≤ e := by omega
  have he2 : e ≤ 1030 := by omega
  obtain ⟨q, hq⟩ : ∃ q, q = l10 e - 1 := ⟨_, rfl⟩
  have hqb : -400 ≤ q ∧ q ≤ 400 := by rw [hq]; unfold l10; omega
  obtain ⟨u1, u2⟩ := u0_D he1 he2
  have hD := trD_pos e (l10 e - 1)
  have hm53 : m < 9007199254740992 := by omega
  obtain ⟨g1, g2, g3, g4, g5, g6, g7, g8, y, g9⟩ := places hm0 hm53 hbr hD u1 u2 (decide (m % 2 = 0))
  have HS1 := fun (W : World) (hW : Blk W tb C t) => scale_ok tb t C hTab (4 * m) e (by omega) (by omega) he1 he2 W hW
  have HS2 := fun (W : World) (hW : Blk W tb C t) => scale_ok tb t C hTab (4 * m + 2) e (by omega) (by omega) he1 he2 W hW
  have HS3 := fun (W : World) (hW : Blk W tb C t) => scale_ok tb t C hTab (4 * m - bel) e (by omega) (by omega) he1 he2 W hW
  have HLG : Hid (∀ W, Calls Oajg.prog 161 #[.int .i16 e] W fun x w' => x = .returned (.int .i16 (q + 1)) ∧ w' = W) := fun W => by
    have := log10Pow2_ok e he1 he2 W
    rw [show l10 e = q + 1 from by omega] at this
    exact this
  rw [← hq] at HS1 HS2 HS3 hD u1 u2
  simp only [← hq, ← trN_u0] at g1 g2 g3 g4 g5 g6 g7 g8 g9
  obtain ⟨J, c, hJ1, hsh⟩ := short_exists hD g2 g3 g8 g9
  have hxs := fun w => xs_fin h hx hC hUE.1 hUE.2 hm0 hm2 hDe1 hfin hX hbel he hs hJ1 hsh w
  refine ⟨fNeg E M x, dvS c, q + (J : Int) + (tz c : Int), fun w hB => ?_, hxs⟩
  have HDG : Hid (∀ W sb, Blk W sb (spC ((trN e q (4 * m - bel) / trD e q : Nat) : Int) ((trN e q (4 * m) / trD e q : Nat) : Int) ((if decide (trN e q (4 * m + 2) % trD e q = 0) = true ∧ decide (m % 2 = 0) = false then trN e q (4 * m + 2) / trD e q - 1 else trN e q (4 * m + 2) / trD e q : Nat) : Int) (decide (trN e q (4 * m - bel) % trD e q = 0)) (decide (trN e q (4 * m) % trD e q = 0)) (decide (m % 2 = 0)) 0) 176 → Calls Oajg.prog 159 #[.pointer (some ⟨sb, 0, none⟩)] W fun x w' => ∃ J c : Nat, x = .returned (.tuple #[.int .u64 (c : Int), .int .i16 (J : Int)]) ∧ Short (trN e q (4 * m - bel)) (trN e q (4 * m)) (trN e q (4 * m + 2)) (trD e q) (decide (m % 2 = 0)) J c ∧ 1 ≤ J ∧ J ≤ 19 ∧ 0 < c ∧ c < 10 ^ 18 ∧ Below sb W w') := fun W sb hblk => by
    have hhi : (if decide (trN e q (4 * m + 2) % trD e q = 0) = true ∧ decide (m % 2 = 0) = false then trN e q (4 * m + 2) / trD e q - 1 else trN e q (4 * m + 2) / trD e q) = hiN (trN e q (4 * m + 2)) (trD e q) (decide (m % 2 = 0)) := by
      unfold hiN
      simp only [decide_eq_true_eq]
    rw [hhi] at hblk
    refine (digits_ok _ _ _ _ _ hD g1 g2 g3 g4 g5 g6 g7 sb 176 W hblk).mono ?_
    rintro _ w' ⟨J', c', rfl, s1, s2, s3, s4, s5⟩
    refine ⟨J', c', rfl, s1, s2, s3, ?_, s4, s5⟩
    have hp := s1.pos
    rcases s1.best with ⟨hc, _⟩ | ⟨hc, _⟩ <;> omega
  refine (rs_raw E M x tb m bel _ _ _ _ _ _ _ h hx e q _ _ _ (decide (m % 2 = 0)) w hF hnz (fun h0 => by rw [hm, if_pos h0]) (fun h0 => by rw [hm, if_neg h0]) hm53 hm0 hbel2 (by rw [he, hDe]; omega) rfl ?_ g7 hqb.1 hqb.2 (fun W hW => HS1 W (hB.next hW)) (fun W hW => HS2 W (hB.next hW)) (fun W hW => HS3 W (hB.next hW)) HLG HDG).mono ?_
  · rw [Nat.le_div_iff_mul_le hD]; omega
  · rintro _ w' ⟨J', c', rfl, s1, _, _, _, _, hb⟩
    obtain ⟨rfl, rfl⟩ := short_one hsh s1
    exact ⟨by rw [decV_eq], hb⟩

theorem one_all {E M x tb t : Nat} {C : Array Value} (hTab : TabAt C) (h : FOk E M) (hx : x < 18446744073709551616) : OneDec E M x tb t C := by
  by_cases hF : fExp E M x = 2 ^ E - 1
  · exact one_spec h hx hF
  · by_cases hz : fExp E M x = 0 ∧ fMan M x = 0
    · exact one_zero h hx hz.1 hz.2
    · exact one_fin hTab h hx hF (by omega)

end Go.Proofs.Ygcoaj
