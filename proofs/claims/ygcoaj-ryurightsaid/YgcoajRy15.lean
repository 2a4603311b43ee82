/-
  WALKS: ryu.span.digits (159).
-/
import Derived.Test.YgcoajRy14
import Derived.Test.YgcoajRyP3
import Derived.BigQuiet
set_option linter.unusedVariables false
set_option linter.unusedSimpArgs false
namespace Go.Proofs.Ygcoaj
open Go.RowKit

/-- the span after j digits are dropped -/
structure Sp (a v b D : Nat) (ends : Bool) (j lo mi hi : Nat) (lw mw : Bool) (la : Nat) : Prop where
  lo : lo = a / D / 10 ^ j
  mi : mi = v / D / 10 ^ j
  hi : hi = hiN b D ends / 10 ^ j
  lw : lw = decide (a % un D j = 0)
  la : la = if j = 0 then 0 else v / D / 10 ^ (j - 1) % 10
  mw : mw = decide (v % un D (j - 1) = 0)

theorem mod_ten (x u : Nat) : x % (10 * u) = 0 ↔ x % u = 0 ∧ x / u % 10 = 0 := by
  have h := Nat.mod_mul (x := x) (a := u) (b := 10)
  rw [Nat.mul_comm 10 u, h]
  constructor
  · intro h0
    have h1 : x % u = 0 := by omega
    have h2 : u * (x / u % 10) = 0 := by omega
    rcases Nat.mul_eq_zero.1 h2 with h3 | h3
    · subst h3; simp
      simp at h1; simp [h1]
    · exact ⟨h1, h3⟩
  · rintro ⟨h1, h2⟩; rw [h1, h2]; simp
theorem div_un (x D j : Nat) : x / un D j = x / D / 10 ^ j := by unfold un; rw [Nat.div_div_eq_div_mul]
theorem dten_step (x j : Nat) : x / 10 ^ j / 10 = x / 10 ^ (j + 1) := by rw [Nat.div_div_eq_div_mul, Nat.pow_succ]

theorem Sp.next {a v b D : Nat} {ends : Bool} {j lo mi hi : Nat} {lw mw : Bool} {la : Nat} (h : Sp a v b D ends j lo mi hi lw mw la) :
    Sp a v b D ends (j + 1) (lo / 10) (mi / 10) (hi / 10) (lw && decide (lo % 10 = 0)) (mw && decide (la = 0)) (mi % 10) := by
  refine ⟨by rw [h.lo, dten_step], by rw [h.mi, dten_step], by rw [h.hi, dten_step], ?_, ?_, ?_⟩
  · rw [h.lw, h.lo, un_succ, ← div_un, Bool.eq_iff_iff]
    simp only [Bool.and_eq_true, decide_eq_true_eq]
    exact (mod_ten _ _).symm
  · rw [if_neg (by omega), h.mi]; rfl
  · rw [h.mw, h.la, Bool.eq_iff_iff, show j + 1 - 1 = j from rfl]
    simp only [Bool.and_eq_true, decide_eq_true_eq]
    by_cases hj : j = 0
    · subst hj; simp
    · obtain ⟨i, rfl⟩ : ∃ i, j = i + 1 := ⟨j - 1, by omega⟩
      rw [if_neg hj, show i + 1 - 1 = i from rfl, un_succ, ← div_un]
      exact (mod_ten _ _).symm

/-- the digit that is rounded up -/
def upF (mi lo : Nat) (ends lw : Bool) (la : Nat) (mw : Bool) : Bool :=
  if mi = lo ∧ ¬ (ends = true ∧ lw = true) then true else if la = 5 ∧ mw = true ∧ mi % 2 = 0 then false else decide (5 ≤ la)

/-- nothing strictly above a beyond J -/
def NoAbove (a v b D : Nat) (ends : Bool) (J : Nat) : Prop := ∀ j, J < j → 1 ≤ v / un D j → ¬ (∃ c, a < c * un D j ∧ InI a b ends (un D j) c)

theorem no_above {a v b D : Nat} {ends : Bool} {j lo mi hi : Nat} {lw mw : Bool} {la : Nat} (hD : 0 < D) (hb : D ≤ b) (h : Sp a v b D ends j lo mi hi lw mw la) (hx : mi < 10 ∨ hi / 10 ≤ lo / 10) : NoAbove a v b D ends j := by
  intro k hk h1 hc
  obtain ⟨i, rfl⟩ : ∃ i, k = j + 1 + i := ⟨k - j - 1, by omega⟩
  have e : ∀ x : Nat, x / 10 ^ (j + 1 + i) = x / 10 ^ j / 10 / 10 ^ i := fun x => by rw [dten_step, Nat.div_div_eq_div_mul, ← Nat.pow_add]
  rcases hx with hx | hx
  · rw [div_un, e, ← h.mi, show mi / 10 = 0 from by omega] at h1
    simp at h1
  · have := (in_strict (v := v) hD hb).1 hc
    rw [e, e, ← h.lo, ← h.hi] at this
    exact absurd this (Nat.not_lt.2 (Nat.div_le_div_right hx))

theorem un_dvd (D : Nat) {j k : Nat} (h : j ≤ k) : un D j ∣ un D k := Nat.mul_dvd_mul (Nat.dvd_refl D) (Nat.pow_dvd_pow 10 h)
theorem mod_down {a D j k : Nat} (h : j ≤ k) (h0 : a % un D k = 0) : a % un D j = 0 := Nat.mod_eq_zero_of_dvd (Nat.dvd_trans (un_dvd D h) (Nat.dvd_of_mod_eq_zero h0))

theorem sp_end {a v b D J lo mi hi la : Nat} {ends lw mw : Bool} (hD : 0 < D) (hb : D ≤ b) (hav : a < v) (hvb : v < b) (hsym : v - a ≤ b - v) (hJ1 : 1 ≤ J) (hmi : 1 ≤ mi)
    (h : Sp a v b D ends J lo mi hi lw mw la) (hin : lo < hi ∨ (ends = true ∧ lw = true)) (hno : NoAbove a v b D ends J)
    (hz : (ends = true ∧ lw = true) → mi < 10 ∨ lo % 10 ≠ 0) : Short a v b D ends J (mi + (upF mi lo ends lw la mw).toNat) := by
  have q1 : v / un D J = mi := by rw [div_un, h.mi]
  have q2 : a / un D J = lo := by rw [div_un, h.lo]
  have q3 : (lw = true) ↔ a % un D J = 0 := by rw [h.lw, decide_eq_true_eq]
  have hun := un_pos hD (J - 1)
  have huu : un D J = un D (J - 1) * 10 := by rw [Nat.mul_comm, ← un_succ]; congr 1; omega
  have q4 : v % un D J / un D (J - 1) = la := by
    rw [h.la, if_neg (by omega), ← div_un, huu, Nat.mod_mul_right_div_self]
  have q5 : (mw = true) ↔ v % un D (J - 1) = 0 := by rw [h.mw, decide_eq_true_eq]
  have := ryu_short (ends := ends) (up := upF mi lo ends lw la mw) hD hb hav hvb hsym hJ1 (by rw [q1]; exact hmi) ?_ ?_ ?_
  · rw [q1] at this; exact this
  · rcases hin with hin | ⟨h1, h2⟩
    · left; rw [in_strict (v := v) hD hb, ← h.lo, ← h.hi]; exact hin
    · right; exact ⟨h1, q3.1 h2⟩
  · intro j hj h1
    refine ⟨hno j hj h1, ?_⟩
    rintro ⟨he, h0⟩
    have h2 := mod_down (Nat.le_of_lt hj) h0
    rcases hz ⟨he, q3.2 h2⟩ with hx | hx
    · obtain ⟨i, rfl⟩ : ∃ i, j = J + 1 + i := ⟨j - J - 1, by omega⟩
      rw [div_un, show v / D / 10 ^ (J + 1 + i) = v / D / 10 ^ J / 10 / 10 ^ i from by rw [dten_step, Nat.div_div_eq_div_mul (v / D), ← Nat.pow_add], ← h.mi, show mi / 10 = 0 from by omega] at h1
      simp at h1
    · have h3 := mod_down (show J + 1 ≤ j from hj) h0
      rw [un_succ, mod_ten, q2] at h3
      exact hx h3.2
  · unfold upF
    rw [q1, q2, q4]
    simp only [q3, q5]


theorem below_more {n : Nat} {w a b : World} (h1 : Below n w a) (h2 : Below n a b) : Below n w b := h1.trans h2

set_option maxRecDepth 100000 in
set_option maxHeartbeats 8000000 in
theorem digits_ok (a v b D : Nat) (ends : Bool) (hD : 0 < D) (hb : D ≤ b) (hav : a < v) (hvb : v < b) (hsym : v - a ≤ b - v) (h10 : 10 ≤ v / D) (hst : a / D / 10 < hiN b D ends / 10) (hbig : b / D < 4611686018427387904) (sb t : Nat) (w : World)
    (hB : Blk w sb (spC ((a / D : Nat) : Int) ((v / D : Nat) : Int) ((hiN b D ends : Nat) : Int) (decide (a % D = 0)) (decide (v % D = 0)) ends ((0 : Nat) : Int)) t) :
    Calls Oajg.prog 159 #[.pointer (some ⟨sb, 0, none⟩)] w fun x w' => ∃ J c : Nat, x = .returned (.tuple #[.int .u64 (c : Int), .int .i16 (J : Int)]) ∧ Short a v b D ends J c ∧ 1 ≤ J ∧ J ≤ 19 ∧ c < 1000000000000000000 ∧ Below sb w w' := by
  have hv62 : v / D < 4611686018427387904 := Nat.lt_of_le_of_lt (Nat.div_le_div_right (Nat.le_of_lt hvb)) hbig
  have ha62 : a / D < 4611686018427387904 := Nat.lt_of_le_of_lt (Nat.div_le_div_right (Nat.le_of_lt hav)) hv62
  have hh62 : hiN b D ends < 4611686018427387904 := by unfold hiN; split <;> omega
  have S0 : Sp a v b D ends 0 (a / D) (v / D) (hiN b D ends) (decide (a % D = 0)) (decide (v % D = 0)) 0 := ⟨by simp, by simp, by simp, by simp [un], by simp, by simp [un]⟩
  have HEN : Hid (∀ (j lo mi hi la : Nat) (lw mw : Bool), 1 ≤ j → 1 ≤ mi → Sp a v b D ends j lo mi hi lw mw la → (lo < hi ∨ (ends = true ∧ lw = true)) → NoAbove a v b D ends j → ((ends = true ∧ lw = true) → mi < 10 ∨ lo % 10 ≠ 0) → ∀ up : Bool, up = upF mi lo ends lw la mw → Short a v b D ends j (mi + up.toNat)) := fun j lo mi hi la lw mw h1 h2 h3 h4 h5 h6 up hu => by rw [hu]; exact sp_end hD hb hav hvb hsym h1 h2 h3 h4 h5 h6
  have HNA : Hid (∀ (j lo mi hi la : Nat) (lw mw : Bool), Sp a v b D ends j lo mi hi lw mw la → (mi < 10 ∨ hi / 10 ≤ lo / 10) → NoAbove a v b D ends j) := fun j lo mi hi la lw mw h1 h2 => no_above hD hb h1 h2
  have HH := hid_mk (show 10 ≤ v / D ∧ a / D / 10 < hiN b D ends / 10 from ⟨h10, hst⟩)
  have HS0 := hid_mk S0
  have hsz : sb < w.heap.size := hB.lt
  generalize decide (a % D = 0) = lw0 at *
  generalize decide (v % D = 0) = mw0 at *
  generalize v / D = v0 at *
  generalize a / D = a0 at *
  generalize hiN b D ends = h0 at *
  clear hav hvb hsym hbig hb hD h10 hst S0
  go_enter Oajg.func159, Oajg.ntmps159
  go_wp2_with fail
  go_loopw [3] (fun c3 wr => ∃ (j lo mi hi la : Nat) (lw mw : Bool), c3 = .int .i16 (j : Int) ∧ Sp a v b D ends j lo mi hi lw mw la ∧ Blk wr sb (spC ((lo : Nat) : Int) ((mi : Nat) : Int) ((hi : Nat) : Int) lw mw ends ((la : Nat) : Int)) t ∧ Below sb w wr ∧ (j = 0 ∧ lo = a0 ∧ mi = v0 ∧ hi = h0 ∨ 1 ≤ j ∧ lo < hi) ∧ lo < 4611686018427387904 ∧ mi < 4611686018427387904 ∧ hi < 4611686018427387904 ∧ la < 4611686018427387904 ∧ 1 ≤ mi ∧ mi * 10 ^ j < 4611686018427387904) (fun c3 _ => 100 - (intOf c3).toNat)
  case atStart => exact ⟨0, a0, v0, h0, 0, lw0, mw0, rfl, HS0.out, hB, Below.refl _ _, Or.inl ⟨rfl, rfl, rfl, rfl⟩, ha62, hv62, hh62, by omega, by have := HH.out; omega, by simp; exact hv62⟩
  case round =>
    clear hB HS0
    obtain ⟨j, lo, mi, hi, la, lw, mw, rfl, hsp, hblk, hbel, hst, g1, g2, g3, g4, g5, g6⟩ := hrel
    have hj19 : j < 19 := by
      have p1 : 1 * 10 ^ j ≤ mi * 10 ^ j := Nat.mul_le_mul_right _ g5
      rcases Nat.lt_or_ge j 19 with h | h
      · exact h
      · have p2 : 10 ^ 19 ≤ 10 ^ j := Nat.pow_le_pow_right (by decide) h
        rw [Nat.one_mul] at p1
        omega
    have HC := hid_mk (sp_cells hblk)
    obtain ⟨m0, m1, m2, m3, m4, m5, m6, m7, m8⟩ := sp_cells hblk
    have d1 : (lo : Int).tdiv 10 = (lo : Int) / 10 := Int.tdiv_eq_ediv_of_nonneg (by omega)
    have d2 : (hi : Int).tdiv 10 = (hi : Int) / 10 := Int.tdiv_eq_ediv_of_nonneg (by omega)
    have k1 : IntKind.u64.wrap ((lo : Int) / 10) = (lo : Int) / 10 := by rw [IntKind.wrap_u64]; omega
    have k2 : IntKind.u64.wrap ((hi : Int) / 10) = (hi : Int) / 10 := by rw [IntKind.wrap_u64]; omega
    have k3 : IntKind.i16.wrap ((j : Int) + 1) = ((j + 1 : Nat) : Int) := by rw [i16_wrap]; omega
    go_wp2_with fail
    obtain ⟨B, hB⟩ : ∃ B, B = decide (10 ≤ mi ∧ lo / 10 < hi / 10) := ⟨_, rfl⟩
    go_cut [22] (fun s22 W => s22 = .bool B ∧ ∃ n, W = wr.drewN n)
    case first =>
      have hex : (decide (10 ≤ (mi : Int)) = false ∧ ¬ 10 ≤ (mi : Int) ∧ B = false) ∨ (decide (10 ≤ (mi : Int)) = true ∧ 10 ≤ (mi : Int) ∧ decide ((lo : Int) / 10 < (hi : Int) / 10) = false ∧ ¬ (lo : Int) / 10 < (hi : Int) / 10 ∧ B = false) ∨ (decide (10 ≤ (mi : Int)) = true ∧ 10 ≤ (mi : Int) ∧ decide ((lo : Int) / 10 < (hi : Int) / 10) = true ∧ (lo : Int) / 10 < (hi : Int) / 10 ∧ B = true) := by
        by_cases h10 : 10 ≤ mi
        · by_cases h11 : lo / 10 < hi / 10
          · right; right; exact ⟨decide_eq_true (by omega), by omega, decide_eq_true (by omega), by omega, by rw [hB]; exact decide_eq_true ⟨h10, h11⟩⟩
          · right; left; exact ⟨decide_eq_true (by omega), by omega, decide_eq_false (by omega), by omega, by rw [hB]; exact decide_eq_false (fun h => h11 h.2)⟩
        · left; exact ⟨decide_eq_false (by omega), by omega, by rw [hB]; exact decide_eq_false (fun h => h10 h.1)⟩
      clear hB HC hsp hblk hbel hst HH HEN HNA g6
      rcases hex with ⟨b1, b1', rfl⟩ | ⟨b1, b1', b2, b2', rfl⟩ | ⟨b1, b1', b2, b2', rfl⟩
      all_goals (
        go_quiet (fail)
        go_wp2_with fail
        go_meet
        exact ⟨rfl, _, rfl⟩)
    case rest =>
    obtain ⟨rfl, nd, rfl⟩ := hcut
    replace hblk : Blk (wr.drewN nd) sb (spC ((lo : Nat) : Int) ((mi : Nat) : Int) ((hi : Nat) : Int) lw mw ends ((la : Nat) : Int)) t := hblk
    replace hbel := below_drewN hbel nd
    clear m0 m1 m2 m3 m4 m5 m6 m7 m8 HC
    generalize wr.drewN nd = wr at *
    obtain ⟨m0, m1, m2, m3, m4, m5, m6, m7, m8⟩ := sp_cells hblk
    by_cases hgo : 10 ≤ mi ∧ lo / 10 < hi / 10
    · obtain rfl : B = true := by rw [hB]; exact decide_eq_true hgo
      clear hB
      have HDR := hid_mk (fun (W : World) (hW : Blk W sb (spC lo mi hi lw mw ends la) t) => drop_ok lo mi hi la sb t lw mw ends g1 g2 g3 g4 W hW)
      have HN := hid_mk hsp.next
      have HBK := hid_mk hblk
      have HBE := hid_mk hbel
      have g7 : mi / 10 * 10 ^ (j + 1) < 4611686018427387904 := by
        have p : mi / 10 * 10 ^ (j + 1) ≤ mi * 10 ^ j := by
          rw [Nat.pow_succ, Nat.mul_comm (10 ^ j) 10, ← Nat.mul_assoc]; exact Nat.mul_le_mul_right _ (Nat.div_mul_le_self mi 10)
        omega
      clear hsp hblk hbel
      go_wp2_with fail
      refine Calls.mono (HDR.out _ HBK.out) ?_
      rintro _ w1 ⟨rfl, hbk, hbe⟩
      go_wp2_with fail
      go_roundw
      case rel => exact ⟨j + 1, lo / 10, mi / 10, hi / 10, mi % 10, _, _, rfl, HN.out, hbk, HBE.out.trans hbe, Or.inr ⟨by omega, by omega⟩, by omega, by omega, by omega, by omega, by omega, g7⟩
      case measure => simp [intOf]; omega
    · have hj1 : 1 ≤ j ∧ lo < hi := by
        have := HH.out
        rcases hst with ⟨h1, h2, h3, h4⟩ | h
        · subst h2; subst h3; subst h4; exact absurd this hgo
        · exact h
      have hmi9 : mi < 461168601842738791 := by
        have p : mi * 10 ^ 1 ≤ mi * 10 ^ j := Nat.mul_le_mul_left _ (Nat.pow_le_pow_right (by decide) hj1.1)
        omega
      have HNO := hid_mk (HNA.out j lo mi hi la lw mw hsp (by omega))
      have hla9 : la < 10 := by
        have := hsp.la
        rw [if_neg (by omega)] at this
        omega
      have HSP := hid_mk hsp
      have HBK := hid_mk hblk
      have HBE := hid_mk hbel
      clear hsp hblk hbel HH HNA hst
      obtain rfl : B = false := by rw [hB]; exact decide_eq_false hgo
      clear hB
      cases ends with
      | false =>
        have HEND := HEN.out j lo mi hi la lw mw hj1.1 g5 HSP.out (Or.inl hj1.2) HNO.out (fun h => absurd h.1 (by decide))
        clear HEN HNO HSP HBK hgo
        by_cases hml : mi = lo
        · have b1 : ((mi : Int) == (lo : Int)) = true := by rw [beq_iff_eq]; omega
          have HML := hid_mk hml
          clear hml
          rcases Nat.lt_trichotomy la 5 with hla | hla | hla
          · have b2 : decide (5 ≤ (la : Int)) = false := decide_eq_false (by omega)
            have b2' : ¬ 5 ≤ (la : Int) := by omega
            have b3 : ((la : Int) == 5) = false := by rw [beq_eq_false_iff_ne]; omega
            have b5 : ¬ la = 5 := by omega
            have b6 : ¬ 5 ≤ la := by omega
            go_wp2_with fail
            go_quiet (fail)
            go_wp2_with fail
            exact bodyPost_ret (v := .tuple #[.int .u64 ((mi : Int) + 1), .int .i16 (j : Int)]) (by simp [results, Oajg.results159, go_sem]) rfl ⟨j, mi + 1, rfl, HEND true (by simp [upF, *, HML.out] <;> (have h := HML.out; omega)), by omega, by omega, by omega, below_drewN HBE.out _⟩
          · have b2 : decide (5 ≤ (la : Int)) = true := decide_eq_true (by omega)
            have b2' : 5 ≤ (la : Int) := by omega
            have b3 : ((la : Int) == 5) = true := by rw [beq_iff_eq]; omega
            have b6 : 5 ≤ la := by omega
            cases mw with
            | false =>
              go_wp2_with fail
              go_quiet (fail)
              go_wp2_with fail
              exact bodyPost_ret (v := .tuple #[.int .u64 ((mi : Int) + 1), .int .i16 (j : Int)]) (by simp [results, Oajg.results159, go_sem]) rfl ⟨j, mi + 1, rfl, HEND true (by simp [upF, *, HML.out] <;> (have h := HML.out; omega)), by omega, by omega, by omega, below_drewN HBE.out _⟩
            | true =>
              by_cases hev : mi % 2 = 0
              · have b4 : ((mi : Int) % 2 == 0) = true := by rw [beq_iff_eq]; omega
                go_wp2_with fail
                go_quiet (fail)
                go_wp2_with fail
                exact bodyPost_ret (v := .tuple #[.int .u64 ((mi : Int) + 1), .int .i16 (j : Int)]) (by simp [results, Oajg.results159, go_sem]) rfl ⟨j, mi + 1, rfl, HEND true (by simp [upF, *, HML.out] <;> (have h := HML.out; omega)), by omega, by omega, by omega, below_drewN HBE.out _⟩
              · have b4 : ((mi : Int) % 2 == 0) = false := by rw [beq_eq_false_iff_ne]; omega
                go_wp2_with fail
                go_quiet (fail)
                go_wp2_with fail
                exact bodyPost_ret (v := .tuple #[.int .u64 ((mi : Int) + 1), .int .i16 (j : Int)]) (by simp [results, Oajg.results159, go_sem]) rfl ⟨j, mi + 1, rfl, HEND true (by simp [upF, *, HML.out] <;> (have h := HML.out; omega)), by omega, by omega, by omega, below_drewN HBE.out _⟩
          · have b2 : decide (5 ≤ (la : Int)) = true := decide_eq_true (by omega)
            have b2' : 5 ≤ (la : Int) := by omega
            have b3 : ((la : Int) == 5) = false := by rw [beq_eq_false_iff_ne]; omega
            have b5 : ¬ la = 5 := by omega
            have b6 : 5 ≤ la := by omega
            go_wp2_with fail
            go_quiet (fail)
            go_wp2_with fail
            exact bodyPost_ret (v := .tuple #[.int .u64 ((mi : Int) + 1), .int .i16 (j : Int)]) (by simp [results, Oajg.results159, go_sem]) rfl ⟨j, mi + 1, rfl, HEND true (by simp [upF, *, HML.out] <;> (have h := HML.out; omega)), by omega, by omega, by omega, below_drewN HBE.out _⟩
        · have b1 : ((mi : Int) == (lo : Int)) = false := by rw [beq_eq_false_iff_ne]; omega
          have HML := hid_mk hml
          clear hml
          rcases Nat.lt_trichotomy la 5 with hla | hla | hla
          · have b2 : decide (5 ≤ (la : Int)) = false := decide_eq_false (by omega)
            have b2' : ¬ 5 ≤ (la : Int) := by omega
            have b3 : ((la : Int) == 5) = false := by rw [beq_eq_false_iff_ne]; omega
            have b5 : ¬ la = 5 := by omega
            have b6 : ¬ 5 ≤ la := by omega
            go_wp2_with fail
            go_quiet (fail)
            go_wp2_with fail
            exact bodyPost_ret (v := .tuple #[.int .u64 (mi : Int), .int .i16 (j : Int)]) (by simp [results, Oajg.results159, go_sem]) rfl ⟨j, mi, rfl, HEND false (by simp [upF, *, HML.out] <;> (have h := HML.out; omega)), by omega, by omega, by omega, below_drewN HBE.out _⟩
          · have b2 : decide (5 ≤ (la : Int)) = true := decide_eq_true (by omega)
            have b2' : 5 ≤ (la : Int) := by omega
            have b3 : ((la : Int) == 5) = true := by rw [beq_iff_eq]; omega
            have b6 : 5 ≤ la := by omega
            cases mw with
            | false =>
              go_wp2_with fail
              go_quiet (fail)
              go_wp2_with fail
              exact bodyPost_ret (v := .tuple #[.int .u64 ((mi : Int) + 1), .int .i16 (j : Int)]) (by simp [results, Oajg.results159, go_sem]) rfl ⟨j, mi + 1, rfl, HEND true (by simp [upF, *, HML.out] <;> (have h := HML.out; omega)), by omega, by omega, by omega, below_drewN HBE.out _⟩
            | true =>
              by_cases hev : mi % 2 = 0
              · have b4 : ((mi : Int) % 2 == 0) = true := by rw [beq_iff_eq]; omega
                go_wp2_with fail
                go_quiet (fail)
                go_wp2_with fail
                exact bodyPost_ret (v := .tuple #[.int .u64 (mi : Int), .int .i16 (j : Int)]) (by simp [results, Oajg.results159, go_sem]) rfl ⟨j, mi, rfl, HEND false (by simp [upF, *, HML.out] <;> (have h := HML.out; omega)), by omega, by omega, by omega, below_drewN HBE.out _⟩
              · have b4 : ((mi : Int) % 2 == 0) = false := by rw [beq_eq_false_iff_ne]; omega
                go_wp2_with fail
                go_quiet (fail)
                go_wp2_with fail
                exact bodyPost_ret (v := .tuple #[.int .u64 ((mi : Int) + 1), .int .i16 (j : Int)]) (by simp [results, Oajg.results159, go_sem]) rfl ⟨j, mi + 1, rfl, HEND true (by simp [upF, *, HML.out] <;> (have h := HML.out; omega)), by omega, by omega, by omega, below_drewN HBE.out _⟩
          · have b2 : decide (5 ≤ (la : Int)) = true := decide_eq_true (by omega)
            have b2' : 5 ≤ (la : Int) := by omega
            have b3 : ((la : Int) == 5) = false := by rw [beq_eq_false_iff_ne]; omega
            have b5 : ¬ la = 5 := by omega
            have b6 : 5 ≤ la := by omega
            go_wp2_with fail
            go_quiet (fail)
            go_wp2_with fail
            exact bodyPost_ret (v := .tuple #[.int .u64 ((mi : Int) + 1), .int .i16 (j : Int)]) (by simp [results, Oajg.results159, go_sem]) rfl ⟨j, mi + 1, rfl, HEND true (by simp [upF, *, HML.out] <;> (have h := HML.out; omega)), by omega, by omega, by omega, below_drewN HBE.out _⟩
      | true =>
        cases lw with
        | false =>
          have HEND := HEN.out j lo mi hi la false mw hj1.1 g5 HSP.out (Or.inl hj1.2) HNO.out (fun h => absurd h.2 (by decide))
          clear HEN HNO HSP HBK hgo
          by_cases hml : mi = lo
          · have b1 : ((mi : Int) == (lo : Int)) = true := by rw [beq_iff_eq]; omega
            have HML := hid_mk hml
            clear hml
            rcases Nat.lt_trichotomy la 5 with hla | hla | hla
            · have b2 : decide (5 ≤ (la : Int)) = false := decide_eq_false (by omega)
              have b2' : ¬ 5 ≤ (la : Int) := by omega
              have b3 : ((la : Int) == 5) = false := by rw [beq_eq_false_iff_ne]; omega
              have b5 : ¬ la = 5 := by omega
              have b6 : ¬ 5 ≤ la := by omega
              go_wp2_with fail
              go_quiet (fail)
              go_wp2_with fail
              exact bodyPost_ret (v := .tuple #[.int .u64 ((mi : Int) + 1), .int .i16 (j : Int)]) (by simp [results, Oajg.results159, go_sem]) rfl ⟨j, mi + 1, rfl, HEND true (by simp [upF, *, HML.out] <;> (have h := HML.out; omega)), by omega, by omega, by omega, below_drewN HBE.out _⟩
            · have b2 : decide (5 ≤ (la : Int)) = true := decide_eq_true (by omega)
              have b2' : 5 ≤ (la : Int) := by omega
              have b3 : ((la : Int) == 5) = true := by rw [beq_iff_eq]; omega
              have b6 : 5 ≤ la := by omega
              cases mw with
              | false =>
                go_wp2_with fail
                go_quiet (fail)
                go_wp2_with fail
                exact bodyPost_ret (v := .tuple #[.int .u64 ((mi : Int) + 1), .int .i16 (j : Int)]) (by simp [results, Oajg.results159, go_sem]) rfl ⟨j, mi + 1, rfl, HEND true (by simp [upF, *, HML.out] <;> (have h := HML.out; omega)), by omega, by omega, by omega, below_drewN HBE.out _⟩
              | true =>
                by_cases hev : mi % 2 = 0
                · have b4 : ((mi : Int) % 2 == 0) = true := by rw [beq_iff_eq]; omega
                  go_wp2_with fail
                  go_quiet (fail)
                  go_wp2_with fail
                  exact bodyPost_ret (v := .tuple #[.int .u64 ((mi : Int) + 1), .int .i16 (j : Int)]) (by simp [results, Oajg.results159, go_sem]) rfl ⟨j, mi + 1, rfl, HEND true (by simp [upF, *, HML.out] <;> (have h := HML.out; omega)), by omega, by omega, by omega, below_drewN HBE.out _⟩
                · have b4 : ((mi : Int) % 2 == 0) = false := by rw [beq_eq_false_iff_ne]; omega
                  go_wp2_with fail
                  go_quiet (fail)
                  go_wp2_with fail
                  exact bodyPost_ret (v := .tuple #[.int .u64 ((mi : Int) + 1), .int .i16 (j : Int)]) (by simp [results, Oajg.results159, go_sem]) rfl ⟨j, mi + 1, rfl, HEND true (by simp [upF, *, HML.out] <;> (have h := HML.out; omega)), by omega, by omega, by omega, below_drewN HBE.out _⟩
            · have b2 : decide (5 ≤ (la : Int)) = true := decide_eq_true (by omega)
              have b2' : 5 ≤ (la : Int) := by omega
              have b3 : ((la : Int) == 5) = false := by rw [beq_eq_false_iff_ne]; omega
              have b5 : ¬ la = 5 := by omega
              have b6 : 5 ≤ la := by omega
              go_wp2_with fail
              go_quiet (fail)
              go_wp2_with fail
              exact bodyPost_ret (v := .tuple #[.int .u64 ((mi : Int) + 1), .int .i16 (j : Int)]) (by simp [results, Oajg.results159, go_sem]) rfl ⟨j, mi + 1, rfl, HEND true (by simp [upF, *, HML.out] <;> (have h := HML.out; omega)), by omega, by omega, by omega, below_drewN HBE.out _⟩
          · have b1 : ((mi : Int) == (lo : Int)) = false := by rw [beq_eq_false_iff_ne]; omega
            have HML := hid_mk hml
            clear hml
            rcases Nat.lt_trichotomy la 5 with hla | hla | hla
            · have b2 : decide (5 ≤ (la : Int)) = false := decide_eq_false (by omega)
              have b2' : ¬ 5 ≤ (la : Int) := by omega
              have b3 : ((la : Int) == 5) = false := by rw [beq_eq_false_iff_ne]; omega
              have b5 : ¬ la = 5 := by omega
              have b6 : ¬ 5 ≤ la := by omega
              go_wp2_with fail
              go_quiet (fail)
              go_wp2_with fail
              exact bodyPost_ret (v := .tuple #[.int .u64 (mi : Int), .int .i16 (j : Int)]) (by simp [results, Oajg.results159, go_sem]) rfl ⟨j, mi, rfl, HEND false (by simp [upF, *, HML.out] <;> (have h := HML.out; omega)), by omega, by omega, by omega, below_drewN HBE.out _⟩
            · have b2 : decide (5 ≤ (la : Int)) = true := decide_eq_true (by omega)
              have b2' : 5 ≤ (la : Int) := by omega
              have b3 : ((la : Int) == 5) = true := by rw [beq_iff_eq]; omega
              have b6 : 5 ≤ la := by omega
              cases mw with
              | false =>
                go_wp2_with fail
                go_quiet (fail)
                go_wp2_with fail
                exact bodyPost_ret (v := .tuple #[.int .u64 ((mi : Int) + 1), .int .i16 (j : Int)]) (by simp [results, Oajg.results159, go_sem]) rfl ⟨j, mi + 1, rfl, HEND true (by simp [upF, *, HML.out] <;> (have h := HML.out; omega)), by omega, by omega, by omega, below_drewN HBE.out _⟩
              | true =>
                by_cases hev : mi % 2 = 0
                · have b4 : ((mi : Int) % 2 == 0) = true := by rw [beq_iff_eq]; omega
                  go_wp2_with fail
                  go_quiet (fail)
                  go_wp2_with fail
                  exact bodyPost_ret (v := .tuple #[.int .u64 (mi : Int), .int .i16 (j : Int)]) (by simp [results, Oajg.results159, go_sem]) rfl ⟨j, mi, rfl, HEND false (by simp [upF, *, HML.out] <;> (have h := HML.out; omega)), by omega, by omega, by omega, below_drewN HBE.out _⟩
                · have b4 : ((mi : Int) % 2 == 0) = false := by rw [beq_eq_false_iff_ne]; omega
                  go_wp2_with fail
                  go_quiet (fail)
                  go_wp2_with fail
                  exact bodyPost_ret (v := .tuple #[.int .u64 ((mi : Int) + 1), .int .i16 (j : Int)]) (by simp [results, Oajg.results159, go_sem]) rfl ⟨j, mi + 1, rfl, HEND true (by simp [upF, *, HML.out] <;> (have h := HML.out; omega)), by omega, by omega, by omega, below_drewN HBE.out _⟩
            · have b2 : decide (5 ≤ (la : Int)) = true := decide_eq_true (by omega)
              have b2' : 5 ≤ (la : Int) := by omega
              have b3 : ((la : Int) == 5) = false := by rw [beq_eq_false_iff_ne]; omega
              have b5 : ¬ la = 5 := by omega
              have b6 : 5 ≤ la := by omega
              go_wp2_with fail
              go_quiet (fail)
              go_wp2_with fail
              exact bodyPost_ret (v := .tuple #[.int .u64 ((mi : Int) + 1), .int .i16 (j : Int)]) (by simp [results, Oajg.results159, go_sem]) rfl ⟨j, mi + 1, rfl, HEND true (by simp [upF, *, HML.out] <;> (have h := HML.out; omega)), by omega, by omega, by omega, below_drewN HBE.out _⟩
        | true =>
          go_upto_if 36 with (fail)
          go_cut [3] (fun s3 W => ∃ (j mi la : Nat) (mw : Bool) (lo hi : Nat), s3 = .int .i16 (j : Int) ∧ Blk W sb (spC ((lo : Nat) : Int) ((mi : Nat) : Int) ((hi : Nat) : Int) true mw true ((la : Nat) : Int)) t ∧ Below sb w W ∧ (∀ up : Bool, up = upF mi lo true true la mw → Short a v b D true j (mi + up.toNat)) ∧ 1 ≤ j ∧ j ≤ 19 ∧ mi < 461168601842738791 ∧ lo < 4611686018427387904 ∧ la < 10)
          case first =>
            clear m0 m1 m2 m3 m4 m5 m6 m7 m8 d1 d2 k1 k2 k3 hgo
            go_wp2_with fail
            go_loopw [3] (fun c3 wr2 => ∃ (j lo mi hi la : Nat) (mw : Bool), c3 = .int .i16 (j : Int) ∧ Sp a v b D true j lo mi hi true mw la ∧ Blk wr2 sb (spC ((lo : Nat) : Int) ((mi : Nat) : Int) ((hi : Nat) : Int) true mw true ((la : Nat) : Int)) t ∧ Below sb w wr2 ∧ NoAbove a v b D true j ∧ 1 ≤ j ∧ 1 ≤ mi ∧ mi < 461168601842738791 ∧ lo < 4611686018427387904 ∧ hi < 4611686018427387904 ∧ la < 10 ∧ mi * 10 ^ j < 4611686018427387904) (fun c3 _ => 100 - (intOf c3).toNat)
            case atStart => exact ⟨j, lo, mi, hi, la, mw, rfl, HSP.out, HBK.out, HBE.out, HNO.out, hj1.1, g5, hmi9, g1, g3, hla9, g6⟩
            case round =>
              clear HSP HBK HBE HNO hj1 g5 hmi9 g1 g2 g3 g4 hla9 g6 hj19
              obtain ⟨j, lo, mi, hi, la, mw, rfl, hsp, hblk, hbel, hno, f1, f2, f3, f4, f5, f6, f7⟩ := hrel
              have hj19 : j < 19 := by
                have p1 : 1 * 10 ^ j ≤ mi * 10 ^ j := Nat.mul_le_mul_right _ f2
                rcases Nat.lt_or_ge j 19 with h | h
                · exact h
                · have p2 : 10 ^ 19 ≤ 10 ^ j := Nat.pow_le_pow_right (by decide) h
                  rw [Nat.one_mul] at p1
                  omega
              obtain ⟨m0, m1, m2, m3, m4, m5, m6, m7, m8⟩ := sp_cells hblk
              have d1 : (lo : Int).tmod 10 = (lo : Int) % 10 := Int.tmod_eq_emod_of_nonneg (by omega)
              have k1 : IntKind.u64.wrap ((lo : Int) % 10) = (lo : Int) % 10 := by rw [IntKind.wrap_u64]; omega
              have k3 : IntKind.i16.wrap ((j : Int) + 1) = ((j + 1 : Nat) : Int) := by rw [i16_wrap]; omega
              have HBK := hid_mk hblk
              have HBE := hid_mk hbel
              by_cases hgo : 10 ≤ mi ∧ lo % 10 = 0
              · have b1 : decide (10 ≤ (mi : Int)) = true := decide_eq_true (by omega)
                have b1' : 10 ≤ (mi : Int) := by omega
                have b2 : ((lo : Int) % 10 == 0) = true := by rw [beq_iff_eq]; omega
                have HDR := hid_mk (fun (W : World) (hW : Blk W sb (spC lo mi hi true mw true la) t) => drop_ok lo mi hi la sb t true mw true (by omega) (by omega) (by omega) (by omega) W hW)
                have HN : Hid (Sp a v b D true (j + 1) (lo / 10) (mi / 10) (hi / 10) true (mw && decide (la = 0)) (mi % 10)) := by
                  have h := hsp.next
                  rw [decide_eq_true hgo.2] at h
                  exact h
                rw [decide_eq_true hgo.2] at HDR
                have g7 : mi / 10 * 10 ^ (j + 1) < 4611686018427387904 := by
                  have p : mi / 10 * 10 ^ (j + 1) ≤ mi * 10 ^ j := by
                    rw [Nat.pow_succ, Nat.mul_comm (10 ^ j) 10, ← Nat.mul_assoc]; exact Nat.mul_le_mul_right _ (Nat.div_mul_le_self mi 10)
                  omega
                have HNO := hid_mk (show NoAbove a v b D true (j + 1) from fun k hk => hno k (by omega))
                clear hsp hblk hbel hno HEN
                go_wp2_with fail
                refine Calls.mono (HDR.out _ HBK.out) ?_
                rintro _ w1 ⟨rfl, hbk, hbe⟩
                go_wp2_with fail
                go_roundw
                case rel => exact ⟨j + 1, lo / 10, mi / 10, hi / 10, mi % 10, _, rfl, HN.out, hbk, HBE.out.trans hbe, HNO.out, by omega, by omega, by omega, by omega, by omega, by omega, g7⟩
                case measure => simp [intOf]; omega
              · have HEND := hid_mk (HEN.out j lo mi hi la true mw f1 f2 hsp (Or.inr (by simp)) hno (fun _ => by omega))
                have hex : (decide (10 ≤ (mi : Int)) = false ∧ ¬ 10 ≤ (mi : Int)) ∨ (decide (10 ≤ (mi : Int)) = true ∧ 10 ≤ (mi : Int) ∧ ((lo : Int) % 10 == 0) = false) := by
                  by_cases h10 : 10 ≤ mi
                  · right; exact ⟨decide_eq_true (by omega), by omega, by rw [beq_eq_false_iff_ne]; omega⟩
                  · left; exact ⟨decide_eq_false (by omega), by omega⟩
                clear hsp hblk hbel hno HEN hgo
                rcases hex with ⟨b1, b1'⟩ | ⟨b1, b1', b2⟩
                all_goals (
                  go_wp2_with fail
                  go_meet
                  exact ⟨j, mi, la, mw, lo, hi, rfl, HBK.out, HBE.out, HEND.out, f1, by omega, f3, f4, f6⟩)
          case rest =>
            clear HEN HNO HSP HBK hgo m0 m1 m2 m3 m4 m5 m6 m7 m8 hj1 hmi9 hla9 HBE g1 g2 g3 g4 g5 g6 hj19 d1 d2 k1 k2 k3
            obtain ⟨j, mi, la, mw, lo, hi, rfl, hblk, hbel, HEND, q1, q2, q3, q4, q5⟩ := hcut
            obtain ⟨m0, m1, m2, m3, m4, m5, m6, m7, m8⟩ := sp_cells hblk
            have HBE := hid_mk hbel
            clear hblk hbel
            by_cases hml : mi = lo
            · have b1 : ((mi : Int) == (lo : Int)) = true := by rw [beq_iff_eq]; omega
              have HML := hid_mk hml
              clear hml
              rcases Nat.lt_trichotomy la 5 with hla | hla | hla
              · have b2 : decide (5 ≤ (la : Int)) = false := decide_eq_false (by omega)
                have b2' : ¬ 5 ≤ (la : Int) := by omega
                have b3 : ((la : Int) == 5) = false := by rw [beq_eq_false_iff_ne]; omega
                have b5 : ¬ la = 5 := by omega
                have b6 : ¬ 5 ≤ la := by omega
                go_wp2_with fail
                go_quiet (fail)
                go_wp2_with fail
                exact bodyPost_ret (v := .tuple #[.int .u64 (mi : Int), .int .i16 (j : Int)]) (by simp [results, Oajg.results159, go_sem]) rfl ⟨j, mi, rfl, HEND false (by simp [upF, *, HML.out] <;> (have h := HML.out; omega)), by omega, by omega, by omega, below_drewN HBE.out _⟩
              · have b2 : decide (5 ≤ (la : Int)) = true := decide_eq_true (by omega)
                have b2' : 5 ≤ (la : Int) := by omega
                have b3 : ((la : Int) == 5) = true := by rw [beq_iff_eq]; omega
                have b6 : 5 ≤ la := by omega
                cases mw with
                | false =>
                  go_wp2_with fail
                  go_quiet (fail)
                  go_wp2_with fail
                  exact bodyPost_ret (v := .tuple #[.int .u64 ((mi : Int) + 1), .int .i16 (j : Int)]) (by simp [results, Oajg.results159, go_sem]) rfl ⟨j, mi + 1, rfl, HEND true (by simp [upF, *, HML.out] <;> (have h := HML.out; omega)), by omega, by omega, by omega, below_drewN HBE.out _⟩
                | true =>
                  by_cases hev : mi % 2 = 0
                  · have b4 : ((mi : Int) % 2 == 0) = true := by rw [beq_iff_eq]; omega
                    go_wp2_with fail
                    go_quiet (fail)
                    go_wp2_with fail
                    exact bodyPost_ret (v := .tuple #[.int .u64 (mi : Int), .int .i16 (j : Int)]) (by simp [results, Oajg.results159, go_sem]) rfl ⟨j, mi, rfl, HEND false (by simp [upF, *, HML.out] <;> (have h := HML.out; omega)), by omega, by omega, by omega, below_drewN HBE.out _⟩
                  · have b4 : ((mi : Int) % 2 == 0) = false := by rw [beq_eq_false_iff_ne]; omega
                    go_wp2_with fail
                    go_quiet (fail)
                    go_wp2_with fail
                    exact bodyPost_ret (v := .tuple #[.int .u64 ((mi : Int) + 1), .int .i16 (j : Int)]) (by simp [results, Oajg.results159, go_sem]) rfl ⟨j, mi + 1, rfl, HEND true (by simp [upF, *, HML.out] <;> (have h := HML.out; omega)), by omega, by omega, by omega, below_drewN HBE.out _⟩
              · have b2 : decide (5 ≤ (la : Int)) = true := decide_eq_true (by omega)
                have b2' : 5 ≤ (la : Int) := by omega
                have b3 : ((la : Int) == 5) = false := by rw [beq_eq_false_iff_ne]; omega
                have b5 : ¬ la = 5 := by omega
                have b6 : 5 ≤ la := by omega
                go_wp2_with fail
                go_quiet (fail)
                go_wp2_with fail
                exact bodyPost_ret (v := .tuple #[.int .u64 ((mi : Int) + 1), .int .i16 (j : Int)]) (by simp [results, Oajg.results159, go_sem]) rfl ⟨j, mi + 1, rfl, HEND true (by simp [upF, *, HML.out] <;> (have h := HML.out; omega)), by omega, by omega, by omega, below_drewN HBE.out _⟩
            · have b1 : ((mi : Int) == (lo : Int)) = false := by rw [beq_eq_false_iff_ne]; omega
              have HML := hid_mk hml
              clear hml
              rcases Nat.lt_trichotomy la 5 with hla | hla | hla
              · have b2 : decide (5 ≤ (la : Int)) = false := decide_eq_false (by omega)
                have b2' : ¬ 5 ≤ (la : Int) := by omega
                have b3 : ((la : Int) == 5) = false := by rw [beq_eq_false_iff_ne]; omega
                have b5 : ¬ la = 5 := by omega
                have b6 : ¬ 5 ≤ la := by omega
                go_wp2_with fail
                go_quiet (fail)
                go_wp2_with fail
                exact bodyPost_ret (v := .tuple #[.int .u64 (mi : Int), .int .i16 (j : Int)]) (by simp [results, Oajg.results159, go_sem]) rfl ⟨j, mi, rfl, HEND false (by simp [upF, *, HML.out] <;> (have h := HML.out; omega)), by omega, by omega, by omega, below_drewN HBE.out _⟩
              · have b2 : decide (5 ≤ (la : Int)) = true := decide_eq_true (by omega)
                have b2' : 5 ≤ (la : Int) := by omega
                have b3 : ((la : Int) == 5) = true := by rw [beq_iff_eq]; omega
                have b6 : 5 ≤ la := by omega
                cases mw with
                | false =>
                  go_wp2_with fail
                  go_quiet (fail)
                  go_wp2_with fail
                  exact bodyPost_ret (v := .tuple #[.int .u64 ((mi : Int) + 1), .int .i16 (j : Int)]) (by simp [results, Oajg.results159, go_sem]) rfl ⟨j, mi + 1, rfl, HEND true (by simp [upF, *, HML.out] <;> (have h := HML.out; omega)), by omega, by omega, by omega, below_drewN HBE.out _⟩
                | true =>
                  by_cases hev : mi % 2 = 0
                  · have b4 : ((mi : Int) % 2 == 0) = true := by rw [beq_iff_eq]; omega
                    go_wp2_with fail
                    go_quiet (fail)
                    go_wp2_with fail
                    exact bodyPost_ret (v := .tuple #[.int .u64 (mi : Int), .int .i16 (j : Int)]) (by simp [results, Oajg.results159, go_sem]) rfl ⟨j, mi, rfl, HEND false (by simp [upF, *, HML.out] <;> (have h := HML.out; omega)), by omega, by omega, by omega, below_drewN HBE.out _⟩
                  · have b4 : ((mi : Int) % 2 == 0) = false := by rw [beq_eq_false_iff_ne]; omega
                    go_wp2_with fail
                    go_quiet (fail)
                    go_wp2_with fail
                    exact bodyPost_ret (v := .tuple #[.int .u64 ((mi : Int) + 1), .int .i16 (j : Int)]) (by simp [results, Oajg.results159, go_sem]) rfl ⟨j, mi + 1, rfl, HEND true (by simp [upF, *, HML.out] <;> (have h := HML.out; omega)), by omega, by omega, by omega, below_drewN HBE.out _⟩
              · have b2 : decide (5 ≤ (la : Int)) = true := decide_eq_true (by omega)
                have b2' : 5 ≤ (la : Int) := by omega
                have b3 : ((la : Int) == 5) = false := by rw [beq_eq_false_iff_ne]; omega
                have b5 : ¬ la = 5 := by omega
                have b6 : 5 ≤ la := by omega
                go_wp2_with fail
                go_quiet (fail)
                go_wp2_with fail
                exact bodyPost_ret (v := .tuple #[.int .u64 ((mi : Int) + 1), .int .i16 (j : Int)]) (by simp [results, Oajg.results159, go_sem]) rfl ⟨j, mi + 1, rfl, HEND true (by simp [upF, *, HML.out] <;> (have h := HML.out; omega)), by omega, by omega, by omega, below_drewN HBE.out _⟩

end Go.Proofs.Ygcoaj
