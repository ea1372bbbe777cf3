/- MetricRuns: the law returns true whatever its arguments. -/
import Derived.Test.YtlnpmlkhbnjgnaaWalkb
import Derived.Test.YtlnpmlkhbnjgnaaRows
import Derived.WalkKit
import Derived.ProofKit
import Derived.OpenShut
import Derived.JoinedCond
set_option linter.unusedVariables false
set_option linter.unusedSimpArgs false

/-! (TMP) -/

set_option linter.unusedVariables false
set_option linter.unusedSimpArgs false
namespace Go.AX.Z.TM
open Go.AX

/-! ## Costs, plainly -/

theorem alive_e : hotspotlaw38_alive = some true := by decide +kernel

def cl (x : Int) : Int := if 1099511627776 < (if x < 0 then 0 else x) then 1099511627776 else (if x < 0 then 0 else x)
theorem cl_s (x : Int) : (x < 0 ∧ cl x = 0) ∨ (0 ≤ x ∧ x ≤ 1099511627776 ∧ cl x = x) ∨ (1099511627776 < x ∧ cl x = 1099511627776) := by
  unfold cl
  split <;> split at * <;> omega
theorem cl_b (x : Int) : 0 ≤ cl x ∧ cl x ≤ 1099511627776 := by have := cl_s x; omega
def add (a b : Int) : Int := cl (cl a + cl b)
theorem add_e (a b : Int) : metric_Add a b = some (add a b) := by
  unfold metric_Add metric_Add_1
  simp only [bindS]
  have h1 := cl_b a
  have h2 := cl_b b
  rw [show (if 1099511627776 < (if a < 0 then 0 else a) then 1099511627776 else (if a < 0 then 0 else a)) = cl a from rfl, show (if 1099511627776 < (if b < 0 then 0 else b) then 1099511627776 else (if b < 0 then 0 else b)) = cl b from rfl, wrapI (by omega) (by omega)]
  rfl
theorem add_b (a b : Int) : 0 ≤ add a b ∧ add a b ≤ 1099511627776 := cl_b _
theorem add_comm' (a b : Int) : add a b = add b a := by unfold add; rw [Int.add_comm]
theorem cl_id {x : Int} (h : 0 ≤ x ∧ x ≤ 1099511627776) : cl x = x := by have := cl_s x; omega
theorem add_assoc' (a b c : Int) : add (add a b) c = add a (add b c) := by
  have ha := cl_b a
  have hb := cl_b b
  have hc := cl_b c
  unfold add
  rw [cl_id (cl_b (cl a + cl b)), cl_id (cl_b (cl b + cl c))]
  have h1 := cl_s (cl a + cl b)
  have h2 := cl_s (cl b + cl c)
  have h3 := cl_s (cl (cl a + cl b) + cl c)
  have h4 := cl_s (cl a + cl (cl b + cl c))
  omega
theorem add_mono (a : Int) {b c : Int} (h : b ≤ c) : add a b ≤ add a c := by
  have hb := cl_s b
  have hc := cl_s c
  have h3 := cl_s (cl a + cl b)
  have h4 := cl_s (cl a + cl c)
  have ha := cl_b a
  unfold add
  omega

theorem sums_e (a b c : Int) : hotspotlaw38_MetricSums a b c = some true := by
  unfold hotspotlaw38_MetricSums
  simp only [add_e, alive_e, bindS, cond_true]
  rw [show (add a b == add b a) = true by rw [add_comm' a b]; simp, cond_true, bindS, show (add (add a b) c == add a (add b c)) = true by rw [add_assoc']; simp]
  have h := add_b a b
  rw [decide_eq_true h.1, decide_eq_true h.2]
  simp only [Bool.and_self, cond_true]
  by_cases hc : c < b
  · rw [decide_eq_true hc]; rfl
  · rw [decide_eq_false hc, cond_false, decide_eq_true (add_mono a (by omega))]; rfl

theorem twelve {a : Int} (h0 : 0 ≤ a) (h1 : a ≤ 11) : a = 0 ∨ a = 1 ∨ a = 2 ∨ a = 3 ∨ a = 4 ∨ a = 5 ∨ a = 6 ∨ a = 7 ∨ a = 8 ∨ a = 9 ∨ a = 10 ∨ a = 11 := by omega

theorem shares_e (a : Int) : hotspotlaw38_MetricShares a = some true := by
  unfold hotspotlaw38_MetricShares
  rw [alive_e, bindS]
  by_cases h : 0 ≤ a ∧ a ≤ 11
  · have e : ((decide (a < 0) || decide (11 < a)) || !true) = false := by simp; omega
    rw [e, cond_false]
    rcases twelve h.1 h.2 with rfl | rfl | rfl | rfl | rfl | rfl | rfl | rfl | rfl | rfl | rfl | rfl <;> decide +kernel
  · have e : ((decide (a < 0) || decide (11 < a)) || !true) = true := by simp; omega
    rw [e]; rfl

def air (a : Int) : Int := match rate_Total a 1024 with | some r => r.1 | none => 0
theorem air_e {a : Int} (h0 : 0 ≤ a) (h1 : a ≤ 11) : rate_Total a 1024 = some (air a, 0) ∧ 136 ≤ air a ∧ air a ≤ 1452 := by
  rcases twelve h0 h1 with rfl | rfl | rfl | rfl | rfl | rfl | rfl | rfl | rfl | rfl | rfl | rfl <;> decide +kernel
theorem air_fin : ∀ r f : Fin 12, r.val ≤ f.val → air f.val ≤ air r.val := by decide +kernel
theorem air_mono {r f : Int} (h0 : 0 ≤ r) (h1 : r ≤ f) (h2 : f ≤ 11) : air f ≤ air r := by
  have := air_fin ⟨r.toNat, by omega⟩ ⟨f.toNat, by omega⟩ (by show r.toNat ≤ f.toNat; omega)
  rwa [show ((r.toNat : Nat) : Int) = r by omega, show ((f.toNat : Nat) : Int) = f by omega] at this

/-- n divided by d, rounded up. -/
def up (n d : Int) : Int := (n + d - 1) / d
theorem up_le {n d q : Int} (hd : 0 < d) (h : n ≤ q * d) : up n d ≤ q := by
  unfold up
  have : (n + d - 1) / d < q + 1 := Int.ediv_lt_of_lt_mul hd (by rw [Int.add_mul]; omega)
  omega
theorem le_up (n : Int) {d : Int} (hd : 0 < d) : n ≤ up n d * d := by
  unfold up
  have := Int.lt_ediv_add_one_mul_self (n + d - 1) hd
  rw [Int.add_mul] at this
  omega
theorem up_mono {n n' d d' : Int} (hn : n ≤ n') (hd : 0 < d') (hd' : d' ≤ d) (h0 : 0 ≤ n) : up n d ≤ up n' d' := by
  refine up_le (by omega) ?_
  have h1 := le_up n' hd
  have h2 : 0 ≤ up n' d' := by
    rcases Int.lt_or_le (up n' d') 0 with h | h
    · have : up n' d' * d' < 0 := Int.mul_neg_of_neg_of_pos h hd
      omega
    · exact h
  have h3 : up n' d' * d' ≤ up n' d' * d := Int.mul_le_mul_of_nonneg_left hd' h2
  omega
theorem up_pos {n d : Int} (hd : 0 < d) (hn : 1 ≤ n) : 1 ≤ up n d := by
  have h1 := le_up n hd
  rcases Int.lt_or_le (up n d) 1 with h | h
  · have : up n d * d ≤ 0 := Int.mul_nonpos_of_nonpos_of_nonneg (by omega) (by omega)
    omega
  · exact h

def cost (a l : Int) : Int := if l = 1000 then 1099511627776 else up (air a * 100000) (1000 - l)
theorem cost_e {a l : Int} (h0 : 0 ≤ a) (h1 : a ≤ 11) (h2 : 0 ≤ l) (h3 : l ≤ 1000) : metric_Cost a l = some (cost a l, 0) := by
  obtain ⟨e, b1, b2⟩ := air_e h0 h1
  unfold metric_Cost
  rw [e, bindS]
  have e1 : (((((0 : Int) != 0) || decide (l < 0))) || decide (1000 < l)) = false := by simp; omega
  simp only [e1, cond_false]
  rw [wrapI (i := 1000 - l) (by omega) (by omega)]
  unfold cost
  by_cases hl : l = 1000
  · subst hl; rfl
  · have e2 : ((1000 - l) == 0) = false := by
      have : 1000 - l ≠ 0 := by omega
      simpa using this
    rw [e2, cond_false, if_neg hl, chk_d (by omega), bindS]
    rw [wrapI (i := air a * 100) (by omega) (by omega), wrapI (i := air a * 100 * 1000) (by omega) (by omega), wrapI (i := air a * 100 * 1000 + (1000 - l)) (by omega) (by omega), wrapI (i := air a * 100 * 1000 + (1000 - l) - 1) (by omega) (by omega)]
    rw [Int.tdiv_eq_ediv_of_nonneg (by omega)]
    have e3 : (air a * 100 * 1000 + (1000 - l) - 1) / (1000 - l) = up (air a * 100000) (1000 - l) := by
      unfold up
      congr 1; omega
    rw [e3]
    have u1 : up (air a * 100000) (1000 - l) ≤ air a * 100000 := by
      refine up_le (by omega) ?_
      have : air a * 100000 * 1 ≤ air a * 100000 * (1000 - l) := Int.mul_le_mul_of_nonneg_left (by omega) (by omega)
      omega
    have u2 := up_pos (d := 1000 - l) (n := air a * 100000) (by omega) (by omega)
    rw [wrapI (by omega) (by omega)]

theorem cost_le {a l : Int} (h0 : 0 ≤ a) (h1 : a ≤ 11) (h2 : 0 ≤ l) (h3 : l < 1000) : up (air a * 100000) (1000 - l) ≤ 1099511627776 := by
  obtain ⟨e, b1, b2⟩ := air_e h0 h1
  have u1 : up (air a * 100000) (1000 - l) ≤ air a * 100000 := by
    refine up_le (by omega) ?_
    have : air a * 100000 * 1 ≤ air a * 100000 * (1000 - l) := Int.mul_le_mul_of_nonneg_left (by omega) (by omega)
    omega
  omega

theorem monotone_e (r f l m : Int) : hotspotlaw38_MetricMonotone r f l m = some true := by
  unfold hotspotlaw38_MetricMonotone
  rw [alive_e, bindS]
  by_cases h : 0 ≤ r ∧ r ≤ f ∧ f ≤ 11 ∧ 0 ≤ l ∧ l ≤ m ∧ m ≤ 1000
  · obtain ⟨h1, h2, h3, h4, h5, h6⟩ := h
    have e : (((((((decide (r < 0)) || (decide (f < r))) || (decide (11 < f))) || (decide (l < 0))) || (decide (m < l))) || (decide (1000 < m))) || (!true)) = false := by simp; omega
    rw [e, cond_false, cost_e h1 (by omega) h4 (by omega), bindS, cost_e h1 (by omega) (by omega) h6, bindS, cost_e (by omega) h3 h4 (by omega), bindS]
    obtain ⟨_, b1, b2⟩ := air_e h1 (show r ≤ 11 by omega)
    obtain ⟨_, c1, c2⟩ := air_e (show 0 ≤ f by omega) h3
    have am := air_mono h1 h2 h3
    have p1 : 1 ≤ cost f l := by
      unfold cost
      split
      · decide
      · exact up_pos (by omega) (by omega)
    have p2 : cost r l ≤ cost r m := by
      unfold cost
      by_cases hm : m = 1000
      · rw [if_pos hm]
        split
        · exact Int.le_refl _
        · exact cost_le h1 (by omega) h4 (by omega)
      · rw [if_neg hm, if_neg (by omega)]
        exact up_mono (Int.le_refl _) (by omega) (by omega) (by omega)
    have p3 : cost f l ≤ cost r l := by
      unfold cost
      by_cases hl : l = 1000
      · rw [if_pos hl, if_pos hl]; exact Int.le_refl _
      · rw [if_neg hl, if_neg hl]
        exact up_mono (by omega) (by omega) (Int.le_refl _) (by omega)
    simp only [decide_eq_true p1, decide_eq_true p2, decide_eq_true p3]
    rfl
  · have e : (((((((decide (r < 0)) || (decide (f < r))) || (decide (11 < f))) || (decide (l < 0))) || (decide (m < l))) || (decide (1000 < m))) || (!true)) = true := by simp; omega
    rw [e]; rfl
end Go.AX.Z.TM

/-! (TMQ) -/

set_option linter.unusedVariables false
set_option linter.unusedSimpArgs false
namespace Go.AX.Z.TM
open Go.AX

/-! ## Addresses in order -/

def u8 (x : Int) : UInt8 := x.toNat.toUInt8
theorem cmp6 (a0 a1 a2 a3 a4 a5 b0 b1 b2 b3 b4 b5 : Int) : cmpL [a0, a1, a2, a3, a4, a5] [b0, b1, b2, b3, b4, b5] =
    if u8 a0 ≠ u8 b0 then (if u8 a0 < u8 b0 then -1 else 1) else if u8 a1 ≠ u8 b1 then (if u8 a1 < u8 b1 then -1 else 1) else if u8 a2 ≠ u8 b2 then (if u8 a2 < u8 b2 then -1 else 1)
    else if u8 a3 ≠ u8 b3 then (if u8 a3 < u8 b3 then -1 else 1) else if u8 a4 ≠ u8 b4 then (if u8 a4 < u8 b4 then -1 else 1) else if u8 a5 ≠ u8 b5 then (if u8 a5 < u8 b5 then -1 else 1) else 0 := by
  have e1 : bys [a0, a1, a2, a3, a4, a5] = ⟨#[u8 a0, u8 a1, u8 a2, u8 a3, u8 a4, u8 a5]⟩ := rfl
  have e2 : bys [b0, b1, b2, b3, b4, b5] = ⟨#[u8 b0, u8 b1, u8 b2, u8 b3, u8 b4, u8 b5]⟩ := rfl
  unfold cmpL
  rw [e1, e2]
  generalize u8 a0 = A0; generalize u8 a1 = A1; generalize u8 a2 = A2; generalize u8 a3 = A3; generalize u8 a4 = A4; generalize u8 a5 = A5
  generalize u8 b0 = B0; generalize u8 b1 = B1; generalize u8 b2 = B2; generalize u8 b3 = B3; generalize u8 b4 = B4; generalize u8 b5 = B5
  unfold Extern.BytealgCompare.cmp
  have er : List.range (min (ByteArray.mk #[A0, A1, A2, A3, A4, A5]).size (ByteArray.mk #[B0, B1, B2, B3, B4, B5]).size) = [0, 1, 2, 3, 4, 5] := rfl
  have es : (ByteArray.mk #[A0, A1, A2, A3, A4, A5]).size = (ByteArray.mk #[B0, B1, B2, B3, B4, B5]).size := rfl
  obtain ⟨X, hX⟩ : ∃ X, X = ByteArray.mk #[A0, A1, A2, A3, A4, A5] := ⟨_, rfl⟩
  obtain ⟨Y, hY⟩ : ∃ Y, Y = ByteArray.mk #[B0, B1, B2, B3, B4, B5] := ⟨_, rfl⟩
  have x0 : X[0]! = A0 := by rw [hX]; rfl
  have x1 : X[1]! = A1 := by rw [hX]; rfl
  have x2 : X[2]! = A2 := by rw [hX]; rfl
  have x3 : X[3]! = A3 := by rw [hX]; rfl
  have x4 : X[4]! = A4 := by rw [hX]; rfl
  have x5 : X[5]! = A5 := by rw [hX]; rfl
  have y0 : Y[0]! = B0 := by rw [hY]; rfl
  have y1 : Y[1]! = B1 := by rw [hY]; rfl
  have y2 : Y[2]! = B2 := by rw [hY]; rfl
  have y3 : Y[3]! = B3 := by rw [hY]; rfl
  have y4 : Y[4]! = B4 := by rw [hY]; rfl
  have y5 : Y[5]! = B5 := by rw [hY]; rfl
  rw [← hX, ← hY] at er es ⊢
  rw [er]
  clear er hX hY
  have sl : ¬ (X.size < Y.size) := by omega
  have sg : ¬ (Y.size < X.size) := by omega
  have ne : ∀ {p q : UInt8}, p ≠ q → (p != q) = true := fun h => by simpa using h
  by_cases h0 : A0 = B0
  · subst h0
    by_cases h1 : A1 = B1
    · subst h1
      by_cases h2 : A2 = B2
      · subst h2
        by_cases h3 : A3 = B3
        · subst h3
          by_cases h4 : A4 = B4
          · subst h4
            by_cases h5 : A5 = B5
            · subst h5
              simp only [List.find?_cons, x0, x1, x2, x3, x4, x5, y0, y1, y2, y3, y4, y5, bne_self_eq_false, List.find?_nil, ne_eq, not_true_eq_false, if_false, if_neg sl, gt_iff_lt, if_neg sg]
            · simp only [List.find?_cons, x0, x1, x2, x3, x4, x5, y0, y1, y2, y3, y4, y5, bne_self_eq_false, ne h5, ne_eq, not_true_eq_false, if_false, h5, not_false_eq_true, if_true]
          · simp only [List.find?_cons, x0, x1, x2, x3, x4, x5, y0, y1, y2, y3, y4, y5, bne_self_eq_false, ne h4, ne_eq, not_true_eq_false, if_false, h4, not_false_eq_true, if_true]
        · simp only [List.find?_cons, x0, x1, x2, x3, x4, x5, y0, y1, y2, y3, y4, y5, bne_self_eq_false, ne h3, ne_eq, not_true_eq_false, if_false, h3, not_false_eq_true, if_true]
      · simp only [List.find?_cons, x0, x1, x2, x3, x4, x5, y0, y1, y2, y3, y4, y5, bne_self_eq_false, ne h2, ne_eq, not_true_eq_false, if_false, h2, not_false_eq_true, if_true]
    · simp only [List.find?_cons, x0, x1, x2, x3, x4, x5, y0, y1, y2, y3, y4, y5, bne_self_eq_false, ne h1, ne_eq, not_true_eq_false, if_false, h1, not_false_eq_true, if_true]
  · simp only [List.find?_cons, x0, x1, x2, x3, x4, x5, y0, y1, y2, y3, y4, y5, bne_self_eq_false, ne h0, ne_eq, not_true_eq_false, if_false, h0, not_false_eq_true, if_true]

/-- An address as a number. -/
def K6 (x : Addr) : Nat := (((((u8 x.a0).toNat * 256 + (u8 x.a1).toNat) * 256 + (u8 x.a2).toNat) * 256 + (u8 x.a3).toNat) * 256 + (u8 x.a4).toNat) * 256 + (u8 x.a5).toNat

def cm (a b : Addr) : Int := cmpL [a.a0, a.a1, a.a2, a.a3, a.a4, a.a5] [b.a0, b.a1, b.a2, b.a3, b.a4, b.a5]
theorem compare_e (a b : Addr) : address_Compare a b = some (cm a b) := rfl

theorem cm_k (a b : Addr) : (cm a b < 0 ↔ K6 a < K6 b) ∧ (cm a b = 0 ↔ K6 a = K6 b) := by
  unfold cm
  rw [cmp6]
  unfold K6
  have lt : ∀ x : UInt8, x.toNat < 256 := fun x => x.toNat_lt
  have ex : ∀ x y : UInt8, x ≠ y ↔ x.toNat ≠ y.toNat := fun x y => not_congr UInt8.toNat_inj.symm
  have el : ∀ x y : UInt8, x < y ↔ x.toNat < y.toNat := fun x y => UInt8.lt_iff_toNat_lt
  simp only [ex, el]
  have p0 := lt (u8 a.a0); have p1 := lt (u8 a.a1); have p2 := lt (u8 a.a2); have p3 := lt (u8 a.a3); have p4 := lt (u8 a.a4); have p5 := lt (u8 a.a5)
  have q0 := lt (u8 b.a0); have q1 := lt (u8 b.a1); have q2 := lt (u8 b.a2); have q3 := lt (u8 b.a3); have q4 := lt (u8 b.a4); have q5 := lt (u8 b.a5)
  generalize (u8 a.a0).toNat = A0 at *; generalize (u8 a.a1).toNat = A1 at *; generalize (u8 a.a2).toNat = A2 at *; generalize (u8 a.a3).toNat = A3 at *; generalize (u8 a.a4).toNat = A4 at *; generalize (u8 a.a5).toNat = A5 at *
  generalize (u8 b.a0).toNat = B0 at *; generalize (u8 b.a1).toNat = B1 at *; generalize (u8 b.a2).toNat = B2 at *; generalize (u8 b.a3).toNat = B3 at *; generalize (u8 b.a4).toNat = B4 at *; generalize (u8 b.a5).toNat = B5 at *
  clear lt ex el
  repeat' split
  all_goals omega

/-! ## Tables -/

def okM (x : MetricLink) : Prop := 0 ≤ x.Rate ∧ x.Rate < 12 ∧ 0 ≤ x.Loss ∧ x.Loss ≤ 1000 ∧ 0 ≤ x.Heard ∧ x.Heard ≤ 1099511627776
instance (x : MetricLink) : Decidable (okM x) := by unfold okM; infer_instance
theorem valid_e (x : MetricLink) : metric_valid x = some (decide (okM x)) := by
  unfold metric_valid rate_Count
  simp only [bindS, cond_true]
  by_cases h : 0 ≤ x.Rate
  · rw [decide_eq_true h, cond_true, bindS]
    congr 1
    rw [Bool.eq_iff_iff]
    simp only [Bool.and_eq_true, decide_eq_true_eq]
    unfold okM
    omega
  · rw [decide_eq_false h, cond_false, bindS]
    congr 1
    rw [Bool.eq_iff_iff]
    simp only [Bool.and_eq_true, decide_eq_true_eq, Bool.false_eq_true, false_and]
    unfold okM
    constructor
    · intro q; exact q.elim
    · intro q; omega

/-- Valid links in order, behind one. -/
def Srt : Option Nat → List MetricLink → Prop
  | _, [] => True
  | p, x :: l => (okM x ∧ ∀ k, p = some k → k < K6 x.Peer) ∧ Srt (some (K6 x.Peer)) l

def prv (t : MetricTable) : Nat → Option Nat
  | 0 => none
  | j + 1 => (t.Links[j]?).map fun y => K6 y.Peer

theorem check_loop (t : MetricTable) (hL : t.Links.length < 4611686018427387904) : ∀ (l : List MetricLink) (i n : Nat), t.Links.drop i = l → l.length < n →
    ∃ o, metric_Check_L2 t n (i : Int) = some o ∧ (o = Ex.ret 8 ∨ o = Ex.go ()) ∧ (o = Ex.go () ↔ Srt (prv t i) l) := by
  intro l
  induction l with
  | nil =>
    intro i n h hn
    obtain ⟨n, rfl⟩ : ∃ m, n = m + 1 := ⟨n - 1, by simp at hn; omega⟩
    rw [metric_Check_L2, ge_dec (drop_n h)]
    exact ⟨_, rfl, .inr rfl, by simp [Srt]⟩
  | cons x l ih =>
    intro i n h hn
    obtain ⟨n, rfl⟩ : ∃ m, n = m + 1 := ⟨n - 1, by simp at hn; omega⟩
    obtain ⟨h1, h2, h3⟩ := drop_c h
    simp only [List.length_cons] at hn
    rw [metric_Check_L2, lt_dec h3]
    simp only [cond_true, idxN, h1, bindS, valid_e]
    by_cases hv : okM x
    · rw [decide_eq_true hv]
      simp only [Bool.not_true, cond_false]
      have rest : ∀ b : Bool, (b = false ↔ ∀ k, (prv t i) = some k → k < K6 x.Peer) →
          ∃ o, (bif b then some (Ex.ret 8) else metric_Check_L2 t n (IntKind.wrap .i64 ((i : Int) + 1))) = some o ∧ (o = Ex.ret 8 ∨ o = Ex.go ()) ∧ (o = Ex.go () ↔ Srt (prv t i) (x :: l)) := by
        intro b hb
        cases b with
        | true =>
          refine ⟨_, rfl, .inl rfl, ?_⟩
          constructor
          · intro q; cases q
          · intro q
            have := hb.2 q.1.2
            cases this
        | false =>
          obtain ⟨o, e1, e2, e3⟩ := ih (i + 1) n h2 (by omega)
          refine ⟨o, by rw [wrapN (by omega)]; exact e1, e2, ?_⟩
          rw [e3]
          simp only [prv, h1, Option.map_some]
          constructor
          · intro q; exact ⟨⟨hv, hb.1 rfl⟩, q⟩
          · intro q; exact q.2
      cases i with
      | zero =>
        rw [show decide ((0 : Int) < ((0 : Nat) : Int)) = false from rfl, cond_false, bindS, bindS]
        exact rest false (by simp [prv])
      | succ j =>
        have hj : j < t.Links.length := by omega
        have ej : t.Links[j]? = some t.Links[j] := by simp [hj]
        rw [decide_eq_true (by omega : (0 : Int) < ((j + 1 : Nat) : Int)), cond_true, show IntKind.wrap .i64 (((j + 1 : Nat) : Int) - 1) = ((j : Nat) : Int) by rw [wrapI (by omega) (by omega)]; omega, idxN, ej, bindS, compare_e, bindS, bindS, bindS]
        refine rest _ ?_
        have c := (cm_k (t.Links[j]).Peer x.Peer).1
        simp only [prv, ej, Option.map_some, Option.some.injEq, forall_eq']
        rw [← c, decide_eq_false_iff_not]
        omega
    · rw [decide_eq_false hv]
      simp only [Bool.not_false, cond_true, bindS]
      refine ⟨_, rfl, .inl rfl, ?_⟩
      constructor
      · intro q; cases q
      · intro q; exact absurd q.1.1 hv

def VT (t : MetricTable) : Prop := t.Links.length ≤ 32 ∧ Srt none t.Links
theorem mcheck_e (t : MetricTable) : ∃ e, metric_Check t = some e ∧ (e = 0 ↔ VT t) := by
  unfold metric_Check
  by_cases h : 32 < t.Links.length
  · rw [decide_eq_true (by omega)]
    refine ⟨8, rfl, ?_⟩
    unfold VT
    constructor
    · intro q; cases q
    · intro q; omega
  · rw [decide_eq_false (by omega), cond_false]
    obtain ⟨o, e1, e2, e3⟩ := check_loop t (by omega) t.Links 0 big rfl (big_lt (by omega))
    simp only [Int.natCast_zero] at e1
    rw [e1, bindS]
    rcases e2 with rfl | rfl
    · refine ⟨8, rfl, ?_⟩
      unfold VT
      constructor
      · intro q; cases q
      · intro q
        have := e3.2 q.2
        cases this
    · exact ⟨0, rfl, ⟨fun _ => ⟨by omega, e3.1 rfl⟩, fun _ => rfl⟩⟩
end Go.AX.Z.TM

/-! (TMA) -/

set_option linter.unusedVariables false
set_option linter.unusedSimpArgs false
namespace Go.AX.Z.TM
open Go.AX

/-! ## Links that grow old -/

theorem srt_pw : ∀ {l : List MetricLink} {p : Option Nat}, Srt p l → (l.Pairwise fun x y => K6 x.Peer < K6 y.Peer) ∧ ∀ x ∈ l, okM x ∧ ∀ k, p = some k → k < K6 x.Peer
  | [], _, _ => ⟨.nil, by simp⟩
  | x :: l, p, h => by
    obtain ⟨h1, h2⟩ := srt_pw h.2
    refine ⟨List.pairwise_cons.2 ⟨fun y hy => (h2 y hy).2 _ rfl, h1⟩, fun y hy => ?_⟩
    rcases List.mem_cons.1 hy with rfl | hy
    · exact h.1
    · refine ⟨(h2 y hy).1, fun k hk => ?_⟩
      have := (h2 y hy).2 _ rfl
      have := h.1.2 k hk
      omega
theorem pw_srt : ∀ {l : List MetricLink} {p : Option Nat}, (l.Pairwise fun x y => K6 x.Peer < K6 y.Peer) → (∀ x ∈ l, okM x ∧ ∀ k, p = some k → k < K6 x.Peer) → Srt p l
  | [], _, _, _ => trivial
  | x :: l, p, h1, h2 => by
    obtain ⟨a, b⟩ := List.pairwise_cons.1 h1
    refine ⟨h2 x (by simp), pw_srt b fun y hy => ⟨(h2 y (by simp [hy])).1, fun k hk => ?_⟩⟩
    cases hk
    exact a y hy

theorem half_e (i k : Nat) (h : i + k < 1000000) : IntKind.wrap .i64 ((IntKind.wrap .u64 (IntKind.wrap .i64 ((i : Int) + (k : Int)))).fdiv (2 ^ (min 1 64))) = (((i + k) / 2 : Nat) : Int) := by
  rw [wrapI (i := (i : Int) + (k : Int)) (by omega) (by omega), wrapU, show ((2 : Int) ^ (min 1 64)) = 2 from rfl, Int.emod_eq_of_lt (by omega) (by omega), Int.fdiv_eq_ediv_of_nonneg _ (by decide), wrapI (by omega) (by omega)]
  omega

theorem find1_e (x : MetricLink) (a : Addr) : metric_find_1 x a = some (cm x.Peer a) := by
  unfold metric_find_1
  rw [compare_e]; rfl

theorem search_e (L : List MetricLink) (hL : L.length ≤ 1000) (a : Addr) (j : Nat) (hlo : ∀ (h : Nat) y, L[h]? = some y → h < j → cm y.Peer a < 0) (hhi : ∀ (h : Nat) y, L[h]? = some y → j ≤ h → ¬ cm y.Peer a < 0) : ∀ (m i k n : Nat), i ≤ j → j ≤ k → k ≤ L.length → k - i ≤ m → m < n →
    slices_BinarySearchFunc_api_MetricLink_api_MetricLink_api_Addr_L2 L a n ((i : Int), (k : Int)) = some (j : Int) := by
  intro m
  induction m with
  | zero =>
    intro i k n h1 h2 h3 h4 h5
    obtain ⟨n, rfl⟩ : ∃ q, n = q + 1 := ⟨n - 1, by omega⟩
    rw [slices_BinarySearchFunc_api_MetricLink_api_MetricLink_api_Addr_L2, decide_eq_false (by simp only; omega), cond_false]
    congr 1; simp only; omega
  | succ m ih =>
    intro i k n h1 h2 h3 h4 h5
    obtain ⟨n, rfl⟩ : ∃ q, n = q + 1 := ⟨n - 1, by omega⟩
    rw [slices_BinarySearchFunc_api_MetricLink_api_MetricLink_api_Addr_L2]
    by_cases hik : i < k
    · rw [decide_eq_true (by simp only; omega), cond_true]
      simp only [half_e i k (by omega)]
      have hh : (i + k) / 2 < L.length := by omega
      have eh : L[(i + k) / 2]? = some L[(i + k) / 2] := by simp [hh]
      rw [idxN, eh, bindS, find1_e, bindS]
      by_cases hj : (i + k) / 2 < j
      · rw [decide_eq_true (hlo _ _ eh hj), cond_true, wrapN (by omega)]
        exact ih ((i + k) / 2 + 1) k n (by omega) h2 h3 (by omega) (by omega)
      · rw [decide_eq_false (hhi _ _ eh (by omega)), cond_false]
        exact ih i ((i + k) / 2) n h1 (by omega) (by omega) (by omega) (by omega)
    · rw [decide_eq_false (by simp only; omega), cond_false]
      congr 1; simp only; omega

theorem find_e (t : MetricTable) (hL : t.Links.length ≤ 32) (hP : t.Links.Pairwise fun x y => K6 x.Peer < K6 y.Peer) {j : Nat} {x : MetricLink} (hj : t.Links[j]? = some x) : metric_find t x.Peer = some ((j : Int), true) := by
  have hjl : j < t.Links.length := (List.getElem?_eq_some_iff.1 hj).1
  have ej : t.Links[j] = x := (List.getElem?_eq_some_iff.1 hj).2
  have pw := List.pairwise_iff_getElem.1 hP
  unfold metric_find slices_BinarySearchFunc_api_MetricLink_api_MetricLink_api_Addr
  have s := search_e t.Links (by omega) x.Peer j (fun h y hy hlt => by
    obtain ⟨q1, q2⟩ := List.getElem?_eq_some_iff.1 hy
    have := pw h j q1 hjl hlt
    rw [q2, ej] at this
    exact (cm_k y.Peer x.Peer).1.2 this) (fun h y hy hle => by
    obtain ⟨q1, q2⟩ := List.getElem?_eq_some_iff.1 hy
    rw [(cm_k y.Peer x.Peer).1]
    rcases Nat.lt_or_ge j h with hlt | hge
    · have := pw j h hjl q1 hlt
      rw [q2, ej] at this
      omega
    · have : h = j := by omega
      subst this
      rw [← q2, ej]; omega) t.Links.length 0 t.Links.length big (by omega) (by omega) (Nat.le_refl _) (by omega) (big_lt (by omega))
  simp only [Int.natCast_zero] at s
  rw [s, bindS, lt_dec hjl, cond_true, idxN, hj, bindS, find1_e, bindS, bindS, (cm_k x.Peer x.Peer).2.2 rfl]
  rfl

theorem checked_e {t : MetricTable} (h : VT t) {now : Int} (h0 : 0 ≤ now) (h1 : now ≤ 1099511627776) : metric_checked t now = some 0 := by
  unfold metric_checked
  obtain ⟨e, he, hz⟩ := mcheck_e t
  rw [he, hz.2 h, bindS, show ((0 : Int) != 0) = false from rfl, cond_false, decide_eq_false (by omega), decide_eq_false (by omega)]
  rfl

def old (now : Int) (x : MetricLink) : Bool := decide (5000000 < IntKind.wrap .i64 (now - x.Heard))
theorem of_e {t : MetricTable} (h : VT t) {now : Int} (h0 : 0 ≤ now) (h1 : now ≤ 1099511627776) {j : Nat} {x : MetricLink} (hj : t.Links[j]? = some x) : ∃ c, metric_Of t x.Peer now = some (c, if old now x = true then 6 else 0) := by
  obtain ⟨p1, p2⟩ := srt_pw h.2
  unfold metric_Of
  rw [checked_e h h0 h1, bindS, show ((0 : Int) != 0) = false from rfl, cond_false, find_e t h.1 p1 hj, bindS]
  unfold metric_old metric_old_1
  simp only [Bool.not_true, cond_false, bindS, idxN, hj]
  show ∃ c, (bif old now x then _ else _) = _
  cases ho : old now x
  · obtain ⟨r1, r2, r3, r4, _⟩ := (p2 x (List.mem_of_getElem? hj)).1
    rw [cond_false, cost_e r1 (by omega) r3 r4, bindS]
    exact ⟨_, rfl⟩
  · exact ⟨0, rfl⟩

theorem split_loop (L : List MetricLink) (hL : L.length ≤ 1000) (now : Int) : ∀ (l a : List MetricLink) (b : List Addr) (i n : Nat), L.drop i = l → l.length < n → a.length + l.length ≤ 1000 → b.length + l.length ≤ 1000 →
    metric_split_L2 L now n (a, b, (i : Int)) = some (a ++ l.filter (fun x => !old now x), b ++ (l.filter (old now)).map (·.Peer)) := by
  intro l
  induction l with
  | nil =>
    intro a b i n h hn h1 h2
    obtain ⟨n, rfl⟩ : ∃ m, n = m + 1 := ⟨n - 1, by simp at hn; omega⟩
    rw [metric_split_L2, ge_dec (drop_n h)]; simp
  | cons x l ih =>
    intro a b i n h hn ha hb
    obtain ⟨n, rfl⟩ : ∃ m, n = m + 1 := ⟨n - 1, by simp at hn; omega⟩
    obtain ⟨h1, h2, h3⟩ := drop_c h
    simp only [List.length_cons] at hn ha hb
    rw [metric_split_L2, lt_dec h3]
    unfold metric_old_1
    simp only [cond_true, idxN, h1, bindS]
    show (bif old now x then _ else _) = _
    cases ho : old now x
    · rw [cond_false, chk_d (by omega), bindS, wrapN (by omega), ih (a ++ [x]) b (i + 1) n h2 (by omega) (by simp; omega) (by omega)]
      simp [ho]
    · rw [cond_true, chk_d (by omega), bindS, wrapN (by omega), ih a (b ++ [x.Peer]) (i + 1) n h2 (by omega) (by omega) (by simp; omega)]
      simp [ho]

theorem age_e {t : MetricTable} (h : VT t) {now : Int} (h0 : 0 ≤ now) (h1 : now ≤ 1099511627776) : metric_Age t now = some ({ MetricTable.z with Links := t.Links.filter (fun x => !old now x) }, (t.Links.filter (old now)).map (·.Peer), 0) := by
  unfold metric_Age
  rw [checked_e h h0 h1, bindS, show ((0 : Int) != 0) = false from rfl, cond_false]
  unfold metric_old metric_split
  have hl := h.1
  have := split_loop t.Links (by omega) now t.Links [] [] 0 big rfl (big_lt (by omega)) (by simp; omega) (by simp; omega)
  simp only [Int.natCast_zero, List.nil_append] at this
  rw [bindS, this]; rfl

theorem parts (p : MetricLink → Bool) : ∀ l : List MetricLink, (l.filter fun x => !p x).length + (l.filter p).length = l.length
  | [] => rfl
  | x :: l => by
    have := parts p l
    cases h : p x <;> simp [h] <;> omega

theorem ages_loop {t : MetricTable} (h : VT t) {now : Int} (h0 : 0 ≤ now) (h1 : now ≤ 1099511627776) (R : MetricTable × List Addr × Int) (hR : R.1.Links.length ≤ 1000) (hG : R.2.1.length ≤ 1000) : ∀ (l : List MetricLink) (i k m n : Nat), t.Links.drop m = l → R.1.Links.drop i = l.filter (fun x => !old now x) → R.2.1.drop k = (l.filter (old now)).map (·.Peer) → l.length < n →
    hotspotlaw38_MetricAges_L3 t now R n ((i : Int), (k : Int), (m : Int)) = some (Ex.go ()) := by
  have hl := h.1
  intro l
  induction l with
  | nil =>
    intro i k m n hm hi hk hn
    obtain ⟨n, rfl⟩ : ∃ q, n = q + 1 := ⟨n - 1, by simp at hn; omega⟩
    rw [hotspotlaw38_MetricAges_L3, ge_dec (drop_n hm)]; rfl
  | cons x l ih =>
    intro i k m n hm hi hk hn
    obtain ⟨n, rfl⟩ : ∃ q, n = q + 1 := ⟨n - 1, by simp at hn; omega⟩
    obtain ⟨e1, e2, e3⟩ := drop_c hm
    simp only [List.length_cons] at hn
    rw [hotspotlaw38_MetricAges_L3, lt_dec e3]
    obtain ⟨c, hc⟩ := of_e h h0 h1 e1
    simp only [cond_true, idxN, e1, bindS, hc]
    cases ho : old now x
    · rw [List.filter_cons, ho] at hi
      rw [List.filter_cons, ho] at hk
      simp only [Bool.not_false, if_true, Bool.false_eq_true, if_false] at hi hk
      obtain ⟨f1, f2, f3⟩ := drop_c hi
      rw [if_neg (by decide), show ((0 : Int) == 0) = true from rfl, lt_dec f3]
      simp only [Bool.and_self, cond_true, f1, bindS]
      simp only [decide_true, cond_true]
      rw [wrapN (by omega), wrapN (by omega)]
      exact ih (i + 1) k (m + 1) n e2 f2 hk (by omega)
    · rw [List.filter_cons, ho] at hi
      rw [List.filter_cons, ho] at hk
      simp only [Bool.not_true, Bool.false_eq_true, if_false, if_true, List.map_cons] at hi hk
      obtain ⟨f1, f2, f3⟩ := drop_c hk
      rw [if_pos rfl, show ((6 : Int) == 0) = false from rfl, Bool.false_and, cond_false, bindS, cond_false, show ((6 : Int) == 6) = true from rfl, lt_dec f3]
      simp only [Bool.and_self, cond_true, f1, bindS]
      simp only [decide_true, cond_true]
      rw [wrapN (by omega), wrapN (by omega)]
      exact ih i (k + 1) (m + 1) n e2 hi f2 (by omega)

theorem ages_e (t : MetricTable) (now : Int) : hotspotlaw38_MetricAges t now = some true := by
  unfold hotspotlaw38_MetricAges
  rw [alive_e, bindS]
  obtain ⟨e, he, hz⟩ := mcheck_e t
  rw [he, bindS]
  by_cases h : VT t ∧ 0 ≤ now ∧ now ≤ 1099511627776
  · obtain ⟨hv, h0, h1⟩ := h
    have c0 : ((((e != 0) || (decide (now < 0))) || (decide (1099511627776 < now))) || (!true)) = false := by
      rw [hz.2 hv]; simp; omega
    rw [c0, cond_false, age_e hv h0 h1, bindS]
    obtain ⟨p1, p2⟩ := srt_pw hv.2
    have hv2 : VT { MetricTable.z with Links := t.Links.filter (fun x => !old now x) } :=
      ⟨Nat.le_trans (List.length_filter_le _ _) hv.1, pw_srt (p1.filter _) fun x hx => p2 x (List.mem_filter.1 hx).1⟩
    obtain ⟨e', he', hz'⟩ := mcheck_e { MetricTable.z with Links := t.Links.filter (fun x => !old now x) }
    have hl := hv.1
    have pt := parts (old now) t.Links
    rw [hz'.2 hv2] at he'
    simp only [show ((0 : Int) != 0) = false from rfl, cond_false, he', bindS, Bool.false_or, List.length_map]
    rw [show (IntKind.wrap .i64 (((t.Links.filter fun x => !old now x).length : Int) + ((t.Links.filter (old now)).length : Int)) != (t.Links.length : Int)) = false by
      rw [wrapI (by omega) (by omega)]
      have : (((t.Links.filter fun x => !old now x).length : Int) + ((t.Links.filter (old now)).length : Int)) = (t.Links.length : Int) := by omega
      rw [this]; simp, cond_false]
    have lp := ages_loop hv h0 h1 ({ MetricTable.z with Links := t.Links.filter (fun x => !old now x) }, (t.Links.filter (old now)).map (·.Peer), 0) (by simp only; omega) (by simp only [List.length_map]; omega) t.Links 0 0 0 big rfl rfl rfl (big_lt (by omega))
    simp only [Int.natCast_zero] at lp
    rw [lp]; rfl
  · have c0 : ((((e != 0) || (decide (now < 0))) || (decide (1099511627776 < now))) || (!true)) = true := by
      by_cases hv : VT t
      · have : ¬ (0 ≤ now ∧ now ≤ 1099511627776) := fun q => h ⟨hv, q⟩
        simp; omega
      · have : e ≠ 0 := fun q => hv (hz.1 q)
        simp [this]
    rw [c0]; rfl
end Go.AX.Z.TM

/-! (TMG) -/

set_option linter.unusedVariables false
set_option linter.unusedSimpArgs false
namespace Go.AX.Z.TM
open Go.AX

/-! ## Sixty news of one link -/

theorem pw_map (l : List MetricLink) : (l.Pairwise fun x y => K6 x.Peer < K6 y.Peer) ↔ (l.map fun x => K6 x.Peer).Pairwise (· < ·) := List.pairwise_map.symm

theorem set_map {L : List MetricLink} {j : Nat} {x y : MetricLink} (hj : L[j]? = some x) (hp : y.Peer = x.Peer) : (L.set j y).map (fun x => K6 x.Peer) = L.map fun x => K6 x.Peer := by
  apply List.ext_getElem?
  intro i
  rw [List.getElem?_map, List.getElem?_map, List.getElem?_set]
  by_cases h : j = i
  · subst h
    rw [hj]
    have hl : j < L.length := (List.getElem?_eq_some_iff.1 hj).1
    simp [hl, hp]
  · rw [if_neg h]

theorem vt_set {L : List MetricLink} {j : Nat} {x y : MetricLink} (h : VT ⟨L⟩) (hj : L[j]? = some x) (hp : y.Peer = x.Peer) (hy : okM y) : VT ⟨L.set j y⟩ := by
  obtain ⟨p1, p2⟩ := srt_pw h.2
  refine ⟨by have := h.1; simpa using this, pw_srt ?_ fun z hz => ?_⟩
  · rw [pw_map]
    show ((L.set j y).map _).Pairwise _
    rw [set_map hj hp]
    exact (pw_map L).1 p1
  · rcases List.mem_or_eq_of_mem_set hz with h1 | h1
    · exact ⟨(p2 z h1).1, fun k hk => by cases hk⟩
    · rw [h1]; exact ⟨hy, fun k hk => by cases hk⟩

theorem mod_set {α : Type} {L : List α} {j : Nat} {x : α} (hj : L[j]? = some x) (f : α → α) : L.modify j f = L.set j (f x) := by
  apply List.ext_getElem?
  intro i
  rw [List.getElem?_modify, List.getElem?_set]
  have hl : j < L.length := (List.getElem?_eq_some_iff.1 hj).1
  by_cases h : j = i
  · subst h; simp [hl, (List.getElem?_eq_some_iff.1 hj).2]
  · simp [h]
theorem set_self {α : Type} {L : List α} {j : Nat} {x : α} (hj : L[j]? = some x) : L.set j x = L := by
  apply List.ext_getElem?
  intro i
  rw [List.getElem?_set]
  have hl : j < L.length := (List.getElem?_eq_some_iff.1 hj).1
  by_cases h : j = i
  · subst h; simp [hl, (List.getElem?_eq_some_iff.1 hj).2]
  · simp [h]

/-- The loss after a news. -/
def step (s : Bool) (l : Int) : Int := bif s then (7 * l) / 8 else (7 * l + 1007) / 8
theorem step_b (s : Bool) {l : Int} (h0 : 0 ≤ l) (h1 : l ≤ 1000) : 0 ≤ step s l ∧ step s l ≤ 1000 := by
  cases s
  · show 0 ≤ (7 * l + 1007) / 8 ∧ (7 * l + 1007) / 8 ≤ 1000; omega
  · show 0 ≤ (7 * l) / 8 ∧ (7 * l) / 8 ≤ 1000; omega

def nx (s : Bool) (rate : Int) (y : MetricLink) : MetricLink := { y with Rate := rate, Loss := step s y.Loss }

theorem heard_e {L : List MetricLink} (h : VT ⟨L⟩) {rate now : Int} (hr : 0 ≤ rate ∧ rate ≤ 11) (s : Bool) {j : Nat} {y : MetricLink} (hj : L[j]? = some y) (hn : y.Heard = now) : metric_Heard ⟨L⟩ y.Peer rate s now = some (⟨L.set j (nx s rate y)⟩, 0) := by
  obtain ⟨p1, p2⟩ := srt_pw h.2
  obtain ⟨r1, r2, r3, r4, r5, r6⟩ := (p2 y (List.mem_of_getElem? hj)).1
  have hl : L.length ≤ 32 := h.1
  unfold metric_Heard
  rw [checked_e h (by omega) (by omega), bindS, show ((0 : Int) != 0) = false from rfl, cond_false, decide_eq_false (by omega : ¬ rate < 0), cond_false]
  unfold rate_Count
  simp only [bindS, cond_true]
  rw [decide_eq_false (by omega), cond_false, find_e ⟨L⟩ hl p1 hj, bindS]
  simp only [Bool.not_true, Bool.false_and, cond_false]
  unfold slices_Clone_api_MetricLink_api_MetricLink
  rw [chk_d (by omega), bindS, bindS, idxN, hj, bindS]
  have hjl : j < L.length := (List.getElem?_eq_some_iff.1 hj).1
  have g : ∀ z : MetricLink, (L.set j z)[j]? = some z := fun z => by simp [hjl]
  simp only [Int.toNat_natCast]
  cases s
  · simp only [cond_false]
    rw [mod_set hj, mod_set (g _), List.set_set]
    congr 1; congr 1; congr 1; congr 1
    show MetricLink.mk _ _ _ _ = MetricLink.mk _ _ _ _
    have : IntKind.wrap .i64 ((IntKind.wrap .i64 (IntKind.wrap .i64 (7 * y.Loss) + 1007)).tdiv 8) = step false y.Loss := by
      rw [wrapI (i := 7 * y.Loss) (by omega) (by omega), wrapI (i := 7 * y.Loss + 1007) (by omega) (by omega), Int.tdiv_eq_ediv_of_nonneg (by omega), wrapI (by omega) (by omega)]
      rfl
    simp only [this]
  · simp only [cond_true]
    rw [mod_set hj, mod_set (g _), List.set_set, mod_set (g _), List.set_set]
    congr 1; congr 1; congr 1; congr 1
    show MetricLink.mk _ _ _ _ = MetricLink.mk _ _ _ _
    have : IntKind.wrap .i64 ((IntKind.wrap .i64 (7 * y.Loss)).tdiv 8) = step true y.Loss := by
      rw [wrapI (i := 7 * y.Loss) (by omega) (by omega), Int.tdiv_eq_ediv_of_nonneg (by omega), wrapI (by omega) (by omega)]
      rfl
    simp only [this, if_neg (by omega : ¬ y.Heard < now)]

def it (s : Bool) : Nat → Int → Int
  | 0, l => l
  | n + 1, l => it s n (step s l)

theorem conv_loop {L : List MetricLink} (h : VT ⟨L⟩) {rate : Int} (hr : 0 ≤ rate ∧ rate ≤ 11) (s : Bool) {j : Nat} {x : MetricLink} (hj : L[j]? = some x) : ∀ (m i n : Nat) (y : MetricLink), i + m = 60 → m < n → y.Peer = x.Peer → y.Heard = x.Heard → okM y →
    ∃ y', y'.Loss = it s m y.Loss ∧ hotspotlaw38_MetricConverges_L3 ⟨L⟩ (j : Int) rate s x n (⟨L.set j y⟩, L.set j y, (i : Int)) = some (Ex.go (⟨L.set j y'⟩, L.set j y')) := by
  have hjl : j < L.length := (List.getElem?_eq_some_iff.1 hj).1
  have g : ∀ z : MetricLink, (L.set j z)[j]? = some z := fun z => by simp [hjl]
  intro m
  induction m with
  | zero =>
    intro i n y hi hn hp hh hy
    obtain ⟨n, rfl⟩ : ∃ q, n = q + 1 := ⟨n - 1, by omega⟩
    refine ⟨y, rfl, ?_⟩
    rw [hotspotlaw38_MetricConverges_L3, decide_eq_false (by simp only; omega)]; rfl
  | succ m ih =>
    intro i n y hi hn hp hh hy
    obtain ⟨n, rfl⟩ : ∃ q, n = q + 1 := ⟨n - 1, by omega⟩
    rw [hotspotlaw38_MetricConverges_L3, decide_eq_true (by simp only; omega), cond_true]
    simp only [idxN, hj, bindS]
    obtain ⟨a1, a2, a3, a4, a5, a6⟩ := hy
    have sb := step_b s a3 a4
    have hy' : okM (nx s rate y) := ⟨hr.1, by show rate < 12; omega, sb.1, sb.2, a5, a6⟩
    have he := heard_e (vt_set h hj hp ⟨a1, a2, a3, a4, a5, a6⟩) hr s (g y) hh
    rw [hp] at he
    rw [he, bindS]
    simp only [List.set_set, List.length_set, bne_self_eq_false, Bool.or_self, cond_false, g, bindS]
    have hc : ((s && ((decide (y.Loss < (nx s rate y).Loss)) || (((nx s rate y).Loss == y.Loss) && (decide (0 < y.Loss))))) || ((!s) && ((decide ((nx s rate y).Loss < y.Loss)) || (((nx s rate y).Loss == y.Loss) && (decide (y.Loss < 1000)))))) = false := by
      cases s
      · have e : (nx false rate y).Loss = (7 * y.Loss + 1007) / 8 := rfl
        rw [e]
        simp
        omega
      · have e : (nx true rate y).Loss = (7 * y.Loss) / 8 := rfl
        rw [e]
        simp
        omega
    rw [hc, cond_false, wrapN (by omega)]
    obtain ⟨y', e1, e2⟩ := ih (i + 1) n (nx s rate y) (by omega) (by omega) hp hh hy'
    exact ⟨y', e1, e2⟩

def itN (s : Bool) : Nat → Nat → Nat
  | 0, l => l
  | n + 1, l => itN s n (bif s then (7 * l) / 8 else (7 * l + 1007) / 8)
theorem it_N (s : Bool) : ∀ (n l : Nat), it s n (l : Int) = (itN s n l : Int)
  | 0, _ => rfl
  | n + 1, l => by
    rw [it, itN, ← it_N s n]
    congr 1
    cases s
    · show (7 * (l : Int) + 1007) / 8 = (((7 * l + 1007) / 8 : Nat) : Int); omega
    · show (7 * (l : Int)) / 8 = (((7 * l) / 8 : Nat) : Int); omega
theorem fin_t : ∀ l : Fin 1001, itN true 60 l.val = 0 := by decide +kernel
theorem fin_f : ∀ l : Fin 1001, itN false 60 l.val = 1000 := by decide +kernel
theorem it_60 (s : Bool) {l : Int} (h0 : 0 ≤ l) (h1 : l ≤ 1000) : it s 60 l = bif s then 0 else 1000 := by
  obtain ⟨k, rfl⟩ : ∃ k : Nat, l = (k : Int) := ⟨l.toNat, by omega⟩
  rw [it_N]
  cases s
  · rw [fin_f ⟨k, by omega⟩]; rfl
  · rw [fin_t ⟨k, by omega⟩]; rfl

theorem same_loop (t : MetricTable) (hL : t.Links.length < 1000) : ∀ (l : List MetricLink) (i n : Nat), t.Links.drop i = l → l.length < n → hotspotref38_Same_L2 t t n (i : Int) = some (Ex.go ()) := by
  intro l
  induction l with
  | nil =>
    intro i n h hn
    obtain ⟨n, rfl⟩ : ∃ m, n = m + 1 := ⟨n - 1, by simp at hn; omega⟩
    rw [hotspotref38_Same_L2, ge_dec (drop_n h)]; rfl
  | cons x l ih =>
    intro i n h hn
    obtain ⟨n, rfl⟩ : ∃ m, n = m + 1 := ⟨n - 1, by simp at hn; omega⟩
    obtain ⟨h1, h2, h3⟩ := drop_c h
    simp only [List.length_cons] at hn
    rw [hotspotref38_Same_L2, lt_dec h3]
    simp only [cond_true, idxN, h1, bindS, decide_true, Bool.not_true, cond_false]
    rw [wrapN (by omega)]
    exact ih (i + 1) n h2 (by omega)
theorem same_e (t : MetricTable) (hL : t.Links.length < 1000) : hotspotref38_Same t t = some true := by
  unfold hotspotref38_Same
  have := same_loop t hL t.Links 0 big rfl (big_lt (by omega))
  simp only [Int.natCast_zero] at this
  rw [this, bne_self_eq_false]; rfl

theorem converges_e (t : MetricTable) (at_ rate : Int) (s : Bool) : hotspotlaw38_MetricConverges t at_ rate s = some true := by
  unfold hotspotlaw38_MetricConverges
  rw [alive_e, bindS]
  obtain ⟨e, he, hz⟩ := mcheck_e t
  rw [he, bindS]
  by_cases h : VT t ∧ 0 ≤ at_ ∧ at_ < t.Links.length ∧ 0 ≤ rate ∧ rate ≤ 11
  · obtain ⟨hv, h0, h1, h2, h3⟩ := h
    have c0 : ((((((e != 0) || (decide (at_ < 0))) || (decide ((t.Links.length : Int) ≤ at_))) || (decide (rate < 0))) || (decide (11 < rate))) || (!true)) = false := by
      rw [hz.2 hv]; simp; omega
    rw [c0, cond_false]
    obtain ⟨j, rfl⟩ : ∃ j : Nat, at_ = (j : Int) := ⟨at_.toNat, by omega⟩
    have hjl : j < t.Links.length := by omega
    obtain ⟨x, hj⟩ : ∃ x, t.Links[j]? = some x := ⟨t.Links[j], by simp [hjl]⟩
    have hl := hv.1
    obtain ⟨L⟩ := t
    simp only at hj hl hjl
    obtain ⟨p1, p2⟩ := srt_pw hv.2
    have hx := (p2 x (List.mem_of_getElem? hj)).1
    rw [idxN, hj, bindS]
    unfold hotspotref38_Twin
    rw [chk_d (by simp only; omega), bindS, bindS]
    obtain ⟨y', e1, e2⟩ := conv_loop hv ⟨h2, h3⟩ s hj 60 0 big x rfl (big_lt (by omega)) rfl rfl hx
    rw [set_self hj] at e2
    simp only [Int.natCast_zero] at e2
    show (hotspotlaw38_MetricConverges_L3 ⟨L⟩ (j : Int) rate s x big (⟨L⟩, L, 0)).bind _ = _
    rw [e2, bindS, Ex.k_go']
    have hl2 : (bif s then some (0 : Int) else some 1000) = some (bif s then 0 else 1000) := by cases s <;> rfl
    rw [hl2, bindS]
    have g : (L.set j y')[j]? = some y' := by simp [hjl]
    simp only [idxN, g, hj, bindS]
    rw [e1, it_60 s hx.2.2.1 hx.2.2.2.1]
    simp only [beq_self_eq_true, Bool.and_self, cond_true, Int.toNat_natCast, List.set_set, set_self hj]
    rw [same_e ⟨L⟩ (by simp only; omega)]; rfl
  · have c0 : ((((((e != 0) || (decide (at_ < 0))) || (decide ((t.Links.length : Int) ≤ at_))) || (decide (rate < 0))) || (decide (11 < rate))) || (!true)) = true := by
      by_cases hv : VT t
      · have : ¬ (0 ≤ at_ ∧ at_ < t.Links.length ∧ 0 ≤ rate ∧ rate ≤ 11) := fun q => h ⟨hv, q⟩
        simp; omega
      · have : e ≠ 0 := fun q => hv (hz.1 q)
        simp [this]
    rw [c0]; rfl
end Go.AX.Z.TM

/-! (TMK) -/

set_option linter.unusedVariables false
set_option linter.unusedSimpArgs false
namespace Go.AX.Z.TM
open Go.AX

/-! ## The reference, of addresses whose parts are bytes -/

def wa (a : Addr) : Prop := (0 ≤ a.a0 ∧ a.a0 < 256) ∧ (0 ≤ a.a1 ∧ a.a1 < 256) ∧ (0 ≤ a.a2 ∧ a.a2 < 256) ∧ (0 ≤ a.a3 ∧ a.a3 < 256) ∧ (0 ≤ a.a4 ∧ a.a4 < 256) ∧ (0 ≤ a.a5 ∧ a.a5 < 256)
theorem u8_n {x : Int} (h : 0 ≤ x ∧ x < 256) : ((u8 x).toNat : Int) = x := by
  unfold u8
  rw [Nat.toUInt8, UInt8.toNat_ofNat']
  omega
/-- An address of bytes as a number. -/
theorem k6_e {a : Addr} (h : wa a) : (K6 a : Int) = ((((a.a0 * 256 + a.a1) * 256 + a.a2) * 256 + a.a3) * 256 + a.a4) * 256 + a.a5 := by
  obtain ⟨h0, h1, h2, h3, h4, h5⟩ := h
  have e0 := u8_n h0; have e1 := u8_n h1; have e2 := u8_n h2; have e3 := u8_n h3; have e4 := u8_n h4; have e5 := u8_n h5
  unfold K6
  omega
theorem k6_inj {a b : Addr} (ha : wa a) (hb : wa b) : K6 a = K6 b ↔ a = b := by
  constructor
  · intro h
    have e1 := k6_e ha
    have e2 := k6_e hb
    obtain ⟨a0, a1, a2, a3, a4, a5⟩ := a
    obtain ⟨b0, b1, b2, b3, b4, b5⟩ := b
    obtain ⟨h0, h1, h2, h3, h4, h5⟩ := ha
    obtain ⟨k0, k1, k2, k3, k4, k5⟩ := hb
    simp only at *
    rw [h] at e1
    have : a0 = b0 ∧ a1 = b1 ∧ a2 = b2 ∧ a3 = b3 ∧ a4 = b4 ∧ a5 = b5 := by omega
    obtain ⟨rfl, rfl, rfl, rfl, rfl, rfl⟩ := this
    rfl
  · rintro rfl; rfl
theorem smaller_e {a b : Addr} (ha : wa a) (hb : wa b) : hotspotref23_Smaller a b = some (decide (K6 a < K6 b)) := by
  have e1 := k6_e ha
  have e2 := k6_e hb
  obtain ⟨a0, a1, a2, a3, a4, a5⟩ := a
  obtain ⟨b0, b1, b2, b3, b4, b5⟩ := b
  obtain ⟨h0, h1, h2, h3, h4, h5⟩ := ha
  obtain ⟨k0, k1, k2, k3, k4, k5⟩ := hb
  simp only at *
  unfold hotspotref23_Smaller
  rw [show big = (big - 7) + 7 from rfl]
  generalize big - 7 = n
  have w : ∀ i : Nat, i < 6 → IntKind.wrap .i64 ((i : Int) + 1) = ((i + 1 : Nat) : Int) := fun i hi => wrapN (by omega)
  have st : ∀ (i m : Nat) (x y : Int), i < 6 → ([a0, a1, a2, a3, a4, a5] : List Int)[i]? = some x → ([b0, b1, b2, b3, b4, b5] : List Int)[i]? = some y →
      hotspotref23_Smaller_L2 ⟨a0, a1, a2, a3, a4, a5⟩ ⟨b0, b1, b2, b3, b4, b5⟩ (m + 1) (i : Int) = if x = y then hotspotref23_Smaller_L2 ⟨a0, a1, a2, a3, a4, a5⟩ ⟨b0, b1, b2, b3, b4, b5⟩ m ((i + 1 : Nat) : Int) else some (Ex.ret (decide (x < y))) := by
    intro i m x y hi hx hy
    rw [hotspotref23_Smaller_L2, decide_eq_true (by omega), cond_true]
    unfold idxA
    rw [decide_eq_true (by omega : (0 : Int) ≤ (i : Int)), decide_eq_true (by omega : (i : Int) < 6)]
    simp only [Bool.and_self, cond_true, Int.toNat_natCast, hx, hy, bindS, w i hi]
    by_cases hxy : x = y
    · subst hxy; simp
    · rw [if_neg hxy, show (x != y) = true by simpa using hxy, cond_true]
  rw [show (0 : Int) = ((0 : Nat) : Int) from rfl, st 0 (n + 6) a0 b0 (by omega) rfl rfl, st 1 (n + 5) a1 b1 (by omega) rfl rfl, st 2 (n + 4) a2 b2 (by omega) rfl rfl, st 3 (n + 3) a3 b3 (by omega) rfl rfl, st 4 (n + 2) a4 b4 (by omega) rfl rfl, st 5 (n + 1) a5 b5 (by omega) rfl rfl]
  have fin : ∀ p q : Prop, [Decidable p] → [Decidable q] → (p ↔ q) → (some (decide p) : Option Bool) = some (decide q) := by
    intro p q _ _ h; congr 1; exact decide_eq_decide.2 h
  split
  · split
    · split
      · split
        · split
          · split
            · rw [hotspotref23_Smaller_L2]
              show some false = _
              rw [eq_comm]; congr 1; rw [decide_eq_false_iff_not]; omega
            · exact fin _ _ (by omega)
          · exact fin _ _ (by omega)
        · exact fin _ _ (by omega)
      · exact fin _ _ (by omega)
    · exact fin _ _ (by omega)
  · exact fin _ _ (by omega)

/-- Its check is the check. -/
theorem rcheck_loop (t : MetricTable) (hw : ∀ x ∈ t.Links, wa x.Peer) (hL : t.Links.length < 4611686018427387904) : ∀ (l : List MetricLink) (i n : Nat), t.Links.drop i = l → l.length < n →
    ∃ o, hotspotref38_Check_L2 t n (i : Int) = some o ∧ (o = Ex.ret 8 ∨ o = Ex.go ()) ∧ (o = Ex.go () ↔ Srt (prv t i) l) := by
  intro l
  induction l with
  | nil =>
    intro i n h hn
    obtain ⟨n, rfl⟩ : ∃ m, n = m + 1 := ⟨n - 1, by simp at hn; omega⟩
    rw [hotspotref38_Check_L2, ge_dec (drop_n h)]
    exact ⟨_, rfl, .inr rfl, by simp [Srt]⟩
  | cons x l ih =>
    intro i n h hn
    obtain ⟨n, rfl⟩ : ∃ m, n = m + 1 := ⟨n - 1, by simp at hn; omega⟩
    obtain ⟨h1, h2, h3⟩ := drop_c h
    simp only [List.length_cons] at hn
    rw [hotspotref38_Check_L2, lt_dec h3]
    simp only [cond_true, idxN, h1, bindS]
    have hb : (((((decide (x.Rate < 0)) || (decide (12 ≤ x.Rate))) || (decide (x.Loss < 0))) || (decide (1000 < x.Loss))) || (decide (x.Heard < 0)) || (decide (1099511627776 < x.Heard))) = !decide (okM x) := by
      rw [Bool.eq_iff_iff]
      simp only [Bool.or_eq_true, decide_eq_true_eq, Bool.not_eq_true', decide_eq_false_iff_not]
      unfold okM; omega
    rw [hb]
    by_cases hv : okM x
    · rw [decide_eq_true hv]
      simp only [Bool.not_true, cond_false]
      have rest : ∀ b : Bool, (b = false ↔ ∀ k, (prv t i) = some k → k < K6 x.Peer) →
          ∃ o, (bif b then some (Ex.ret 8) else hotspotref38_Check_L2 t n (IntKind.wrap .i64 ((i : Int) + 1))) = some o ∧ (o = Ex.ret 8 ∨ o = Ex.go ()) ∧ (o = Ex.go () ↔ Srt (prv t i) (x :: l)) := by
        intro b hb
        cases b with
        | true =>
          refine ⟨_, rfl, .inl rfl, ?_⟩
          constructor
          · intro q; cases q
          · intro q
            have := hb.2 q.1.2
            cases this
        | false =>
          obtain ⟨o, e1, e2, e3⟩ := ih (i + 1) n h2 (by omega)
          refine ⟨o, by rw [wrapN (by omega)]; exact e1, e2, ?_⟩
          rw [e3]
          simp only [prv, h1, Option.map_some]
          constructor
          · intro q; exact ⟨⟨hv, hb.1 rfl⟩, q⟩
          · intro q; exact q.2
      cases i with
      | zero =>
        rw [show decide ((0 : Int) < ((0 : Nat) : Int)) = false from rfl, cond_false, bindS]
        exact rest false (by simp [prv])
      | succ j =>
        have hj : j < t.Links.length := by omega
        have ej : t.Links[j]? = some t.Links[j] := by simp [hj]
        rw [decide_eq_true (by omega : (0 : Int) < ((j + 1 : Nat) : Int)), cond_true, show IntKind.wrap .i64 (((j + 1 : Nat) : Int) - 1) = ((j : Nat) : Int) by rw [wrapI (by omega) (by omega)]; omega, idxN, ej, bindS,
          smaller_e (hw _ (List.getElem_mem hj)) (hw _ (List.mem_of_getElem? h1)), bindS, bindS]
        refine rest _ ?_
        simp only [prv, ej, Option.map_some, Option.some.injEq, forall_eq', Bool.not_eq_false', decide_eq_true_eq]
    · rw [decide_eq_false hv]
      simp only [Bool.not_false, cond_true, bindS]
      refine ⟨_, rfl, .inl rfl, ?_⟩
      constructor
      · intro q; cases q
      · intro q; exact absurd q.1.1 hv

open Classical in
theorem mcheck8 (t : MetricTable) : metric_Check t = some (if VT t then 0 else 8) := by
  unfold metric_Check
  by_cases h : 32 < t.Links.length
  · rw [decide_eq_true (by omega), cond_true, if_neg (by unfold VT; omega)]
  · rw [decide_eq_false (by omega), cond_false]
    obtain ⟨o, e1, e2, e3⟩ := check_loop t (by omega) t.Links 0 big rfl (big_lt (by omega))
    simp only [Int.natCast_zero] at e1
    rw [e1, bindS]
    rcases e2 with rfl | rfl
    · rw [if_neg fun q => by cases e3.2 q.2]; rfl
    · rw [if_pos ⟨by omega, e3.1 rfl⟩]; rfl
open Classical in
theorem rcheck8 (t : MetricTable) (hw : ∀ x ∈ t.Links, wa x.Peer) : hotspotref38_Check t = some (if VT t then 0 else 8) := by
  unfold hotspotref38_Check
  by_cases h : 32 < t.Links.length
  · rw [decide_eq_true (by omega), cond_true, if_neg (by unfold VT; omega)]
  · rw [decide_eq_false (by omega), cond_false]
    obtain ⟨o, e1, e2, e3⟩ := rcheck_loop t hw (by omega) t.Links 0 big rfl (big_lt (by omega))
    simp only [Int.natCast_zero] at e1
    rw [e1, bindS]
    rcases e2 with rfl | rfl
    · rw [if_neg fun q => by cases e3.2 q.2]; rfl
    · rw [if_pos ⟨by omega, e3.1 rfl⟩]; rfl
/-- The error of a table and a time. -/
noncomputable def err (t : MetricTable) (now : Int) : Int := by
  classical exact if VT t then (if now < 0 ∨ 1099511627776 < now then 2 else 0) else 8
theorem checked8 (t : MetricTable) (now : Int) : metric_checked t now = some (err t now) := by
  unfold metric_checked err
  rw [mcheck8, bindS]
  split
  · rw [show ((0 : Int) != 0) = false from rfl, cond_false]
    split
    · rename_i h
      rw [show (decide (now < 0) || decide (1099511627776 < now)) = true by simpa using h]; rfl
    · rename_i h
      rw [show (decide (now < 0) || decide (1099511627776 < now)) = false by simp only [Bool.or_eq_false_iff, decide_eq_false_iff_not]; omega]; rfl
  · rfl
theorem before8 (t : MetricTable) (hw : ∀ x ∈ t.Links, wa x.Peer) (now : Int) : hotspotref38_before t now = some (err t now) := by
  unfold hotspotref38_before err
  rw [rcheck8 t hw, bindS]
  split
  · rw [show ((0 : Int) != 0) = false from rfl, cond_false]
    split
    · rename_i h
      rw [show (decide (now < 0) || decide (1099511627776 < now)) = true by simpa using h]; rfl
    · rename_i h
      rw [show (decide (now < 0) || decide (1099511627776 < now)) = false by simp only [Bool.or_eq_false_iff, decide_eq_false_iff_not]; omega]; rfl
  · rfl
theorem err0 {t : MetricTable} {now : Int} (h : err t now = 0) : VT t ∧ 0 ≤ now ∧ now ≤ 1099511627776 := by
  unfold err at h
  split at h
  · split at h
    · cases h
    · rename_i h1 h2; exact ⟨h1, by omega, by omega⟩
  · cases h
end Go.AX.Z.TM

/-! (TMI) -/

set_option linter.unusedVariables false
set_option linter.unusedSimpArgs false
namespace Go.AX.Z.TM
open Go.AX

/-! ## What the code and the reference do, in one -/

/-- Where an address stands, or would stand. -/
theorem cut_e (k : Nat) : ∀ (L : List MetricLink), (L.Pairwise fun x y => K6 x.Peer < K6 y.Peer) → ∃ j, j ≤ L.length ∧ (∀ (h : Nat) y, L[h]? = some y → h < j → K6 y.Peer < k) ∧ (∀ (h : Nat) y, L[h]? = some y → j ≤ h → k ≤ K6 y.Peer)
  | [], _ => ⟨0, Nat.le_refl _, by simp, by simp⟩
  | x :: L, hp => by
    obtain ⟨h1, h2⟩ := List.pairwise_cons.1 hp
    by_cases hx : K6 x.Peer < k
    · obtain ⟨j, a, b, c⟩ := cut_e k L h2
      refine ⟨j + 1, by simpa using a, fun h y hy hlt => ?_, fun h y hy hle => ?_⟩
      · cases h with
        | zero => simp at hy; subst hy; exact hx
        | succ h => exact b h y (by simpa using hy) (by omega)
      · cases h with
        | zero => omega
        | succ h => exact c h y (by simpa using hy) (by omega)
    · refine ⟨0, Nat.zero_le _, fun h y hy hlt => by omega, fun h y hy hle => ?_⟩
      cases h with
      | zero => simp at hy; subst hy; omega
      | succ h =>
        have := h1 y (List.mem_of_getElem? (by simpa using hy))
        omega

def hit (L : List MetricLink) (j k : Nat) : Bool := match L[j]? with | some x => decide (K6 x.Peer = k) | none => false
theorem find_c (t : MetricTable) (hL : t.Links.length ≤ 32) (a : Addr) {j : Nat} (hj : j ≤ t.Links.length) (hlo : ∀ (h : Nat) y, t.Links[h]? = some y → h < j → K6 y.Peer < K6 a) (hhi : ∀ (h : Nat) y, t.Links[h]? = some y → j ≤ h → K6 a ≤ K6 y.Peer) :
    metric_find t a = some ((j : Int), hit t.Links j (K6 a)) := by
  unfold metric_find slices_BinarySearchFunc_api_MetricLink_api_MetricLink_api_Addr
  have s := search_e t.Links (by omega) a j (fun h y hy hlt => (cm_k y.Peer a).1.2 (hlo h y hy hlt)) (fun h y hy hle => by
    rw [(cm_k y.Peer a).1]; have := hhi h y hy hle; omega) t.Links.length 0 t.Links.length big (by omega) hj (Nat.le_refl _) (by omega) (big_lt (by omega))
  simp only [Int.natCast_zero] at s
  rw [s, bindS]
  by_cases hl : j < t.Links.length
  · have ej : t.Links[j]? = some t.Links[j] := by simp [hl]
    rw [lt_dec hl, cond_true, idxN, ej, bindS, find1_e, bindS, bindS, bindS]
    unfold hit
    rw [ej]
    congr 2
    rw [Bool.eq_iff_iff, beq_iff_eq, decide_eq_true_eq]
    exact (cm_k _ _).2
  · unfold hit
    rw [ge_dec (by omega), cond_false, bindS, bindS, List.getElem?_eq_none (by omega)]

/-- A link after a news. -/
def upd1 (s : Bool) (rate now : Int) (y : MetricLink) : MetricLink := { y with Rate := rate, Loss := step s y.Loss, Heard := bif s then (if y.Heard < now then now else y.Heard) else y.Heard }
theorem loss_t {l : Int} (h : 0 ≤ l ∧ l ≤ 1000) : IntKind.wrap .i64 ((IntKind.wrap .i64 (7 * l)).tdiv 8) = step true l := by
  rw [wrapI (i := 7 * l) (by omega) (by omega), Int.tdiv_eq_ediv_of_nonneg (by omega), wrapI (by omega) (by omega)]
  rfl
theorem loss_f {l : Int} (h : 0 ≤ l ∧ l ≤ 1000) : IntKind.wrap .i64 ((IntKind.wrap .i64 (IntKind.wrap .i64 (7 * l) + 1007)).tdiv 8) = step false l := by
  rw [wrapI (i := 7 * l) (by omega) (by omega), wrapI (i := 7 * l + 1007) (by omega) (by omega), Int.tdiv_eq_ediv_of_nonneg (by omega), wrapI (by omega) (by omega)]
  rfl
theorem ok_upd {s : Bool} {rate now : Int} {y : MetricLink} (h : okM y) (hr : 0 ≤ rate ∧ rate < 12) (hn : 0 ≤ now ∧ now ≤ 1099511627776) : okM (upd1 s rate now y) := by
  obtain ⟨a, b, c, d, e, f⟩ := h
  have := step_b s c d
  refine ⟨hr.1, hr.2, this.1, this.2, ?_, ?_⟩
  · show 0 ≤ (bif s then (if y.Heard < now then now else y.Heard) else y.Heard)
    cases s
    · exact e
    · show 0 ≤ (if y.Heard < now then now else y.Heard); split <;> omega
  · show (bif s then (if y.Heard < now then now else y.Heard) else y.Heard) ≤ _
    cases s
    · exact f
    · show (if y.Heard < now then now else y.Heard) ≤ _; split <;> omega

/-- The links of the reference where the peer is found. -/
theorem rmap_loop (t : MetricTable) (hL : t.Links.length ≤ 1000) (hk : ∀ x ∈ t.Links, 0 ≤ x.Loss ∧ x.Loss ≤ 1000) (a : Addr) (s : Bool) (now rate : Int) (T : MetricTable) : ∀ (l acc : List MetricLink) (f : Bool) (i n : Nat), t.Links.drop i = l → l.length < n → acc.length + l.length ≤ 1000 →
    hotspotref38_Heard_L4 t a s now rate n (T, acc, f, (i : Int)) = some (T, acc ++ l.map (fun x => if x.Peer = a then upd1 s rate now x else x), f || l.any fun x => decide (x.Peer = a)) := by
  intro l
  induction l with
  | nil =>
    intro acc f i n h hn hc
    obtain ⟨n, rfl⟩ : ∃ m, n = m + 1 := ⟨n - 1, by simp at hn; omega⟩
    rw [hotspotref38_Heard_L4, ge_dec (drop_n h)]; simp
  | cons x l ih =>
    intro acc f i n h hn hc
    obtain ⟨n, rfl⟩ : ∃ m, n = m + 1 := ⟨n - 1, by simp at hn; omega⟩
    obtain ⟨h1, h2, h3⟩ := drop_c h
    have hl := hk x (List.mem_of_getElem? h1)
    simp only [List.length_cons] at hn hc
    rw [hotspotref38_Heard_L4, lt_dec h3]
    simp only [cond_true, idxN, h1, bindS]
    by_cases hx : x.Peer = a
    · simp only [hx, decide_true, cond_true, List.map_cons, if_true, List.any_cons, Bool.true_or, Bool.or_true]
      cases s
      · simp only [cond_false, bindS]
        rw [chk_d (by omega), bindS, wrapN (by omega), ih _ _ (i + 1) n h2 (by omega) (by simp; omega), loss_f hl]
        simp only [Bool.true_or, List.append_assoc, List.singleton_append, upd1, hx, cond_false]
      · simp only [cond_true, bindS]
        rw [chk_d (by omega), bindS, wrapN (by omega), ih _ _ (i + 1) n h2 (by omega) (by simp; omega), loss_t hl]
        simp only [Bool.true_or, List.append_assoc, List.singleton_append, upd1, hx, cond_true]
    · simp only [hx, decide_false, cond_false, bindS, List.map_cons, if_false, List.any_cons, Bool.false_or]
      rw [chk_d (by omega), bindS, wrapN (by omega), ih _ _ (i + 1) n h2 (by omega) (by simp; omega)]
      simp only [List.append_assoc, List.singleton_append]

/-- .. and where it is not. -/
theorem rins_loop (t : MetricTable) (hL : t.Links.length ≤ 1000) (hw : ∀ x ∈ t.Links, wa x.Peer) {a : Addr} (ha : wa a) (now rate : Int) (T : MetricTable) {j : Nat} (hj : j ≤ t.Links.length) (hlo : ∀ (h : Nat) y, t.Links[h]? = some y → h < j → K6 y.Peer < K6 a) (hhi : ∀ (h : Nat) y, t.Links[h]? = some y → j ≤ h → K6 a < K6 y.Peer) :
    ∀ (l acc : List MetricLink) (f : Bool) (i n : Nat), t.Links.drop i = l → l.length < n → acc.length ≤ i + (bif f then 1 else 0) → i ≤ t.Links.length → (f = true ↔ j < i) →
    hotspotref38_Heard_L9 t a now rate n (T, acc, f, (i : Int)) = some (T, acc ++ (if j < i then l else l.take (j - i) ++ (if j < t.Links.length then [{ MetricLink.z with Heard := now, Peer := a, Rate := rate }] else []) ++ l.drop (j - i)), decide (j < t.Links.length)) := by
  intro l
  induction l with
  | nil =>
    intro acc f i n h hn hc hi0 hf
    obtain ⟨n, rfl⟩ : ∃ m, n = m + 1 := ⟨n - 1, by simp at hn; omega⟩
    have hi := drop_n h
    rw [hotspotref38_Heard_L9, ge_dec hi, cond_false]
    simp only [List.take_nil, List.drop_nil, List.append_nil, List.nil_append]
    by_cases hji : j < i
    · by_cases hjl : j < t.Links.length
      · rw [if_pos hji, hf.2 hji, decide_eq_true hjl, List.append_nil]
      · omega
    · have hjl : ¬ j < t.Links.length := by omega
      have : f = false := by
        cases f
        · rfl
        · exact absurd (hf.1 rfl) hji
      rw [if_neg hji, if_neg hjl, this, decide_eq_false hjl, List.append_nil]
  | cons x l ih =>
    intro acc f i n h hn hc hi0 hf
    obtain ⟨n, rfl⟩ : ∃ m, n = m + 1 := ⟨n - 1, by simp at hn; omega⟩
    obtain ⟨h1, h2, h3⟩ := drop_c h
    simp only [List.length_cons] at hn
    rw [hotspotref38_Heard_L9, lt_dec h3]
    simp only [cond_true, idxN, h1, bindS, smaller_e ha (hw x (List.mem_of_getElem? h1))]
    by_cases hji : j < i
    · have f1 := hf.2 hji
      subst f1
      simp only [cond_true] at hc
      simp only [Bool.not_true, cond_false, bindS]
      rw [chk_d (by omega), bindS, wrapN (by omega), ih _ _ (i + 1) n h2 (by omega) (by simp; omega) (by omega) (by simp; omega), if_pos (by omega), if_pos hji]
      simp only [List.append_assoc, List.singleton_append]
    · have f0 : f = false := by
        cases f
        · rfl
        · exact absurd (hf.1 rfl) hji
      subst f0
      simp only [cond_false] at hc
      simp only [Bool.not_false, cond_true]
      by_cases hij : i = j
      · subst hij
        have := hhi i x h1 (Nat.le_refl _)
        rw [decide_eq_true this, bindS, cond_true, chk_d (by omega), bindS, bindS]
        simp only
        rw [chk_d (by simp; omega), bindS, wrapN (by omega), ih _ _ (i + 1) n h2 (by omega) (by simp; omega) (by omega) (by simp), if_pos (by omega), if_neg (by omega), if_pos h3, Nat.sub_self]
        simp only [List.append_assoc, List.singleton_append, List.take_zero, List.drop_zero, List.nil_append, List.cons_append]
      · have := hlo i x h1 (by omega)
        rw [decide_eq_false (by omega), bindS, cond_false, bindS]
        simp only
        rw [chk_d (by omega), bindS, wrapN (by omega), ih _ _ (i + 1) n h2 (by omega) (by simp; omega) (by omega) (by simp; omega), if_neg (by omega), if_neg hji, show j - i = (j - (i + 1)) + 1 by omega, List.take_succ_cons, List.drop_succ_cons]
        simp only [List.append_assoc, List.singleton_append, List.cons_append, List.nil_append]
end Go.AX.Z.TM

/-! (TMJ) -/

set_option linter.unusedVariables false
set_option linter.unusedSimpArgs false
namespace Go.AX.Z.TM
open Go.AX

/-- Tables whose addresses are of bytes. -/
def wt (t : MetricTable) : Prop := ∀ x ∈ t.Links, wa x.Peer

theorem map_at {L : List MetricLink} (hP : L.Pairwise fun x y => K6 x.Peer < K6 y.Peer) {j : Nat} {x : MetricLink} (hj : L[j]? = some x) (f : MetricLink → MetricLink) : L.map (fun y => if y.Peer = x.Peer then f y else y) = L.set j (f x) := by
  have pw := List.pairwise_iff_getElem.1 hP
  obtain ⟨hl, ej⟩ := List.getElem?_eq_some_iff.1 hj
  apply List.ext_getElem?
  intro i
  rw [List.getElem?_map, List.getElem?_set]
  by_cases h : j = i
  · subst h; simp [hl, ej]
  · rw [if_neg h]
    cases hi : L[i]? with
    | none => rfl
    | some y =>
      obtain ⟨hil, ei⟩ := List.getElem?_eq_some_iff.1 hi
      have hne : y.Peer ≠ x.Peer := by
        intro hp
        have hk : K6 y.Peer = K6 x.Peer := by rw [hp]
        rcases Nat.lt_or_gt_of_ne h with h1 | h1
        · have := pw j i hl hil h1; rw [ej, ei] at this; omega
        · have := pw i j hil hl h1; rw [ej, ei] at this; omega
      simp [hne]

theorem heard_rel {t : MetricTable} (hw : wt t) {a : Addr} (ha : wa a) (rate : Int) (s : Bool) (now : Int) (hL : t.Links.length ≤ 1000) :
    ∃ R e, metric_Heard t a rate s now = some (R, e) ∧ hotspotref38_Heard t a rate s now = some (R, e) ∧ R.Links.length ≤ 1000 ∧ (e = 0 → VT R ∧ wt R) := by
  unfold metric_Heard hotspotref38_Heard
  rw [checked8, before8 t hw, bindS, bindS]
  by_cases he : err t now = 0
  · obtain ⟨hv, n0, n1⟩ := err0 he
    obtain ⟨p1, p2⟩ := srt_pw hv.2
    have h32 := hv.1
    rw [he, bne_self_eq_false, cond_false, beq_self_eq_true]
    have hc12 : rate_Count = some 12 := rfl
    simp only [hc12, bindS, Bool.true_and]
    by_cases hr : 0 ≤ rate ∧ rate < 12
    · rw [decide_eq_false (by omega : ¬ rate < 0), decide_eq_false (by omega : ¬ 12 ≤ rate)]
      simp only [cond_false, bindS, Bool.or_self]
      simp only [cond_false, bne_self_eq_false, cond_true]
      obtain ⟨j, hj, hlo, hhi⟩ := cut_e (K6 a) t.Links p1
      rw [find_c t h32 a hj hlo hhi, bindS]
      have hm := rmap_loop t hL (fun x hx => ⟨(p2 x hx).1.2.2.1, (p2 x hx).1.2.2.2.1⟩) a s now rate MetricTable.z t.Links [] false 0 big rfl (big_lt (by omega)) (by simpa using hL)
      simp only [Int.natCast_zero, List.nil_append, Bool.false_or] at hm
      rw [hm, bindS]
      unfold slices_Clone_api_MetricLink_api_MetricLink
      simp only [chk_d (show t.Links.length * 32 ≤ 140737488355328 by omega), bindS]
      by_cases hf : ∃ x, t.Links[j]? = some x ∧ x.Peer = a
      · obtain ⟨x, hx, rfl⟩ := hf
        have hjl : j < t.Links.length := (List.getElem?_eq_some_iff.1 hx).1
        have hany : (t.Links.any fun y => decide (y.Peer = x.Peer)) = true := List.any_eq_true.2 ⟨x, List.mem_of_getElem? hx, by simp⟩
        have hmatch : hit t.Links j (K6 x.Peer) = true := by unfold hit; rw [hx]; exact decide_eq_true rfl
        rw [hany, map_at p1 hx, cond_true, hmatch]
        simp only [Bool.not_true, Bool.false_and, cond_false]
        rw [idxN, hx, bindS]
        have g : ∀ z : MetricLink, (t.Links.set j z)[j]? = some z := fun z => by simp [hjl]
        have okx := (p2 x (List.mem_of_getElem? hx)).1
        have okx2 := okx
        obtain ⟨r1, r2, r3, r4, r5, r6⟩ := okx2
        refine ⟨⟨t.Links.set j (upd1 s rate now x)⟩, 0, ?_, rfl, by simpa using hL, fun _ => ⟨vt_set (L := t.Links) hv hx rfl (ok_upd okx hr ⟨n0, n1⟩), fun z hz => ?_⟩⟩
        · simp only [Int.toNat_natCast]
          cases s
          · simp only [cond_false]
            rw [mod_set hx, mod_set (g _), List.set_set]
            congr 1; congr 1; congr 1; congr 1
            show MetricLink.mk _ _ _ _ = MetricLink.mk _ _ _ _
            simp only [loss_f ⟨r3, r4⟩, cond_false]
          · simp only [cond_true]
            rw [mod_set hx, mod_set (g _), List.set_set, mod_set (g _), List.set_set]
            congr 1; congr 1; congr 1; congr 1
            show MetricLink.mk _ _ _ _ = MetricLink.mk _ _ _ _
            simp only [loss_t ⟨r3, r4⟩, cond_true]
        · rcases List.mem_or_eq_of_mem_set hz with h1 | h1
          · exact hw z h1
          · rw [h1]; exact hw x (List.mem_of_getElem? hx)
      · have hno : ∀ y ∈ t.Links, K6 y.Peer ≠ K6 a := by
          intro y hy hk
          obtain ⟨i, hi⟩ := List.mem_iff_getElem?.1 hy
          by_cases hij : i < j
          · have := hlo i y hi hij; omega
          · by_cases hji : i = j
            · subst hji
              exact hf ⟨y, hi, (k6_inj (hw y hy) ha).1 hk⟩
            · have hil := (List.getElem?_eq_some_iff.1 hi).1
              have ej : t.Links[j]? = some t.Links[j] := by simp [show j < t.Links.length by omega]
              have := hhi j _ ej (Nat.le_refl _)
              have pw := List.pairwise_iff_getElem.1 p1 j i (by omega) hil (by omega)
              rw [(List.getElem?_eq_some_iff.1 hi).2] at pw
              omega
        have hany : (t.Links.any fun y => decide (y.Peer = a)) = false := by
          rw [List.any_eq_false]
          intro y hy
          have := hno y hy
          simp only [decide_eq_true_eq]
          rintro rfl
          exact this rfl
        have hmatch : hit t.Links j (K6 a) = false := by
          unfold hit
          cases hx : t.Links[j]? with
          | none => rfl
          | some x => exact decide_eq_false (hno x (List.mem_of_getElem? hx))
        rw [hany, hmatch]
        simp only [Bool.not_false, Bool.true_and, cond_true, cond_false]
        cases s
        · exact ⟨_, _, rfl, rfl, by decide, fun h => by cases h⟩
        · simp only [Bool.not_true, cond_false]
          by_cases h5 : t.Links.length = 32
          · rw [show ((t.Links.length : Int) == 32) = true by rw [h5]; rfl, decide_eq_true (by omega)]
            exact ⟨_, _, rfl, rfl, by decide, fun h => by cases h⟩
          · rw [show ((t.Links.length : Int) == 32) = false by rw [beq_eq_false_iff_ne]; omega, decide_eq_false (by omega)]
            simp only [cond_false]
            have hlt : ∀ (h : Nat) y, t.Links[h]? = some y → j ≤ h → K6 a < K6 y.Peer := fun h y hy hle => by
              have := hhi h y hy hle
              have := hno y (List.mem_of_getElem? hy)
              omega
            have hi := rins_loop t hL hw ha now rate MetricTable.z hj hlo hlt t.Links [] false 0 big rfl (big_lt (by omega)) (by simp) (by omega) (by simp)
            simp only [Int.natCast_zero, List.nil_append, Nat.not_lt_zero, if_false, Nat.sub_zero] at hi
            rw [hi, bindS]
            let y : MetricLink := { MetricLink.z with Heard := now, Peer := a, Rate := rate }
            have hy : okM y := ⟨hr.1, hr.2, Int.le_refl 0, (by decide : (0 : Int) ≤ 1000), n0, n1⟩
            have key : ∃ r, slices_Insert_api_MetricLink_api_MetricLink (j : Int) t.Links [y] = some r ∧ r = t.Links.take j ++ [y] ++ t.Links.drop j := by
              unfold slices_Insert_api_MetricLink_api_MetricLink
              rw [show (decide (0 ≤ (j : Int)) && decide ((j : Int) ≤ (t.Links.length : Int))) = true by simp; omega]
              rw [chk_t rfl, bindS, show ((([y] : List MetricLink).length : Int) == 0) = false from rfl, cond_false]
              by_cases hjl : j = t.Links.length
              · rw [show (((j : Nat) : Int) == ((t.Links.length : Nat) : Int)) = true by rw [beq_iff_eq]; omega, cond_true, chk_d (by simp; omega), bindS]
                refine ⟨_, rfl, ?_⟩
                rw [hjl, List.take_length, List.drop_length, List.append_nil]
              · rw [show (((j : Nat) : Int) == ((t.Links.length : Nat) : Int)) = false by rw [beq_eq_false_iff_ne]; omega, cond_false, chk_t (by simp; omega), bindS]
                exact ⟨_, rfl, by simp only [Int.toNat_natCast]⟩
            obtain ⟨r, k1, k2⟩ := key
            rw [k1, bindS]
            have hR : ∀ z ∈ r, z = y ∨ z ∈ t.Links := by
              intro z hz
              rw [k2] at hz
              simp only [List.mem_append, List.mem_singleton] at hz
              rcases hz with (h | h) | h
              · exact .inr (List.mem_of_mem_take h)
              · exact .inl h
              · exact .inr (List.mem_of_mem_drop h)
            have hlen : r.length = t.Links.length + 1 := by rw [k2]; simp; omega
            refine ⟨⟨r⟩, 0, rfl, ?_, by show r.length ≤ 1000; omega, fun _ => ⟨⟨by show r.length ≤ 32; omega, pw_srt ?_ fun z hz => ?_⟩, fun z hz => ?_⟩⟩
            · by_cases hjl : j < t.Links.length
              · rw [if_pos hjl, decide_eq_true hjl]
                simp only [Bool.not_true, cond_false]
                rw [k2]
              · have hjl' : j = t.Links.length := by omega
                rw [if_neg hjl, decide_eq_false hjl]
                simp only [Bool.not_false, cond_true]
                rw [chk_d (by simp; omega), bindS, k2, hjl']
                simp [y]
            · rw [k2, List.append_assoc, List.pairwise_append]
              refine ⟨p1.sublist (List.take_sublist _ _), ?_, fun u hu v hv => ?_⟩
              · rw [List.singleton_append, List.pairwise_cons]
                refine ⟨fun v hv => ?_, p1.sublist (List.drop_sublist _ _)⟩
                obtain ⟨i, hi⟩ := List.mem_iff_getElem?.1 hv
                rw [List.getElem?_drop] at hi
                exact hlt (j + i) v hi (by omega)
              · obtain ⟨i, hi⟩ := List.mem_iff_getElem?.1 hu
                rw [List.getElem?_take] at hi
                split at hi
                · rename_i hij
                  have hu' := hlo i u hi hij
                  rw [List.singleton_append] at hv
                  rcases List.mem_cons.1 hv with rfl | hv
                  · exact hu'
                  · obtain ⟨i', hi'⟩ := List.mem_iff_getElem?.1 hv
                    rw [List.getElem?_drop] at hi'
                    have := hlt (j + i') v hi' (by omega)
                    omega
                · cases hi
            · refine ⟨?_, fun k hk => by cases hk⟩
              rcases hR z hz with rfl | h
              · exact hy
              · exact (p2 z h).1
            · rcases hR z hz with rfl | h
              · exact ha
              · exact hw z h
    · have h1 : (bif decide (rate < 0) then some true else some (decide (12 ≤ rate))) = some true := by
        by_cases h0 : rate < 0
        · rw [decide_eq_true h0]; rfl
        · rw [decide_eq_false h0, cond_false, decide_eq_true (by omega)]
      have h2 : (decide (rate < 0) || decide (12 ≤ rate)) = true := by simp; omega
      rw [h2, h1, bindS]
      exact ⟨_, _, rfl, rfl, by decide, fun h => by cases h⟩
  · have hb : (err t now != 0) = true := by simpa using he
    rw [hb, show (err t now == 0) = false by simpa using he]
    simp only [Bool.false_and, cond_false, bindS, cond_true, hb]
    exact ⟨_, _, rfl, rfl, by decide, fun h => absurd h he⟩

/-! ## Costs, age -/

theorem rtotal_e {a : Int} (h0 : 0 ≤ a) (h1 : a ≤ 11) : hotspotref09_Total a 1024 = some (air a, 0) := by
  rcases twelve h0 h1 with h | h | h | h | h | h | h | h | h | h | h | h <;> subst h <;> decide +kernel

theorem rcost_e {a l : Int} (h0 : 0 ≤ a) (h1 : a ≤ 11) (h2 : 0 ≤ l) (h3 : l ≤ 1000) : hotspotref38_Cost a l = some (cost a l, 0) := by
  obtain ⟨_, b1, b2⟩ := air_e h0 h1
  unfold hotspotref38_Cost
  rw [rtotal_e h0 h1, bindS]
  have e1 : ((((decide (a < 0)) || (decide (12 ≤ a))) || (decide (l < 0))) || (decide (1000 < l))) = false := by simp; omega
  rw [e1, cond_false]
  unfold cost
  by_cases hl : l = 1000
  · subst hl; rfl
  · have e2 : (l == 1000) = false := by simpa using hl
    rw [e2, cond_false, if_neg hl]
    simp only [wrapI (i := 1000 - l) (by omega) (by omega)]
    rw [chk_d (by omega), bindS]
    simp only [wrapI (i := air a * 100) (by omega) (by omega), wrapI (i := air a * 100 * 1000) (by omega) (by omega)]
    have hm : air a * 100 * 1000 = air a * 100000 := by omega
    rw [hm, Int.tdiv_eq_ediv_of_nonneg (by omega)]
    generalize hN : air a * 100000 = N
    generalize hD : 1000 - l = D
    have hD0 : 0 < D := by omega
    have hN0 : 0 ≤ N := by omega
    have hN1 : N ≤ 145200000 := by omega
    have q1 : N / D * D ≤ N := Int.ediv_mul_le N (by omega)
    have q2 : N < (N / D + 1) * D := by
      have := Int.lt_ediv_add_one_mul_self N hD0
      omega
    have q0 : 0 ≤ N / D := Int.ediv_nonneg hN0 (by omega)
    have q3 : N / D ≤ N := Int.ediv_le_self D hN0
    have e4 : (N / D + 1) * D = N / D * D + D := by rw [Int.add_mul, Int.one_mul]
    have q5 : 0 ≤ N / D * D := Int.mul_nonneg q0 (by omega)
    simp only [wrapI (i := N / D) (by omega) (by omega), wrapI (i := N / D * D) (by omega) (by omega), wrapI (i := N / D + 1) (by omega) (by omega)]
    have u0 := le_up N hD0
    by_cases hlt : N / D * D < N
    · rw [decide_eq_true hlt, cond_true]
      have u1 : up N D ≤ N / D + 1 := up_le hD0 (by omega)
      have u2 : N / D < up N D := by
        rcases Int.lt_or_le (N / D) (up N D) with h | h
        · exact h
        · have := Int.mul_le_mul_of_nonneg_right h (by omega : (0 : Int) ≤ D)
          omega
      congr 2; omega
    · rw [decide_eq_false hlt, cond_false]
      have u1 : up N D ≤ N / D := up_le hD0 (by omega)
      have u2 : N / D ≤ up N D := by
        rcases Int.lt_or_le (up N D) (N / D) with h | h
        · have := Int.mul_le_mul_of_nonneg_right (show up N D + 1 ≤ N / D by omega) (by omega : (0 : Int) ≤ D)
          rw [Int.add_mul] at this
          omega
        · exact h
      congr 2; omega

theorem old_e {x : MetricLink} (h : okM x) {now : Int} (n0 : 0 ≤ now) (n1 : now ≤ 1099511627776) : old now x = decide (x.Heard + 5000000 < now) ∧ IntKind.wrap .i64 (x.Heard + 5000000) = x.Heard + 5000000 := by
  obtain ⟨_, _, _, _, a, b⟩ := h
  unfold old
  rw [wrapI (by omega) (by omega), wrapI (by omega) (by omega)]
  exact ⟨decide_eq_decide.2 (by omega), rfl⟩

theorem rof_loop (t : MetricTable) (hL : t.Links.length ≤ 1000) (hk : ∀ x ∈ t.Links, okM x) (a : Addr) {now : Int} (n0 : 0 ≤ now) (n1 : now ≤ 1099511627776) : ∀ (l : List MetricLink) (i n : Nat), t.Links.drop i = l → l.length < n →
    hotspotref38_Of_L2 t a now n (i : Int) = some (match l.find? (fun x => decide (x.Peer = a) && !old now x) with | some x => Ex.ret (cost x.Rate x.Loss, 0) | none => Ex.go ()) := by
  intro l
  induction l with
  | nil =>
    intro i n h hn
    obtain ⟨n, rfl⟩ : ∃ m, n = m + 1 := ⟨n - 1, by simp at hn; omega⟩
    rw [hotspotref38_Of_L2, ge_dec (drop_n h)]; rfl
  | cons x l ih =>
    intro i n h hn
    obtain ⟨n, rfl⟩ : ∃ m, n = m + 1 := ⟨n - 1, by simp at hn; omega⟩
    obtain ⟨h1, h2, h3⟩ := drop_c h
    simp only [List.length_cons] at hn
    have hx := hk x (List.mem_of_getElem? h1)
    obtain ⟨o1, o2⟩ := old_e hx n0 n1
    rw [hotspotref38_Of_L2, lt_dec h3]
    simp only [cond_true, idxN, h1, bindS, o2, List.find?_cons]
    rw [show decide (now ≤ x.Heard + 5000000) = !old now x by rw [o1, ← decide_not]; exact decide_eq_decide.2 (by omega)]
    cases hc : (decide (x.Peer = a) && !old now x)
    · rw [cond_false, wrapN (by omega), ih (i + 1) n h2 (by omega)]
    · obtain ⟨r1, r2, r3, r4, _⟩ := hx
      rw [cond_true, rcost_e r1 (by omega) r3 r4]; rfl

theorem of_rel {t : MetricTable} (hw : wt t) {a : Addr} (ha : wa a) (now : Int) (hL : t.Links.length ≤ 1000) : ∃ R, metric_Of t a now = some R ∧ hotspotref38_Of t a now = some R := by
  unfold metric_Of hotspotref38_Of
  rw [checked8, before8 t hw, bindS, bindS]
  by_cases he : err t now = 0
  · obtain ⟨hv, n0, n1⟩ := err0 he
    obtain ⟨p1, p2⟩ := srt_pw hv.2
    rw [he, bne_self_eq_false, cond_false, cond_false]
    have hr := rof_loop t hL (fun x hx => (p2 x hx).1) a n0 n1 t.Links 0 big rfl (big_lt (by omega))
    simp only [Int.natCast_zero] at hr
    rw [hr, bindS]
    obtain ⟨j, hj, hlo, hhi⟩ := cut_e (K6 a) t.Links p1
    rw [find_c t hv.1 a hj hlo hhi, bindS]
    unfold metric_old metric_old_1
    by_cases hf : ∃ x, t.Links[j]? = some x ∧ x.Peer = a
    · obtain ⟨x, hx, rfl⟩ := hf
      have hmatch : hit t.Links j (K6 x.Peer) = true := by unfold hit; rw [hx]; exact decide_eq_true rfl
      have hjl : j < t.Links.length := (List.getElem?_eq_some_iff.1 hx).1
      have hm := List.mem_of_getElem? hx
      obtain ⟨r1, r2, r3, r4, _⟩ := (p2 x hm).1
      have uniq : ∀ y ∈ t.Links, y.Peer = x.Peer → y = x := by
        intro y hy hp
        obtain ⟨i, hi⟩ := List.mem_iff_getElem?.1 hy
        have hil := (List.getElem?_eq_some_iff.1 hi).1
        have pw := List.pairwise_iff_getElem.1 p1
        have hk : K6 y.Peer = K6 x.Peer := by rw [hp]
        rcases Nat.lt_trichotomy i j with h | h | h
        · have := pw i j hil hjl h
          rw [(List.getElem?_eq_some_iff.1 hi).2, (List.getElem?_eq_some_iff.1 hx).2] at this; omega
        · subst h; rw [hi] at hx; exact Option.some.inj hx
        · have := pw j i hjl hil h
          rw [(List.getElem?_eq_some_iff.1 hi).2, (List.getElem?_eq_some_iff.1 hx).2] at this; omega
      rw [hmatch]
      simp only [Bool.not_true, cond_false, bindS, idxN, hx]
      show ∃ R, (bif old now x then _ else _) = _ ∧ _
      cases ho : old now x
      · rw [cond_false, cost_e r1 (by omega) r3 r4, bindS]
        refine ⟨_, rfl, ?_⟩
        cases hfi : t.Links.find? (fun y => decide (y.Peer = x.Peer) && !old now y) with
        | none =>
          have := List.find?_eq_none.1 hfi x hm
          simp [ho] at this
        | some y =>
          have h1 := List.find?_some hfi
          simp only [Bool.and_eq_true, decide_eq_true_eq] at h1
          rw [uniq y (List.mem_of_find?_eq_some hfi) h1.1]
          rfl
      · refine ⟨_, rfl, ?_⟩
        cases hfi : t.Links.find? (fun y => decide (y.Peer = x.Peer) && !old now y) with
        | none => rfl
        | some y =>
          have h1 := List.find?_some hfi
          simp only [Bool.and_eq_true, decide_eq_true_eq] at h1
          rw [uniq y (List.mem_of_find?_eq_some hfi) h1.1, ho] at h1
          simp at h1
    · have hmatch : hit t.Links j (K6 a) = false := by
        unfold hit
        cases hx : t.Links[j]? with
        | none => rfl
        | some x => exact decide_eq_false fun hk => hf ⟨x, hx, (k6_inj (hw x (List.mem_of_getElem? hx)) ha).1 hk⟩
      rw [hmatch]
      refine ⟨(0, 6), rfl, ?_⟩
      cases hfi : t.Links.find? (fun y => decide (y.Peer = a) && !old now y) with
      | none => rfl
      | some y =>
        exfalso
        have h1 := List.find?_some hfi
        simp only [Bool.and_eq_true, decide_eq_true_eq] at h1
        obtain ⟨i, hi⟩ := List.mem_iff_getElem?.1 (List.mem_of_find?_eq_some hfi)
        have hk : K6 y.Peer = K6 a := by rw [h1.1]
        have hij : ¬ i < j := fun h => by have := hlo i y hi h; omega
        by_cases hji : i = j
        · subst hji; exact hf ⟨y, hi, h1.1⟩
        · have hil := (List.getElem?_eq_some_iff.1 hi).1
          have ej : t.Links[j]? = some t.Links[j] := by simp [show j < t.Links.length by omega]
          have := hhi j _ ej (Nat.le_refl _)
          have pw := List.pairwise_iff_getElem.1 p1 j i (by omega) hil (by omega)
          rw [(List.getElem?_eq_some_iff.1 hi).2] at pw
          omega
  · have hb : (err t now != 0) = true := by simpa using he
    rw [hb, cond_true, cond_true]
    exact ⟨_, rfl, rfl⟩

theorem rage_loop (t : MetricTable) (hL : t.Links.length ≤ 1000) (hk : ∀ x ∈ t.Links, okM x) {now : Int} (n0 : 0 ≤ now) (n1 : now ≤ 1099511627776) (T : MetricTable) : ∀ (l a : List MetricLink) (b : List Addr) (i n : Nat), t.Links.drop i = l → l.length < n → a.length + l.length ≤ 1000 → b.length + l.length ≤ 1000 →
    hotspotref38_Age_L3 t now n (T, a, b, (i : Int)) = some (T, a ++ l.filter (fun x => !old now x), b ++ (l.filter (old now)).map (·.Peer)) := by
  intro l
  induction l with
  | nil =>
    intro a b i n h hn h1 h2
    obtain ⟨n, rfl⟩ : ∃ m, n = m + 1 := ⟨n - 1, by simp at hn; omega⟩
    rw [hotspotref38_Age_L3, ge_dec (drop_n h)]; simp
  | cons x l ih =>
    intro a b i n h hn ha hb
    obtain ⟨n, rfl⟩ : ∃ m, n = m + 1 := ⟨n - 1, by simp at hn; omega⟩
    obtain ⟨h1, h2, h3⟩ := drop_c h
    simp only [List.length_cons] at hn ha hb
    obtain ⟨o1, o2⟩ := old_e (hk x (List.mem_of_getElem? h1)) n0 n1
    rw [hotspotref38_Age_L3, lt_dec h3]
    simp only [cond_true, idxN, h1, bindS, o2]
    rw [← o1]
    cases ho : old now x
    · rw [cond_false, chk_d (by omega), bindS, wrapN (by omega), ih (a ++ [x]) b (i + 1) n h2 (by omega) (by simp; omega) (by omega)]
      simp [ho]
    · rw [cond_true, chk_d (by omega), bindS, wrapN (by omega), ih a (b ++ [x.Peer]) (i + 1) n h2 (by omega) (by omega) (by simp; omega)]
      simp [ho]

theorem age_rel {t : MetricTable} (hw : wt t) (now : Int) (hL : t.Links.length ≤ 1000) : ∃ R, metric_Age t now = some R ∧ hotspotref38_Age t now = some R ∧ R.1.Links.length ≤ 1000 ∧ R.2.1.length ≤ 1000 := by
  by_cases he : err t now = 0
  · obtain ⟨hv, n0, n1⟩ := err0 he
    obtain ⟨p1, p2⟩ := srt_pw hv.2
    refine ⟨_, age_e hv n0 n1, ?_, ?_, ?_⟩
    · unfold hotspotref38_Age
      rw [before8 t hw, bindS, he, bne_self_eq_false, cond_false]
      have := rage_loop t hL (fun x hx => (p2 x hx).1) n0 n1 MetricTable.z t.Links [] [] 0 big rfl (big_lt (by omega)) (by simpa using hL) (by simpa using hL)
      simp only [Int.natCast_zero, List.nil_append] at this
      rw [this]; rfl
    · exact Nat.le_trans (List.length_filter_le _ _) hL
    · rw [List.length_map]; exact Nat.le_trans (List.length_filter_le _ _) hL
  · have hb : (err t now != 0) = true := by simpa using he
    unfold metric_Age hotspotref38_Age
    rw [checked8, before8 t hw, bindS, bindS, hb, cond_true, cond_true]
    exact ⟨_, rfl, rfl, by simp [MetricTable.z], by simp⟩

theorem sameA_loop (t : List Addr) (hL : t.length ≤ 1000) : ∀ (l : List Addr) (i n : Nat), t.drop i = l → l.length < n → hotspotref38_SameAddrs_L2 t t n (i : Int) = some (Ex.go ()) := by
  intro l
  induction l with
  | nil =>
    intro i n h hn
    obtain ⟨n, rfl⟩ : ∃ m, n = m + 1 := ⟨n - 1, by simp at hn; omega⟩
    rw [hotspotref38_SameAddrs_L2, ge_dec (drop_n h)]; rfl
  | cons x l ih =>
    intro i n h hn
    obtain ⟨n, rfl⟩ : ∃ m, n = m + 1 := ⟨n - 1, by simp at hn; omega⟩
    obtain ⟨h1, h2, h3⟩ := drop_c h
    simp only [List.length_cons] at hn
    rw [hotspotref38_SameAddrs_L2, lt_dec h3]
    simp only [cond_true, idxN, h1, bindS, decide_true, Bool.not_true, cond_false]
    rw [wrapN (by omega)]
    exact ih (i + 1) n h2 (by omega)
theorem sameA_e (t : List Addr) (hL : t.length ≤ 1000) : hotspotref38_SameAddrs t t = some true := by
  unfold hotspotref38_SameAddrs
  have := sameA_loop t hL t 0 big rfl (big_lt (by omega))
  simp only [Int.natCast_zero] at this
  rw [this, bne_self_eq_false]; rfl
theorem same_e' (t : MetricTable) (hL : t.Links.length ≤ 1000) : hotspotref38_Same t t = some true := by
  unfold hotspotref38_Same
  have key : ∀ (l : List MetricLink) (i n : Nat), t.Links.drop i = l → l.length < n → hotspotref38_Same_L2 t t n (i : Int) = some (Ex.go ()) := by
    intro l
    induction l with
    | nil =>
      intro i n h hn
      obtain ⟨n, rfl⟩ : ∃ m, n = m + 1 := ⟨n - 1, by simp at hn; omega⟩
      rw [hotspotref38_Same_L2, ge_dec (drop_n h)]; rfl
    | cons x l ih =>
      intro i n h hn
      obtain ⟨n, rfl⟩ : ∃ m, n = m + 1 := ⟨n - 1, by simp at hn; omega⟩
      obtain ⟨h1, h2, h3⟩ := drop_c h
      simp only [List.length_cons] at hn
      rw [hotspotref38_Same_L2, lt_dec h3]
      simp only [cond_true, idxN, h1, bindS, decide_true, Bool.not_true, cond_false]
      rw [wrapN (by omega)]
      exact ih (i + 1) n h2 (by omega)
  have := key t.Links 0 big rfl (big_lt (by omega))
  simp only [Int.natCast_zero] at this
  rw [this, bne_self_eq_false]; rfl

theorem bump6 : ∀ (m i n : Nat) (L : List MetricLink), i + m = L.length → L.length ≤ 1000 → m < n → hotspotlaw38_MetricTables_L6 n (L, (i : Int)) = some () := by
  intro m
  induction m with
  | zero =>
    intro i n L h hL hn
    obtain ⟨n, rfl⟩ : ∃ q, n = q + 1 := ⟨n - 1, by omega⟩
    rw [hotspotlaw38_MetricTables_L6, ge_dec (L := L.length) (i := i) (by omega)]; rfl
  | succ m ih =>
    intro i n L h hL hn
    obtain ⟨n, rfl⟩ : ∃ q, n = q + 1 := ⟨n - 1, by omega⟩
    have hi : i < L.length := by omega
    rw [hotspotlaw38_MetricTables_L6, lt_dec hi, cond_true, idxN, show L[i]? = some L[i] by simp [hi], bindS, wrapN (by omega)]
    exact ih (i + 1) n _ (by simp; omega) (by simpa using hL) (by omega)
theorem bump9 : ∀ (m i n : Nat) (L : List MetricLink), i + m = L.length → L.length ≤ 1000 → m < n → hotspotlaw38_MetricTables_L9 n (L, (i : Int)) = some () := by
  intro m
  induction m with
  | zero =>
    intro i n L h hL hn
    obtain ⟨n, rfl⟩ : ∃ q, n = q + 1 := ⟨n - 1, by omega⟩
    rw [hotspotlaw38_MetricTables_L9, ge_dec (L := L.length) (i := i) (by omega)]; rfl
  | succ m ih =>
    intro i n L h hL hn
    obtain ⟨n, rfl⟩ : ∃ q, n = q + 1 := ⟨n - 1, by omega⟩
    have hi : i < L.length := by omega
    rw [hotspotlaw38_MetricTables_L9, lt_dec hi, cond_true, idxN, show L[i]? = some L[i] by simp [hi], bindS, wrapN (by omega)]
    exact ih (i + 1) n _ (by simp; omega) (by simpa using hL) (by omega)

theorem tables_p (t : MetricTable) (a : Addr) (rate : Int) (s : Bool) (now : Int) (hw : wt t) (ha : wa a) : hotspotlaw38_MetricTables t a rate s now = some true := by
  unfold hotspotlaw38_MetricTables
  by_cases hl : t.Links.length ≤ 40
  · rw [decide_eq_false (by omega), cond_false]
    have htw : hotspotref38_Twin t = some t := by
      unfold hotspotref38_Twin
      rw [chk_d (by omega), bindS]
    obtain ⟨R, e, h1, h2, h3, h4⟩ := heard_rel hw ha rate s now (by omega)
    obtain ⟨O, o1, o2⟩ := of_rel hw ha now (by omega)
    obtain ⟨A, a1, a2, a3, a4⟩ := age_rel hw now (by omega)
    rw [htw, bindS, h1, bindS, h2, bindS, o1, bindS, o2, bindS, a1, bindS, a2, bindS, same_e' R h3, bindS]
    simp only [beq_self_eq_true, Bool.and_self, cond_true]
    rw [same_e' A.1 a3, bindS, bindS, cond_true, sameA_e _ a4, bindS, bindS]
    simp only [Bool.true_and, cond_true]
    rw [mcheck8, rcheck8 t hw]
    simp only [bindS, beq_self_eq_true]
    have b6 := bump6 R.Links.length 0 big R.Links (by omega) h3 (big_lt (by omega))
    have b9 := bump9 A.1.Links.length 0 big A.1.Links (by omega) a3 (big_lt (by omega))
    simp only [Int.natCast_zero] at b6 b9
    rw [b6, bindS, b9, bindS, cond_true, same_e' t (by omega)]
    rfl
  · rw [decide_eq_true (by omega)]; rfl

theorem runs_loop (L : List Hotspotlaw38_Told) (hL : L.length ≤ 100) (hw : ∀ x ∈ L, wa x.Peer) : ∀ (l : List Hotspotlaw38_Told) (i n : Nat) (t : MetricTable) (now : Int), L.drop i = l → l.length < n → VT t → wt t → 0 ≤ now → now ≤ i * 10000000 →
    hotspotlaw38_MetricRuns_L2 L n (t, t, now, (i : Int)) = some (Ex.go ()) ∨ hotspotlaw38_MetricRuns_L2 L n (t, t, now, (i : Int)) = some (Ex.ret true) := by
  intro l
  induction l with
  | nil =>
    intro i n t now h hn hv ht h0 h1
    obtain ⟨n, rfl⟩ : ∃ m, n = m + 1 := ⟨n - 1, by simp at hn; omega⟩
    rw [hotspotlaw38_MetricRuns_L2, ge_dec (drop_n h)]; exact .inl rfl
  | cons x l ih =>
    intro i n t now h hn hv ht hn0 hn1
    obtain ⟨n, rfl⟩ : ∃ m, n = m + 1 := ⟨n - 1, by simp at hn; omega⟩
    obtain ⟨h1, h2, h3⟩ := drop_c h
    simp only [List.length_cons] at hn
    have hx := hw x (List.mem_of_getElem? h1)
    rw [hotspotlaw38_MetricRuns_L2, lt_dec h3]
    simp only [cond_true, idxN, h1, bindS]
    by_cases hb : x.Wait < 0 ∨ 10000000 < x.Wait
    · rw [show (decide (x.Wait < 0) || decide (10000000 < x.Wait)) = true by simpa using hb, cond_true]
      exact .inr rfl
    · rw [show (decide (x.Wait < 0) || decide (10000000 < x.Wait)) = false by simp only [Bool.or_eq_false_iff, decide_eq_false_iff_not]; omega, cond_false]
      simp only [wrapI (i := now + x.Wait) (by omega) (by omega), wrapI (i := now + x.Wait + 5000000) (by omega) (by omega)]
      obtain ⟨R, e, g1, g2, g3, g4⟩ := heard_rel ht hx x.Rate x.Ok (now + x.Wait) (by have := hv.1; omega)
      rw [g1, bindS, g2, bindS]
      simp only [bne_self_eq_false, cond_false]
      rw [same_e' R g3, bindS, bindS]
      simp only [Bool.not_true, cond_false]
      have rest : ∀ T : MetricTable, VT T → wt T →
          (((metric_Of T x.Peer (now + x.Wait + 5000000)).bind fun x104 => ((hotspotref38_Of T x.Peer (now + x.Wait + 5000000)).bind fun x105 =>
            ((bif ((x104.1 != x105.1) || (x104.2 != x105.2)) then some true else ((metric_Check T).bind fun x106 => some (x106 != 0))).bind fun x107 =>
            bif x107 then some (Ex.ret false) else hotspotlaw38_MetricRuns_L2 L n (T, T, now + x.Wait, IntKind.wrap .i64 ((i : Int) + 1))))) = some (Ex.go ()) ∨
          ((metric_Of T x.Peer (now + x.Wait + 5000000)).bind fun x104 => ((hotspotref38_Of T x.Peer (now + x.Wait + 5000000)).bind fun x105 =>
            ((bif ((x104.1 != x105.1) || (x104.2 != x105.2)) then some true else ((metric_Check T).bind fun x106 => some (x106 != 0))).bind fun x107 =>
            bif x107 then some (Ex.ret false) else hotspotlaw38_MetricRuns_L2 L n (T, T, now + x.Wait, IntKind.wrap .i64 ((i : Int) + 1))))) = some (Ex.ret true)) := by
        intro T hT hTw
        obtain ⟨O, o1, o2⟩ := of_rel hTw hx (now + x.Wait + 5000000) (by have := hT.1; omega)
        rw [o1, bindS, o2, bindS]
        simp only [bne_self_eq_false, Bool.or_self, cond_false]
        rw [mcheck8, if_pos hT, bindS, bindS]
        simp only [bne_self_eq_false, cond_false]
        rw [wrapN (by omega)]
        exact ih (i + 1) n T (now + x.Wait) h2 (by omega) hT hTw (by omega) (by omega)
      by_cases he : e = 0
      · subst he
        obtain ⟨k1, k2⟩ := g4 rfl
        simp only [beq_self_eq_true, cond_true, bindS]
        exact rest R k1 k2
      · rw [show (e == 0) = false by simpa using he]
        simp only [cond_false, bindS]
        exact rest t hv ht

theorem runs_p (L : List Hotspotlaw38_Told) (hw : ∀ x ∈ L, wa x.Peer) : hotspotlaw38_MetricRuns L = some true := by
  unfold hotspotlaw38_MetricRuns
  by_cases hl : L.length ≤ 100
  · rw [decide_eq_false (by omega), cond_false]
    have := runs_loop L hl hw L 0 big MetricTable.z 0 rfl (big_lt (by omega)) ⟨by simp [MetricTable.z], trivial⟩ (by intro x hx; simp [MetricTable.z] at hx) (by omega) (by omega)
    simp only [Int.natCast_zero] at this
    rcases this with h | h <;> rw [h] <;> rfl
  · rw [decide_eq_true (by omega)]; rfl
end Go.AX.Z.TM

/-! (TMY) -/

set_option linter.unusedVariables false
namespace Go.AX.Z.TM
open Go.AX Go.Proofs

/-! ## Arguments, read -/

theorem ud5 : K.P.underlying 5 = some (.int .u8) := by kernel_rfl

def W_Addr (B : Nat) (x : Addr) : Prop := ((Lit.int .u8 x.a0).wf = true) ∧ ((Lit.int .u8 x.a1).wf = true) ∧ ((Lit.int .u8 x.a2).wf = true) ∧ ((Lit.int .u8 x.a3).wf = true) ∧ ((Lit.int .u8 x.a4).wf = true) ∧ ((Lit.int .u8 x.a5).wf = true)

theorem ud36 : K.P.underlying 36 = some (.array 6 5) := by kernel_rfl

theorem rd36 {B n : Nat} {l : List AV} (h : Ty K.P B n 36 l) : ∃ x : Addr, l = e_Addr x ∧ W_Addr B x := by
  obtain ⟨m, ls, rfl, h1, h2⟩ := ty_array ud36 h
  obtain ⟨vs, h3, h4, h5⟩ := ty_ints ud5 ls h2
  match vs, (h4.trans h1 : vs.length = 6) with
  | [a0, a1, a2, a3, a4, a5], _ => exact ⟨⟨a0, a1, a2, a3, a4, a5⟩, h3, h5 _ (by simp), h5 _ (by simp), h5 _ (by simp), h5 _ (by simp), h5 _ (by simp), h5 _ (by simp)⟩

theorem ud3 : K.P.underlying 3 = some (.int .i64) := by kernel_rfl

def W_MetricLink (B : Nat) (x : MetricLink) : Prop := (W_Addr B x.Peer) ∧ ((Lit.int .i64 x.Rate).wf = true) ∧ ((Lit.int .i64 x.Loss).wf = true) ∧ ((Lit.int .i64 x.Heard).wf = true)

theorem rd38 {B n : Nat} {l : List AV} (h : Ty K.P B n 38 l) : ∃ x : MetricLink, l = e_MetricLink x ∧ W_MetricLink B x := by
  obtain ⟨m, h⟩ := ty_struct Try.underlying38 h
  have h' : TyAll (Ty K.P B m) [36, 3, 3, 3] l := h
  obtain ⟨_, _, rfl, h0, _, _, rfl, h1, _, _, rfl, h2, _, _, rfl, h3, rfl⟩ := h'
  obtain ⟨v0, rfl, w0⟩ := rd36 h0
  obtain ⟨v1, rfl, w1⟩ := ty_int ud3 h1
  obtain ⟨v2, rfl, w2⟩ := ty_int ud3 h2
  obtain ⟨v3, rfl, w3⟩ := ty_int ud3 h3
  exact ⟨⟨v0, v1, v2, v3⟩, rfl, ⟨w0, w1, w2, w3⟩⟩

theorem ud31 : K.P.underlying 31 = some (.slice 38) := by kernel_rfl

theorem rs31 {B n : Nat} {x : AV} (h : Ty K.P B n 31 [x]) : ∃ l : (List MetricLink), x = S_MetricLink l ∧ l.length ≤ B ∧ ∀ z ∈ l, W_MetricLink B z := by
  obtain ⟨l, rfl, h1, h2⟩ := ty_slice_rows (W_MetricLink B) ud31 (fun _ _ h => rd38 h) h
  exact ⟨l, rfl, h1, h2⟩

def W_MetricTable (B : Nat) (x : MetricTable) : Prop := (x.Links.length ≤ B ∧ ∀ z ∈ x.Links, W_MetricLink B z)

theorem rd33 {B n : Nat} {l : List AV} (h : Ty K.P B n 33 l) : ∃ x : MetricTable, l = E_MetricTable x ∧ W_MetricTable B x := by
  obtain ⟨m, h⟩ := ty_struct Try.underlying33 h
  have h' : TyAll (Ty K.P B m) [31] l := h
  obtain ⟨_, _, rfl, h0, rfl⟩ := h'
  obtain ⟨s0, rfl⟩ : ∃ x, _ = [x] := ty_single h0 (by rw [ud31]; intro _ hh; cases hh) (by rw [ud31]; intro _ _ hh; cases hh)
  obtain ⟨v0, rfl, w0⟩ := rs31 h0
  exact ⟨⟨v0⟩, rfl, w0⟩

theorem ud4 : K.P.underlying 4 = some (.bool) := by kernel_rfl

def W_Hotspotlaw38_Told (B : Nat) (x : Hotspotlaw38_Told) : Prop := (W_Addr B x.Peer) ∧ ((Lit.int .i64 x.Rate).wf = true) ∧ ((Lit.int .i64 x.Wait).wf = true)

theorem rd47 {B n : Nat} {l : List AV} (h : Ty K.P B n 47 l) : ∃ x : Hotspotlaw38_Told, l = e_Hotspotlaw38_Told x ∧ W_Hotspotlaw38_Told B x := by
  obtain ⟨m, h⟩ := ty_struct Try.underlying47 h
  have h' : TyAll (Ty K.P B m) [36, 3, 4, 3] l := h
  obtain ⟨_, _, rfl, h0, _, _, rfl, h1, _, _, rfl, h2, _, _, rfl, h3, rfl⟩ := h'
  obtain ⟨v0, rfl, w0⟩ := rd36 h0
  obtain ⟨v1, rfl, w1⟩ := ty_int ud3 h1
  obtain ⟨v2, rfl⟩ := ty_bool ud4 h2
  obtain ⟨v3, rfl, w3⟩ := ty_int ud3 h3
  exact ⟨⟨v0, v1, v2, v3⟩, rfl, ⟨w0, w1, w3⟩⟩

theorem ud45 : K.P.underlying 45 = some (.slice 47) := by kernel_rfl

theorem rs45 {B n : Nat} {x : AV} (h : Ty K.P B n 45 [x]) : ∃ l : (List Hotspotlaw38_Told), x = S_Hotspotlaw38_Told l ∧ l.length ≤ B ∧ ∀ z ∈ l, W_Hotspotlaw38_Told B z := by
  obtain ⟨l, rfl, h1, h2⟩ := ty_slice_rows (W_Hotspotlaw38_Told B) ud45 (fun _ _ h => rd47 h) h
  exact ⟨l, rfl, h1, h2⟩

end Go.AX.Z.TM

/-! (TMV) -/

set_option linter.unusedVariables false
namespace Go.AX.Z.TM
open Go.AX Go.Proofs

theorem u8_wf {x : Int} (h : (Lit.int .u8 x).wf = true) : 0 ≤ x ∧ x < 256 := by
  simp only [Lit.wf, Bool.and_eq_true, decide_eq_true_eq] at h
  have h1 : IntKind.u8.min = 0 := rfl
  have h2 : IntKind.u8.max = 255 := rfl
  omega
theorem wa_w {B : Nat} {a : Addr} (h : W_Addr B a) : wa a := ⟨u8_wf h.1, u8_wf h.2.1, u8_wf h.2.2.1, u8_wf h.2.2.2.1, u8_wf h.2.2.2.2.1, u8_wf h.2.2.2.2.2⟩
theorem tables_w {B : Nat} {P Q : Prop} (t : MetricTable) (a : Addr) (rate : Int) (s : Bool) (now : Int) (hw : W_MetricTable B t) (ha : W_Addr B a) (_ : P) (_ : Q) : hotspotlaw38_MetricTables t a rate s now = some true :=
  tables_p t a rate s now (fun x hx => wa_w (hw.2 x hx).1) (wa_w ha)
theorem runs_w {B : Nat} (l : List Hotspotlaw38_Told) (hw : l.length ≤ B ∧ ∀ z ∈ l, W_Hotspotlaw38_Told B z) : hotspotlaw38_MetricRuns l = some true :=
  runs_p l (fun x hx => wa_w (hw.2 x hx).1)
end Go.AX.Z.TM

/-! (TMU) -/

/- How bulks bound what a reading holds. -/
namespace Go.Proofs.Ytlnpmlkhbnjgnaa.bulks
open Go.AX

theorem one_le {H : Type} (d : DataW H) : 1 ≤ Rows.uptoBulk d := by
  cases d with
  | lit l => cases l <;> simp [Rows.uptoBulk]
  | nil => simp [Rows.uptoBulk]
  | ptr d => simp [Rows.uptoBulk]
  | slice elems spare => simp [Rows.uptoBulk]
  | agg parts => simp [Rows.uptoBulk]
  | iface t d => simp [Rows.uptoBulk]
  | map entries => simp [Rows.uptoBulk]
  | held h => simp [Rows.uptoBulk]

theorem part_le {H : Type} {d : DataW H} {l : List (DataW H)} (h : d ∈ l) : Rows.uptoBulk d ≤ Rows.uptoBulkAll l := by
  induction l with
  | nil => cases h
  | cons x r ih =>
    simp only [Rows.uptoBulkAll]
    cases List.mem_cons.1 h with
    | inl e => subst e; omega
    | inr e => have := ih e; omega

theorem length_le {H : Type} (l : List (DataW H)) : l.length ≤ Rows.uptoBulkAll l := by
  induction l with
  | nil => simp [Rows.uptoBulkAll]
  | cons x r ih => have := one_le x; simp only [Rows.uptoBulkAll, List.length_cons]; omega

theorem bulk {H : Type} : Bulk (H := H) Rows.uptoBulk where
  ptr d := by simp [Rows.uptoBulk]
  elems es sp d h := by have := part_le h; simp only [Rows.uptoBulk]; omega
  len es sp := by have := length_le es; simp only [Rows.uptoBulk]; omega
  agg ds d h := by have := part_le h; simp only [Rows.uptoBulk]; omega
  str bs := by simp [Rows.uptoBulk]

theorem bound {H : Type} {l : List (DataW H)} (hk : Rows.uptoSmall H l = true) : Rows.uptoBulkAll l ≤ 1048576 := by
  have := of_decide_eq_true hk
  exact this

end Go.Proofs.Ytlnpmlkhbnjgnaa.bulks

/-! (TMTMetricRuns) -/

/- MetricRuns: the law returns true whatever its arguments. -/
namespace Go.Proofs.Ytlnpmlkhbnjgnaa.metricRuns
open Go.ChangeShapes Go.WideShapes Go.ChangeAt Go.RowKit Go.AX Go.AX.Z Go.AX.Z.TM

theorem own : ownKnob Try.prog.godebug = none := by kernel_rfl
theorem laid : laidOutB K.P = true := by kernel_rfl
theorem par : parB K.P Try.f8.params.toList = true := by kernel_rfl

theorem law (B : Nat) (xs : List AV) (h : TyArgs K.P B Try.f8.params.toList xs) : SndP K 8 xs (.v (.bool true)) := by
  have h' : TyArgs K.P B [45] xs := h
  obtain ⟨_, _, rfl, h0, rfl⟩ := h'
  obtain ⟨_, qp0⟩ := tyV_one ud45 h0
  obtain ⟨p0, rfl, wp0⟩ := rs45 qp0
  exact hotspotlaw38_MetricRuns_p p0 (runs_w p0 wp0)

set_option maxRecDepth 100000 in
theorem lifted (os : Os) (started : os.Started) (H : Type) (enc : TypeId × Value → H) :
    ReturnsInHanded {} Try.checked os 8 .any (Rows.metricRunsSpec.pre6 enc Try.prog Try.f8 Rows.metricRunsRow.domain false) (Rows.metricRunsSpec.post enc Try.prog Try.f8 false true false false) := by
  refine returnsInHanded_of_change (C := Try.checked) own started (by kernel_rfl) Try.func8
    (ChangeSpec.witness6 (enc := enc) (C := Try.checked) false ⟨#[], #[.slice none 0 0], []⟩ 8 (by kernel_rfl) (by kernel_rfl) (by kernel_rfl) (by kernel_rfl)) ?_
  intro W base args ds gs before hval hW hcnd _
  exact law_contract (C := K) (f := 8) ⟨Try.f8, Try.func8, rfl, by decide +kernel⟩ (fn := Try.f8) (tb := 4) (B := Rows.uptoBulkAll ds) (bk := Rows.uptoBulk) rfl laid par rfl Try.underlying4 (law _) rfl
    (fun ds hds => by match ds, hds with | [d1], _ => rfl) bulks.bulk hval hW (fun d hd => bulks.part_le hd)

theorem over : Rows.MetricRunsSaid :=
  OpenClaim.holds_of_wide 8 Try.f8 rfl rfl rfl rfl rfl rfl rfl ⟨rfl, rfl, rfl, rfl, rfl⟩ rfl rfl rfl rfl rfl (by kernel_rfl) Try.func8 (by kernel_rfl)
    (of_decide_eq_true (by kernel_rfl)) (by unfold Func.isWrapper; first | (rw [if_pos (by decide +kernel)]; kernel_rfl) | (rw [if_neg (by decide +kernel)]; exact ⟨rfl, rfl⟩))
    (fun os started H enc _ => lifted os started H enc)

end Go.Proofs.Ytlnpmlkhbnjgnaa.metricRuns
