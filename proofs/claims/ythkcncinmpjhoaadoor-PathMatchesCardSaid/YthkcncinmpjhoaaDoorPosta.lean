/- PathMatches: the law returns true whatever its arguments. -/
import Derived.Test.YthkcncinmpjhoaaDoorWalkb
import Derived.Test.YthkcncinmpjhoaaDoorRows
import Derived.WalkKit
import Derived.ProofKit
import Derived.OpenShut
import Derived.JoinedCond
import Derived.Deep.DeepHandedRow
import Derived.Lib.LaidTab
import Derived.Test.YthkcncinmpjhoaaDoorCards
import Derived.Test.YthkcncinmpjhoaaDoorTie
set_option linter.unusedVariables false
set_option linter.unusedSimpArgs false

/-! (TOA) -/

set_option linter.unusedVariables false
set_option linter.unusedSimpArgs false
set_option maxRecDepth 20000
namespace Go.AX.Z.TO
open Go.AX

def u8 (x : Int) : UInt8 := x.toNat.toUInt8
theorem cmp6 (a0 a1 a2 a3 a4 a5 b0 b1 b2 b3 b4 b5 : Int) : cmpL [a0, a1, a2, a3, a4, a5] [b0, b1, b2, b3, b4, b5] =
  if u8 a0 ≠ u8 b0 then (if u8 a0 < u8 b0 then -1 else 1) else if u8 a1 ≠ u8 b1 then (if u8 a1 < u8 b1 then -1 else 1) else if u8 a2 ≠ u8 b2 then (if u8 a2 < u8 b2 then -1 else 1)
  else if u8 a3 ≠ u8 b3 then (if u8 a3 < u8 b3 then -1 else 1) else if u8 a4 ≠ u8 b4 then (if u8 a4 < u8 b4 then -1 else 1) else if u8 a5 ≠ u8 b5 then (if u8 a5 < u8 b5 then -1 else 1) else 0 := by
 have e1 : bys [a0, a1, a2, a3, a4, a5] = ⟨#[u8 a0, u8 a1, u8 a2, u8 a3, u8 a4, u8 a5]⟩ := rfl
 have e2 : bys [b0, b1, b2, b3, b4, b5] = ⟨#[u8 b0, u8 b1, u8 b2, u8 b3, u8 b4, u8 b5]⟩ := rfl
 unfold cmpL
 rw [e1, e2]
 generalize u8 a0 = A0; generalize u8 a1 = A1; generalize u8 a2 = A2; generalize u8 a3 = A3; generalize u8 a4 = A4; generalize u8 a5 = A5
 generalize u8 b0 = B0; generalize u8 b1 = B1; generalize u8 b2 = B2; generalize u8 b3 = B3; generalize u8 b4 = B4; generalize u8 b5 = B5
 unfold Extern.BytealgCompare.cmp
 have er : List.range (min (ByteArray.mk #[A0, A1, A2, A3, A4, A5]).size (ByteArray.mk #[B0, B1, B2, B3, B4, B5]).size) = [0, 1, 2, 3, 4, 5] := rfl
 have es : (ByteArray.mk #[A0, A1, A2, A3, A4, A5]).size = (ByteArray.mk #[B0, B1, B2, B3, B4, B5]).size := rfl
 obtain ⟨X, hX⟩ : ∃ X, X = ByteArray.mk #[A0, A1, A2, A3, A4, A5] := ⟨_, rfl⟩
 obtain ⟨Y, hY⟩ : ∃ Y, Y = ByteArray.mk #[B0, B1, B2, B3, B4, B5] := ⟨_, rfl⟩
 have x0 : X[0]! = A0 := by rw [hX]; rfl
 have x1 : X[1]! = A1 := by rw [hX]; rfl
 have x2 : X[2]! = A2 := by rw [hX]; rfl
 have x3 : X[3]! = A3 := by rw [hX]; rfl
 have x4 : X[4]! = A4 := by rw [hX]; rfl
 have x5 : X[5]! = A5 := by rw [hX]; rfl
 have y0 : Y[0]! = B0 := by rw [hY]; rfl
 have y1 : Y[1]! = B1 := by rw [hY]; rfl
 have y2 : Y[2]! = B2 := by rw [hY]; rfl
 have y3 : Y[3]! = B3 := by rw [hY]; rfl
 have y4 : Y[4]! = B4 := by rw [hY]; rfl
 have y5 : Y[5]! = B5 := by rw [hY]; rfl
 rw [← hX, ← hY] at er es ⊢
 rw [er]
 clear er hX hY
 have sl : ¬ (X.size < Y.size) := by omega
 have sg : ¬ (Y.size < X.size) := by omega
 have ne : ∀ {p q : UInt8}, p ≠ q → (p != q) = true := fun h => by simpa using h
 by_cases h0 : A0 = B0
 ·
  subst h0
  by_cases h1 : A1 = B1
  ·
   subst h1
   by_cases h2 : A2 = B2
   ·
    subst h2
    by_cases h3 : A3 = B3
    ·
     subst h3
     by_cases h4 : A4 = B4
     ·
      subst h4
      by_cases h5 : A5 = B5
      ·
       subst h5
       simp only [List.find?_cons, x0, x1, x2, x3, x4, x5, y0, y1, y2, y3, y4, y5, bne_self_eq_false, List.find?_nil, ne_eq, not_true_eq_false, if_false, if_neg sl, gt_iff_lt, if_neg sg]
      ·
       simp only [List.find?_cons, x0, x1, x2, x3, x4, x5, y0, y1, y2, y3, y4, y5, bne_self_eq_false, ne h5, ne_eq, not_true_eq_false, if_false, h5, not_false_eq_true, if_true]
     ·
      simp only [List.find?_cons, x0, x1, x2, x3, x4, x5, y0, y1, y2, y3, y4, y5, bne_self_eq_false, ne h4, ne_eq, not_true_eq_false, if_false, h4, not_false_eq_true, if_true]
    ·
     simp only [List.find?_cons, x0, x1, x2, x3, x4, x5, y0, y1, y2, y3, y4, y5, bne_self_eq_false, ne h3, ne_eq, not_true_eq_false, if_false, h3, not_false_eq_true, if_true]
   ·
    simp only [List.find?_cons, x0, x1, x2, x3, x4, x5, y0, y1, y2, y3, y4, y5, bne_self_eq_false, ne h2, ne_eq, not_true_eq_false, if_false, h2, not_false_eq_true, if_true]
  ·
   simp only [List.find?_cons, x0, x1, x2, x3, x4, x5, y0, y1, y2, y3, y4, y5, bne_self_eq_false, ne h1, ne_eq, not_true_eq_false, if_false, h1, not_false_eq_true, if_true]
 ·
  simp only [List.find?_cons, x0, x1, x2, x3, x4, x5, y0, y1, y2, y3, y4, y5, bne_self_eq_false, ne h0, ne_eq, not_true_eq_false, if_false, h0, not_false_eq_true, if_true]

def K6 (x : A6vu) : Nat := (((((u8 x.a0).toNat * 256 + (u8 x.a1).toNat) * 256 + (u8 x.a2).toNat) * 256 + (u8 x.a3).toNat) * 256 + (u8 x.a4).toNat) * 256 + (u8 x.a5).toNat

def cm (a b : A6vu) : Int := cmpL [a.a0, a.a1, a.a2, a.a3, a.a4, a.a5] [b.a0, b.a1, b.a2, b.a3, b.a4, b.a5]
theorem compare_e (a b : A6vu) : address_Compare a b = some (cm a b) := rfl

theorem cm_k (a b : A6vu) : (cm a b < 0 ↔ K6 a < K6 b) ∧ (cm a b = 0 ↔ K6 a = K6 b) := by
 unfold cm
 rw [cmp6]
 unfold K6
 have lt : ∀ x : UInt8, x.toNat < 256 := fun x => x.toNat_lt
 have ex : ∀ x y : UInt8, x ≠ y ↔ x.toNat ≠ y.toNat := fun x y => not_congr UInt8.toNat_inj.symm
 have el : ∀ x y : UInt8, x < y ↔ x.toNat < y.toNat := fun x y => UInt8.lt_iff_toNat_lt
 simp only [ex, el]
 have p0 := lt (u8 a.a0); have p1 := lt (u8 a.a1); have p2 := lt (u8 a.a2); have p3 := lt (u8 a.a3); have p4 := lt (u8 a.a4); have p5 := lt (u8 a.a5)
 have q0 := lt (u8 b.a0); have q1 := lt (u8 b.a1); have q2 := lt (u8 b.a2); have q3 := lt (u8 b.a3); have q4 := lt (u8 b.a4); have q5 := lt (u8 b.a5)
 generalize (u8 a.a0).toNat = A0 at *; generalize (u8 a.a1).toNat = A1 at *; generalize (u8 a.a2).toNat = A2 at *; generalize (u8 a.a3).toNat = A3 at *; generalize (u8 a.a4).toNat = A4 at *; generalize (u8 a.a5).toNat = A5 at *
 generalize (u8 b.a0).toNat = B0 at *; generalize (u8 b.a1).toNat = B1 at *; generalize (u8 b.a2).toNat = B2 at *; generalize (u8 b.a3).toNat = B3 at *; generalize (u8 b.a4).toNat = B4 at *; generalize (u8 b.a5).toNat = B5 at *
 clear lt ex el
 repeat' split
 all_goals omega


def okA (x : A6vu) : Prop := (0 ≤ x.a0 ∧ x.a0 ≤ 255) ∧ (0 ≤ x.a1 ∧ x.a1 ≤ 255) ∧ (0 ≤ x.a2 ∧ x.a2 ≤ 255) ∧ (0 ≤ x.a3 ∧ x.a3 ≤ 255) ∧ (0 ≤ x.a4 ∧ x.a4 ≤ 255) ∧ (0 ≤ x.a5 ∧ x.a5 ≤ 255)
theorem u8n {x : Int} (h : 0 ≤ x ∧ x ≤ 255) : (u8 x).toNat = x.toNat := by
 unfold u8
 have : x.toNat < 256 := by omega
 rw [Nat.toUInt8_eq, UInt8.toNat_ofNat']
 exact Nat.mod_eq_of_lt this
theorem K6_e {x : A6vu} (h : okA x) : K6 x = ((((x.a0.toNat * 256 + x.a1.toNat) * 256 + x.a2.toNat) * 256 + x.a3.toNat) * 256 + x.a4.toNat) * 256 + x.a5.toNat := by
 obtain ⟨h0, h1, h2, h3, h4, h5⟩ := h
 unfold K6
 rw [u8n h0, u8n h1, u8n h2, u8n h3, u8n h4, u8n h5]
theorem K6_inj {a b : A6vu} (ha : okA a) (hb : okA b) : K6 a = K6 b ↔ a = b := by
 constructor
 ·
  intro h
  rw [K6_e ha, K6_e hb] at h
  obtain ⟨h0, h1, h2, h3, h4, h5⟩ := ha
  obtain ⟨g0, g1, g2, g3, g4, g5⟩ := hb
  obtain ⟨a0, a1, a2, a3, a4, a5⟩ := a
  obtain ⟨b0, b1, b2, b3, b4, b5⟩ := b
  simp only at *
  have dm : ∀ p q x y : Nat, x < 256 → y < 256 → p * 256 + x = q * 256 + y → p = q ∧ x = y := by intro p q x y _ _ _; omega
  have tn : ∀ {x y : Int}, 0 ≤ x ∧ x ≤ 255 → 0 ≤ y ∧ y ≤ 255 → x.toNat = y.toNat → x = y := by intro x y _ _ _; omega
  have lt : ∀ {x : Int}, 0 ≤ x ∧ x ≤ 255 → x.toNat < 256 := by intro x _; omega
  obtain ⟨h, e5⟩ := dm _ _ _ _ (lt h5) (lt g5) h
  obtain ⟨h, e4⟩ := dm _ _ _ _ (lt h4) (lt g4) h
  obtain ⟨h, e3⟩ := dm _ _ _ _ (lt h3) (lt g3) h
  obtain ⟨h, e2⟩ := dm _ _ _ _ (lt h2) (lt g2) h
  obtain ⟨h, e1⟩ := dm _ _ _ _ (lt h1) (lt g1) h
  have e5 := tn h5 g5 e5
  have e4 := tn h4 g4 e4
  have e3 := tn h3 g3 e3
  have e2 := tn h2 g2 e2
  have e1 := tn h1 g1 e1
  have e0 := tn h0 g0 h
  subst e0; subst e1; subst e2; subst e3; subst e4; subst e5
  rfl
 ·
  rintro rfl; rfl
theorem dl {p q x y : Nat} (hx : x < 256) (hy : y < 256) : p * 256 + x < q * 256 + y ↔ p < q ∨ (p = q ∧ x < y) := by omega
theorem de {p q x y : Nat} (hx : x < 256) (hy : y < 256) : p * 256 + x = q * 256 + y ↔ p = q ∧ x = y := by omega
theorem K6_lt {a0 a1 a2 a3 a4 a5 b0 b1 b2 b3 b4 b5 : Int} (ha : okA ⟨a0, a1, a2, a3, a4, a5⟩) (hb : okA ⟨b0, b1, b2, b3, b4, b5⟩) : K6 ⟨a0, a1, a2, a3, a4, a5⟩ < K6 ⟨b0, b1, b2, b3, b4, b5⟩ ↔
  (((((a0 < b0 ∨ a0 = b0 ∧ a1 < b1) ∨ (a0 = b0 ∧ a1 = b1) ∧ a2 < b2) ∨ ((a0 = b0 ∧ a1 = b1) ∧ a2 = b2) ∧ a3 < b3) ∨ (((a0 = b0 ∧ a1 = b1) ∧ a2 = b2) ∧ a3 = b3) ∧ a4 < b4) ∨ ((((a0 = b0 ∧ a1 = b1) ∧ a2 = b2) ∧ a3 = b3) ∧ a4 = b4) ∧ a5 < b5) := by
 rw [K6_e ha, K6_e hb]
 obtain ⟨h0, h1, h2, h3, h4, h5⟩ := ha
 obtain ⟨g0, g1, g2, g3, g4, g5⟩ := hb
 simp only at *
 have lt : ∀ {x : Int}, 0 ≤ x ∧ x ≤ 255 → x.toNat < 256 := by intro x _; omega
 have tl : ∀ {x y : Int}, 0 ≤ x ∧ x ≤ 255 → 0 ≤ y ∧ y ≤ 255 → (x.toNat < y.toNat ↔ x < y) := by intro x y _ _; omega
 have te : ∀ {x y : Int}, 0 ≤ x ∧ x ≤ 255 → 0 ≤ y ∧ y ≤ 255 → (x.toNat = y.toNat ↔ x = y) := by intro x y _ _; omega
 rw [dl (lt h5) (lt g5), dl (lt h4) (lt g4), dl (lt h3) (lt g3), dl (lt h2) (lt g2), dl (lt h1) (lt g1), de (lt h4) (lt g4), de (lt h3) (lt g3), de (lt h2) (lt g2), de (lt h1) (lt g1),
  tl h0 g0, tl h1 g1, tl h2 g2, tl h3 g3, tl h4 g4, tl h5 g5, te h0 g0, te h1 g1, te h2 g2, te h3 g3, te h4 g4]
theorem smaller_e {a b : A6vu} (ha : okA a) (hb : okA b) : hotspotref23_Smaller a b = some (decide (K6 a < K6 b)) := by
 obtain ⟨a0, a1, a2, a3, a4, a5⟩ := a
 obtain ⟨b0, b1, b2, b3, b4, b5⟩ := b
 have hk := K6_lt ha hb
 generalize K6 ⟨a0, a1, a2, a3, a4, a5⟩ = X at *
 generalize K6 ⟨b0, b1, b2, b3, b4, b5⟩ = Y at *
 clear ha hb
 unfold hotspotref23_Smaller
 obtain ⟨n, hn⟩ : ∃ n, big = n + 7 := ⟨big - 7, rfl⟩
 rw [hn]
 have w0 : IntKind.wrap .i64 ((0 : Int) + 1) = 1 := rfl
 have w1 : IntKind.wrap .i64 ((1 : Int) + 1) = 2 := rfl
 have w2 : IntKind.wrap .i64 ((2 : Int) + 1) = 3 := rfl
 have w3 : IntKind.wrap .i64 ((3 : Int) + 1) = 4 := rfl
 have w4 : IntKind.wrap .i64 ((4 : Int) + 1) = 5 := rfl
 have w5 : IntKind.wrap .i64 ((5 : Int) + 1) = 6 := rfl
 have st : ∀ (m : Nat) (i j : Int) (x y : Int), decide (i < 6) = true → idxA 6 [a0, a1, a2, a3, a4, a5] i = some x → idxA 6 [b0, b1, b2, b3, b4, b5] i = some y → IntKind.wrap .i64 (i + 1) = j →
   hotspotref23_Smaller_L2 ⟨a0, a1, a2, a3, a4, a5⟩ ⟨b0, b1, b2, b3, b4, b5⟩ (m + 1) i = if x = y then hotspotref23_Smaller_L2 ⟨a0, a1, a2, a3, a4, a5⟩ ⟨b0, b1, b2, b3, b4, b5⟩ m j else some (Ex.ret (decide (x < y))) := by
  intro m i j x y e1 e2 e3 e4
  rw [hotspotref23_Smaller_L2, e1, cond_true]
  simp only
  rw [e2, bindS, e3, bindS, e4]
  by_cases h : x = y
  ·
   rw [if_pos h, h, bne_self_eq_false, cond_false]
  ·
   rw [if_neg h, show (x != y) = true by simpa using h, cond_true]
 have i0 : ∀ c0 c1 c2 c3 c4 c5 : Int, idxA 6 [c0, c1, c2, c3, c4, c5] 0 = some c0 := fun _ _ _ _ _ _ => rfl
 have i1 : ∀ c0 c1 c2 c3 c4 c5 : Int, idxA 6 [c0, c1, c2, c3, c4, c5] 1 = some c1 := fun _ _ _ _ _ _ => rfl
 have i2 : ∀ c0 c1 c2 c3 c4 c5 : Int, idxA 6 [c0, c1, c2, c3, c4, c5] 2 = some c2 := fun _ _ _ _ _ _ => rfl
 have i3 : ∀ c0 c1 c2 c3 c4 c5 : Int, idxA 6 [c0, c1, c2, c3, c4, c5] 3 = some c3 := fun _ _ _ _ _ _ => rfl
 have i4 : ∀ c0 c1 c2 c3 c4 c5 : Int, idxA 6 [c0, c1, c2, c3, c4, c5] 4 = some c4 := fun _ _ _ _ _ _ => rfl
 have i5 : ∀ c0 c1 c2 c3 c4 c5 : Int, idxA 6 [c0, c1, c2, c3, c4, c5] 5 = some c5 := fun _ _ _ _ _ _ => rfl
 have s0 := st (n + 6) 0 1 a0 b0 (by decide) (i0 _ _ _ _ _ _) (i0 _ _ _ _ _ _) w0
 have s1 := st (n + 5) 1 2 a1 b1 (by decide) (i1 _ _ _ _ _ _) (i1 _ _ _ _ _ _) w1
 have s2 := st (n + 4) 2 3 a2 b2 (by decide) (i2 _ _ _ _ _ _) (i2 _ _ _ _ _ _) w2
 have s3 := st (n + 3) 3 4 a3 b3 (by decide) (i3 _ _ _ _ _ _) (i3 _ _ _ _ _ _) w3
 have s4 := st (n + 2) 4 5 a4 b4 (by decide) (i4 _ _ _ _ _ _) (i4 _ _ _ _ _ _) w4
 have s5 := st (n + 1) 5 6 a5 b5 (by decide) (i5 _ _ _ _ _ _) (i5 _ _ _ _ _ _) w5
 have s6 : hotspotref23_Smaller_L2 ⟨a0, a1, a2, a3, a4, a5⟩ ⟨b0, b1, b2, b3, b4, b5⟩ (n + 1) 6 = some (Ex.go ()) := by rw [hotspotref23_Smaller_L2, decide_eq_false (by decide)]; rfl
 clear hn st
 generalize hotspotref23_Smaller_L2 ⟨a0, a1, a2, a3, a4, a5⟩ ⟨b0, b1, b2, b3, b4, b5⟩ = F at *
 rw [s0, s1, s2, s3, s4, s5, s6]
 clear s0 s1 s2 s3 s4 s5 s6 i0 i1 i2 i3 i4 i5 w0 w1 w2 w3 w4 w5
 repeat' split
 all_goals (rw [bindS]; first | (rw [Ex.k_ret']; congr 1; refine decide_eq_decide.2 ?_; rw [hk]; omega) | (rw [Ex.k_go']; congr 1; symm; refine decide_eq_false ?_; rw [hk]; omega))
end Go.AX.Z.TO

/-! (TOB) -/

set_option linter.unusedVariables false
set_option linter.unusedSimpArgs false
set_option maxRecDepth 20000
namespace Go.AX.Z.TO
open Go.AX

def lowL : Nat → Int → List Int
 | 0, _ => []
 | k + 1, n => IntKind.wrap .u8 n :: lowL k (n.fdiv 256)
theorem lowL_len : ∀ (k : Nat) (n : Int), (lowL k n).length = k
 | 0, _ => rfl
 | k + 1, n => by rw [lowL, List.length_cons, lowL_len k]
theorem low_loop (m : Nat) (hm : m ≤ 100) : ∀ (k i n : Nat) (x : Int) (acc : List Int), i + k = m → k < n → acc.length + k ≤ 1000 → hotspotref39_low_L2 (m : Int) n (x, acc, (i : Int)) = some (acc ++ lowL k x) := by
 intro k
 induction k with
 | zero =>
  intro i n x acc h hn ha
  obtain ⟨n, rfl⟩ : ∃ q, n = q + 1 := ⟨n - 1, by omega⟩
  rw [hotspotref39_low_L2]
  simp only [decide_eq_false (show ¬ (i : Int) < (m : Int) by omega), cond_false, lowL, List.append_nil]
 | succ k ih =>
  intro i n x acc h hn ha
  obtain ⟨n, rfl⟩ : ∃ q, n = q + 1 := ⟨n - 1, by omega⟩
  rw [hotspotref39_low_L2]
  simp only [decide_eq_true (show (i : Int) < (m : Int) by omega), cond_true]
  rw [chk_d (by omega), bindS, wrapN (by omega), ih (i + 1) n _ _ (by omega) (by omega) (by simp; omega), lowL, List.append_assoc]
  rfl
theorem low_e (x : Int) (m : Nat) (hm : m ≤ 100) : hotspotref39_low x (m : Int) = some (lowL m x) := by
 unfold hotspotref39_low
 have := low_loop m hm m 0 big x [] (by omega) (big_lt (by omega)) (by simp; omega)
 simp only [Int.natCast_zero, List.nil_append] at this
 rw [this, bindS]
theorem low4 (x : Int) : hotspotref39_low x 4 = some (lowL 4 x) := low_e x 4 (by decide)
theorem low1 (x : Int) : hotspotref39_low x 1 = some (lowL 1 x) := low_e x 1 (by decide)
theorem low8 (x : Int) : hotspotref39_low x 8 = some (lowL 8 x) := low_e x 8 (by decide)

theorem shift (a : Int) (i : Nat) : (a.fdiv (2 ^ (8 * i))).fdiv 256 = a.fdiv (2 ^ (8 * (i + 1))) := by
 have h1 : (0 : Int) ≤ 2 ^ (8 * i) := Int.pow_nonneg (by decide)
 have h2 : (0 : Int) ≤ 2 ^ (8 * (i + 1)) := Int.pow_nonneg (by decide)
 rw [Int.fdiv_eq_ediv_of_nonneg _ h1, Int.fdiv_eq_ediv_of_nonneg _ (by decide : (0 : Int) ≤ 256), Int.fdiv_eq_ediv_of_nonneg _ h2, Int.ediv_ediv_of_nonneg h1, show 8 * (i + 1) = 8 * i + 8 by omega, Int.pow_add]
 rfl
theorem put_loop (a0 : Int) (m : Nat) (hm : m ≤ 8) : ∀ (k i n : Nat) (acc : List Int), i + k = m → k < n → acc.length + k ≤ 1000000 → path_put_L2 (m : Int) a0 n (acc, (i : Int)) = some (acc ++ lowL k (a0.fdiv (2 ^ (8 * i)))) := by
 intro k
 induction k with
 | zero =>
  intro i n acc h hn ha
  obtain ⟨n, rfl⟩ : ∃ q, n = q + 1 := ⟨n - 1, by omega⟩
  rw [path_put_L2]
  simp only [decide_eq_false (show ¬ (i : Int) < (m : Int) by omega), cond_false, lowL, List.append_nil]
 | succ k ih =>
  intro i n acc h hn ha
  obtain ⟨n, rfl⟩ : ∃ q, n = q + 1 := ⟨n - 1, by omega⟩
  have hw : IntKind.wrap .i64 (8 * (i : Int)) = ((8 * i : Nat) : Int) := by rw [wrapI (by omega) (by omega)]; omega
  rw [path_put_L2]
  simp only [decide_eq_true (show (i : Int) < (m : Int) by omega), cond_true, hw]
  rw [chk_d (by omega), bindS, chk_d (by omega), bindS, wrapN (by omega), ih (i + 1) n _ (by omega) (by omega) (by simp; omega), lowL, List.append_assoc, shift,
   show min (((8 * i : Nat) : Int)).toNat 64 = 8 * i by rw [Int.toNat_natCast]; omega]
  rfl
theorem put_e (x : Int) (m : Nat) (hm : m ≤ 8) (acc : List Int) (ha : acc.length ≤ 900000) : path_put x (m : Int) acc = some (acc ++ lowL m x) := by
 unfold path_put
 have := put_loop x m hm m 0 big acc (by omega) (big_lt (by omega)) (by omega)
 simp only [Int.natCast_zero, Nat.mul_zero, Int.pow_zero, Int.fdiv_one] at this
 rw [this, bindS]
theorem put4 (x : Int) (acc : List Int) (ha : acc.length ≤ 900000) : path_put x 4 acc = some (acc ++ lowL 4 x) := put_e x 4 (by decide) acc ha
theorem put8 (x : Int) (acc : List Int) (ha : acc.length ≤ 900000) : path_put x 8 acc = some (acc ++ lowL 8 x) := put_e x 8 (by decide) acc ha

def six (a : A6vu) : List Int := [a.a0, a.a1, a.a2, a.a3, a.a4, a.a5]
def reqL (o : A6vu) (s : Int) (d : A6vu) (k : Int) : List Int := (((([1] ++ six o) ++ lowL 4 s) ++ six d) ++ lowL 4 k) ++ lowL 1 0 ++ lowL 8 0
theorem asked_e (d o : A6vu) (k s : Int) : path_asked_bytes { Path_asked.z with dest := d, known := k, origin := o, seq := s } = some (reqL o s d k) := by
 unfold path_asked_bytes
 simp only
 rw [put4 _ _ (by simp), bindS, chk_d (by simp [lowL_len]), bindS, put4 _ _ (by simp [lowL_len]), bindS, chk_d (by simp [lowL_len]), bindS, put8 _ _ (by simp [lowL_len]), bindS]
 rfl
theorem request_e (d o : A6vu) (k s : Int) : hotspotref39_Request o s d k 0 0 = some (reqL o s d k) := by
 unfold hotspotref39_Request
 rw [low4, bindS, chk_d (by simp [lowL_len]), bindS, chk_d (by simp [lowL_len]), bindS, low4, bindS, chk_d (by simp [lowL_len]), bindS, low1, bindS, chk_d (by simp [lowL_len]), bindS, low8, bindS, chk_d (by simp [lowL_len]), bindS]
 rfl
theorem all_e : hotspotref39_All = some gv0 := rfl

def rtB (r : PathRoute) : List Int := six r.Dest ++ lowL 4 r.Seq
def failB (l : List PathRoute) : List Int := [3, IntKind.wrap .u8 (l.length : Int)] ++ l.flatMap rtB
theorem rtB_len (l : List PathRoute) : (l.flatMap rtB).length = 10 * l.length := by
 induction l with
 | nil => rfl
 | cons x l ih => rw [List.flatMap_cons, List.length_append, ih]; simp [rtB, six, lowL_len]; omega
def msgF (l : List PathRoute) : Sent := { Sent.z with Data := failB l, To := gv0 }
theorem failB_loop (L : List PathRoute) (a1 : Path_node) (hL : L.length ≤ 1000) : ∀ (l : List PathRoute) (i n : Nat) (acc : List Int), L.drop i = l → l.length < n → acc.length + 10 * l.length ≤ 20000 →
  path_node_fail_B_L3 L a1 n (acc, (i : Int)) = some (acc ++ l.flatMap rtB) := by
 intro l
 induction l with
 | nil =>
  intro i n acc h hn ha
  obtain ⟨n, rfl⟩ : ∃ q, n = q + 1 := ⟨n - 1, by simp at hn; omega⟩
  rw [path_node_fail_B_L3]
  simp only [ge_dec (drop_n h), cond_false, List.flatMap_nil, List.append_nil]
 | cons x l ih =>
  intro i n acc h hn ha
  obtain ⟨n, rfl⟩ : ∃ q, n = q + 1 := ⟨n - 1, by simp at hn; omega⟩
  obtain ⟨h1, h2, h3⟩ := drop_c h
  simp only [List.length_cons] at hn ha
  rw [path_node_fail_B_L3]
  simp only [lt_dec h3, cond_true, idxN, h1, bindS]
  rw [chk_d (by omega), bindS, put4 _ _ (by simp; omega), bindS, wrapN (by omega), ih (i + 1) n _ h2 (by omega) (by simp [lowL_len]; omega), List.flatMap_cons]
  simp only [rtB, six, List.append_assoc]
theorem fail_B_e (b : List PathRoute) (n : Path_node) (hb : b.length ≤ 1000) (ho : n.out.length ≤ 1000) : path_node_fail_B b n = some (n.out ++ [msgF b]) := by
 unfold path_node_fail_B
 have := failB_loop b n hb b 0 big [3, IntKind.wrap .u8 (b.length : Int)] rfl (big_lt (by omega)) (by simp; omega)
 simp only [Int.natCast_zero] at this
 rw [this, bindS]
 unfold path_node_send_2
 rw [chk_d (by omega), bindS, bindS, bindS]
 rfl
theorem failure_loop (L : List PathRoute) (hL : L.length ≤ 1000) : ∀ (l : List PathRoute) (i n : Nat) (acc : List Int), L.drop i = l → l.length < n → acc.length + 10 * l.length ≤ 20000 →
  hotspotref39_Failure_L2 L n (acc, (i : Int)) = some (acc ++ l.flatMap rtB) := by
 intro l
 induction l with
 | nil =>
  intro i n acc h hn ha
  obtain ⟨n, rfl⟩ : ∃ q, n = q + 1 := ⟨n - 1, by simp at hn; omega⟩
  rw [hotspotref39_Failure_L2]
  simp only [ge_dec (drop_n h), cond_false, List.flatMap_nil, List.append_nil]
 | cons x l ih =>
  intro i n acc h hn ha
  obtain ⟨n, rfl⟩ : ∃ q, n = q + 1 := ⟨n - 1, by simp at hn; omega⟩
  obtain ⟨h1, h2, h3⟩ := drop_c h
  simp only [List.length_cons] at hn ha
  rw [hotspotref39_Failure_L2]
  simp only [lt_dec h3, cond_true, idxN, h1, bindS]
  rw [chk_d (by omega), bindS, low4, bindS, chk_d (by rw [lowL_len]; omega), bindS, wrapN (by omega), ih (i + 1) n _ h2 (by omega) (by simp [lowL_len]; omega), List.flatMap_cons]
  simp only [rtB, six, List.append_assoc]
theorem failure_e (b : List PathRoute) (hb : b.length ≤ 1000) : hotspotref39_Failure b = some (failB b) := by
 unfold hotspotref39_Failure
 have := failure_loop b hb b 0 big [3, IntKind.wrap .u8 (b.length : Int)] rfl (big_lt (by omega)) (by simp; omega)
 simp only [Int.natCast_zero] at this
 rw [this, bindS]; rfl
end Go.AX.Z.TO

/-! (TOC) -/

set_option linter.unusedVariables false
set_option linter.unusedSimpArgs false
set_option maxRecDepth 20000
namespace Go.AX.Z.TO
open Go.AX

/-! ## States that are right -/

def okR (own : A6vu) (r : PathRoute) : Prop := r.Dest ≠ own ∧ (1 ≤ r.Seq ∧ r.Seq ≤ 2147483647) ∧
 (if r.Valid = true then r.Next ≠ own ∧ (1 ≤ r.Hops ∧ r.Hops ≤ 16) ∧ (1 ≤ r.Cost ∧ r.Cost ≤ 1099511627776) ∧ (1 ≤ r.Until ∧ r.Until ≤ 1099516627776) else r.Next = A6vu.z ∧ r.Hops = 0 ∧ r.Cost = 0 ∧ r.Until = 0)
instance (own : A6vu) (r : PathRoute) : Decidable (okR own r) := by unfold okR; infer_instance
def okU (own : A6vu) (x : PathWanted) : Prop := x.Dest ≠ own ∧ (1 ≤ x.Tries ∧ x.Tries ≤ 3) ∧ (1 ≤ x.Due ∧ x.Due ≤ 1099511727776)
instance (own : A6vu) (x : PathWanted) : Decidable (okU own x) := by unfold okU; infer_instance

theorem between_e (a b c : Int) : path_between a b c = some (decide (b ≤ a ∧ a ≤ c)) := by
 unfold path_between
 rw [Bool.decide_and]
theorem valid_e (r : PathRoute) (own : A6vu) : path_validRoute r own = some (decide (okR own r)) := by
 obtain ⟨rd, rs, rv, rn, rh, rc, ru⟩ := r
 unfold path_validRoute okR
 simp only [between_e, bindS]
 by_cases h1 : rd = own
 ·
  simp only [h1, decide_true, cond_true, bindS]
  simp
 ·
  by_cases h2 : 1 ≤ rs ∧ rs ≤ 2147483647
  ·
   simp only [decide_eq_false h1, cond_false, decide_eq_true h2, Bool.not_true, bindS]
   cases rv with
   | false =>
    simp only [Bool.not_false, cond_true]
    congr 1
    refine decide_eq_decide.2 ?_
    simp only [PathRoute.z, PathRoute.mk.injEq, true_and, h1, h2, ne_eq, not_false_eq_true]
    simp
   | true =>
    simp only [Bool.not_true, cond_false]
    by_cases h3 : rn = own
    ·
     simp [h3]
    ·
     by_cases h4 : 1 ≤ rh ∧ rh ≤ 16
     ·
      by_cases h5 : 1 ≤ rc ∧ rc ≤ 1099511627776
      ·
       by_cases h6 : 1 ≤ ru ∧ ru ≤ 1099516627776
       ·
        simp [h1, h2, h3, h4, h5, h6]
       ·
        simp [h1, h2, h3, h4, h5, h6]
      ·
       simp [h1, h2, h3, h4, h5]
     ·
      simp [h1, h2, h3, h4]
  ·
   simp only [decide_eq_false h1, cond_false, decide_eq_false h2, Bool.not_false, bindS, cond_true]
   congr 1
   symm
   exact decide_eq_false fun q => h2 q.2.1

def SrtR (own : A6vu) : Option Nat → List PathRoute → Prop
 | _, [] => True
 | p, x :: l => (okR own x ∧ ∀ k, p = some k → k < K6 x.Dest) ∧ SrtR own (some (K6 x.Dest)) l
def SrtW (own : A6vu) : Option Nat → List PathWanted → Prop
 | _, [] => True
 | p, x :: l => (okU own x ∧ ∀ k, p = some k → k < K6 x.Dest) ∧ SrtW own (some (K6 x.Dest)) l
def prR (L : List PathRoute) : Nat → Option Nat
 | 0 => none
 | j + 1 => (L[j]?).map fun y => K6 y.Dest
def prW (L : List PathWanted) : Nat → Option Nat
 | 0 => none
 | j + 1 => (L[j]?).map fun y => K6 y.Dest
theorem prR_s {L l : List PathRoute} {x : PathRoute} {i : Nat} (h : L[i]? = some x) : prR L (i + 1) = some (K6 x.Dest) := by simp [prR, h]
theorem prW_s {L l : List PathWanted} {x : PathWanted} {i : Nat} (h : L[i]? = some x) : prW L (i + 1) = some (K6 x.Dest) := by simp [prW, h]

theorem prevR (L : List PathRoute) (hA : ∀ x ∈ L, okA x.Dest) (hL : L.length ≤ 1000) {x : PathRoute} {i : Nat} (hi : L[i]? = some x) :
  ∃ b : Bool, (b = false ↔ ∀ k, prR L i = some k → k < K6 x.Dest) ∧ ((bif decide ((0 : Int) < (i : Int)) then ((idx L (IntKind.wrap .i64 ((i : Int) - 1))).bind fun x11 => ((address_Compare x11.Dest x.Dest).bind fun x12 => some (decide (0 ≤ x12)))) else some false) = some b) ∧
   ((bif decide ((0 : Int) < (i : Int)) then ((idx L (IntKind.wrap .i64 ((i : Int) - 1))).bind fun x23 => ((hotspotref23_Smaller x23.Dest x.Dest).bind fun x24 => some (!x24))) else some false) = some b) := by
 have hlt : i < L.length := (List.getElem?_eq_some_iff.1 hi).1
 cases i with
 | zero => exact ⟨false, by simp [prR], by simp, by simp⟩
 | succ j =>
  have e0 : decide ((0 : Int) < ((j + 1 : Nat) : Int)) = true := decide_eq_true (by omega)
  have e1 : IntKind.wrap .i64 (((j + 1 : Nat) : Int) - 1) = (j : Int) := by rw [show ((j + 1 : Nat) : Int) - 1 = (j : Int) by omega]; exact wrapI (by omega) (by omega)
  have e2 : L[j]? = some (L[j]'(by omega)) := List.getElem?_eq_getElem _
  have ax := hA x (List.mem_of_getElem? hi)
  have ay := hA _ (List.mem_of_getElem? e2)
  refine ⟨decide (0 ≤ cm (L[j]'(by omega)).Dest x.Dest), ?_, ?_, ?_⟩
  ·
   rw [prR_s (l := []) e2, decide_eq_false_iff_not]
   have := (cm_k (L[j]'(by omega)).Dest x.Dest).1
   constructor
   ·
    intro h k hk
    cases hk
    exact this.1 (by omega)
   ·
    intro h
    have := this.2 (h _ rfl)
    omega
  ·
   rw [e0, cond_true, e1, idxN, e2, bindS, compare_e, bindS]
  ·
   rw [e0, cond_true, e1, idxN, e2, bindS, smaller_e ay ax, bindS]
   congr 1
   have := (cm_k (L[j]'(by omega)).Dest x.Dest).1
   rw [← decide_not]
   refine decide_eq_decide.2 ?_
   rw [← this]; omega
theorem prevW (L : List PathWanted) (hA : ∀ x ∈ L, okA x.Dest) (hL : L.length ≤ 1000) {x : PathWanted} {i : Nat} (hi : L[i]? = some x) :
  ∃ b : Bool, (b = false ↔ ∀ k, prW L i = some k → k < K6 x.Dest) ∧ ((bif decide ((0 : Int) < (i : Int)) then ((idx L (IntKind.wrap .i64 ((i : Int) - 1))).bind fun x11 => ((address_Compare x11.Dest x.Dest).bind fun x12 => some (decide (0 ≤ x12)))) else some false) = some b) ∧
   ((bif decide ((0 : Int) < (i : Int)) then ((idx L (IntKind.wrap .i64 ((i : Int) - 1))).bind fun x23 => ((hotspotref23_Smaller x23.Dest x.Dest).bind fun x24 => some (!x24))) else some false) = some b) := by
 have hlt : i < L.length := (List.getElem?_eq_some_iff.1 hi).1
 cases i with
 | zero => exact ⟨false, by simp [prW], by simp, by simp⟩
 | succ j =>
  have e0 : decide ((0 : Int) < ((j + 1 : Nat) : Int)) = true := decide_eq_true (by omega)
  have e1 : IntKind.wrap .i64 (((j + 1 : Nat) : Int) - 1) = (j : Int) := by rw [show ((j + 1 : Nat) : Int) - 1 = (j : Int) by omega]; exact wrapI (by omega) (by omega)
  have e2 : L[j]? = some (L[j]'(by omega)) := List.getElem?_eq_getElem _
  have ax := hA x (List.mem_of_getElem? hi)
  have ay := hA _ (List.mem_of_getElem? e2)
  refine ⟨decide (0 ≤ cm (L[j]'(by omega)).Dest x.Dest), ?_, ?_, ?_⟩
  ·
   rw [prW_s (l := []) e2, decide_eq_false_iff_not]
   have := (cm_k (L[j]'(by omega)).Dest x.Dest).1
   constructor
   ·
    intro h k hk
    cases hk
    exact this.1 (by omega)
   ·
    intro h
    have := this.2 (h _ rfl)
    omega
  ·
   rw [e0, cond_true, e1, idxN, e2, bindS, compare_e, bindS]
  ·
   rw [e0, cond_true, e1, idxN, e2, bindS, smaller_e ay ax, bindS]
   congr 1
   have := (cm_k (L[j]'(by omega)).Dest x.Dest).1
   rw [← decide_not]
   refine decide_eq_decide.2 ?_
   rw [← this]; omega

/-- What the reference asks of a route, in its two parts. -/
theorem okR_ref (own : A6vu) (r : PathRoute) : okR own r ↔ (((decide (r.Dest = own)) || (decide (r.Seq < 1))) || (decide (2147483647 < r.Seq))) = false ∧
  ((!r.Valid) && ((((!decide (r.Next = A6vu.z)) || (r.Hops != 0)) || (r.Cost != 0)) || (r.Until != 0))) = false ∧
  (r.Valid && (((((((decide (r.Next = own)) || (decide (r.Hops < 1))) || (decide (16 < r.Hops))) || (decide (r.Cost < 1))) || (decide (1099511627776 < r.Cost))) || (decide (r.Until < 1))) || (decide (1099516627776 < r.Until)))) = false := by
 unfold okR
 simp only [Bool.or_eq_false_iff, Bool.and_eq_false_iff, decide_eq_false_iff_not, Bool.not_eq_false', bne_eq_false_iff_eq, decide_eq_true_eq]
 cases hv : r.Valid with
 | false => simp; exact ⟨fun ⟨a, ⟨b, c⟩, d, e, f, g⟩ => ⟨⟨⟨a, b⟩, c⟩, ⟨⟨d, e⟩, f⟩, g⟩, fun ⟨⟨⟨a, b⟩, c⟩, ⟨⟨d, e⟩, f⟩, g⟩ => ⟨a, ⟨b, c⟩, d, e, f, g⟩⟩
 | true => simp; exact ⟨fun ⟨a, ⟨b, c⟩, d, ⟨e, f⟩, ⟨g, h⟩, i, j⟩ => ⟨⟨⟨a, b⟩, c⟩, ⟨⟨⟨⟨⟨d, e⟩, f⟩, g⟩, h⟩, i⟩, j⟩, fun ⟨⟨⟨a, b⟩, c⟩, ⟨⟨⟨⟨⟨d, e⟩, f⟩, g⟩, h⟩, i⟩, j⟩ => ⟨a, ⟨b, c⟩, d, ⟨e, f⟩, ⟨g, h⟩, i, j⟩⟩

theorem chkR (a0 : Paths) (hL : a0.Routes.length ≤ 1000) (hA : ∀ x ∈ a0.Routes, okA x.Dest) : ∀ (l : List PathRoute) (i n : Nat), a0.Routes.drop i = l → l.length < n →
  ∃ o, path_Check_L2 a0 n (i : Int) = some o ∧ hotspotref39_Check_L2 a0 n (i : Int) = some o ∧ (o = Ex.ret 8 ∨ o = Ex.go ()) ∧ (o = Ex.go () ↔ SrtR a0.Own (prR a0.Routes i) l) := by
 intro l
 induction l with
 | nil =>
  intro i n h hn
  obtain ⟨n, rfl⟩ : ∃ m, n = m + 1 := ⟨n - 1, by simp at hn; omega⟩
  rw [path_Check_L2, hotspotref39_Check_L2, ge_dec (drop_n h)]
  exact ⟨_, rfl, rfl, .inr rfl, by simp [SrtR]⟩
 | cons x l ih =>
  intro i n h hn
  obtain ⟨n, rfl⟩ : ∃ m, n = m + 1 := ⟨n - 1, by simp at hn; omega⟩
  obtain ⟨h1, h2, h3⟩ := drop_c h
  simp only [List.length_cons] at hn
  obtain ⟨b, b1, b2, b3⟩ := prevR a0.Routes hA hL h1
  obtain ⟨o, o1, o2, o3, o4⟩ := ih (i + 1) n h2 (by omega)
  rw [prR_s (l := l) h1] at o4
  have hk := okR_ref a0.Own x
  rw [path_Check_L2, hotspotref39_Check_L2, lt_dec h3]
  simp only [cond_true, idxN, h1, bindS, valid_e, b2, b3]
  by_cases hv : okR a0.Own x
  ·
   obtain ⟨k1, k2, k3⟩ := hk.1 hv
   rw [decide_eq_true hv, k1, k2, k3]
   simp only [Bool.not_true, cond_false, bindS]
   cases b with
   | true =>
    refine ⟨_, rfl, rfl, .inl rfl, ?_⟩
    constructor
    ·
     intro q; cases q
    ·
     rintro ⟨⟨_, q⟩, _⟩; exact absurd (b1.2 q) (by decide)
   | false =>
    rw [wrapN (by omega)]
    refine ⟨o, o1, o2, o3, ?_⟩
    rw [o4]
    constructor
    ·
     intro q; exact ⟨⟨hv, b1.1 rfl⟩, q⟩
    ·
     intro q; exact q.2
  ·
   rw [decide_eq_false hv]
   simp only [Bool.not_false, cond_true, bindS]
   refine ⟨Ex.ret 8, rfl, ?_, .inl rfl, ?_⟩
   ·
    cases hc1 : (((decide (x.Dest = a0.Own)) || (decide (x.Seq < 1))) || (decide (2147483647 < x.Seq))) with
    | true => rfl
    | false =>
     simp only [cond_false, bindS]
     cases b with
     | true => rfl
     | false =>
      simp only [cond_false]
      cases hc2 : ((!x.Valid) && ((((!decide (x.Next = A6vu.z)) || (x.Hops != 0)) || (x.Cost != 0)) || (x.Until != 0))) with
      | true => rfl
      | false =>
       simp only [cond_false]
       cases hc3 : (x.Valid && (((((((decide (x.Next = a0.Own)) || (decide (x.Hops < 1))) || (decide (16 < x.Hops))) || (decide (x.Cost < 1))) || (decide (1099511627776 < x.Cost))) || (decide (x.Until < 1))) || (decide (1099516627776 < x.Until)))) with
       | true => rfl
       | false => exact absurd (hk.2 ⟨hc1, hc2, hc3⟩) hv
   ·
    constructor
    ·
     intro q; cases q
    ·
     rintro ⟨⟨q, _⟩, _⟩; exact absurd q hv
theorem chkW (a0 : Paths) (hL : a0.Wanted.length ≤ 1000) (hA : ∀ x ∈ a0.Wanted, okA x.Dest) : ∀ (l : List PathWanted) (i n : Nat), a0.Wanted.drop i = l → l.length < n →
  ∃ o, path_Check_L6 a0 n (i : Int) = some o ∧ hotspotref39_Check_L5 a0 n (i : Int) = some o ∧ (o = Ex.ret 8 ∨ o = Ex.go ()) ∧ (o = Ex.go () ↔ SrtW a0.Own (prW a0.Wanted i) l) := by
 intro l
 induction l with
 | nil =>
  intro i n h hn
  obtain ⟨n, rfl⟩ : ∃ m, n = m + 1 := ⟨n - 1, by simp at hn; omega⟩
  rw [path_Check_L6, hotspotref39_Check_L5, ge_dec (drop_n h)]
  exact ⟨_, rfl, rfl, .inr rfl, by simp [SrtW]⟩
 | cons x l ih =>
  intro i n h hn
  obtain ⟨n, rfl⟩ : ∃ m, n = m + 1 := ⟨n - 1, by simp at hn; omega⟩
  obtain ⟨h1, h2, h3⟩ := drop_c h
  simp only [List.length_cons] at hn
  obtain ⟨b, b1, b2, b3⟩ := prevW a0.Wanted hA hL h1
  obtain ⟨o, o1, o2, o3, o4⟩ := ih (i + 1) n h2 (by omega)
  rw [prW_s (l := l) h1] at o4
  rw [path_Check_L6, hotspotref39_Check_L5, lt_dec h3]
  simp only [cond_true, idxN, h1, bindS, between_e, b2, b3]
  have e1 : ((bif (bif decide (x.Dest = a0.Own) then true else !decide (1 ≤ x.Tries ∧ x.Tries ≤ 3)) then true else !decide (1 ≤ x.Due ∧ x.Due ≤ 1099511727776)) : Bool) = !decide (okU a0.Own x) := by
   unfold okU
   by_cases q1 : x.Dest = a0.Own <;> by_cases q2 : 1 ≤ x.Tries ∧ x.Tries ≤ 3 <;> by_cases q3 : 1 ≤ x.Due ∧ x.Due ≤ 1099511727776 <;> simp [q1, q2, q3]
  have e2 : (((((decide (x.Dest = a0.Own)) || (decide (x.Tries < 1))) || (decide (3 < x.Tries))) || (decide (x.Due < 1))) || (decide (1099511727776 < x.Due))) = !decide (okU a0.Own x) := by
   rw [Bool.eq_iff_iff]
   simp only [Bool.or_eq_true, decide_eq_true_eq, Bool.not_eq_true', decide_eq_false_iff_not]
   unfold okU
   constructor
   ·
    intro q ⟨w1, w2, w3⟩
    rcases q with (((q | q) | q) | q) | q
    ·
     exact w1 q
    all_goals omega
   ·
    intro q
    by_cases q1 : x.Dest = a0.Own
    ·
     simp [q1]
    ·
     have : ¬ ((1 ≤ x.Tries ∧ x.Tries ≤ 3) ∧ 1 ≤ x.Due ∧ x.Due ≤ 1099511727776) := fun w => q ⟨q1, w⟩
     omega
  have s1 : ∀ (c : Bool) (p q : Bool), ((bif c then some p else some q) : Option Bool) = some (bif c then p else q) := by intro c p q; cases c <;> rfl
  simp only [s1, bindS, e1, e2]
  by_cases hv : okU a0.Own x
  ·
   rw [decide_eq_true hv]
   simp only [Bool.not_true, cond_false, bindS]
   cases b with
   | true =>
    refine ⟨_, rfl, rfl, .inl rfl, ?_⟩
    constructor
    ·
     intro q; cases q
    ·
     rintro ⟨⟨_, q⟩, _⟩; exact absurd (b1.2 q) (by decide)
   | false =>
    rw [wrapN (by omega)]
    refine ⟨o, o1, o2, o3, ?_⟩
    rw [o4]
    constructor
    ·
     intro q; exact ⟨⟨hv, b1.1 rfl⟩, q⟩
    ·
     intro q; exact q.2
  ·
   rw [decide_eq_false hv]
   simp only [Bool.not_false, cond_true, bindS]
   refine ⟨Ex.ret 8, rfl, rfl, .inl rfl, ?_⟩
   constructor
   ·
    intro q; cases q
   ·
    rintro ⟨⟨q, _⟩, _⟩; exact absurd q hv

/-- Addresses are bytes. -/
structure Byt (a0 : Paths) : Prop where
 own : okA a0.Own
 R : ∀ x ∈ a0.Routes, okA x.Dest
 W : ∀ x ∈ a0.Wanted, okA x.Dest
 rl : a0.Routes.length ≤ 40
 wl : a0.Wanted.length ≤ 40
def OkS (a0 : Paths) : Prop := (0 ≤ a0.Seq ∧ a0.Seq ≤ 2147483647) ∧ a0.Routes.length ≤ 32 ∧ a0.Wanted.length ≤ 32 ∧ SrtR a0.Own none a0.Routes ∧ SrtW a0.Own none a0.Wanted
theorem check_e {a0 : Paths} (h : Byt a0) : ∃ e, path_Check a0 = some e ∧ hotspotref39_Check a0 = some e ∧ (e = 0 ∨ e = 8) ∧ (e = 0 ↔ OkS a0) := by
 obtain ⟨o, o1, o2, o3, o4⟩ := chkR a0 (by have := h.rl; omega) h.R a0.Routes 0 big rfl (big_lt (by have := h.rl; omega))
 obtain ⟨p, p1, p2, p3, p4⟩ := chkW a0 (by have := h.wl; omega) h.W a0.Wanted 0 big rfl (big_lt (by have := h.wl; omega))
 simp only [Int.natCast_zero] at o1 o2 p1 p2
 unfold path_Check hotspotref39_Check OkS
 rw [between_e, bindS, o1, o2, p1, p2]
 have e1 : (((!decide (0 ≤ a0.Seq ∧ a0.Seq ≤ 2147483647)) || (decide (32 < (a0.Routes.length : Int)))) || (decide (32 < (a0.Wanted.length : Int)))) = !decide ((0 ≤ a0.Seq ∧ a0.Seq ≤ 2147483647) ∧ a0.Routes.length ≤ 32 ∧ a0.Wanted.length ≤ 32) := by
  rw [Bool.eq_iff_iff]
  simp only [Bool.or_eq_true, decide_eq_true_eq, Bool.not_eq_true', decide_eq_false_iff_not]
  omega
 have e2 : ((((decide (a0.Seq < 0)) || (decide (2147483647 < a0.Seq))) || (decide (32 < (a0.Routes.length : Int)))) || (decide (32 < (a0.Wanted.length : Int)))) = !decide ((0 ≤ a0.Seq ∧ a0.Seq ≤ 2147483647) ∧ a0.Routes.length ≤ 32 ∧ a0.Wanted.length ≤ 32) := by
  rw [Bool.eq_iff_iff]
  simp only [Bool.or_eq_true, decide_eq_true_eq, Bool.not_eq_true', decide_eq_false_iff_not]
  omega
 rw [e1, e2]
 by_cases q : (0 ≤ a0.Seq ∧ a0.Seq ≤ 2147483647) ∧ a0.Routes.length ≤ 32 ∧ a0.Wanted.length ≤ 32
 ·
  rw [decide_eq_true q]
  simp only [Bool.not_true, cond_false, bindS]
  rcases o3 with rfl | rfl
  ·
   refine ⟨8, rfl, rfl, .inr rfl, ?_⟩
   constructor
   ·
    intro w; cases w
   ·
    rintro ⟨_, _, _, w, _⟩; exact absurd (o4.2 w) (by intro w; cases w)
  ·
   simp only [Ex.k_go', bindS]
   rcases p3 with rfl | rfl
   ·
    refine ⟨8, rfl, rfl, .inr rfl, ?_⟩
    constructor
    ·
     intro w; cases w
    ·
     rintro ⟨_, _, _, _, w⟩; exact absurd (p4.2 w) (by intro w; cases w)
   ·
    exact ⟨0, rfl, rfl, .inl rfl, ⟨fun _ => ⟨q.1, q.2.1, q.2.2, o4.1 rfl, p4.1 rfl⟩, fun _ => rfl⟩⟩
 ·
  rw [decide_eq_false q]
  refine ⟨8, rfl, rfl, .inr rfl, ?_⟩
  constructor
  ·
   intro w; cases w
  ·
   rintro ⟨w1, w2, w3, _⟩; exact absurd ⟨w1, w2, w3⟩ q
end Go.AX.Z.TO

/-! (TOE) -/

set_option linter.unusedVariables false
set_option linter.unusedSimpArgs false
set_option maxRecDepth 20000
namespace Go.AX.Z.TO
open Go.AX

theorem idx_mid {α : Type} (P l : List α) (x : α) : idx (P ++ x :: l) (P.length : Int) = some x := by rw [idxN]; simp
theorem set_mid {α : Type} (P l : List α) (x y : α) : (P ++ x :: l).set ((P.length : Int)).toNat y = P ++ y :: l := by simp
def goneR (r : PathRoute) : PathRoute := { PathRoute.z with Dest := r.Dest, Seq := (if 2147483647 < IntKind.wrap .i64 (r.Seq + 1) then 2147483647 else IntKind.wrap .i64 (r.Seq + 1)) }
theorem goneR_e (r : PathRoute) : hotspotref39_gone r = some (goneR r) := rfl
def expR (t : Int) (r : PathRoute) : PathRoute := bif r.Valid && decide (r.Until ≤ t) then goneR r else r
theorem spoil_mid (P l : List PathRoute) (x : PathRoute) : path_spoil (P.length : Int) (P ++ x :: l) = some (P ++ goneR x :: l) := by
 unfold path_spoil
 rw [idx_mid, bindS, set_mid]; rfl

theorem begun_loop (X : List PathRoute) (t : Int) (hX : X.length ≤ 1000) : ∀ (l P : List PathRoute) (n : Nat), P.length + l.length = X.length → l.length < n →
  path_begun_L4 X t n (P ++ l, (P.length : Int)) = some (P ++ l.map (expR t)) := by
 intro l
 induction l with
 | nil =>
  intro P n h hn
  obtain ⟨n, rfl⟩ : ∃ m, n = m + 1 := ⟨n - 1, by simp at hn; omega⟩
  simp only [List.length_nil] at h
  rw [path_begun_L4, ge_dec (by omega), cond_false]; rfl
 | cons x l ih =>
  intro P n h hn
  obtain ⟨n, rfl⟩ : ∃ m, n = m + 1 := ⟨n - 1, by simp at hn; omega⟩
  simp only [List.length_cons] at h hn
  rw [path_begun_L4, lt_dec (by omega), cond_true]
  simp only
  rw [idx_mid, bindS, spoil_mid, bindS, chk_d (by simp), bindS, wrapN (by omega)]
  have e1 := ih (P ++ [x]) n (by simp; omega) (by omega)
  have e2 := ih (P ++ [goneR x]) n (by simp; omega) (by omega)
  rw [List.append_assoc, List.append_assoc, List.singleton_append, List.singleton_append, List.length_append, List.length_singleton] at e1 e2
  rw [e1, e2, List.map_cons]
  unfold expR
  cases (x.Valid && decide (x.Until ≤ t)) <;> rfl
theorem before_loop (t : Int) : ∀ (l P : List PathRoute) (n : Nat), P.length + l.length ≤ 1000 → l.length < n →
  hotspotref39_before_L3 t n (P ++ l, (P.length : Int)) = some (P ++ l.map (expR t)) := by
 intro l
 induction l with
 | nil =>
  intro P n h hn
  obtain ⟨n, rfl⟩ : ∃ m, n = m + 1 := ⟨n - 1, by simp at hn; omega⟩
  rw [hotspotref39_before_L3, ge_dec (by simp), cond_false]; rfl
 | cons x l ih =>
  intro P n h hn
  obtain ⟨n, rfl⟩ : ∃ m, n = m + 1 := ⟨n - 1, by simp at hn; omega⟩
  simp only [List.length_cons] at h hn
  rw [hotspotref39_before_L3, lt_dec (by simp), cond_true]
  simp only
  rw [idx_mid, bindS, goneR_e, bindS, set_mid, wrapN (by omega)]
  have e1 := ih (P ++ [x]) n (by simp; omega) (by omega)
  have e2 := ih (P ++ [goneR x]) n (by simp; omega) (by omega)
  rw [List.append_assoc, List.append_assoc, List.singleton_append, List.singleton_append, List.length_append, List.length_singleton] at e1 e2
  rw [e1, e2, List.map_cons]
  unfold expR
  cases (x.Valid && decide (x.Until ≤ t)) <;> rfl

theorem twin_e {a0 : Paths} (h : Byt a0) : hotspotref39_Twin a0 = some a0 := by
 unfold hotspotref39_Twin
 have := h.rl; have := h.wl
 rw [chk_d (by omega), bindS, chk_d (by omega), bindS]

theorem begun_e {a0 : Paths} (h : Byt a0) (t : Int) :
  (OkS a0 ∧ (0 ≤ t ∧ t ≤ 1099511627776) ∧ path_begun a0 t = some (a0.Routes.map (expR t), a0.Wanted) ∧ hotspotref39_before a0 t = some ({ a0 with Routes := a0.Routes.map (expR t) }, 0)) ∨
  (path_begun a0 t = none ∧ ∃ e, (e = 8 ∨ e = 2) ∧ path_begun_2 a0 t = some e ∧ hotspotref39_before a0 t = some (Paths.z, e)) := by
 obtain ⟨e, e1, e2, e3, e4⟩ := check_e h
 have := h.rl; have := h.wl
 unfold path_begun path_begun_2 hotspotref39_before
 rw [e1, e2]
 simp only [bindS, between_e]
 by_cases he : e = 0
 ·
  subst he
  rw [show ((0 : Int) != 0) = false from rfl]
  simp only [cond_false]
  by_cases ht : 0 ≤ t ∧ t ≤ 1099511627776
  ·
   left
   refine ⟨e4.1 rfl, ht, ?_, ?_⟩
   ·
    rw [decide_eq_true ht]
    simp only [Bool.not_true, cond_false]
    unfold slices_Clone_api_PathRoute_api_PathRoute slices_Clone_api_PathWanted_api_PathWanted
    rw [chk_d (by omega), bindS, bindS, chk_d (by omega), bindS, bindS]
    have := begun_loop a0.Routes t (by omega) a0.Routes [] big (by simp) (big_lt (by omega))
    simp only [List.nil_append, List.length_nil, Int.natCast_zero] at this
    rw [this, bindS]
   ·
    rw [decide_eq_false (show ¬ t < 0 by omega), decide_eq_false (show ¬ 1099511627776 < t by omega), Bool.or_self, cond_false, twin_e h, bindS]
    have := before_loop t a0.Routes [] big (by simp; omega) (big_lt (by omega))
    simp only [List.nil_append, List.length_nil, Int.natCast_zero] at this
    rw [this, bindS]
  ·
   right
   rw [decide_eq_false ht]
   refine ⟨rfl, 2, .inr rfl, rfl, ?_⟩
   have : (decide (t < 0) || decide (1099511627776 < t)) = true := by simp; omega
   rw [this]; rfl
 ·
  right
  have : e = 8 := e3.resolve_left he
  subst this
  exact ⟨rfl, 8, .inl rfl, rfl, rfl⟩

theorem srtR_pw : ∀ {l : List PathRoute} {p : Option Nat} {o : A6vu}, SrtR o p l → (l.Pairwise fun x y => K6 x.Dest < K6 y.Dest) ∧ ∀ x ∈ l, okR o x ∧ ∀ k, p = some k → k < K6 x.Dest
 | [], _, _, _ => ⟨.nil, by simp⟩
 | x :: l, p, o, h => by
  obtain ⟨h1, h2⟩ := srtR_pw h.2
  refine ⟨List.pairwise_cons.2 ⟨fun y hy => (h2 y hy).2 _ rfl, h1⟩, fun y hy => ?_⟩
  rcases List.mem_cons.1 hy with rfl | hy
  ·
   exact h.1
  ·
   refine ⟨(h2 y hy).1, fun k hk => ?_⟩
   have := (h2 y hy).2 _ rfl
   have := h.1.2 k hk
   omega
theorem srtW_pw : ∀ {l : List PathWanted} {p : Option Nat} {o : A6vu}, SrtW o p l → (l.Pairwise fun x y => K6 x.Dest < K6 y.Dest) ∧ ∀ x ∈ l, okU o x ∧ ∀ k, p = some k → k < K6 x.Dest
 | [], _, _, _ => ⟨.nil, by simp⟩
 | x :: l, p, o, h => by
  obtain ⟨h1, h2⟩ := srtW_pw h.2
  refine ⟨List.pairwise_cons.2 ⟨fun y hy => (h2 y hy).2 _ rfl, h1⟩, fun y hy => ?_⟩
  rcases List.mem_cons.1 hy with rfl | hy
  ·
   exact h.1
  ·
   refine ⟨(h2 y hy).1, fun k hk => ?_⟩
   have := (h2 y hy).2 _ rfl
   have := h.1.2 k hk
   omega
theorem expR_D (t : Int) (r : PathRoute) : (expR t r).Dest = r.Dest := by
 unfold expR
 cases (r.Valid && decide (r.Until ≤ t)) <;> rfl

structure Hnd (o : A6vu) (R : List PathRoute) (W : List PathWanted) : Prop where
 oo : okA o
 Ra : ∀ x ∈ R, okA x.Dest
 Wa : ∀ x ∈ W, okA x.Dest
 Rp : R.Pairwise fun x y => K6 x.Dest < K6 y.Dest
 Wp : W.Pairwise fun x y => K6 x.Dest < K6 y.Dest
 Wk : ∀ x ∈ W, okU o x
 rl : R.length ≤ 32
 wl : W.length ≤ 32
theorem hnd {a0 : Paths} (h : Byt a0) (k : OkS a0) (t : Int) : Hnd a0.Own (a0.Routes.map (expR t)) a0.Wanted where
 oo := h.own
 Ra := by
  intro x hx
  obtain ⟨y, hy, rfl⟩ := List.mem_map.1 hx
  rw [expR_D]; exact h.R y hy
 Wa := h.W
 Rp := by
  rw [List.pairwise_map]
  simp only [expR_D]
  exact (srtR_pw k.2.2.2.1).1
 Wp := (srtW_pw k.2.2.2.2).1
 Wk := fun x hx => ((srtW_pw k.2.2.2.2).2 x hx).1
 rl := by rw [List.length_map]; exact k.2.1
 wl := k.2.2.1
end Go.AX.Z.TO

/-! (TOL) -/

set_option linter.unusedVariables false
set_option linter.unusedSimpArgs false
set_option maxRecDepth 20000
namespace Go.AX.Z.TO
open Go.AX

theorem half_e (i k : Nat) (h : i + k < 1000000) : IntKind.wrap .i64 ((IntKind.wrap .u64 (IntKind.wrap .i64 ((i : Int) + (k : Int)))).fdiv (2 ^ (min 1 64))) = (((i + k) / 2 : Nat) : Int) := by
 have e1 : IntKind.wrap .i64 ((i : Int) + (k : Int)) = (i : Int) + (k : Int) := wrapI (by omega) (by omega)
 have e2 : IntKind.wrap .u64 ((i : Int) + (k : Int)) = (i : Int) + (k : Int) := by
  show ((i : Int) + (k : Int)) % 18446744073709551616 = _
  omega
 rw [e1, e2, show ((2 : Int) ^ (min 1 64)) = 2 from rfl, Int.fdiv_eq_ediv_of_nonneg _ (by decide), wrapI (by omega) (by omega)]
 omega

theorem wk1_e (x : PathWanted) (a : A6vu) : path_node_wanted_1 x a = some (cm x.Dest a) := by unfold path_node_wanted_1; rw [compare_e]; rfl
theorem rk1_e (x : PathRoute) (a : A6vu) : path_node_route_1 x a = some (cm x.Dest a) := by unfold path_node_route_1; rw [compare_e]; rfl

structure CutR (L : List PathRoute) (k : Nat) (j : Nat) : Prop where
 le : j ≤ L.length
 lo : ∀ (h : Nat) y, L[h]? = some y → h < j → K6 y.Dest < k
 hi : ∀ (h : Nat) y, L[h]? = some y → j ≤ h → k ≤ K6 y.Dest
structure CutW (L : List PathWanted) (k : Nat) (j : Nat) : Prop where
 le : j ≤ L.length
 lo : ∀ (h : Nat) y, L[h]? = some y → h < j → K6 y.Dest < k
 hi : ∀ (h : Nat) y, L[h]? = some y → j ≤ h → k ≤ K6 y.Dest

theorem cutR_ex : ∀ (L : List PathRoute) (k : Nat), (L.Pairwise fun x y => K6 x.Dest < K6 y.Dest) → ∃ j, CutR L k j
 | [], k, _ => ⟨0, Nat.le_refl _, by simp, by simp⟩
 | x :: L, k, h => by
  obtain ⟨h1, h2⟩ := List.pairwise_cons.1 h
  by_cases hk : K6 x.Dest < k
  ·
   obtain ⟨j, c1, c2, c3⟩ := cutR_ex L k h2
   refine ⟨j + 1, by simpa using c1, ?_, ?_⟩
   ·
    intro i y hy hi
    cases i with
    | zero => simp at hy; subst hy; exact hk
    | succ i => exact c2 i y (by simpa using hy) (by omega)
   ·
    intro i y hy hi
    cases i with
    | zero => omega
    | succ i => exact c3 i y (by simpa using hy) (by omega)
  ·
   refine ⟨0, by simp, by intro _ _ _ q; omega, ?_⟩
   intro i y hy _
   cases i with
   | zero => simp at hy; subst hy; omega
   | succ i =>
    have := h1 y (List.mem_of_getElem? (by simpa using hy))
    omega
theorem cutW_ex : ∀ (L : List PathWanted) (k : Nat), (L.Pairwise fun x y => K6 x.Dest < K6 y.Dest) → ∃ j, CutW L k j
 | [], k, _ => ⟨0, Nat.le_refl _, by simp, by simp⟩
 | x :: L, k, h => by
  obtain ⟨h1, h2⟩ := List.pairwise_cons.1 h
  by_cases hk : K6 x.Dest < k
  ·
   obtain ⟨j, c1, c2, c3⟩ := cutW_ex L k h2
   refine ⟨j + 1, by simpa using c1, ?_, ?_⟩
   ·
    intro i y hy hi
    cases i with
    | zero => simp at hy; subst hy; exact hk
    | succ i => exact c2 i y (by simpa using hy) (by omega)
   ·
    intro i y hy hi
    cases i with
    | zero => omega
    | succ i => exact c3 i y (by simpa using hy) (by omega)
  ·
   refine ⟨0, by simp, by intro _ _ _ q; omega, ?_⟩
   intro i y hy _
   cases i with
   | zero => simp at hy; subst hy; omega
   | succ i =>
    have := h1 y (List.mem_of_getElem? (by simpa using hy))
    omega

theorem searchR (L : List PathRoute) (hL : L.length ≤ 1000) (a : A6vu) (j : Nat) (hlo : ∀ (h : Nat) y, L[h]? = some y → h < j → cm y.Dest a < 0) (hhi : ∀ (h : Nat) y, L[h]? = some y → j ≤ h → ¬ cm y.Dest a < 0) : ∀ (m i k n : Nat), i ≤ j → j ≤ k → k ≤ L.length → k - i ≤ m → m < n →
  slices_BinarySearchFunc_api_PathRoute_api_PathRoute_api_Addr_L2 L a n ((i : Int), (k : Int)) = some (j : Int) := by
 intro m
 induction m with
 | zero =>
  intro i k n h1 h2 h3 h4 h5
  obtain ⟨n, rfl⟩ : ∃ q, n = q + 1 := ⟨n - 1, by omega⟩
  rw [slices_BinarySearchFunc_api_PathRoute_api_PathRoute_api_Addr_L2, decide_eq_false (by simp only; omega), cond_false]
  congr 1; simp only; omega
 | succ m ih =>
  intro i k n h1 h2 h3 h4 h5
  obtain ⟨n, rfl⟩ : ∃ q, n = q + 1 := ⟨n - 1, by omega⟩
  rw [slices_BinarySearchFunc_api_PathRoute_api_PathRoute_api_Addr_L2]
  by_cases hik : i < k
  ·
   rw [decide_eq_true (by simp only; omega), cond_true]
   simp only [half_e i k (by omega)]
   have hh : (i + k) / 2 < L.length := by omega
   have eh : L[(i + k) / 2]? = some L[(i + k) / 2] := by simp [hh]
   rw [idxN, eh, bindS, rk1_e, bindS]
   by_cases hj : (i + k) / 2 < j
   ·
    rw [decide_eq_true (hlo _ _ eh hj), cond_true, wrapN (by omega)]
    exact ih ((i + k) / 2 + 1) k n (by omega) h2 h3 (by omega) (by omega)
   ·
    rw [decide_eq_false (hhi _ _ eh (by omega)), cond_false]
    exact ih i ((i + k) / 2) n h1 (by omega) (by omega) (by omega) (by omega)
  ·
   rw [decide_eq_false (by simp only; omega), cond_false]
   congr 1; simp only; omega
theorem searchW (L : List PathWanted) (hL : L.length ≤ 1000) (a : A6vu) (j : Nat) (hlo : ∀ (h : Nat) y, L[h]? = some y → h < j → cm y.Dest a < 0) (hhi : ∀ (h : Nat) y, L[h]? = some y → j ≤ h → ¬ cm y.Dest a < 0) : ∀ (m i k n : Nat), i ≤ j → j ≤ k → k ≤ L.length → k - i ≤ m → m < n →
  slices_BinarySearchFunc_api_PathWanted_api_PathWanted_api_Addr_L2 L a n ((i : Int), (k : Int)) = some (j : Int) := by
 intro m
 induction m with
 | zero =>
  intro i k n h1 h2 h3 h4 h5
  obtain ⟨n, rfl⟩ : ∃ q, n = q + 1 := ⟨n - 1, by omega⟩
  rw [slices_BinarySearchFunc_api_PathWanted_api_PathWanted_api_Addr_L2, decide_eq_false (by simp only; omega), cond_false]
  congr 1; simp only; omega
 | succ m ih =>
  intro i k n h1 h2 h3 h4 h5
  obtain ⟨n, rfl⟩ : ∃ q, n = q + 1 := ⟨n - 1, by omega⟩
  rw [slices_BinarySearchFunc_api_PathWanted_api_PathWanted_api_Addr_L2]
  by_cases hik : i < k
  ·
   rw [decide_eq_true (by simp only; omega), cond_true]
   simp only [half_e i k (by omega)]
   have hh : (i + k) / 2 < L.length := by omega
   have eh : L[(i + k) / 2]? = some L[(i + k) / 2] := by simp [hh]
   rw [idxN, eh, bindS, wk1_e, bindS]
   by_cases hj : (i + k) / 2 < j
   ·
    rw [decide_eq_true (hlo _ _ eh hj), cond_true, wrapN (by omega)]
    exact ih ((i + k) / 2 + 1) k n (by omega) h2 h3 (by omega) (by omega)
   ·
    rw [decide_eq_false (hhi _ _ eh (by omega)), cond_false]
    exact ih i ((i + k) / 2) n h1 (by omega) (by omega) (by omega) (by omega)
  ·
   rw [decide_eq_false (by simp only; omega), cond_false]
   congr 1; simp only; omega

def hitR (L : List PathRoute) (j k : Nat) : Bool := match L[j]? with | some x => decide (K6 x.Dest = k) | none => false
def hitW (L : List PathWanted) (j k : Nat) : Bool := match L[j]? with | some x => decide (K6 x.Dest = k) | none => false
theorem route_e (N : Path_node) (hL : N.Paths.Routes.length ≤ 1000) (a : A6vu) {j : Nat} (hj : CutR N.Paths.Routes (K6 a) j) : path_node_route N a = some ((j : Int), hitR N.Paths.Routes j (K6 a)) := by
 obtain ⟨hj, hlo, hhi⟩ := hj
 unfold path_node_route slices_BinarySearchFunc_api_PathRoute_api_PathRoute_api_Addr
 have s := searchR N.Paths.Routes hL a j (fun h y hy hlt => (cm_k y.Dest a).1.2 (hlo h y hy hlt)) (fun h y hy hle => by
  rw [(cm_k y.Dest a).1]; have := hhi h y hy hle; omega) N.Paths.Routes.length 0 N.Paths.Routes.length big (by omega) hj (Nat.le_refl _) (by omega) (big_lt (by omega))
 simp only [Int.natCast_zero] at s
 rw [s, bindS]
 by_cases hl : j < N.Paths.Routes.length
 ·
  have ej : N.Paths.Routes[j]? = some N.Paths.Routes[j] := by simp [hl]
  rw [lt_dec hl, cond_true, idxN, ej, bindS, rk1_e, bindS, bindS]
  unfold hitR
  rw [ej]
  congr 2
  rw [Bool.eq_iff_iff, beq_iff_eq, decide_eq_true_eq]
  exact (cm_k _ _).2
 ·
  unfold hitR
  rw [ge_dec (by omega), cond_false, bindS, List.getElem?_eq_none (by omega)]
theorem wanted_e (N : Path_node) (hL : N.Paths.Wanted.length ≤ 1000) (a : A6vu) {j : Nat} (hj : CutW N.Paths.Wanted (K6 a) j) : path_node_wanted N a = some ((j : Int), hitW N.Paths.Wanted j (K6 a)) := by
 obtain ⟨hj, hlo, hhi⟩ := hj
 unfold path_node_wanted slices_BinarySearchFunc_api_PathWanted_api_PathWanted_api_Addr
 have s := searchW N.Paths.Wanted hL a j (fun h y hy hlt => (cm_k y.Dest a).1.2 (hlo h y hy hlt)) (fun h y hy hle => by
  rw [(cm_k y.Dest a).1]; have := hhi h y hy hle; omega) N.Paths.Wanted.length 0 N.Paths.Wanted.length big (by omega) hj (Nat.le_refl _) (by omega) (big_lt (by omega))
 simp only [Int.natCast_zero] at s
 rw [s, bindS]
 by_cases hl : j < N.Paths.Wanted.length
 ·
  have ej : N.Paths.Wanted[j]? = some N.Paths.Wanted[j] := by simp [hl]
  rw [lt_dec hl, cond_true, idxN, ej, bindS, wk1_e, bindS, bindS]
  unfold hitW
  rw [ej]
  congr 2
  rw [Bool.eq_iff_iff, beq_iff_eq, decide_eq_true_eq]
  exact (cm_k _ _).2
 ·
  unfold hitW
  rw [ge_dec (by omega), cond_false, bindS, List.getElem?_eq_none (by omega)]

theorem at_loop (p : Paths) (a : A6vu) (hL : p.Routes.length ≤ 1000) : ∀ (l : List PathRoute) (i n : Nat), p.Routes.drop i = l → l.length < n →
  (∃ j x, l[j]? = some x ∧ x.Dest = a ∧ hotspotref39_at_L2 p a n (i : Int) = some (Ex.ret ((i + j : Nat) : Int))) ∨ ((∀ x ∈ l, x.Dest ≠ a) ∧ hotspotref39_at_L2 p a n (i : Int) = some (Ex.go ())) := by
 intro l
 induction l with
 | nil =>
  intro i n h hn
  obtain ⟨n, rfl⟩ : ∃ m, n = m + 1 := ⟨n - 1, by simp at hn; omega⟩
  right
  rw [hotspotref39_at_L2, ge_dec (drop_n h)]
  exact ⟨by simp, rfl⟩
 | cons x l ih =>
  intro i n h hn
  obtain ⟨n, rfl⟩ : ∃ m, n = m + 1 := ⟨n - 1, by simp at hn; omega⟩
  obtain ⟨h1, h2, h3⟩ := drop_c h
  simp only [List.length_cons] at hn
  rw [hotspotref39_at_L2, lt_dec h3, cond_true, idxN, h1, bindS]
  by_cases hx : x.Dest = a
  ·
   left
   rw [decide_eq_true hx, cond_true]
   exact ⟨0, x, rfl, hx, rfl⟩
  ·
   rw [decide_eq_false hx, cond_false, wrapN (by omega)]
   rcases ih (i + 1) n h2 (by omega) with ⟨j, y, q1, q2, q3⟩ | ⟨q1, q2⟩
   ·
    left
    exact ⟨j + 1, y, by simpa using q1, q2, by rw [q3, show i + 1 + j = i + (j + 1) by omega]⟩
   ·
    right
    refine ⟨fun y hy => ?_, q2⟩
    rcases List.mem_cons.1 hy with rfl | hy
    ·
     exact hx
    ·
     exact q1 y hy
theorem rwanted_loop (p : Paths) (a : A6vu) (hL : p.Wanted.length ≤ 1000) : ∀ (l : List PathWanted) (i n : Nat), p.Wanted.drop i = l → l.length < n →
  ((∃ x ∈ l, x.Dest = a) ∧ hotspotref39_wanted_L2 p a n (i : Int) = some (Ex.ret true)) ∨ ((∀ x ∈ l, x.Dest ≠ a) ∧ hotspotref39_wanted_L2 p a n (i : Int) = some (Ex.go ())) := by
 intro l
 induction l with
 | nil =>
  intro i n h hn
  obtain ⟨n, rfl⟩ : ∃ m, n = m + 1 := ⟨n - 1, by simp at hn; omega⟩
  right
  rw [hotspotref39_wanted_L2, ge_dec (drop_n h)]
  exact ⟨by simp, rfl⟩
 | cons x l ih =>
  intro i n h hn
  obtain ⟨n, rfl⟩ : ∃ m, n = m + 1 := ⟨n - 1, by simp at hn; omega⟩
  obtain ⟨h1, h2, h3⟩ := drop_c h
  simp only [List.length_cons] at hn
  rw [hotspotref39_wanted_L2, lt_dec h3, cond_true, idxN, h1, bindS]
  by_cases hx : x.Dest = a
  ·
   left
   rw [decide_eq_true hx, cond_true]
   exact ⟨⟨x, by simp, hx⟩, rfl⟩
  ·
   rw [decide_eq_false hx, cond_false, wrapN (by omega)]
   rcases ih (i + 1) n h2 (by omega) with ⟨⟨y, q1, q2⟩, q3⟩ | ⟨q1, q2⟩
   ·
    left
    exact ⟨⟨y, by simp [q1], q2⟩, q3⟩
   ·
    right
    refine ⟨fun y hy => ?_, q2⟩
    rcases List.mem_cons.1 hy with rfl | hy
    ·
     exact hx
    ·
     exact q1 y hy

theorem at_e (p : Paths) (hL : p.Routes.length ≤ 1000) (hA : ∀ x ∈ p.Routes, okA x.Dest) {a : A6vu} (ha : okA a) (hP : p.Routes.Pairwise fun x y => K6 x.Dest < K6 y.Dest) {j : Nat} (hj : CutR p.Routes (K6 a) j) :
  hotspotref39_at p a = some (if hitR p.Routes j (K6 a) = true then (j : Int) else -1) := by
 unfold hotspotref39_at
 have := at_loop p a hL p.Routes 0 big rfl (big_lt (by omega))
 simp only [Int.natCast_zero, Nat.zero_add] at this
 rcases this with ⟨i, x, q1, q2, q3⟩ | ⟨q1, q2⟩
 ·
  rw [q3, bindS, Ex.k_ret']
  have hk : K6 x.Dest = K6 a := by rw [q2]
  have hij : i = j := by
   rcases Nat.lt_trichotomy i j with h | h | h
   ·
    have := hj.lo i x q1 h; omega
   ·
    exact h
   ·
    have hil : i < p.Routes.length := (List.getElem?_eq_some_iff.1 q1).1
    have ei : p.Routes[i] = x := (List.getElem?_eq_some_iff.1 q1).2
    have hjl : j < p.Routes.length := by omega
    have e1 : p.Routes[j]? = some p.Routes[j] := by simp [hjl]
    have := List.pairwise_iff_getElem.1 hP j i hjl hil h
    rw [ei] at this
    have := hj.hi j _ e1 (Nat.le_refl _)
    omega
  subst hij
  rw [if_pos (by unfold hitR; rw [q1]; exact decide_eq_true hk)]
 ·
  rw [q2, bindS, Ex.k_go']
  rw [if_neg]
  unfold hitR
  cases e : p.Routes[j]? with
  | none => simp
  | some x =>
   have hm := List.mem_of_getElem? e
   simp only [decide_eq_true_eq]
   intro h
   exact q1 x hm ((K6_inj (hA x hm) ha).1 h)
theorem rwanted_e (p : Paths) (hL : p.Wanted.length ≤ 1000) (hA : ∀ x ∈ p.Wanted, okA x.Dest) {a : A6vu} (ha : okA a) (hP : p.Wanted.Pairwise fun x y => K6 x.Dest < K6 y.Dest) {j : Nat} (hj : CutW p.Wanted (K6 a) j) :
  hotspotref39_wanted p a = some (hitW p.Wanted j (K6 a)) := by
 unfold hotspotref39_wanted
 have := rwanted_loop p a hL p.Wanted 0 big rfl (big_lt (by omega))
 simp only [Int.natCast_zero] at this
 rcases this with ⟨⟨x, q1, q2⟩, q3⟩ | ⟨q1, q2⟩
 ·
  rw [q3, bindS, Ex.k_ret']
  have hk : K6 x.Dest = K6 a := by rw [q2]
  obtain ⟨i, hil, ei⟩ := List.mem_iff_getElem.1 q1
  have e0 : p.Wanted[i]? = some x := by rw [List.getElem?_eq_getElem hil, ei]
  have hij : i = j := by
   rcases Nat.lt_trichotomy i j with h | h | h
   ·
    have := hj.lo i x e0 h; omega
   ·
    exact h
   ·
    have hjl : j < p.Wanted.length := by omega
    have e1 : p.Wanted[j]? = some p.Wanted[j] := by simp [hjl]
    have := List.pairwise_iff_getElem.1 hP j i hjl hil h
    rw [ei] at this
    have := hj.hi j _ e1 (Nat.le_refl _)
    omega
  subst hij
  unfold hitW
  rw [e0]
  congr 1
  exact (decide_eq_true hk).symm
 ·
  rw [q2, bindS, Ex.k_go']
  unfold hitW
  cases e : p.Wanted[j]? with
  | none => rfl
  | some x =>
   have hm := List.mem_of_getElem? e
   congr 1
   symm
   refine decide_eq_false fun h => ?_
   exact q1 x hm ((K6_inj (hA x hm) ha).1 h)

def knownR (L : List PathRoute) (j k : Nat) : Int := match L[j]? with | some x => (if K6 x.Dest = k then x.Seq else 0) | none => 0
theorem known_e (N : Path_node) (hL : N.Paths.Routes.length ≤ 1000) (a : A6vu) {j : Nat} (hj : CutR N.Paths.Routes (K6 a) j) : path_node_known N a = some (knownR N.Paths.Routes j (K6 a)) := by
 unfold path_node_known
 rw [route_e N hL a hj, bindS]
 unfold hitR knownR
 simp only [idxN]
 cases e : N.Paths.Routes[j]? with
 | none => rfl
 | some x =>
  simp only
  by_cases h : K6 x.Dest = K6 a
  ·
   rw [decide_eq_true h, if_pos h]; rfl
  ·
   rw [decide_eq_false h, if_neg h]; rfl
theorem rknown_e (p : Paths) (hL : p.Routes.length ≤ 1000) (hA : ∀ x ∈ p.Routes, okA x.Dest) {a : A6vu} (ha : okA a) (hP : p.Routes.Pairwise fun x y => K6 x.Dest < K6 y.Dest) {j : Nat} (hj : CutR p.Routes (K6 a) j) :
  hotspotref39_known p a = some (knownR p.Routes j (K6 a)) := by
 unfold hotspotref39_known
 rw [at_e p hL hA ha hP hj, bindS]
 unfold hitR knownR
 cases e : p.Routes[j]? with
 | none => rfl
 | some x =>
  simp only [decide_eq_true_eq]
  by_cases h : K6 x.Dest = K6 a
  ·
   simp only [if_pos h, decide_eq_false (show ¬ (j : Int) < 0 by omega), cond_false, idxN, e]; rfl
  ·
   simp only [if_neg h]; rfl
end Go.AX.Z.TO

/-! (TOG) -/

set_option linter.unusedVariables false
set_option linter.unusedSimpArgs false
set_option maxRecDepth 20000
set_option maxHeartbeats 1000000
namespace Go.AX.Z.TO
open Go.AX

def Rs (a b : Option (Paths × (List Sent) × Int)) : Prop := ∃ r, a = some r ∧ b = some r ∧ r.1.Routes.length ≤ 40 ∧ r.1.Wanted.length ≤ 40 ∧ r.2.1.length ≤ 100 ∧ ∀ x ∈ r.2.1, x.Data.length ≤ 1000
theorem rs_z (e : Int) : Rs (some (Paths.z, [], e)) (some (Paths.z, [], e)) := ⟨_, rfl, rfl, by show (0 : Nat) ≤ 40; decide, by show (0 : Nat) ≤ 40; decide, by simp, by simp⟩

theorem grp_t : ∀ x : Fin 256, (band .u8 ((x.val : Nat) : Int) 1 == 1) = ((((x.val : Nat) : Int).tmod 2) == 1) := by decide +kernel
theorem group_e {a : A6vu} (h : okA a) : path_group a = some (((a.a0).tmod 2) == 1) := by
 unfold path_group
 obtain ⟨n, hn⟩ : ∃ n : Nat, a.a0 = (n : Int) := ⟨a.a0.toNat, by have := h.1; omega⟩
 have hl : n < 256 := by have := h.1; omega
 rw [hn, grp_t ⟨n, hl⟩]

def msgR (o : A6vu) (s : Int) (d : A6vu) (k : Int) : Sent := { Sent.z with Data := reqL o s d k, To := gv0 }
theorem reqL_len (o : A6vu) (s : Int) (d : A6vu) (k : Int) : (reqL o s d k).length = 30 := by simp [reqL, six, lowL_len]
theorem msgR_le (o : A6vu) (s : Int) (d : A6vu) (k : Int) : (msgR o s d k).Data.length ≤ 1000 := by
 show (reqL _ _ _ _).length ≤ 1000
 rw [reqL_len]; decide
theorem one_le (x : Sent) : [x].length ≤ 100 := by show 1 ≤ 100; decide
theorem ask_e (N : Path_node) (hL : N.Paths.Routes.length ≤ 1000) (a : A6vu) {j : Nat} (hj : CutR N.Paths.Routes (K6 a) j) : path_node_ask a N = some [msgR N.Paths.Own (IntKind.wrap .i64 (N.Paths.Seq + 1)) a (knownR N.Paths.Routes j (K6 a))] := by
 unfold path_node_ask
 rw [known_e { N with Paths.Seq := IntKind.wrap .i64 (N.Paths.Seq + 1), out := [] } hL a hj, bindS, asked_e, bindS]
 rfl
theorem ask3_e (N : Path_node) (hL : N.Paths.Routes.length ≤ 1000) (ho : N.out.length ≤ 1000) (a : A6vu) {j : Nat} (hj : CutR N.Paths.Routes (K6 a) j) : path_node_ask_3 a N = some (N.out ++ [msgR N.Paths.Own (IntKind.wrap .i64 (N.Paths.Seq + 1)) a (knownR N.Paths.Routes j (K6 a))]) := by
 unfold path_node_ask_3
 rw [known_e { N with Paths.Seq := IntKind.wrap .i64 (N.Paths.Seq + 1) } hL a hj, bindS, asked_e, bindS]
 unfold path_node_send_2
 rw [chk_d (by show (N.out.length + 1) * 32 ≤ _; omega)]
 rfl

def insW (u : PathWanted) : List PathWanted → List PathWanted
 | [] => [u]
 | x :: l => if K6 u.Dest < K6 x.Dest then u :: x :: l else x :: insW u l
theorem insW_cut (u : PathWanted) : ∀ (W : List PathWanted) (j : Nat), j ≤ W.length → (∀ (h : Nat) y, W[h]? = some y → h < j → K6 y.Dest < K6 u.Dest) → (∀ y, W[j]? = some y → K6 u.Dest < K6 y.Dest) → insW u W = W.take j ++ [u] ++ W.drop j
 | [], j, h, _, _ => by
  have : j = 0 := by simpa using h
  subst this; rfl
 | x :: l, 0, _, _, h => by
  rw [insW, if_pos (h x rfl)]; rfl
 | x :: l, j + 1, h1, h2, h3 => by
  have := h2 0 x rfl (by omega)
  rw [insW, if_neg (by omega), insW_cut u l j (by simpa using h1) (fun h y hy hl => h2 (h + 1) y (by simpa using hy) (by omega)) (fun y hy => h3 y (by simpa using hy))]
  rfl

theorem find_t (x : Paths × Int) (a : A6vu) (t : Int) (hL : x.1.Wanted.length ≤ 1000) : ∀ (l acc : List PathWanted) (i n : Nat), x.1.Wanted.drop i = l → l.length < n → acc.length + l.length ≤ 2000 →
  hotspotref39_Find_L4 x a t n (acc, true, (i : Int)) = some (acc ++ l, true) := by
 intro l
 induction l with
 | nil =>
  intro acc i n h hn ha
  obtain ⟨n, rfl⟩ : ∃ m, n = m + 1 := ⟨n - 1, by simp at hn; omega⟩
  rw [hotspotref39_Find_L4, ge_dec (drop_n h), cond_false, List.append_nil]
 | cons y l ih =>
  intro acc i n h hn ha
  obtain ⟨n, rfl⟩ : ∃ m, n = m + 1 := ⟨n - 1, by simp at hn; omega⟩
  obtain ⟨h1, h2, h3⟩ := drop_c h
  simp only [List.length_cons] at hn ha
  rw [hotspotref39_Find_L4, lt_dec h3]
  simp only [cond_true, Bool.not_true, cond_false, bindS, idxN, h1]
  rw [chk_d (by omega), bindS, wrapN (by omega), ih (acc ++ [y]) (i + 1) n h2 (by omega) (by simp; omega), List.append_assoc]
  rfl
theorem find_f (x : Paths × Int) (a : A6vu) (ha : okA a) (t : Int) (hL : x.1.Wanted.length ≤ 1000) (hA : ∀ y ∈ x.1.Wanted, okA y.Dest) : ∀ (l acc : List PathWanted) (i n : Nat), x.1.Wanted.drop i = l → l.length < n → acc.length + l.length ≤ 1000 →
  ∃ L f, hotspotref39_Find_L4 x a t n (acc, false, (i : Int)) = some (L, f) ∧ (if f = true then L else L ++ [{ PathWanted.z with Dest := a, Due := IntKind.wrap .i64 (t + 100000), Tries := 1 }]) = acc ++ insW { PathWanted.z with Dest := a, Due := IntKind.wrap .i64 (t + 100000), Tries := 1 } l ∧ L.length ≤ 2000 := by
 intro l
 induction l with
 | nil =>
  intro acc i n h hn hc
  obtain ⟨n, rfl⟩ : ∃ m, n = m + 1 := ⟨n - 1, by simp at hn; omega⟩
  rw [hotspotref39_Find_L4, ge_dec (drop_n h), cond_false]
  exact ⟨acc, false, rfl, by rw [if_neg (by decide)]; rfl, by omega⟩
 | cons y l ih =>
  intro acc i n h hn hc
  obtain ⟨n, rfl⟩ : ∃ m, n = m + 1 := ⟨n - 1, by simp at hn; omega⟩
  obtain ⟨h1, h2, h3⟩ := drop_c h
  simp only [List.length_cons] at hn hc
  rw [hotspotref39_Find_L4, lt_dec h3]
  simp only [cond_true, Bool.not_false, idxN, h1, bindS]
  rw [smaller_e ha (hA y (List.mem_of_getElem? h1)), bindS, bindS]
  by_cases hk : K6 a < K6 y.Dest
  ·
   rw [decide_eq_true hk, cond_true, chk_d (by omega), bindS, bindS]
   simp only
   rw [chk_d (by simp; omega), bindS, wrapN (by omega), find_t x a t hL l _ (i + 1) n h2 (by omega) (by simp; omega)]
   refine ⟨_, true, rfl, ?_, by simp; omega⟩
   rw [if_pos rfl, insW, if_pos hk]
   simp
  ·
   rw [decide_eq_false hk, cond_false, bindS]
   simp only
   rw [chk_d (by omega), bindS, wrapN (by omega)]
   obtain ⟨L, f, q1, q2, q3⟩ := ih (acc ++ [y]) (i + 1) n h2 (by omega) (by simp; omega)
   refine ⟨L, f, q1, ?_, q3⟩
   rw [q2, insW, if_neg hk]
   simp

theorem insert_e (W : List PathWanted) (u : PathWanted) (j : Nat) (hj : j ≤ W.length) (hW : W.length ≤ 1000) : slices_Insert_api_PathWanted_api_PathWanted (j : Int) W [u] = some (W.take j ++ [u] ++ W.drop j) := by
 unfold slices_Insert_api_PathWanted_api_PathWanted
 have e1 : (decide ((0 : Int) ≤ (j : Int)) && decide ((j : Int) ≤ (W.length : Int))) = true := by
  rw [decide_eq_true (by omega), decide_eq_true (by omega)]; rfl
 rw [chk_t e1, bindS]
 have e2 : ((((([u] : List PathWanted).length : Nat) : Int)) == 0) = false := rfl
 rw [e2, cond_false]
 by_cases h : j = W.length
 ·
  subst h
  have e3 : (((W.length : Nat) : Int) == ((W.length : Nat) : Int)) = true := by simp
  rw [e3, cond_true, chk_d (by simp; omega), bindS]
  simp
 ·
  have e3 : (((j : Nat) : Int) == ((W.length : Nat) : Int)) = false := by
   rw [beq_eq_false_iff_ne]; omega
  have e4 : (decide (([u] : List PathWanted).length = 1) && decide ((W.length + 1) * 24 ≤ 140737488355328)) = true := by
   rw [decide_eq_true (show ([u] : List PathWanted).length = 1 from rfl), decide_eq_true (by omega)]; rfl
  rw [e3, cond_false, chk_t e4, bindS]
  rw [Int.toNat_natCast]

theorem rne {e : Int} (h : e = 8 ∨ e = 2) : (e != 0) = true := by rcases h with rfl | rfl <;> rfl
theorem hit_ne {W : List PathWanted} {k j : Nat} (hj : CutW W k j) (h : hitW W j k = false) : ∀ y, W[j]? = some y → k < K6 y.Dest := by
 intro y hy
 have := hj.hi j y hy (Nat.le_refl _)
 unfold hitW at h
 rw [hy] at h
 simp only [decide_eq_false_iff_not] at h
 omega
theorem find_e {a0 : Paths} (h : Byt a0) {a : A6vu} (ha : okA a) (t : Int) : Rs (path_Find a0 a t) (hotspotref39_Find a0 a t) := by
 rcases begun_e h t with ⟨hk, ht, hb, hr⟩ | ⟨hb, e, he, h2, hr⟩
 ·
  have H := hnd h hk t
  obtain ⟨j, hj⟩ := cutR_ex _ (K6 a) H.Rp
  obtain ⟨i, hi⟩ := cutW_ex _ (K6 a) H.Wp
  have rl := H.rl
  have wl := H.wl
  unfold path_Find hotspotref39_Find
  rw [hb, hr]
  simp only [Option.isSome_some, cond_true, bindS, show ((0 : Int) != 0) = false from rfl, cond_false]
  have e1 : (bif decide (a = a0.Own) then some true else ((path_group a).bind fun x6 => some x6)) = some ((decide (a = a0.Own)) || (((a.a0).tmod 2) == 1)) := by
   rw [group_e ha]
   cases decide (a = a0.Own) <;> rfl
  rw [e1, bindS]
  cases hg : ((decide (a = a0.Own)) || (((a.a0).tmod 2) == 1)) with
  | true => exact rs_z 2
  | false =>
   simp only [cond_false]
   rw [wanted_e { Path_node.z with Paths := { a0 with Routes := a0.Routes.map (expR t), Wanted := a0.Wanted }, now := t, out := [] } (by show a0.Wanted.length ≤ 1000; omega) a hi, bindS,
    route_e { Path_node.z with Paths := { a0 with Routes := a0.Routes.map (expR t), Wanted := a0.Wanted }, now := t, out := [] } (by show (a0.Routes.map (expR t)).length ≤ 1000; omega) a hj, bindS,
    at_e { a0 with Routes := a0.Routes.map (expR t) } (by show (a0.Routes.map (expR t)).length ≤ 1000; omega) H.Ra ha H.Rp hj, bindS]
   simp only
   rw [rwanted_e { a0 with Routes := a0.Routes.map (expR t) } (by show a0.Wanted.length ≤ 1000; omega) H.Wa ha H.Wp hi]
   simp only [bindS]
   have hx : ∃ v : Bool, (bif hitR (a0.Routes.map (expR t)) j (K6 a) then ((idx (a0.Routes.map (expR t)) (j : Int)).bind fun x10 => some x10.Valid) else some false) = some v ∧
     (bif decide ((0 : Int) ≤ (if hitR (a0.Routes.map (expR t)) j (K6 a) = true then (j : Int) else -1)) then ((idx (a0.Routes.map (expR t)) (if hitR (a0.Routes.map (expR t)) j (K6 a) = true then (j : Int) else -1)).bind fun x21 => some x21.Valid) else some false) = some v := by
    cases hh : hitR (a0.Routes.map (expR t)) j (K6 a) with
    | false => exact ⟨false, rfl, rfl⟩
    | true =>
     simp only [if_true, cond_true, decide_eq_true (show (0 : Int) ≤ (j : Int) by omega), idxN]
     cases e : (a0.Routes.map (expR t))[j]? with
     | none =>
      unfold hitR at hh
      rw [e] at hh
      cases hh
     | some x => exact ⟨x.Valid, rfl, rfl⟩
   obtain ⟨v, v1, v2⟩ := hx
   rw [v1, v2]
   simp only [bindS]
   have hq : (bif hitW a0.Wanted i (K6 a) then some true else some v) = some (hitW a0.Wanted i (K6 a) || v) := by cases hitW a0.Wanted i (K6 a) <;> rfl
   have hq2 : (bif v then some true else some (hitW a0.Wanted i (K6 a))) = some (hitW a0.Wanted i (K6 a) || v) := by cases hitW a0.Wanted i (K6 a) <;> cases v <;> rfl
   rw [hq, hq2, bindS, bindS]
   cases hw : (hitW a0.Wanted i (K6 a) || v) with
   | true => exact ⟨_, rfl, rfl, by show (a0.Routes.map (expR t)).length ≤ 40; omega, by show a0.Wanted.length ≤ 40; omega, by simp, by simp⟩
   | false =>
    simp only [cond_false]
    have hs := hk.1
    have hf : ((a0.Seq == 2147483647) || (((a0.Wanted.length : Nat) : Int) == 32)) = ((decide (2147483647 ≤ a0.Seq)) || (decide (32 ≤ ((a0.Wanted.length : Nat) : Int)))) := by
     rw [Bool.eq_iff_iff]
     simp only [Bool.or_eq_true, beq_iff_eq, decide_eq_true_eq]
     omega
    rw [hf]
    cases hz : ((decide (2147483647 ≤ a0.Seq)) || (decide (32 ≤ ((a0.Wanted.length : Nat) : Int)))) with
    | true => exact rs_z 22
    | false =>
     simp only [cond_false]
     have hw0 : hitW a0.Wanted i (K6 a) = false := (Bool.or_eq_false_iff.1 hw).1
     obtain ⟨L, f, q1, q2, q3⟩ := find_f ({ a0 with Routes := a0.Routes.map (expR t) }, 0) a ha t (by show a0.Wanted.length ≤ 1000; omega) H.Wa a0.Wanted [] 0 big rfl (big_lt (by omega)) (by simp; omega)
     simp only [Int.natCast_zero] at q1
     rw [List.nil_append, insW_cut ({ PathWanted.z with Dest := a, Due := IntKind.wrap .i64 (t + 100000), Tries := 1 } : PathWanted) a0.Wanted i hi.le (fun h y hy hl => hi.lo h y hy hl) (hit_ne hi hw0)] at q2
     rw [insert_e _ _ i hi.le (by omega), bindS, q1, bindS]
     have q4 : (bif (!f) then ((chk (decide ((L.length + 1) * 24 ≤ 140737488355328))).bind fun x35 => some (L ++ [{ PathWanted.z with Dest := a, Due := IntKind.wrap .i64 (t + 100000), Tries := 1 }])) else some L) = some (a0.Wanted.take i ++ [{ PathWanted.z with Dest := a, Due := IntKind.wrap .i64 (t + 100000), Tries := 1 }] ++ a0.Wanted.drop i) := by
      rw [← q2]
      cases f
      ·
       rw [Bool.not_false, cond_true, chk_d (by omega), bindS, if_neg (by decide)]
      ·
       rfl
     simp only
     rw [q4, bindS, all_e, bindS]
     generalize hG : a0.Wanted.take i ++ [{ PathWanted.z with Dest := a, Due := IntKind.wrap .i64 (t + 100000), Tries := 1 }] ++ a0.Wanted.drop i = G
     have hGl : G.length ≤ 40 := by
      rw [← hG]; simp; have := hi.le; omega
     rw [ask_e { Path_node.z with Paths := { a0 with Routes := a0.Routes.map (expR t), Wanted := G }, now := t, out := [] } (by show (a0.Routes.map (expR t)).length ≤ 1000; omega) a hj, bindS,
      rknown_e { a0 with Seq := IntKind.wrap .i64 (a0.Seq + 1), Routes := a0.Routes.map (expR t), Wanted := G } (by show (a0.Routes.map (expR t)).length ≤ 1000; omega) H.Ra ha H.Rp hj, bindS, request_e, bindS]
     simp only
     generalize knownR (a0.Routes.map (expR t)) j (K6 a) = kn
     generalize IntKind.wrap .i64 (a0.Seq + 1) = sq
     refine ⟨({ a0 with Seq := sq, Routes := a0.Routes.map (expR t), Wanted := G }, [msgR a0.Own sq a kn], 0), rfl, rfl, by show (a0.Routes.map (expR t)).length ≤ 40; omega, hGl, one_le _, ?_⟩
     intro x hx
     rw [List.mem_singleton.1 hx]
     exact msgR_le _ _ _ _
 ·
  unfold path_Find hotspotref39_Find
  rw [hb, h2, hr]
  simp only [bindS, rne he, cond_true, Option.isSome_none, cond_false]
  exact rs_z e

theorem next_e {a0 : Paths} (h : Byt a0) {a : A6vu} (ha : okA a) (t : Int) : ∃ r, path_Next a0 a t = some r ∧ hotspotref39_Next a0 a t = some r := by
 rcases begun_e h t with ⟨hk, ht, hb, hr⟩ | ⟨hb, e, he, h2, hr⟩
 ·
  have H := hnd h hk t
  obtain ⟨j, hj⟩ := cutR_ex _ (K6 a) H.Rp
  have rl := H.rl
  unfold path_Next hotspotref39_Next
  rw [hb, hr]
  simp only [Option.isSome_some, cond_true, bindS, show ((0 : Int) != 0) = false from rfl, cond_false]
  rw [route_e { Path_node.z with Paths := { a0 with Routes := a0.Routes.map (expR t), Wanted := a0.Wanted }, now := t, out := [] } (by show (a0.Routes.map (expR t)).length ≤ 1000; omega) a hj, bindS,
   at_e { a0 with Routes := a0.Routes.map (expR t) } (by show (a0.Routes.map (expR t)).length ≤ 1000; omega) H.Ra ha H.Rp hj, bindS]
  simp only
  cases hh : hitR (a0.Routes.map (expR t)) j (K6 a) with
  | false => exact ⟨_, rfl, rfl⟩
  | true =>
   simp only [if_true, Bool.not_true, cond_false, decide_eq_false (show ¬ (j : Int) < 0 by omega), idxN]
   cases e : (a0.Routes.map (expR t))[j]? with
   | none =>
    unfold hitR at hh
    rw [e] at hh
    cases hh
   | some x =>
    simp only [bindS]
    cases hv : x.Valid
    ·
     exact ⟨_, rfl, rfl⟩
    ·
     exact ⟨_, rfl, rfl⟩
 ·
  unfold path_Next hotspotref39_Next
  rw [hb, h2, hr]
  simp only [bindS, rne he, cond_true, Option.isSome_none, cond_false]
  exact ⟨_, rfl, rfl⟩
end Go.AX.Z.TO

/-! (TOH) -/

set_option linter.unusedVariables false
set_option linter.unusedSimpArgs false
set_option maxRecDepth 20000
set_option maxHeartbeats 1000000
namespace Go.AX.Z.TO
open Go.AX

theorem tick_loop (a0 : Paths) (R : List PathRoute) (H : Hnd a0.Own R a0.Wanted) (t : Int) : ∀ (l acc : List PathWanted) (out : List Sent) (s : Int) (i n : Nat) (N : Path_node) (p : Paths), a0.Wanted.drop i = l → l.length < n →
  N.Paths.Own = a0.Own → N.Paths.Seq = s → p.Own = a0.Own → p.Seq = s → (0 ≤ s ∧ s ≤ 2147483647) → acc.length + l.length ≤ 32 → out.length + l.length ≤ 40 → (∀ x ∈ out, x.Data.length ≤ 1000) →
  ∃ N' p' acc' out', path_Tick_L3 (R, a0.Wanted) t n (N, acc, out, (i : Int)) = some (N', acc', out') ∧ hotspotref39_Tick_L3 ({ a0 with Routes := R }, 0) t n (p, out, acc, (i : Int)) = some (p', out', acc') ∧
   N'.Paths.Own = a0.Own ∧ p'.Own = a0.Own ∧ p'.Seq = N'.Paths.Seq ∧ acc'.length ≤ 32 ∧ out'.length ≤ 40 ∧ ∀ x ∈ out', x.Data.length ≤ 1000 := by
 have hrl := H.rl
 have hwl := H.wl
 intro l
 induction l with
 | nil =>
  intro acc out s i n N p h hn o1 o2 o3 o4 hs ha ho hd
  obtain ⟨n, rfl⟩ : ∃ m, n = m + 1 := ⟨n - 1, by simp at hn; omega⟩
  rw [path_Tick_L3, hotspotref39_Tick_L3]
  simp only [ge_dec (drop_n h), cond_false]
  exact ⟨N, p, acc, out, rfl, rfl, o1, o3, by rw [o2, o4], by simpa using ha, by simpa using ho, hd⟩
 | cons x l ih =>
  intro acc out s i n N p h hn o1 o2 o3 o4 hs ha ho hd
  obtain ⟨n, rfl⟩ : ∃ m, n = m + 1 := ⟨n - 1, by simp at hn; omega⟩
  obtain ⟨h1, h2, h3⟩ := drop_c h
  simp only [List.length_cons] at hn ha ho
  have hx := List.mem_of_getElem? h1
  have hu := H.Wk x hx
  have hA := H.Wa x hx
  obtain ⟨_, hu2, hu3⟩ := hu
  rw [path_Tick_L3, hotspotref39_Tick_L3]
  simp only [lt_dec h3, cond_true, idxN, h1, bindS, o2, o4]
  have em : ((s == 2147483647) : Bool) = decide (2147483647 ≤ s) := by
   rw [Bool.eq_iff_iff, beq_iff_eq, decide_eq_true_eq]; omega
  have et : ((x.Tries == 3) : Bool) = decide (3 ≤ x.Tries) := by
   rw [Bool.eq_iff_iff, beq_iff_eq, decide_eq_true_eq]; omega
  rw [em, et]
  by_cases hd1 : x.Due ≤ t
  ·
   rw [decide_eq_true hd1, decide_eq_false (show ¬ t < x.Due by omega), Bool.true_and, cond_false]
   cases hz : (decide (3 ≤ x.Tries) || decide (2147483647 ≤ s)) with
   | true =>
    simp only [cond_true]
    rw [wrapN (by omega)]
    exact ih acc out s (i + 1) n N p h2 (by omega) o1 o2 o3 o4 hs (by omega) (by omega) hd
   | false =>
    simp only [cond_false, cond_true]
    have hs2 : s < 2147483647 := by
     have := (Bool.or_eq_false_iff.1 hz).2
     rw [decide_eq_false_iff_not] at this
     omega
    have hsw : IntKind.wrap .i64 (s + 1) = s + 1 := wrapI (by omega) (by omega)
    obtain ⟨j, hj⟩ := cutR_ex R (K6 x.Dest) H.Rp
    have a3 := ask3_e { Paths := { Own := N.Paths.Own, Seq := s, Routes := R, Wanted := acc }, now := N.now, out := out } (by show R.length ≤ 1000; omega) (by show out.length ≤ 1000; omega) x.Dest (j := j) hj
    have k3 := rknown_e { Own := p.Own, Seq := IntKind.wrap .i64 (s + 1), Routes := R, Wanted := a0.Wanted } (by show R.length ≤ 1000; omega) H.Ra hA H.Rp (j := j) hj
    simp only [o1] at a3
    simp only [o3] at k3
    simp only [chk_d (show (acc.length + 1) * 24 ≤ 140737488355328 by omega), chk_d (show (out.length + 1) * 32 ≤ 140737488355328 by omega), bindS, all_e, a3, k3, o3, request_e, o1]
    rw [wrapN (by omega)]
    refine ih (acc ++ [{ Dest := x.Dest, Tries := IntKind.wrap .i64 (x.Tries + 1), Due := IntKind.wrap .i64 (t + 100000) }]) (out ++ [msgR a0.Own (IntKind.wrap .i64 (s + 1)) x.Dest (knownR R j (K6 x.Dest))]) (s + 1) (i + 1) n
     { Paths := { Own := a0.Own, Seq := IntKind.wrap .i64 (s + 1), Routes := R, Wanted := acc }, now := N.now, out := out } { Own := a0.Own, Seq := IntKind.wrap .i64 (s + 1), Routes := p.Routes, Wanted := p.Wanted } h2 (by omega) rfl hsw rfl hsw (by omega) (by simp; omega) (by simp; omega) ?_
    intro y hy
    rcases List.mem_append.1 hy with hy | hy
    ·
     exact hd y hy
    ·
     rw [List.mem_singleton.1 hy]
     exact msgR_le _ _ _ _
  ·
   rw [decide_eq_false hd1, decide_eq_true (show t < x.Due by omega), Bool.false_and, cond_false, cond_true]
   simp only [cond_false, bindS]
   rw [chk_d (by omega), bindS, bindS, wrapN (by omega)]
   exact ih _ out s (i + 1) n N p h2 (by omega) o1 o2 o3 o4 hs (by simp; omega) (by omega) hd

theorem tick_e {a0 : Paths} (h : Byt a0) (t : Int) : Rs (path_Tick a0 t) (hotspotref39_Tick a0 t) := by
 rcases begun_e h t with ⟨hk, ht, hb, hr⟩ | ⟨hb, e, he, h2, hr⟩
 ·
  have H := hnd h hk t
  have rl := H.rl
  have wl := H.wl
  obtain ⟨N', p', acc', out', q1, q2, q3, q4, q5, q6, q7, q8⟩ := tick_loop a0 (a0.Routes.map (expR t)) H t a0.Wanted [] [] a0.Seq 0 big { Path_node.z with Paths := { a0 with Wanted := [] }, now := t, out := [] } { a0 with Routes := a0.Routes.map (expR t) } rfl (big_lt (by omega)) rfl rfl rfl rfl hk.1 (by simp; omega) (by simp; omega) (by simp)
  simp only [Int.natCast_zero] at q1 q2
  unfold path_Tick hotspotref39_Tick
  rw [hb, hr]
  simp only [Option.isSome_some, cond_true, bindS, show ((0 : Int) != 0) = false from rfl, cond_false]
  rw [q1, q2, bindS, bindS]
  simp only
  rw [q3, q4, q5]
  exact ⟨_, rfl, rfl, by show (a0.Routes.map (expR t)).length ≤ 40; omega, by show acc'.length ≤ 40; omega, by show out'.length ≤ 100; omega, q8⟩
 ·
  unfold path_Tick hotspotref39_Tick
  rw [hb, h2, hr]
  simp only [bindS, rne he, cond_true, Option.isSome_none, cond_false]
  exact rs_z e
end Go.AX.Z.TO

/-! (TOI) -/

set_option linter.unusedVariables false
set_option linter.unusedSimpArgs false
set_option maxRecDepth 20000
set_option maxHeartbeats 1000000
namespace Go.AX.Z.TO
open Go.AX

def selR (a : A6vu) (x : PathRoute) : Bool := x.Valid && (decide (x.Next = a))
def brkR (a : A6vu) (x : PathRoute) : PathRoute := bif selR a x then goneR x else x
def gsR (a : A6vu) (l : List PathRoute) : List PathRoute := (l.filter (selR a)).map goneR
theorem gsR_t {a : A6vu} {x : PathRoute} {l : List PathRoute} (h : selR a x = true) : gsR a (x :: l) = goneR x :: gsR a l := by unfold gsR; rw [List.filter_cons_of_pos h]; rfl
theorem gsR_f {a : A6vu} {x : PathRoute} {l : List PathRoute} (h : selR a x = false) : gsR a (x :: l) = gsR a l := by unfold gsR; rw [List.filter_cons_of_neg (by rw [h]; decide)]
theorem gsR_len (a : A6vu) (l : List PathRoute) : (gsR a l).length ≤ l.length := by unfold gsR; rw [List.length_map]; exact List.length_filter_le _ _

theorem chN_fuel : ∀ (n m : Nat) (l : List PathRoute), l.length ≤ n → l.length ≤ m → chN n l = chN m l
 | 0, m, l, h, _ => by
  have : l = [] := List.eq_nil_of_length_eq_zero (by omega)
  subst this
  cases m <;> rfl
 | n + 1, 0, l, _, h => by
  have : l = [] := List.eq_nil_of_length_eq_zero (by omega)
  subst this
  rfl
 | n + 1, m + 1, l, h1, h2 => by
  rw [chN, chN]
  by_cases h : 0 < l.length
  ·
   rw [decide_eq_true h, cond_true, cond_true, chN_fuel n m (l.drop 16) (by rw [List.length_drop]; omega) (by rw [List.length_drop]; omega)]
  ·
   rw [decide_eq_false h, cond_false, cond_false]
theorem chL_app {l r : List PathRoute} (h : l.length = 16) : chL (l ++ r) = l :: chL r := by
 unfold chL
 obtain ⟨n, hn⟩ : ∃ n, (l ++ r).length = n + 1 := ⟨(l ++ r).length - 1, by rw [List.length_append]; omega⟩
 have hn2 := hn
 rw [List.length_append] at hn2
 rw [hn, chN, decide_eq_true (by omega), cond_true, List.take_left' h, List.drop_left' h, chN_fuel n r.length r (by omega) (Nat.le_refl _)]
theorem chL_nil : chL [] = [] := rfl
theorem chL_sm {l : List PathRoute} (h1 : 0 < l.length) (h : l.length ≤ 16) : chL l = [l] := by
 unfold chL
 obtain ⟨n, hn⟩ : ∃ n, l.length = n + 1 := ⟨l.length - 1, by omega⟩
 rw [hn, chN, decide_eq_true h1, cond_true, List.take_of_length_le h, List.drop_of_length_le h]
 cases n <;> rfl
theorem chN_len : ∀ (n : Nat) (l : List PathRoute), (chN n l).length ≤ n
 | 0, _ => Nat.le_refl _
 | n + 1, l => by
  rw [chN]
  cases decide (0 < l.length)
  ·
   exact Nat.zero_le _
  ·
   have := chN_len n (l.drop 16)
   simp only [cond_true, List.length_cons]; omega
theorem chN_small : ∀ (n : Nat) (l : List PathRoute), ∀ b ∈ chN n l, b.length ≤ 16
 | 0, _ => by intro b hb; cases hb
 | n + 1, l => by
  rw [chN]
  intro b hb
  cases hd : decide (0 < l.length)
  ·
   rw [hd] at hb; cases hb
  ·
   rw [hd, cond_true] at hb
   rcases List.mem_cons.1 hb with rfl | hb
   ·
    rw [List.length_take]; omega
   ·
    exact chN_small n _ b hb

theorem broken_loop (X : List PathRoute × List PathWanted) (a : A6vu) (hX : X.1.length ≤ 1000) : ∀ (l P g : List PathRoute) (n : Nat), P.length + l.length = X.1.length → l.length < n → g.length + l.length ≤ 1000 →
  path_Broken_L3 X a n (P ++ l, g, (P.length : Int)) = some (P ++ l.map (brkR a), g ++ gsR a l) := by
 intro l
 induction l with
 | nil =>
  intro P g n h hn hg
  obtain ⟨n, rfl⟩ : ∃ m, n = m + 1 := ⟨n - 1, by simp at hn; omega⟩
  simp only [List.length_nil] at h
  rw [path_Broken_L3]
  simp only [ge_dec (show X.1.length ≤ P.length by omega), cond_false]
  show _ = some (P ++ [], g ++ [])
  rw [List.append_nil, List.append_nil]
 | cons x l ih =>
  intro P g n h hn hg
  obtain ⟨n, rfl⟩ : ∃ m, n = m + 1 := ⟨n - 1, by simp at hn; omega⟩
  simp only [List.length_cons] at h hn hg
  rw [path_Broken_L3]
  simp only [lt_dec (show P.length < X.1.length by omega), cond_true, idx_mid, bindS]
  rw [show (x.Valid && (decide (x.Next = a))) = selR a x from rfl, spoil_mid, bindS, chk_d (by simp), bindS, idx_mid, bindS, chk_d (by omega), bindS, wrapN (by omega)]
  cases hs : selR a x with
  | true =>
   have e2 := ih (P ++ [goneR x]) (g ++ [goneR x]) n (by simp; omega) (by omega) (by simp; omega)
   rw [List.append_assoc, List.append_assoc, List.append_assoc, List.singleton_append, List.singleton_append, List.singleton_append, List.length_append, List.length_singleton] at e2
   rw [cond_true, e2, List.map_cons, gsR_t hs]
   unfold brkR
   rw [hs]; rfl
  | false =>
   have e1 := ih (P ++ [x]) g n (by simp; omega) (by omega) (by omega)
   rw [List.append_assoc, List.append_assoc, List.singleton_append, List.singleton_append, List.length_append, List.length_singleton] at e1
   rw [cond_false, e1, List.map_cons, gsR_f hs]
   unfold brkR
   rw [hs]; rfl

theorem rbroken_loop (a : A6vu) : ∀ (l P pend : List PathRoute) (sent : List Sent) (n : Nat), P.length + l.length ≤ 1000 → l.length < n → pend.length < 16 → sent.length + l.length ≤ 1000 → (l = [] → pend = []) →
  hotspotref39_Broken_L3 a n (P ++ l, pend, sent, (P.length : Int)) = some (P ++ l.map (brkR a), sent ++ (chL (pend ++ gsR a l)).map msgF) := by
 intro l
 induction l with
 | nil =>
  intro P pend sent n h hn hp hs hz
  obtain ⟨n, rfl⟩ : ∃ m, n = m + 1 := ⟨n - 1, by simp at hn; omega⟩
  rw [hotspotref39_Broken_L3]
  simp only [ge_dec (show (P ++ ([] : List PathRoute)).length ≤ P.length by simp), cond_false]
  rw [hz rfl]
  show _ = some (P ++ [], sent ++ (chL []).map msgF)
  rw [chL_nil]
  simp
 | cons x l ih =>
  intro P pend sent n h hn hp hs hz
  obtain ⟨n, rfl⟩ : ∃ m, n = m + 1 := ⟨n - 1, by simp at hn; omega⟩
  simp only [List.length_cons] at h hn hs
  rw [hotspotref39_Broken_L3]
  simp only [lt_dec (show P.length < (P ++ x :: l).length by simp), cond_true, idx_mid, bindS]
  rw [show (x.Valid && (decide (x.Next = a))) = selR a x from rfl, goneR_e, bindS, chk_d (by omega), bindS, set_mid]
  have hb : ∃ p2, p2 = (bif selR a x then pend ++ [goneR x] else pend) ∧ p2 ++ gsR a l = pend ++ gsR a (x :: l) ∧ p2.length ≤ 16 := by
   refine ⟨_, rfl, ?_, ?_⟩
   ·
    cases hs : selR a x
    ·
     rw [gsR_f hs]; rfl
    ·
     rw [gsR_t hs, cond_true, List.append_assoc]; rfl
   ·
    cases selR a x
    ·
     rw [cond_false]; omega
    ·
     rw [cond_true, List.length_append, List.length_singleton]; omega
  obtain ⟨p2, hp2, hp3, hp4⟩ := hb
  have hb2 : (bif selR a x then some (P ++ goneR x :: l, pend ++ [goneR x]) else some (P ++ x :: l, pend)) = some (P ++ brkR a x :: l, p2) := by
   rw [hp2]; unfold brkR; cases selR a x <;> rfl
  rw [hb2, bindS]
  simp only
  rw [← hp3]
  have hln : (P ++ brkR a x :: l).length = P.length + (l.length + 1) := by simp
  have elast : ((P.length : Int) == (IntKind.wrap .i64 ((((P ++ brkR a x :: l).length : Nat) : Int) - 1))) = decide (l = []) := by
   rw [hln, wrapI (by omega) (by omega), Bool.eq_iff_iff, beq_iff_eq, decide_eq_true_eq]
   constructor
   ·
    intro q; exact List.eq_nil_of_length_eq_zero (by omega)
   ·
    rintro rfl; simp
  rw [elast, wrapN (by omega), all_e, bindS, failure_e p2 (by omega), bindS, chk_d (by omega), bindS]
  have ev : ∀ (q : List PathRoute) (S : List Sent), hotspotref39_Broken_L3 a n (P ++ brkR a x :: l, q, S, ((P.length + 1 : Nat) : Int)) = hotspotref39_Broken_L3 a n ((P ++ [brkR a x]) ++ l, q, S, ((P ++ [brkR a x]).length : Int)) := by
   intro q S
   rw [List.append_assoc, List.singleton_append, List.length_append, List.length_singleton]
  rw [ev, ev]
  have em : ∀ S : List Sent, (some ((P ++ [brkR a x]) ++ l.map (brkR a), S) : Option (List PathRoute × List Sent)) = some (P ++ (x :: l).map (brkR a), S) := by
   intro S; rw [List.append_assoc, List.singleton_append, List.map_cons]
  by_cases hc : p2.length = 16
  ·
   have e1 : (((p2.length : Nat) : Int) == 16) = true := by rw [hc]; rfl
   rw [e1, Bool.true_or, cond_true, ih (P ++ [brkR a x]) [] _ n (by simp; omega) (by omega) (by simp) (by simp; omega) (fun _ => rfl), em, chL_app hc, List.append_assoc]
   rfl
  ·
   have e1 : (((p2.length : Nat) : Int) == 16) = false := by rw [beq_eq_false_iff_ne]; omega
   rw [e1, Bool.false_or]
   by_cases hl : l = []
   ·
    subst hl
    rw [decide_eq_true rfl, Bool.and_true]
    by_cases h0 : 0 < p2.length
    ·
     rw [decide_eq_true (by omega), cond_true, ih (P ++ [brkR a x]) [] _ n (by simp; omega) (by omega) (by simp) (by simp; omega) (fun _ => rfl), em]
     show some (_, (sent ++ [msgF p2]) ++ (chL ([] ++ [])).map msgF) = some (_, sent ++ (chL (p2 ++ [])).map msgF)
     rw [List.append_nil, List.append_nil, chL_nil, chL_sm h0 (by omega)]
     simp
    ·
     rw [decide_eq_false (by omega), cond_false, ih (P ++ [brkR a x]) p2 _ n (by simp; omega) (by omega) (by omega) (by simp; omega) (fun _ => List.eq_nil_of_length_eq_zero (by omega)), em]
   ·
    rw [decide_eq_false hl, Bool.and_false, cond_false, ih (P ++ [brkR a x]) p2 _ n (by simp; omega) (by omega) (by omega) (by omega) (fun q => absurd q hl), em]

theorem failL_e : ∀ (c : List (List PathRoute)) (N : Path_node), (∀ b ∈ c, b.length ≤ 1000) → N.out.length + c.length ≤ 1000 → failL N c = some (N.out ++ c.map msgF)
 | [], N, _, _ => by rw [failL, List.map_nil, List.append_nil]
 | b :: c, N, h, hl => by
  simp only [List.length_cons] at hl
  rw [failL, fail_B_e b N (h b (by simp)) (by omega), bindS, failL_e c { N with out := N.out ++ [msgF b] } (fun y hy => h y (by simp [hy])) (by simp; omega)]
  show some ((N.out ++ [msgF b]) ++ c.map msgF) = _
  rw [List.append_assoc]; rfl
theorem fail_e (N : Path_node) (g : List PathRoute) (hg : g.length ≤ 900) : path_node_fail N g = some ((chL g).map msgF) := by
 unfold path_node_fail
 rw [chk_d (by omega), bindS, failL_e _ _ (fun b hb => by have := chN_small _ _ b hb; omega) (by have := chN_len g.length g; show 0 + (chL g).length ≤ 1000; unfold chL; omega)]
 rfl

theorem broken_e {a0 : Paths} (h : Byt a0) (a : A6vu) (t : Int) : Rs (path_Broken a0 a t) (hotspotref39_Broken a0 a t) := by
 rcases begun_e h t with ⟨hk, ht, hb, hr⟩ | ⟨hb, e, he, h2, hr⟩
 ·
  have H := hnd h hk t
  have rl := H.rl
  have wl := H.wl
  unfold path_Broken hotspotref39_Broken
  rw [hb, hr]
  simp only [Option.isSome_some, cond_true, bindS, show ((0 : Int) != 0) = false from rfl, cond_false]
  generalize hR : a0.Routes.map (expR t) = R at *
  have q1 := broken_loop (R, a0.Wanted) a (by show R.length ≤ 1000; omega) R [] [] big (by simp) (big_lt (by omega)) (by simp; omega)
  have q2 := rbroken_loop a R [] [] [] big (by simp; omega) (big_lt (by omega)) (by simp) (by simp; omega) (fun _ => rfl)
  simp only [List.nil_append, List.length_nil, Int.natCast_zero] at q1 q2
  have hg := gsR_len a R
  rw [q1, q2, bindS, bindS]
  simp only
  rw [fail_e _ _ (by omega), bindS]
  refine ⟨_, rfl, rfl, by show (R.map (brkR a)).length ≤ 40; rw [List.length_map]; omega, by show a0.Wanted.length ≤ 40; omega, ?_, ?_⟩
  ·
   show ((chL (gsR a R)).map msgF).length ≤ 100
   rw [List.length_map]
   have := chN_len (gsR a R).length (gsR a R)
   unfold chL; omega
  ·
   intro x hx
   obtain ⟨b, hb, rfl⟩ := List.mem_map.1 hx
   have := chN_small _ _ b hb
   show (failB b).length ≤ 1000
   unfold failB
   rw [List.length_append, rtB_len]
   simp only [List.length_cons, List.length_nil]; omega
 ·
  unfold path_Broken hotspotref39_Broken
  rw [hb, h2, hr]
  simp only [bindS, rne he, cond_true, Option.isSome_none, cond_false]
  exact rs_z e
end Go.AX.Z.TO

/-! (TOK) -/

set_option linter.unusedVariables false
set_option linter.unusedSimpArgs false
set_option maxRecDepth 20000
set_option maxHeartbeats 1000000
namespace Go.AX.Z.TO
open Go.AX

theorem sameR_loop (p : Paths) (hL : p.Routes.length ≤ 1000) : ∀ (l : List PathRoute) (i n : Nat), p.Routes.drop i = l → l.length < n → hotspotref39_Same_L2 p p n (i : Int) = some (Ex.go ()) := by
 intro l
 induction l with
 | nil =>
  intro i n h hn
  obtain ⟨n, rfl⟩ : ∃ m, n = m + 1 := ⟨n - 1, by simp at hn; omega⟩
  rw [hotspotref39_Same_L2, ge_dec (drop_n h), cond_false]
 | cons x l ih =>
  intro i n h hn
  obtain ⟨n, rfl⟩ : ∃ m, n = m + 1 := ⟨n - 1, by simp at hn; omega⟩
  obtain ⟨h1, h2, h3⟩ := drop_c h
  simp only [List.length_cons] at hn
  rw [hotspotref39_Same_L2, lt_dec h3]
  simp only [cond_true, idxN, h1, bindS, decide_true, Bool.not_true, cond_false]
  rw [wrapN (by omega), ih (i + 1) n h2 (by omega)]
theorem sameW_loop (p : Paths) (hL : p.Wanted.length ≤ 1000) : ∀ (l : List PathWanted) (i n : Nat), p.Wanted.drop i = l → l.length < n → hotspotref39_Same_L5 p p n (i : Int) = some (Ex.go ()) := by
 intro l
 induction l with
 | nil =>
  intro i n h hn
  obtain ⟨n, rfl⟩ : ∃ m, n = m + 1 := ⟨n - 1, by simp at hn; omega⟩
  rw [hotspotref39_Same_L5, ge_dec (drop_n h), cond_false]
 | cons x l ih =>
  intro i n h hn
  obtain ⟨n, rfl⟩ : ∃ m, n = m + 1 := ⟨n - 1, by simp at hn; omega⟩
  obtain ⟨h1, h2, h3⟩ := drop_c h
  simp only [List.length_cons] at hn
  rw [hotspotref39_Same_L5, lt_dec h3]
  simp only [cond_true, idxN, h1, bindS, decide_true, Bool.not_true, cond_false]
  rw [wrapN (by omega), ih (i + 1) n h2 (by omega)]
theorem same_e (p : Paths) (h1 : p.Routes.length ≤ 1000) (h2 : p.Wanted.length ≤ 1000) : hotspotref39_Same p p = some true := by
 unfold hotspotref39_Same
 have a := sameR_loop p h1 p.Routes 0 big rfl (big_lt (by omega))
 have b := sameW_loop p h2 p.Wanted 0 big rfl (big_lt (by omega))
 simp only [Int.natCast_zero] at a b
 simp only [decide_true, Bool.not_true, bne_self_eq_false, Bool.or_self, cond_false, a, b, bindS, Ex.k_go']

theorem same22_loop (L : List Int) (hL : L.length ≤ 2000) : ∀ (l : List Int) (i n : Nat), L.drop i = l → l.length < n → hotspotref22_Same_L2 L L n (i : Int) = some (Ex.go ()) := by
 intro l
 induction l with
 | nil =>
  intro i n h hn
  obtain ⟨n, rfl⟩ : ∃ m, n = m + 1 := ⟨n - 1, by simp at hn; omega⟩
  rw [hotspotref22_Same_L2, ge_dec (drop_n h), cond_false]
 | cons x l ih =>
  intro i n h hn
  obtain ⟨n, rfl⟩ : ∃ m, n = m + 1 := ⟨n - 1, by simp at hn; omega⟩
  obtain ⟨h1, h2, h3⟩ := drop_c h
  simp only [List.length_cons] at hn
  rw [hotspotref22_Same_L2, lt_dec h3]
  simp only [cond_true, idxN, h1, bindS, bne_self_eq_false, cond_false]
  rw [wrapN (by omega), ih (i + 1) n h2 (by omega)]
theorem same22_e (L : List Int) (hL : L.length ≤ 2000) : hotspotref22_Same L L = some true := by
 unfold hotspotref22_Same
 have a := same22_loop L hL L 0 big rfl (big_lt (by omega))
 simp only [Int.natCast_zero] at a
 simp only [bne_self_eq_false, cond_false, a, bindS, Ex.k_go']
theorem sent_loop (L : List Sent) (hL : L.length ≤ 2000) (hD : ∀ x ∈ L, x.Data.length ≤ 1000) : ∀ (l : List Sent) (i n : Nat), L.drop i = l → l.length < n → hotspotref39_SameSent_L2 L L n (i : Int) = some (Ex.go ()) := by
 intro l
 induction l with
 | nil =>
  intro i n h hn
  obtain ⟨n, rfl⟩ : ∃ m, n = m + 1 := ⟨n - 1, by simp at hn; omega⟩
  rw [hotspotref39_SameSent_L2, ge_dec (drop_n h), cond_false]
 | cons x l ih =>
  intro i n h hn
  obtain ⟨n, rfl⟩ : ∃ m, n = m + 1 := ⟨n - 1, by simp at hn; omega⟩
  obtain ⟨h1, h2, h3⟩ := drop_c h
  simp only [List.length_cons] at hn
  have hd := hD x (List.mem_of_getElem? h1)
  rw [hotspotref39_SameSent_L2, lt_dec h3]
  simp only [cond_true, idxN, h1, bindS, decide_true, Bool.not_true, cond_false, same22_e x.Data (by omega)]
  rw [wrapN (by omega), ih (i + 1) n h2 (by omega)]
theorem sent_e (L : List Sent) (hL : L.length ≤ 2000) (hD : ∀ x ∈ L, x.Data.length ≤ 1000) : hotspotref39_SameSent L L = some true := by
 unfold hotspotref39_SameSent
 have a := sent_loop L hL hD L 0 big rfl (big_lt (by omega))
 simp only [Int.natCast_zero] at a
 simp only [bne_self_eq_false, cond_false, a, bindS, Ex.k_go']

theorem eqR_loop (L : List PathRoute) (hL : L.length ≤ 2000) : ∀ (l : List PathRoute) (i n : Nat), L.drop i = l → l.length < n → slices_Equal_api_PathRoute_api_PathRoute_L2 L L n (i : Int) = some (Ex.go ()) := by
 intro l
 induction l with
 | nil =>
  intro i n h hn
  obtain ⟨n, rfl⟩ : ∃ m, n = m + 1 := ⟨n - 1, by simp at hn; omega⟩
  rw [slices_Equal_api_PathRoute_api_PathRoute_L2, ge_dec (drop_n h), cond_false]
 | cons x l ih =>
  intro i n h hn
  obtain ⟨n, rfl⟩ : ∃ m, n = m + 1 := ⟨n - 1, by simp at hn; omega⟩
  obtain ⟨h1, h2, h3⟩ := drop_c h
  simp only [List.length_cons] at hn
  rw [slices_Equal_api_PathRoute_api_PathRoute_L2, lt_dec h3]
  simp only [cond_true, idxN, h1, bindS, decide_true, Bool.not_true, cond_false]
  rw [wrapN (by omega), ih (i + 1) n h2 (by omega)]
theorem eqW_loop (L : List PathWanted) (hL : L.length ≤ 2000) : ∀ (l : List PathWanted) (i n : Nat), L.drop i = l → l.length < n → slices_Equal_api_PathWanted_api_PathWanted_L2 L L n (i : Int) = some (Ex.go ()) := by
 intro l
 induction l with
 | nil =>
  intro i n h hn
  obtain ⟨n, rfl⟩ : ∃ m, n = m + 1 := ⟨n - 1, by simp at hn; omega⟩
  rw [slices_Equal_api_PathWanted_api_PathWanted_L2, ge_dec (drop_n h), cond_false]
 | cons x l ih =>
  intro i n h hn
  obtain ⟨n, rfl⟩ : ∃ m, n = m + 1 := ⟨n - 1, by simp at hn; omega⟩
  obtain ⟨h1, h2, h3⟩ := drop_c h
  simp only [List.length_cons] at hn
  rw [slices_Equal_api_PathWanted_api_PathWanted_L2, lt_dec h3]
  simp only [cond_true, idxN, h1, bindS, decide_true, Bool.not_true, cond_false]
  rw [wrapN (by omega), ih (i + 1) n h2 (by omega)]
theorem psame_e (p : Paths) (h1 : p.Routes.length ≤ 1000) (h2 : p.Wanted.length ≤ 1000) : path_Same p p = some true := by
 unfold path_Same slices_Equal_api_PathRoute_api_PathRoute slices_Equal_api_PathWanted_api_PathWanted
 have a := eqR_loop p.Routes (by omega) p.Routes 0 big rfl (big_lt (by omega))
 have b := eqW_loop p.Wanted (by omega) p.Wanted 0 big rfl (big_lt (by omega))
 simp only [Int.natCast_zero] at a b
 simp only [decide_true, beq_self_eq_true, Bool.and_self, cond_true, bne_self_eq_false, cond_false, a, b, bindS, Ex.k_go']

theorem touchR_loop : ∀ (m : Nat) (L : List PathRoute) (i n : Nat), L.length ≤ 1000 → L.length ≤ i + m → m < n → ∃ r, hotspotlaw39_touch_L2 n (L, (i : Int)) = some r := by
 intro m
 induction m with
 | zero =>
  intro L i n hL h hn
  obtain ⟨n, rfl⟩ : ∃ q, n = q + 1 := ⟨n - 1, by omega⟩
  rw [hotspotlaw39_touch_L2]
  simp only [ge_dec (show L.length ≤ i by omega), cond_false]
  exact ⟨_, rfl⟩
 | succ m ih =>
  intro L i n hL h hn
  obtain ⟨n, rfl⟩ : ∃ q, n = q + 1 := ⟨n - 1, by omega⟩
  rw [hotspotlaw39_touch_L2]
  by_cases hi : i < L.length
  ·
   simp only [lt_dec hi, cond_true, idxN, List.getElem?_eq_getElem hi, bindS]
   rw [wrapN (by omega)]
   exact ih _ (i + 1) n (by rw [List.length_modify]; exact hL) (by rw [List.length_modify]; omega) (by omega)
  ·
   simp only [ge_dec (show L.length ≤ i by omega), cond_false]
   exact ⟨_, rfl⟩
theorem touchW_loop : ∀ (m : Nat) (L : List PathWanted) (i n : Nat), L.length ≤ 1000 → L.length ≤ i + m → m < n → ∃ r, hotspotlaw39_touch_L5 n (L, (i : Int)) = some r := by
 intro m
 induction m with
 | zero =>
  intro L i n hL h hn
  obtain ⟨n, rfl⟩ : ∃ q, n = q + 1 := ⟨n - 1, by omega⟩
  rw [hotspotlaw39_touch_L5]
  simp only [ge_dec (show L.length ≤ i by omega), cond_false]
  exact ⟨_, rfl⟩
 | succ m ih =>
  intro L i n hL h hn
  obtain ⟨n, rfl⟩ : ∃ q, n = q + 1 := ⟨n - 1, by omega⟩
  rw [hotspotlaw39_touch_L5]
  by_cases hi : i < L.length
  ·
   simp only [lt_dec hi, cond_true, idxN, List.getElem?_eq_getElem hi, bindS]
   rw [wrapN (by omega)]
   exact ih _ (i + 1) n (by rw [List.length_modify]; exact hL) (by rw [List.length_modify]; omega) (by omega)
  ·
   simp only [ge_dec (show L.length ≤ i by omega), cond_false]
   exact ⟨_, rfl⟩
theorem touch_e (p : Paths) (h1 : p.Routes.length ≤ 1000) (h2 : p.Wanted.length ≤ 1000) : ∃ r, hotspotlaw39_touch p = some r := by
 obtain ⟨r, hr⟩ := touchR_loop p.Routes.length p.Routes 0 big h1 (by omega) (big_lt (by omega))
 obtain ⟨w, hw⟩ := touchW_loop p.Wanted.length p.Wanted 0 big h2 (by omega) (big_lt (by omega))
 simp only [Int.natCast_zero] at hr hw
 unfold hotspotlaw39_touch
 rw [hr, bindS, hw, bindS]
 exact ⟨_, rfl⟩

theorem rs_same {a b : Option (Paths × (List Sent) × Int)} (h : Rs a b) : ∃ r, a = some r ∧ b = some r ∧ hotspotref39_Same r.1 r.1 = some true ∧ hotspotref39_SameSent r.2.1 r.2.1 = some true ∧ ∃ q, hotspotlaw39_touch r.1 = some q := by
 obtain ⟨r, h1, h2, h3, h4, h5, h6⟩ := h
 exact ⟨r, h1, h2, same_e _ (by omega) (by omega), sent_e _ (by omega) h6, touch_e _ (by omega) (by omega)⟩

theorem matches_e (a0 : Paths) (a1 : A6vu) (a2 : Int) (ho : okA a0.Own) (ha : okA a1) (hR : ∀ x ∈ a0.Routes, okA x.Dest) (hW : ∀ x ∈ a0.Wanted, okA x.Dest) : hotspotlaw39_PathMatches a0 a1 a2 = some true := by
 unfold hotspotlaw39_PathMatches hotspotref39_Great
 rw [bindS]
 cases hg : ((decide (40 < (a0.Routes.length : Int))) || (decide (40 < (a0.Wanted.length : Int)))) with
 | true => rfl
 | false =>
  rw [Bool.or_eq_false_iff, decide_eq_false_iff_not, decide_eq_false_iff_not] at hg
  have hB : Byt a0 := ⟨ho, hR, hW, by omega, by omega⟩
  obtain ⟨r, r1, r2, r3, r4, q, r5⟩ := rs_same (find_e hB ha a2)
  obtain ⟨s, s1, s2, s3, s4, u, s5⟩ := rs_same (broken_e hB a1 a2)
  obtain ⟨w, w1, w2, w3, w4, v, w5⟩ := rs_same (tick_e hB a2)
  obtain ⟨n, n1, n2⟩ := next_e hB ha a2
  obtain ⟨e, e1, e2, _⟩ := check_e hB
  rw [cond_false, twin_e hB, bindS, r1, r2, bindS, bindS, r3, bindS]
  simp only [Bool.not_true, cond_false, r4, bindS, bne_self_eq_false, Bool.or_self, r5, s1, s2, s3, s4, s5, w1, w2, w3, w4, w5, n1, n2, e1, e2, decide_true, beq_self_eq_true, Bool.and_self, cond_true, same_e a0 (by omega) (by omega), psame_e a0 (by omega) (by omega)]
end Go.AX.Z.TO

/-! (TOY) -/

set_option linter.unusedVariables false
namespace Go.AX.Z.TO
open Go.AX Go.Proofs

/-! ## Arguments, read -/

theorem ud5 : K.P.underlying 5 = some (.int .u8) := by kernel_rfl

def W_A6vu (B : Nat) (x : A6vu) : Prop := ((Lit.int .u8 x.a0).wf = true) ∧ ((Lit.int .u8 x.a1).wf = true) ∧ ((Lit.int .u8 x.a2).wf = true) ∧ ((Lit.int .u8 x.a3).wf = true) ∧ ((Lit.int .u8 x.a4).wf = true) ∧ ((Lit.int .u8 x.a5).wf = true)

theorem ud23 : K.P.underlying 23 = some (.array 6 5) := by kernel_rfl

theorem rd23 {B n : Nat} {l : List AV} (h : Ty K.P B n 23 l) : ∃ x : A6vu, l = e_A6vu x ∧ W_A6vu B x := by
 obtain ⟨m, ls, rfl, h1, h2⟩ := ty_array ud23 h
 obtain ⟨vs, h3, h4, h5⟩ := ty_ints ud5 ls h2
 match vs, (h4.trans h1 : vs.length = 6) with
 | [a0, a1, a2, a3, a4, a5], _ => exact ⟨⟨a0, a1, a2, a3, a4, a5⟩, h3, h5 _ (by simp), h5 _ (by simp), h5 _ (by simp), h5 _ (by simp), h5 _ (by simp), h5 _ (by simp)⟩

theorem ud3 : K.P.underlying 3 = some (.int .i64) := by kernel_rfl

theorem ud4 : K.P.underlying 4 = some (.bool) := by kernel_rfl

def W_PathRoute (B : Nat) (x : PathRoute) : Prop := (W_A6vu B x.Dest) ∧ ((Lit.int .i64 x.Seq).wf = true) ∧ (W_A6vu B x.Next) ∧ ((Lit.int .i64 x.Hops).wf = true) ∧ ((Lit.int .i64 x.Cost).wf = true) ∧ ((Lit.int .i64 x.Until).wf = true)

theorem rd55 {B n : Nat} {l : List AV} (h : Ty K.P B n 55 l) : ∃ x : PathRoute, l = e_PathRoute x ∧ W_PathRoute B x := by
 obtain ⟨m, h⟩ := ty_struct Tryd.underlying55 h
 have h' : TyAll (Ty K.P B m) [23, 3, 4, 23, 3, 3, 3] l := h
 obtain ⟨_, _, rfl, h0, _, _, rfl, h1, _, _, rfl, h2, _, _, rfl, h3, _, _, rfl, h4, _, _, rfl, h5, _, _, rfl, h6, rfl⟩ := h'
 obtain ⟨v0, rfl, w0⟩ := rd23 h0
 obtain ⟨v1, rfl, w1⟩ := ty_int ud3 h1
 obtain ⟨v2, rfl⟩ := ty_bool ud4 h2
 obtain ⟨v3, rfl, w3⟩ := rd23 h3
 obtain ⟨v4, rfl, w4⟩ := ty_int ud3 h4
 obtain ⟨v5, rfl, w5⟩ := ty_int ud3 h5
 obtain ⟨v6, rfl, w6⟩ := ty_int ud3 h6
 exact ⟨⟨v0, v1, v2, v3, v4, v5, v6⟩, rfl, ⟨w0, w1, w3, w4, w5, w6⟩⟩

theorem ud24 : K.P.underlying 24 = some (.slice 55) := by kernel_rfl

theorem rsl24 {B n : Nat} {x : AV} (h : Ty K.P B n 24 [x]) : ∃ l : (List PathRoute), x = S_PathRoute l ∧ l.length ≤ B ∧ ∀ z ∈ l, W_PathRoute B z := by
 obtain ⟨l, rfl, h1, h2⟩ := ty_slice_rows (W_PathRoute B) ud24 (fun _ _ h => rd55 h) h
 exact ⟨l, rfl, h1, h2⟩

def W_PathWanted (B : Nat) (x : PathWanted) : Prop := (W_A6vu B x.Dest) ∧ ((Lit.int .i64 x.Tries).wf = true) ∧ ((Lit.int .i64 x.Due).wf = true)

theorem rd60 {B n : Nat} {l : List AV} (h : Ty K.P B n 60 l) : ∃ x : PathWanted, l = e_PathWanted x ∧ W_PathWanted B x := by
 obtain ⟨m, h⟩ := ty_struct Tryd.underlying60 h
 have h' : TyAll (Ty K.P B m) [23, 3, 3] l := h
 obtain ⟨_, _, rfl, h0, _, _, rfl, h1, _, _, rfl, h2, rfl⟩ := h'
 obtain ⟨v0, rfl, w0⟩ := rd23 h0
 obtain ⟨v1, rfl, w1⟩ := ty_int ud3 h1
 obtain ⟨v2, rfl, w2⟩ := ty_int ud3 h2
 exact ⟨⟨v0, v1, v2⟩, rfl, ⟨w0, w1, w2⟩⟩

theorem ud25 : K.P.underlying 25 = some (.slice 60) := by kernel_rfl

theorem rsl25 {B n : Nat} {x : AV} (h : Ty K.P B n 25 [x]) : ∃ l : (List PathWanted), x = S_PathWanted l ∧ l.length ≤ B ∧ ∀ z ∈ l, W_PathWanted B z := by
 obtain ⟨l, rfl, h1, h2⟩ := ty_slice_rows (W_PathWanted B) ud25 (fun _ _ h => rd60 h) h
 exact ⟨l, rfl, h1, h2⟩

def W_Paths (B : Nat) (x : Paths) : Prop := (W_A6vu B x.Own) ∧ ((Lit.int .i64 x.Seq).wf = true) ∧ (x.Routes.length ≤ B ∧ ∀ z ∈ x.Routes, W_PathRoute B z) ∧ (x.Wanted.length ≤ B ∧ ∀ z ∈ x.Wanted, W_PathWanted B z)

theorem rd27 {B n : Nat} {l : List AV} (h : Ty K.P B n 27 l) : ∃ x : Paths, l = E_Paths x ∧ W_Paths B x := by
 obtain ⟨m, h⟩ := ty_struct Tryd.underlying27 h
 have h' : TyAll (Ty K.P B m) [23, 3, 24, 25] l := h
 obtain ⟨_, _, rfl, h0, _, _, rfl, h1, _, _, rfl, h2, _, _, rfl, h3, rfl⟩ := h'
 obtain ⟨v0, rfl, w0⟩ := rd23 h0
 obtain ⟨v1, rfl, w1⟩ := ty_int ud3 h1
 obtain ⟨s2, rfl⟩ : ∃ x, _ = [x] := ty_single h2 (by rw [ud24]; intro _ hh; cases hh) (by rw [ud24]; intro _ _ hh; cases hh)
 obtain ⟨v2, rfl, w2⟩ := rsl24 h2
 obtain ⟨s3, rfl⟩ : ∃ x, _ = [x] := ty_single h3 (by rw [ud25]; intro _ hh; cases hh) (by rw [ud25]; intro _ _ hh; cases hh)
 obtain ⟨v3, rfl, w3⟩ := rsl25 h3
 exact ⟨⟨v0, v1, v2, v3⟩, rfl, ⟨w0, w1, w2, w3⟩⟩

end Go.AX.Z.TO

/-! (TOZ) -/

set_option linter.unusedVariables false
namespace Go.AX.Z.TO
open Go.AX

theorem wfu {x : Int} (h : (Lit.int .u8 x).wf = true) : 0 ≤ x ∧ x ≤ 255 := by
 have e : IntKind.u8.min ≤ x ∧ x ≤ IntKind.u8.max := by simpa [Lit.wf] using h
 exact e
theorem wf_okA {B : Nat} {x : A6vu} (h : W_A6vu B x) : okA x := ⟨wfu h.1, wfu h.2.1, wfu h.2.2.1, wfu h.2.2.2.1, wfu h.2.2.2.2.1, wfu h.2.2.2.2.2⟩
theorem matchesW {B : Nat} (a0 : Paths) (a1 : A6vu) (a2 : Int) (h0 : W_Paths B a0) (h1 : W_A6vu B a1) (h2 : (Lit.int .i64 a2).wf = true) : hotspotlaw39_PathMatches a0 a1 a2 = some true :=
 matches_e a0 a1 a2 (wf_okA h0.1) (wf_okA h1) (fun x hx => wf_okA (h0.2.2.1.2 x hx).1) (fun x hx => wf_okA (h0.2.2.2.2 x hx).1)
end Go.AX.Z.TO

/-! (TOU) -/

/- How bulks bound what a reading holds. -/
namespace Go.Proofs.YthkcncinmpjhoaaDoor.bulks
open Go.AX

theorem one_le {H : Type} (d : DataW H) : 1 ≤ Rows.uptoBulk d := by
 cases d with
 | lit l => cases l <;> simp [Rows.uptoBulk]
 | nil => simp [Rows.uptoBulk]
 | ptr d => simp [Rows.uptoBulk]
 | slice elems spare => simp [Rows.uptoBulk]
 | agg parts => simp [Rows.uptoBulk]
 | iface t d => simp [Rows.uptoBulk]
 | map entries => simp [Rows.uptoBulk]
 | held h => simp [Rows.uptoBulk]

theorem part_le {H : Type} {d : DataW H} {l : List (DataW H)} (h : d ∈ l) : Rows.uptoBulk d ≤ Rows.uptoBulkAll l := by
 induction l with
 | nil => cases h
 | cons x r ih =>
  simp only [Rows.uptoBulkAll]
  cases List.mem_cons.1 h with
  | inl e => subst e; omega
  | inr e => have := ih e; omega

theorem length_le {H : Type} (l : List (DataW H)) : l.length ≤ Rows.uptoBulkAll l := by
 induction l with
 | nil => simp [Rows.uptoBulkAll]
 | cons x r ih => have := one_le x; simp only [Rows.uptoBulkAll, List.length_cons]; omega

theorem bulk {H : Type} : Bulk (H := H) Rows.uptoBulk where
 ptr d := by simp [Rows.uptoBulk]
 elems es sp d h := by have := part_le h; simp only [Rows.uptoBulk]; omega
 len es sp := by have := length_le es; simp only [Rows.uptoBulk]; omega
 agg ds d h := by have := part_le h; simp only [Rows.uptoBulk]; omega
 str bs := by simp [Rows.uptoBulk]

theorem bound {H : Type} {l : List (DataW H)} (hk : Rows.uptoSmall H l = true) : Rows.uptoBulkAll l ≤ 1048576 := by
 have := of_decide_eq_true hk
 exact this

end Go.Proofs.YthkcncinmpjhoaaDoor.bulks

/-! (TOTPathMatches) -/

/- PathMatches: the law returns true whatever its arguments. -/
namespace Go.Proofs.YthkcncinmpjhoaaDoor.pathMatches
open Go.ChangeShapes Go.WideShapes Go.ChangeAt Go.RowKit Go.AX Go.AX.Z Go.AX.Z.TO

theorem own : ownKnob Tryd.prog.godebug = none := by kernel_rfl
theorem laid : laidOutB K.P = true := by kernel_rfl
theorem par : parB K.P Tryd.f3.params.toList = true := by kernel_rfl

theorem law (B : Nat) (xs : List AV) (h : TyArgs K.P B Tryd.f3.params.toList xs) : SndP K 3 xs (.v (.bool true)) := by
 have h' : TyArgs K.P B [27, 23, 3] xs := h
 obtain ⟨_, _, rfl, h0, _, _, rfl, h1, _, _, rfl, h2, rfl⟩ := h'
 obtain ⟨_, _, rfl, qp0⟩ := tyV_ty Tryd.underlying27 h0
 obtain ⟨p0, rfl, wp0⟩ := rd27 qp0
 obtain ⟨_, _, rfl, qp1⟩ := tyV_arr ud23 h1
 obtain ⟨p1, rfl, wp1⟩ := rd23 qp1
 obtain ⟨p2, rfl, wp2⟩ := tyV_int ud3 h2
 exact hotspotlaw39_PathMatches_p p0 p1 p2 (matchesW p0 p1 p2 wp0 wp1 wp2)

theorem gTab : Tryd.prog.globalNamed "hotspot/path.everyone" = some 0 := by kernel_rfl
theorem gTabType : (Tryd.prog.globals[0]?).map (·.type) = some 23 := by kernel_rfl
theorem cells23 : Tryd.prog.cellsOf 23 = 6 := by kernel_rfl
theorem cells5 : Tryd.prog.cellsOf 5 = 1 := by kernel_rfl

/-- What the row's list gives: the variable's cells. -/
theorem table {W : World} (h : laidMetH Tryd.prog Rows.pathMatchesRow.laid W) : Lib.TabIs Tryd.prog W "hotspot/path.everyone" .u8 [255, 255, 255, 255, 255, 255] :=
 Lib.tabIs_of_head (rest := []) gTab gTabType Tryd.underlying23 Tryd.underlying5 cells5 cells23 h
theorem gtOk {W : World} (h : laidMetH Tryd.prog Rows.pathMatchesRow.laid W) : GtOk K (hv W) := by
 have ht : W.var? Tryd.prog "hotspot/path.everyone" = some #[.int .u8 255, .int .u8 255, .int .u8 255, .int .u8 255, .int .u8 255, .int .u8 255] := table h
 have h0 : hv W 0 = some #[.int .u8 255, .int .u8 255, .int .u8 255, .int .u8 255, .int .u8 255, .int .u8 255] := by
  unfold World.var? at ht
  rw [gTab, Option.bind_some] at ht
  exact ht
 intro g cs hg
 have hg' : (if g = 0 then some [.int .u8 255, .int .u8 255, .int .u8 255, .int .u8 255, .int .u8 255, .int .u8 255] else none : Option (List Value)) = some cs := hg
 by_cases hz : g = 0
 ·
  subst hz
  rw [if_pos rfl] at hg'
  cases hg'
  refine ⟨_, h0, by decide, fun i x y hx hy => ?_, fun i y hi hy => ?_⟩
  ·
   rw [Nat.zero_add] at hy
   match i, hx, hy with
   | 0, hx, hy => cases hx; cases hy; exact .v _
   | 1, hx, hy => cases hx; cases hy; exact .v _
   | 2, hx, hy => cases hx; cases hy; exact .v _
   | 3, hx, hy => cases hx; cases hy; exact .v _
   | 4, hx, hy => cases hx; cases hy; exact .v _
   | 5, hx, hy => cases hx; cases hy; exact .v _
   | i + 6, hx, hy => cases hx
  ·
   rw [Nat.zero_add] at hy
   match i, hi, hy with
   | 0, _, hy => cases hy; rfl
   | 1, _, hy => cases hy; rfl
   | 2, _, hy => cases hy; rfl
   | 3, _, hy => cases hy; rfl
   | 4, _, hy => cases hy; rfl
   | 5, _, hy => cases hy; rfl
   | i + 6, hi, _ => exact absurd hi (by simp)
 ·
  rw [if_neg hz] at hg'
  cases hg'

/-- A world for the witness: the settled one, the variable holding what its text lays. -/
noncomputable def laidWorld (os : Os) : World :=
 { World.holding Tryd.prog os ⟨#[], #[], []⟩ with heap := (World.holding Tryd.prog os ⟨#[], #[], []⟩).heap.modify 0 fun
   | .cells _ t frozen => .cells #[.int .u8 255, .int .u8 255, .int .u8 255, .int .u8 255, .int .u8 255, .int .u8 255] t frozen
   | o => o }
theorem laid_met (os : Os) : laidMet Tryd.prog Rows.pathMatchesRow.laid ((laidWorld os).forCall (fun _ _ => 0) ⟨#[], #[.agg #[.int .u8 0, .int .u8 0, .int .u8 0, .int .u8 0, .int .u8 0, .int .u8 0, .int .i64 0, .slice none 0 0, .slice none 0 0], .agg #[.int .u8 0, .int .u8 0, .int .u8 0, .int .u8 0, .int .u8 0, .int .u8 0], .int .i64 0], []⟩).memory :=
 laidMet_of_run' 8 (by kernel_rfl) (by kernel_rfl)
theorem reads (os : Os) {H : Type} (enc : TypeId × Value → H) : ∃ places, DataW.whole enc Tryd.prog ((laidWorld os).forCall (fun _ _ => 0) ⟨#[], #[.agg #[.int .u8 0, .int .u8 0, .int .u8 0, .int .u8 0, .int .u8 0, .int .u8 0, .int .i64 0, .slice none 0 0, .slice none 0 0], .agg #[.int .u8 0, .int .u8 0, .int .u8 0, .int .u8 0, .int .u8 0, .int .u8 0], .int .i64 0], []⟩).memory Tryd.f3.params.toList Rows.pathMatchesSpec.vars false (#[.agg #[.int .u8 0, .int .u8 0, .int .u8 0, .int .u8 0, .int .u8 0, .int .u8 0, .int .i64 0, .slice none 0 0, .slice none 0 0], .agg #[.int .u8 0, .int .u8 0, .int .u8 0, .int .u8 0, .int .u8 0, .int .u8 0], .int .i64 0] : Array Value).toList 8 = some ([.agg [.agg [.lit (.int .u8 0), .lit (.int .u8 0), .lit (.int .u8 0), .lit (.int .u8 0), .lit (.int .u8 0), .lit (.int .u8 0)], .lit (.int .i64 0), .nil, .nil], .agg [.lit (.int .u8 0), .lit (.int .u8 0), .lit (.int .u8 0), .lit (.int .u8 0), .lit (.int .u8 0), .lit (.int .u8 0)], .lit (.int .i64 0)], [], places) :=
 ⟨[], by kernel_rfl⟩

set_option maxRecDepth 100000 in
theorem lifted (os : Os) (started : os.Started) (H : Type) (enc : TypeId × Value → H) (F : Stop.Interp) :
  ReturnsInHanded {} Tryd.checked os 3 .any ((OpenSpec.ofChange Rows.pathMatchesSpec).preRow enc Tryd.prog Tryd.f3 Rows.pathMatchesRow.domain false Rows.pathMatchesRow.laid) (((OpenSpec.ofChange Rows.pathMatchesSpec).at F).post enc Tryd.prog Tryd.f3 false true false false) := by
 obtain ⟨places, hx⟩ := reads os enc
 refine returnsInHanded_of_row (C := Tryd.checked) (s := OpenSpec.ofChange Rows.pathMatchesSpec) own started (by kernel_rfl) Tryd.func3
  (witness_row_at (enc := enc) (C := Tryd.checked) false (laidWorld os) #[.agg #[.int .u8 0, .int .u8 0, .int .u8 0, .int .u8 0, .int .u8 0, .int .u8 0, .int .i64 0, .slice none 0 0, .slice none 0 0], .agg #[.int .u8 0, .int .u8 0, .int .u8 0, .int .u8 0, .int .u8 0, .int .u8 0], .int .i64 0] rfl (by kernel_rfl) (by kernel_rfl) (by kernel_rfl)
   (OpenSpec.preRow_of_cond 8 hx (by kernel_rfl) (fun k hk => by cases hk) (by kernel_rfl) (laid_met os))) ?_
 intro W base args ds gs before hval hW _ _ _ hL _ _
 exact law_contractG (C := K) (f := 3) ⟨Tryd.f3, Tryd.func3, rfl, by decide +kernel⟩ (fn := Tryd.f3) (tb := 4) (B := Rows.uptoBulkAll ds) (bk := Rows.uptoBulk) laid par rfl Tryd.underlying4 (law _) rfl
  (fun ds hds => by match ds, hds with | [d1, d2, d3], _ => rfl) bulks.bulk hval hW (fun d hd => bulks.part_le hd) (gtOk hL)

theorem said : Rows.PathMatchesSaid :=
 OpenClaim.holds_of_cond 3 Tryd.f3 rfl rfl rfl rfl rfl rfl rfl ⟨rfl, rfl, rfl, rfl, rfl⟩ rfl rfl rfl rfl rfl (by kernel_rfl) Tryd.func3 (by kernel_rfl)
  (of_decide_eq_true (by kernel_rfl)) (by unfold Func.isWrapper; first | (rw [if_pos (by decide +kernel)]; kernel_rfl) | (rw [if_neg (by decide +kernel)]; exact ⟨rfl, rfl⟩))
  (fun os started H enc _ F => by rw [OpenClaim.pre_eq_preRow]; exact lifted os started H enc F)

/-- No parameter wants a stand-in; the program's own looks are off. -/
theorem plain (f : FuncId) (fn : Func) (hf : Tryd.pinned.checked.prog.funcNamed "hotspot/hotspotlaw39.PathMatches" = some f) (hfn : Tryd.pinned.checked.prog.funcs[f]? = some fn) :
  false = Tryd.pinned.checked.prog.looks [] ∧ ∀ (j : Nat) t, fn.params[j]? = some t → Tryd.pinned.checked.prog.wantsStandIn t = false := by
 obtain rfl : f = 3 := Option.some.inj ((show Tryd.prog.funcNamed "hotspot/hotspotlaw39.PathMatches" = some 3 by kernel_rfl).symm.trans hf) |>.symm
 obtain rfl : fn = Tryd.f3 := (Option.some.inj (Tryd.func3.symm.trans hfn)).symm
 refine ⟨by kernel_rfl, fun j t ht => ?_⟩
 rw [Tryd.params3] at ht
 have hm := Array.mem_of_getElem? ht
 simp only [List.mem_toArray, List.mem_cons, List.not_mem_nil, or_false] at hm
 rcases hm with rfl | rfl | rfl
 ·
  exact (show Tryd.prog.wantsStandIn 27 = false by kernel_rfl)
 ·
  exact (show Tryd.prog.wantsStandIn 23 = false by kernel_rfl)
 ·
  exact (show Tryd.prog.wantsStandIn 3 = false by kernel_rfl)

theorem over : Rows.PathMatchesCardSaid :=
 Claim7.holds_tied_plain_at .later [] _ _ _ _ said (fun _ h => by cases h) (by kernel_rfl) (fun _ h => by cases h) pathMatches_row_tie rfl ⟨rfl, rfl⟩ (by kernel_rfl) rfl plain (by kernel_rfl)

end Go.Proofs.YthkcncinmpjhoaaDoor.pathMatches
