/- ReorderPuts: the law returns true whatever its arguments. -/
import Derived.Test.YtnkikepecbjfdaaWalka
import Derived.Test.YtnkikepecbjfdaaRows
import Derived.WalkKit
import Derived.ProofKit
import Derived.OpenShut
import Derived.JoinedCond
set_option linter.unusedVariables false
set_option linter.unusedSimpArgs false

/-! (TRP) -/

set_option linter.unusedVariables false
set_option linter.unusedSimpArgs false
namespace Go.AX.Z.TR
open Go.AX

/-! ## Numbers -/

theorem dist_e (a b : Int) : window_Dist a b = some (dist a b) := by
 have := dist_bits a b
 unfold window_Dist band
 rw [show IntKind.bits .u64 = 64 from rfl, this]
theorem add_e (a b : Int) : window_Add a b = some ((a + b) % 4096) := by
 have := add_bits a b
 unfold window_Add band
 rw [show IntKind.bits .u64 = 64 from rfl, this]
theorem dist_nn (a b : Int) : 0 ≤ dist a b ∧ dist a b < 4096 := by unfold dist; omega
theorem rest_e (a : Int) : hotspotref17_Rest a = some (a % 4096) := by
 unfold hotspotref17_Rest
 by_cases h : 0 ≤ a
 ·
  have e : a.tmod 4096 = a % 4096 := Int.tmod_eq_emod_of_nonneg h
  rw [e, decide_eq_false (by omega), cond_false]
 ·
  have e : a.tmod 4096 = -((-a) % 4096) := tmod_neg (by omega)
  rw [e]
  by_cases h0 : (-a) % 4096 = 0
  ·
   rw [decide_eq_false (by omega), cond_false]; congr 1; omega
  ·
   rw [decide_eq_true (by omega), cond_true, wrapI (by omega) (by omega)]; congr 1; omega
theorem radd_e (a b : Int) : hotspotref17_Add a b = some ((a + b) % 4096) := by
 unfold hotspotref17_Add
 rw [rest_e, bindS, rest_e, bindS, wrapI (by omega) (by omega), Int.tmod_eq_emod_of_nonneg (by omega)]
 congr 1; omega
theorem rdist_loop (t : Int) (ht : 0 ≤ t ∧ t < 4096) : ∀ (k : Nat) (x d : Int) (n : Nat), 0 ≤ x ∧ x < 4096 → dist x t = k → 0 ≤ d ∧ d + k ≤ 4096 → k < n → hotspotref17_Dist_L2 t n (x, d) = some (d + k)
 | 0, x, d, n + 1, hx, hk, hd, hn => by
  have e : x = t := by unfold dist at hk; omega
  subst e
  rw [hotspotref17_Dist_L2, bne_self_eq_false, cond_false]; simp
 | k + 1, x, d, n + 1, hx, hk, hd, hn => by
  have hne : x ≠ t := by rintro rfl; unfold dist at hk; omega
  have e1 : (IntKind.wrap .i64 (x + 1)).tmod 4096 = (x + 1) % 4096 := by rw [wrapI (by omega) (by omega), Int.tmod_eq_emod_of_nonneg (by omega)]
  rw [hotspotref17_Dist_L2, show (x != t) = true by simpa using hne, cond_true]
  simp only
  have hk1 : ((k + 1 : Nat) : Int) ≤ 4095 := by have := (dist_nn x t).2; omega
  have e2 : dist ((x + 1) % 4096) t = k := by
   unfold dist at hk ⊢
   clear e1
   by_cases hx1 : x + 1 = 4096
   ·
    have : (x + 1) % 4096 = 0 := by omega
    rw [this]; omega
   ·
    have : (x + 1) % 4096 = x + 1 := by omega
    rw [this]; omega
  rw [e1, wrapI (by omega) (by omega), rdist_loop t ht k _ _ n (by omega) e2 (by omega) (by omega)]
  congr 1; omega
theorem rdist_e (a b : Int) : hotspotref17_Dist a b = some (dist a b) := by
 unfold hotspotref17_Dist
 have h := dist_nn (a % 4096) (b % 4096)
 rw [rest_e, bindS, rest_e, bindS, rdist_loop (b % 4096) (by omega) (dist (a % 4096) (b % 4096)).toNat (a % 4096) 0 big (by omega) (by omega) (by omega) (big_lt (by omega)), bindS]
 congr 1
 unfold dist at h ⊢
 omega

/-! ## States -/

abbrev HeldSeq.n (h : HeldSeq) : Int := h.Frame.Head.Seq

def OkE (st sz last : Int) (h : HeldSeq) : Prop := (0 ≤ h.n ∧ h.n < 4096) ∧ (0 ≤ h.At ∧ h.At ≤ 1099511627776) ∧ last < dist st h.n ∧ dist st h.n < sz
instance (st sz last : Int) (h : HeldSeq) : Decidable (OkE st sz last h) := by unfold OkE; infer_instance
def OkL (st sz : Int) : Int → List HeldSeq → Prop
 | _, [] => True
 | last, h :: l => OkE st sz last h ∧ OkL st sz (dist st h.n) l
def decL (st sz : Int) : (last : Int) → (l : List HeldSeq) → Decidable (OkL st sz last l)
 | _, [] => .isTrue trivial
 | last, h :: l => by
  have := decL st sz (dist st h.n) l
  unfold OkL; infer_instance
instance (st sz last : Int) (l : List HeldSeq) : Decidable (OkL st sz last l) := decL st sz last l
def HeadOk (b : Reorder) : Prop := (0 ≤ b.Start ∧ b.Start < 4096) ∧ 1 ≤ b.Size ∧ b.Size ≤ 64 ∧ 0 ≤ b.Hold ∧ b.Hold ≤ 16777216 ∧ (0 ≤ b.Seen.Start ∧ b.Seen.Start < 4096)
instance (b : Reorder) : Decidable (HeadOk b) := by unfold HeadOk; infer_instance
def VR (b : Reorder) : Prop := HeadOk b ∧ OkL b.Start b.Size 0 b.Held
instance (b : Reorder) : Decidable (VR b) := by unfold VR; infer_instance

theorem check_loop (b : Reorder) (hs : b.Held.length < 4611686018427387904) : ∀ (l : List HeldSeq) (i n : Nat) (last : Int), b.Held.drop i = l → l.length < n →
  reorder_Check_L2 b n (last, (i : Int)) = some (if OkL b.Start b.Size last l then Ex.go () else Ex.ret 8)
 | [], i, n + 1, last, h, hn => by
  rw [reorder_Check_L2, ge_dec (drop_n h)]
  simp [OkL]
 | x :: l, i, n + 1, last, h, hn => by
  obtain ⟨h1, h2, h3⟩ := drop_c h
  simp only [List.length_cons] at hn
  rw [reorder_Check_L2, lt_dec h3]
  simp only [cond_true, idxN, h1, bindS, dist_e, reorder_number, reorder_moment]
  have key : ((bif !(decide (0 ≤ x.n) && decide (x.n < 4096)) then some true else some (!(decide (0 ≤ x.At) && decide (x.At ≤ 1099511627776)))).bind fun x25 =>
    bif ((x25 || decide (dist b.Start x.n ≤ last)) || decide (b.Size ≤ dist b.Start x.n)) then some (Ex.ret 8) else reorder_Check_L2 b n (dist b.Start x.n, IntKind.wrap .i64 ((i : Int) + 1))) =
    if OkE b.Start b.Size last x then reorder_Check_L2 b n (dist b.Start x.n, IntKind.wrap .i64 ((i : Int) + 1)) else some (Ex.ret 8) := by
   by_cases ho : OkE b.Start b.Size last x
   ·
    rw [if_pos ho]
    obtain ⟨⟨a1, a2⟩, ⟨a3, a4⟩, a5, a6⟩ := ho
    rw [decide_eq_true a1, decide_eq_true a2, decide_eq_true a3, decide_eq_true a4, decide_eq_false (by omega), decide_eq_false (by omega)]; rfl
   ·
    rw [if_neg ho]
    by_cases h1 : 0 ≤ x.n ∧ x.n < 4096
    ·
     rw [show (!(decide (0 ≤ x.n) && decide (x.n < 4096))) = false by simp; omega, cond_false, bindS]
     have : ((!(decide (0 ≤ x.At) && decide (x.At ≤ 1099511627776)) || decide (dist b.Start x.n ≤ last)) || decide (b.Size ≤ dist b.Start x.n)) = true := by
      simp only [Bool.or_eq_true, Bool.not_eq_true', Bool.and_eq_false_iff, decide_eq_true_eq, decide_eq_false_iff_not]
      unfold OkE at ho
      omega
     rw [this, cond_true]
    ·
     rw [show (!(decide (0 ≤ x.n) && decide (x.n < 4096))) = true by simp; omega, cond_true, bindS]; rfl
  refine key.trans ?_
  by_cases ho : OkE b.Start b.Size last x
  ·
   rw [if_pos ho, wrapN (by omega), check_loop b hs l (i + 1) n _ h2 (by omega)]
   congr 1
   simp only [OkL, ho, true_and]
  ·
   rw [if_neg ho, if_neg (fun q => ho q.1)]

theorem check_e (b : Reorder) (hs : b.Held.length < 4611686018427387904) : reorder_Check b = some (if VR b then 0 else 8) := by
 unfold reorder_Check window_Check window_number reorder_number
 rw [bindS, bindS]
 have hl := check_loop b hs b.Held 0 big 0 rfl (big_lt hs)
 simp only [Int.natCast_zero] at hl
 by_cases h : HeadOk b
 ·
  obtain ⟨⟨a1, a2⟩, a3, a4, a5, a6, a7, a8⟩ := h
  rw [decide_eq_true a1, decide_eq_true a2, decide_eq_false (by omega), decide_eq_false (by omega), decide_eq_false (by omega), decide_eq_false (by omega), decide_eq_true a7, decide_eq_true a8]
  simp only [Bool.and_self, Bool.not_true, Bool.or_self, cond_false, bindS]
  rw [show ((0 : Int) != 0) = false from rfl, cond_false, hl, bindS]
  by_cases ho : OkL b.Start b.Size 0 b.Held
  ·
   rw [if_pos ho, if_pos ⟨⟨⟨a1, a2⟩, a3, a4, a5, a6, a7, a8⟩, ho⟩]; rfl
  ·
   rw [if_neg ho, if_neg (fun q => ho q.2)]; rfl
 ·
  rw [if_neg (fun q => h q.1)]
  by_cases h1 : (((((!(decide (0 ≤ b.Start) && decide (b.Start < 4096))) || decide (b.Size < 1)) || decide (64 < b.Size)) || decide (b.Hold < 0)) || decide (16777216 < b.Hold)) = true
  ·
   rw [h1, cond_true, bindS]; rfl
  ·
   rw [Bool.not_eq_true] at h1
   rw [h1, cond_false]
   simp only [Bool.or_eq_false_iff, Bool.not_eq_false', Bool.and_eq_true, decide_eq_true_eq, decide_eq_false_iff_not] at h1
   have : (decide (0 ≤ b.Seen.Start) && decide (b.Seen.Start < 4096)) = false := by
    simp only [Bool.and_eq_false_iff, decide_eq_false_iff_not]
    unfold HeadOk at h
    omega
   rw [this]; rfl

theorem valid_loop (b : Reorder) (hs : b.Held.length < 4611686018427387904) : ∀ (l : List HeldSeq) (i n : Nat) (last : Int), b.Held.drop i = l → l.length < n → 0 ≤ last → (i = 0 → last = 0) → (0 < i → ∃ y, b.Held[i - 1]? = some y ∧ dist b.Start y.n = last) →
  hotspotref18_Valid_L2 b n (i : Int) = some (if OkL b.Start b.Size last l then Ex.go () else Ex.ret false)
 | [], i, n + 1, last, h, hn, _, _, _ => by
  rw [hotspotref18_Valid_L2, ge_dec (drop_n h)]
  simp [OkL]
 | x :: l, i, n + 1, last, h, hn, hp, hp0, hp1 => by
  obtain ⟨h1, h2, h3⟩ := drop_c h
  simp only [List.length_cons] at hn
  rw [hotspotref18_Valid_L2, lt_dec h3]
  simp only [cond_true, idxN, h1, bindS, rdist_e, hotspotref17_Number, hotspotref18_Moment]
  have kp : (bif decide ((0 : Int) < (i : Int)) then ((idx b.Held (IntKind.wrap .i64 ((i : Int) - 1))).bind fun x32 => some (decide (dist b.Start x.n ≤ dist b.Start x32.Frame.Head.Seq))) else some false) = some (decide (0 < i ∧ dist b.Start x.n ≤ last)) := by
   by_cases hi : 0 < i
   ·
    obtain ⟨y, y1, y2⟩ := hp1 hi
    rw [decide_eq_true (by omega : (0 : Int) < (i : Int)), cond_true, wrapI (by omega) (by omega), show (i : Int) - 1 = ((i - 1 : Nat) : Int) by omega, idxN, y1, bindS, y2]
    congr 1; exact decide_eq_decide.2 (by omega)
   ·
    rw [decide_eq_false (by omega : ¬ (0 : Int) < (i : Int)), cond_false, decide_eq_false (by omega)]
  rw [kp]
  have key : ((bif !(decide (0 ≤ x.n) && decide (x.n ≤ 4095)) then some true else some (!(decide (0 ≤ x.At) && decide (x.At ≤ 1099511627776)))).bind fun x30 =>
    bif x30 then some (Ex.ret false) else
    ((bif (decide (dist b.Start x.n < 1) || decide (b.Size ≤ dist b.Start x.n)) then some true else ((some (decide (0 < i ∧ dist b.Start x.n ≤ last))).bind fun x34 => some x34)).bind fun x35 =>
    bif x35 then some (Ex.ret false) else hotspotref18_Valid_L2 b n (IntKind.wrap .i64 ((i : Int) + 1)))) =
    if OkE b.Start b.Size last x then hotspotref18_Valid_L2 b n (IntKind.wrap .i64 ((i : Int) + 1)) else some (Ex.ret false) := by
   have hnn := dist_nn b.Start x.n
   by_cases ho : OkE b.Start b.Size last x
   ·
    rw [if_pos ho]
    obtain ⟨⟨a1, a2⟩, ⟨a3, a4⟩, a5, a6⟩ := ho
    rw [decide_eq_true a1, decide_eq_true (by omega : x.n ≤ 4095), decide_eq_true a3, decide_eq_true a4, decide_eq_false (by omega), decide_eq_false (by omega), bindS, decide_eq_false (by omega)]; rfl
   ·
    rw [if_neg ho]
    by_cases h1 : 0 ≤ x.n ∧ x.n < 4096
    ·
     rw [show (!(decide (0 ≤ x.n) && decide (x.n ≤ 4095))) = false by simp; omega, cond_false, bindS]
     by_cases h2 : 0 ≤ x.At ∧ x.At ≤ 1099511627776
     ·
      rw [show (!(decide (0 ≤ x.At) && decide (x.At ≤ 1099511627776))) = false by simp; omega, cond_false, bindS]
      by_cases h4 : dist b.Start x.n < 1 ∨ b.Size ≤ dist b.Start x.n
      ·
       rw [show (decide (dist b.Start x.n < 1) || decide (b.Size ≤ dist b.Start x.n)) = true by simp; omega, cond_true, bindS]; rfl
      ·
       rw [show (decide (dist b.Start x.n < 1) || decide (b.Size ≤ dist b.Start x.n)) = false by simp; omega, cond_false, bindS, decide_eq_true (by unfold OkE at ho; omega)]; rfl
     ·
      rw [show (!(decide (0 ≤ x.At) && decide (x.At ≤ 1099511627776))) = true by simp; omega, cond_true]
    ·
     rw [show (!(decide (0 ≤ x.n) && decide (x.n ≤ 4095))) = true by simp; omega, cond_true, bindS]; rfl
  refine key.trans ?_
  by_cases ho : OkE b.Start b.Size last x
  ·
   rw [if_pos ho, wrapN (by omega), valid_loop b hs l (i + 1) n (dist b.Start x.n) h2 (by omega) (dist_nn _ _).1 (fun h => by omega) (fun _ => ⟨x, h1, rfl⟩)]
   congr 1
   simp only [OkL, ho, true_and]
  ·
   rw [if_neg ho, if_neg (fun q => ho q.1)]

theorem valid_e (b : Reorder) (hs : b.Held.length < 4611686018427387904) : hotspotref18_Valid b = some (decide (VR b)) := by
 unfold hotspotref18_Valid hotspotref17_Number
 rw [bindS, bindS]
 have hl := valid_loop b hs b.Held 0 big 0 rfl (big_lt hs) (Int.le_refl _) (fun _ => rfl) (fun h => by omega)
 simp only [Int.natCast_zero] at hl
 by_cases h : HeadOk b
 ·
  obtain ⟨⟨a1, a2⟩, a3, a4, a5, a6, a7, a8⟩ := h
  rw [decide_eq_true a1, decide_eq_true (by omega : b.Start ≤ 4095), decide_eq_false (by omega), decide_eq_false (by omega), decide_eq_false (by omega), decide_eq_false (by omega), decide_eq_true a7, decide_eq_true (by omega : b.Seen.Start ≤ 4095)]
  simp only [Bool.and_self, Bool.not_true, Bool.or_self, cond_false, bindS]
  rw [hl, bindS]
  by_cases ho : OkL b.Start b.Size 0 b.Held
  ·
   rw [if_pos ho, decide_eq_true (show VR b from ⟨⟨⟨a1, a2⟩, a3, a4, a5, a6, a7, a8⟩, ho⟩)]; rfl
  ·
   rw [if_neg ho, decide_eq_false (show ¬ VR b from fun q => ho q.2)]; rfl
 ·
  rw [decide_eq_false (show ¬ VR b from fun q => h q.1)]
  by_cases h1 : (((((!(decide (0 ≤ b.Start) && decide (b.Start ≤ 4095))) || decide (b.Size < 1)) || decide (64 < b.Size)) || decide (b.Hold < 0)) || decide (16777216 < b.Hold)) = true
  ·
   rw [h1, cond_true, bindS]; rfl
  ·
   rw [Bool.not_eq_true] at h1
   rw [h1, cond_false]
   simp only [Bool.or_eq_false_iff, Bool.not_eq_false', Bool.and_eq_true, decide_eq_true_eq, decide_eq_false_iff_not] at h1
   have : (decide (0 ≤ b.Seen.Start) && decide (b.Seen.Start ≤ 4095)) = false := by
    simp only [Bool.and_eq_false_iff, decide_eq_false_iff_not]
    unfold HeadOk at h
    omega
   rw [this]; rfl

/-! ## Copies, comparisons -/

def Fit (l : List HeldSeq) : Prop := l.length ≤ 1000 ∧ ∀ x ∈ l, x.Frame.Body.length ≤ 2400

theorem twin_loop (L : List HeldSeq) (hs : L.length ≤ 1000) : ∀ (l acc : List HeldSeq) (i n : Nat), L.drop i = l → l.length < n → (∀ x ∈ l, x.Frame.Body.length ≤ 2400) → acc.length + l.length ≤ 1000 →
  reorder_twin_L2 L n (acc, (i : Int)) = some (acc ++ l)
 | [], acc, i, n + 1, h, hn, hb, ha => by
  rw [reorder_twin_L2, ge_dec (drop_n h)]; simp
 | x :: l, acc, i, n + 1, h, hn, hb, ha => by
  obtain ⟨h1, h2, h3⟩ := drop_c h
  simp only [List.length_cons] at ha hn
  have hx := hb x (by simp)
  rw [reorder_twin_L2, lt_dec h3]
  simp only [cond_true, idxN, h1, bindS, header_Twin]
  rw [chk_d (by omega), bindS, bindS, chk_d (by omega), bindS, wrapN (by omega), twin_loop L hs l _ (i + 1) n h2 (by omega) (fun y hy => hb y (by simp [hy])) (by simp; omega)]
  simp
theorem twin_e (l : List HeldSeq) (h : Fit l) : reorder_twin l = some l := by
 unfold reorder_twin
 have := twin_loop l h.1 l [] 0 big rfl (big_lt (by have := h.1; omega)) h.2 (by simpa using h.1)
 simp only [Int.natCast_zero, List.nil_append] at this
 rw [this, bindS]
theorem rtwin_loop (b : Reorder) (hs : b.Held.length ≤ 1000) : ∀ (l acc : List HeldSeq) (i n : Nat), b.Held.drop i = l → l.length < n → (∀ x ∈ l, x.Frame.Body.length ≤ 2400) → acc.length + l.length ≤ 1000 →
  hotspotref18_Twin_L2 b n (acc, (i : Int)) = some (acc ++ l)
 | [], acc, i, n + 1, h, hn, hb, ha => by
  rw [hotspotref18_Twin_L2, ge_dec (drop_n h)]; simp
 | x :: l, acc, i, n + 1, h, hn, hb, ha => by
  obtain ⟨h1, h2, h3⟩ := drop_c h
  simp only [List.length_cons] at ha hn
  have hx := hb x (by simp)
  rw [hotspotref18_Twin_L2, lt_dec h3]
  simp only [cond_true, idxN, h1, bindS, hotspotref05_Twin]
  rw [chk_d (by omega), bindS, bindS, chk_d (by omega), bindS, wrapN (by omega), rtwin_loop b hs l _ (i + 1) n h2 (by omega) (fun y hy => hb y (by simp [hy])) (by simp; omega)]
  simp
theorem rtwin_e (b : Reorder) (h : Fit b.Held) : hotspotref18_Twin b = some b := by
 unfold hotspotref18_Twin
 have := rtwin_loop b h.1 b.Held [] 0 big rfl (big_lt (by have := h.1; omega)) h.2 (by simpa using h.1)
 simp only [Int.natCast_zero, List.nil_append] at this
 rw [this, bindS]
theorem sameF (f : Frame) : hotspotref05_Same f f = some true := by
 unfold hotspotref05_Same
 rw [decide_eq_true rfl, sEq_refl]; rfl
theorem sameAll_loop (L : List Frame) (hs : L.length < 4611686018427387904) : ∀ (l : List Frame) (i n : Nat), L.drop i = l → l.length < n → hotspotref05_SameAll_L2 L L n (i : Int) = some (Ex.go ())
 | [], i, n + 1, h, hn => by rw [hotspotref05_SameAll_L2, ge_dec (drop_n h)]; rfl
 | x :: l, i, n + 1, h, hn => by
  obtain ⟨h1, h2, h3⟩ := drop_c h
  simp only [List.length_cons] at hn
  rw [hotspotref05_SameAll_L2, lt_dec h3]
  simp only [cond_true, idxN, h1, bindS, sameF, Bool.not_true, cond_false]
  rw [wrapN (by omega), sameAll_loop L hs l (i + 1) n h2 (by omega)]
theorem sameAll_e (L : List Frame) (hs : L.length < 4611686018427387904) : hotspotref05_SameAll L L = some true := by
 unfold hotspotref05_SameAll
 have := sameAll_loop L hs L 0 big rfl (big_lt hs)
 simp only [Int.natCast_zero] at this
 rw [bne_self_eq_false, cond_false, this, bindS]; rfl
theorem sameR_loop (b : Reorder) (hs : b.Held.length < 4611686018427387904) : ∀ (l : List HeldSeq) (i n : Nat), b.Held.drop i = l → l.length < n → hotspotref18_Same_L2 b b n (i : Int) = some (Ex.go ())
 | [], i, n + 1, h, hn => by rw [hotspotref18_Same_L2, ge_dec (drop_n h)]; rfl
 | x :: l, i, n + 1, h, hn => by
  obtain ⟨h1, h2, h3⟩ := drop_c h
  simp only [List.length_cons] at hn
  rw [hotspotref18_Same_L2, lt_dec h3]
  simp only [cond_true, idxN, h1, bindS, sameF, Bool.not_true, cond_false, bne_self_eq_false]
  rw [wrapN (by omega), sameR_loop b hs l (i + 1) n h2 (by omega)]
theorem sameR_e (b : Reorder) (hs : b.Held.length < 4611686018427387904) : hotspotref18_Same b b = some true := by
 unfold hotspotref18_Same
 have := sameR_loop b hs b.Held 0 big rfl (big_lt hs)
 simp only [Int.natCast_zero] at this
 rw [bne_self_eq_false, bne_self_eq_false, bne_self_eq_false, bne_self_eq_false, decide_eq_true rfl]
 simp only [Bool.not_true, Bool.or_self, cond_false]
 rw [this, bindS]; rfl

theorem great_loop (b : Reorder) (hs : b.Held.length ≤ 1000) : ∀ (l : List HeldSeq) (i n : Nat), b.Held.drop i = l → l.length < n →
  ∃ o, hotspotref18_Great_L2 b n (i : Int) = some o ∧ (o = Ex.ret true ∨ o = Ex.go () ∧ ∀ x ∈ l, x.Frame.Body.length ≤ 2400)
 | [], i, n + 1, h, hn => by
  rw [hotspotref18_Great_L2, ge_dec (drop_n h)]
  exact ⟨_, rfl, .inr ⟨rfl, by simp⟩⟩
 | x :: l, i, n + 1, h, hn => by
  obtain ⟨h1, h2, h3⟩ := drop_c h
  simp only [List.length_cons] at hn
  rw [hotspotref18_Great_L2, lt_dec h3]
  simp only [cond_true, idxN, h1, bindS, hotspotref05_Great]
  by_cases hx : 2400 < x.Frame.Body.length
  ·
   rw [decide_eq_true (by omega), cond_true]; exact ⟨_, rfl, .inl rfl⟩
  ·
   rw [decide_eq_false (by omega), cond_false, wrapN (by omega)]
   obtain ⟨o, e1, e2⟩ := great_loop b hs l (i + 1) n h2 (by omega)
   refine ⟨o, e1, ?_⟩
   rcases e2 with e2 | ⟨e2, e3⟩
   ·
    exact .inl e2
   ·
    refine .inr ⟨e2, fun y hy => ?_⟩
    rcases List.mem_cons.1 hy with rfl | hy
    ·
     omega
    ·
     exact e3 y hy
theorem great_e (b : Reorder) (f : Frame) : ∃ g, hotspotref18_Great b f = some g ∧ (g = false → b.Held.length ≤ 70 ∧ Fit b.Held ∧ f.Body.length ≤ 2400) := by
 unfold hotspotref18_Great
 by_cases h : 70 < b.Held.length
 ·
  rw [decide_eq_true (by omega), cond_true, bindS, cond_true]
  exact ⟨_, rfl, fun h => by cases h⟩
 ·
  rw [decide_eq_false (by omega), cond_false]
  unfold hotspotref05_Great
  by_cases hf : 2400 < f.Body.length
  ·
   rw [decide_eq_true (by omega), bindS, bindS, cond_true]
   exact ⟨_, rfl, fun h => by cases h⟩
  ·
   rw [decide_eq_false (by omega), bindS, bindS, cond_false]
   obtain ⟨o, e1, e2⟩ := great_loop b (by omega) b.Held 0 big rfl (big_lt (by omega))
   simp only [Int.natCast_zero] at e1
   rw [e1, bindS]
   rcases e2 with rfl | ⟨rfl, e3⟩
   ·
    exact ⟨_, rfl, fun h => by cases h⟩
   ·
    exact ⟨_, rfl, fun _ => ⟨by omega, ⟨by omega, e3⟩, by omega⟩⟩
end Go.AX.Z.TR

/-! (TRQ) -/

set_option linter.unusedVariables false
set_option linter.unusedSimpArgs false
namespace Go.AX.Z.TR
open Go.AX

def Sortd (S : Int) (l : List HeldSeq) : Prop := l.Pairwise (fun x y => dist S x.n < dist S y.n) ∧ ∀ x ∈ l, 0 ≤ x.n ∧ x.n < 4096
theorem okL_s {st sz : Int} : ∀ {l : List HeldSeq} {last : Int}, OkL st sz last l → Sortd st l ∧ ∀ x ∈ l, last < dist st x.n ∧ dist st x.n < sz ∧ 0 ≤ x.At ∧ x.At ≤ 1099511627776
 | [], last, _ => ⟨⟨.nil, by simp⟩, by simp⟩
 | h :: l, last, ho => by
  obtain ⟨⟨a1, a2, a3, a4⟩, h2⟩ := ho
  obtain ⟨⟨i1, i2⟩, i3⟩ := okL_s h2
  refine ⟨⟨List.pairwise_cons.2 ⟨fun y hy => (i3 y hy).1, i1⟩, fun x hx => ?_⟩, fun x hx => ?_⟩
  ·
   rcases List.mem_cons.1 hx with rfl | hx
   ·
    exact a1
   ·
    exact i2 x hx
  ·
   rcases List.mem_cons.1 hx with rfl | hx
   ·
    exact ⟨a3, a4, a2⟩
   ·
    have := i3 x hx; exact ⟨by omega, this.2⟩
theorem Sortd.tail {S : Int} {h : HeldSeq} {l : List HeldSeq} (hs : Sortd S (h :: l)) : Sortd S l := ⟨(List.pairwise_cons.1 hs.1).2, fun x hx => hs.2 x (by simp [hx])⟩
theorem Sortd.drop {S : Int} {l : List HeldSeq} (hs : Sortd S l) (i : Nat) : Sortd S (l.drop i) := ⟨hs.1.sublist (List.drop_sublist _ _), fun x hx => hs.2 x (List.mem_of_mem_drop hx)⟩
theorem Sortd.idx {S : Int} {l : List HeldSeq} (hs : Sortd S l) {i j : Nat} {x y : HeldSeq} (hij : i < j) (hx : l[i]? = some x) (hy : l[j]? = some y) : dist S x.n < dist S y.n := by
 obtain ⟨h1, e1⟩ := List.getElem?_eq_some_iff.1 hx
 obtain ⟨h2, e2⟩ := List.getElem?_eq_some_iff.1 hy
 have := List.pairwise_iff_getElem.1 hs.1 i j h1 h2 hij
 rw [e1, e2] at this; exact this

theorem at_dist {S n m : Int} (hn : 0 ≤ n ∧ n < 4096) (hm : 0 ≤ m ∧ m < 4096) : n = (S + m) % 4096 ↔ dist S n = m := by
 unfold dist; omega

def Cut (S t : Int) (l : List HeldSeq) (i : Nat) : Prop := i ≤ l.length ∧ (∀ k x, k < i → l[k]? = some x → dist S x.n < t) ∧ (∀ k x, i ≤ k → l[k]? = some x → t ≤ dist S x.n)

theorem bs_loop (b : Reorder) (L : List HeldSeq) (hL : L.length ≤ 1000) (t : Int) (ht : 0 ≤ t ∧ t < 4096) (hs : Sortd b.Start L) : ∀ (m i j n : Nat), j - i ≤ m → i ≤ j → j ≤ L.length → m < n → (∀ k x, k < i → L[k]? = some x → dist b.Start x.n < t) → (∀ k x, j ≤ k → L[k]? = some x → t ≤ dist b.Start x.n) →
  ∃ r : Nat, slices_BinarySearchFunc_api_HeldSeq_api_HeldSeq_int_L2 L t b n ((i : Int), (j : Int)) = some (r : Int) ∧ Cut b.Start t L r
 | 0, i, j, n + 1, hm, hij, hj, hn, h1, h2 => by
  have e : i = j := by omega
  subst e
  rw [slices_BinarySearchFunc_api_HeldSeq_api_HeldSeq_int_L2, decide_eq_false (by simp), cond_false]
  exact ⟨i, rfl, hj, h1, h2⟩
 | m + 1, i, j, n + 1, hm, hij, hj, hn, h1, h2 => by
  rw [slices_BinarySearchFunc_api_HeldSeq_api_HeldSeq_int_L2]
  by_cases hlt : i < j
  ·
   have ehe : IntKind.wrap .i64 ((IntKind.wrap .u64 (IntKind.wrap .i64 ((i : Int) + (j : Int)))).fdiv (2 ^ (min 1 64))) = (((i + j) / 2 : Nat) : Int) := by
    rw [wrapI (i := (i : Int) + (j : Int)) (by omega) (by omega)]
    have : IntKind.wrap .u64 ((i : Int) + (j : Int)) = (i : Int) + (j : Int) := by
     rw [wrapU]; omega
    rw [this, show ((2 : Int) ^ (min 1 64)) = 2 from rfl, Int.fdiv_eq_ediv_of_nonneg _ (by decide), wrapI (by omega) (by omega)]; omega
   have hh : (i + j) / 2 < L.length := by omega
   obtain ⟨x, hx⟩ : ∃ x, L[(i + j) / 2]? = some x := ⟨_, List.getElem?_eq_getElem hh⟩
   have hd := dist_nn b.Start x.Frame.Head.Seq
   rw [decide_eq_true (by simp; omega), cond_true]
   simp only [ehe]
   rw [idxN, hx, bindS]
   unfold reorder_place_1
   rw [dist_e, bindS, bindS, wrapI (by omega) (by omega)]
   by_cases hxt : dist b.Start x.n < t
   ·
    rw [decide_eq_true (by show dist b.Start x.Frame.Head.Seq - t < 0; have : dist b.Start x.Frame.Head.Seq < t := hxt; omega), cond_true, wrapN (by omega)]
    refine bs_loop b L hL t ht hs m ((i + j) / 2 + 1) j n (by omega) (by omega) hj (by omega) (fun k y hk hy => ?_) h2
    rcases Nat.lt_or_ge k ((i + j) / 2) with q | q
    ·
     have := hs.idx q hy hx; omega
    ·
     have : k = (i + j) / 2 := by omega
     subst this; rw [hx] at hy; cases hy; exact hxt
   ·
    rw [decide_eq_false (by show ¬ dist b.Start x.Frame.Head.Seq - t < 0; have : ¬ dist b.Start x.Frame.Head.Seq < t := hxt; omega), cond_false]
    refine bs_loop b L hL t ht hs m i ((i + j) / 2) n (by omega) (by omega) (by omega) (by omega) h1 (fun k y hk hy => ?_)
    rcases Nat.lt_or_ge ((i + j) / 2) k with q | q
    ·
     have := hs.idx q hx hy; omega
    ·
     have : k = (i + j) / 2 := by omega
     subst this; rw [hx] at hy; cases hy; omega
  ·
   have e : i = j := by omega
   subst e
   rw [decide_eq_false (by simp), cond_false]
   exact ⟨i, rfl, hj, h1, h2⟩

theorem place_e (b : Reorder) (hL : b.Held.length ≤ 1000) (hs : Sortd b.Start b.Held) (n : Int) : ∃ r : Nat, reorder_place b n = some ((r : Int), decide (∃ x ∈ b.Held, dist b.Start x.n = dist b.Start n)) ∧ Cut b.Start (dist b.Start n) b.Held r := by
 unfold reorder_place slices_BinarySearchFunc_api_HeldSeq_api_HeldSeq_int
 obtain ⟨r, e1, e2⟩ := bs_loop b b.Held hL (dist b.Start n) (dist_nn _ _) hs b.Held.length 0 b.Held.length big (by omega) (by omega) (Nat.le_refl _) (big_lt (by omega)) (fun k x hk => by omega) (fun k x hk hx => by have := (List.getElem?_eq_some_iff.1 hx).1; omega)
 simp only [Int.natCast_zero] at e1
 rw [dist_e, bindS, e1, bindS]
 refine ⟨r, ?_, e2⟩
 obtain ⟨c1, c2, c3⟩ := e2
 by_cases hr : r < b.Held.length
 ·
  obtain ⟨x, hx⟩ : ∃ x, b.Held[r]? = some x := ⟨_, List.getElem?_eq_getElem hr⟩
  have hd := dist_nn b.Start x.Frame.Head.Seq
  have hd2 := dist_nn b.Start n
  rw [lt_dec hr, cond_true, idxN, hx, bindS]
  unfold reorder_place_1
  rw [dist_e, bindS, bindS, wrapI (by omega) (by omega), bindS]
  congr 2
  rw [Bool.eq_iff_iff, decide_eq_true_eq, beq_iff_eq]
  constructor
  ·
   intro h
   exact ⟨x, List.mem_of_getElem? hx, by show dist b.Start x.Frame.Head.Seq = _; omega⟩
  ·
   rintro ⟨y, hy, h⟩
   obtain ⟨k, hk⟩ := List.mem_iff_getElem?.1 hy
   have hxr := c3 r x (Nat.le_refl _) hx
   rcases Nat.lt_trichotomy k r with q | q | q
   ·
    have := c2 k y q hk; omega
   ·
    subst q; rw [hx] at hk; cases hk
    show dist b.Start x.Frame.Head.Seq - _ = 0
    have : dist b.Start x.Frame.Head.Seq = dist b.Start n := h
    omega
   ·
    have := hs.idx q hx hk; omega
 ·
  rw [ge_dec (by omega), cond_false, bindS]
  congr 2
  symm
  rw [decide_eq_false_iff_not]
  rintro ⟨y, hy, h⟩
  obtain ⟨k, hk⟩ := List.mem_iff_getElem?.1 hy
  have hkl := (List.getElem?_eq_some_iff.1 hk).1
  have := c2 k y (by omega) hk
  omega

def relF (S : Int) : Int → List HeldSeq → Int × List Frame × List HeldSeq
 | m, [] => (m, [], [])
 | m, h :: r => if dist S h.n = m then ((relF S (m + 1) r).1, h.Frame :: (relF S (m + 1) r).2.1, (relF S (m + 1) r).2.2) else (m, [], h :: r)

theorem relF_rest (S : Int) : ∀ (l : List HeldSeq) (m : Int), ∃ k, (relF S m l).2.2 = l.drop k ∧ (relF S m l).2.1 = (l.take k).map (·.Frame) ∧ (relF S m l).1 = m + k ∧ k ≤ l.length ∧ ∀ j x, j < k → l[j]? = some x → dist S x.n = m + j
 | [], m => ⟨0, rfl, rfl, by simp [relF], Nat.le_refl _, fun j x h => by omega⟩
 | h :: r, m => by
  unfold relF
  split
  ·
   rename_i hm
   obtain ⟨k, e1, e2, e3, e4, e5⟩ := relF_rest S r (m + 1)
   refine ⟨k + 1, by simpa using e1, by simp [e2], by simp only [e3]; omega, by simp; omega, fun j x hj hx => ?_⟩
   cases j with
   | zero => simp at hx; subst hx; simp [hm]
   | succ j => have := e5 j x (by omega) (by simpa using hx); omega
  ·
   exact ⟨0, rfl, rfl, by simp, Nat.zero_le _, fun j x h => by omega⟩
theorem relF_gt (S : Int) : ∀ (l : List HeldSeq) (m : Int), Sortd S l → (∀ x ∈ l, m ≤ dist S x.n) → ∀ x ∈ (relF S m l).2.2, (relF S m l).1 < dist S x.n
 | [], m, _, _, x, hx => by simp [relF] at hx
 | h :: r, m, hs, hm, x, hx => by
  unfold relF at hx ⊢
  by_cases he : dist S h.n = m
  ·
   rw [if_pos he] at hx ⊢
   exact relF_gt S r (m + 1) hs.tail (fun y hy => by have := (List.pairwise_cons.1 hs.1).1 y hy; omega) x hx
  ·
   rw [if_neg he] at hx ⊢
   simp only at hx ⊢
   have h1 := hm h (by simp)
   rcases List.mem_cons.1 hx with rfl | hx
   ·
    omega
   ·
    have := (List.pairwise_cons.1 hs.1).1 x hx; omega

theorem L5_e (S : Int) : ∀ (l : List HeldSeq) (m : Int) (n : Nat) (b : Reorder) (out : List Frame), Sortd S l → 0 ≤ m → (∀ x ∈ l, m ≤ dist S x.n) → b.Start = (S + m) % 4096 → l.length < n → out.length + l.length ≤ 1000 →
  reorder_move_L5 n (b, l, out) = some ({ b with Start := (S + (relF S m l).1) % 4096 }, (relF S m l).2.2, out ++ (relF S m l).2.1)
 | [], m, n + 1, b, out, hs, h0, hm, hb, hn, ho => by
  rw [reorder_move_L5]
  simp only [List.length_nil, Int.natCast_zero, relF, List.append_nil]
  rw [decide_eq_false (by omega), cond_false, bindS, cond_false, ← hb]
 | h :: r, m, n + 1, b, out, hs, h0, hm, hb, hn, ho => by
  have hd := dist_nn S h.n
  have hh := hm h (by simp)
  have hr := hs.2 h (by simp)
  rw [reorder_move_L5]
  simp only [List.length_cons] at hn ho ⊢
  rw [decide_eq_true (by omega), cond_true, idx0, List.getElem?_cons_zero, bindS, bindS]
  have hiff : (h.Frame.Head.Seq == b.Start) = decide (dist S h.n = m) := by
   rw [Bool.eq_iff_iff, beq_iff_eq, decide_eq_true_eq, hb]
   exact at_dist hr ⟨h0, by omega⟩
  rw [hiff]
  unfold relF
  by_cases he : dist S h.n = m
  ·
   rw [decide_eq_true he, cond_true, if_pos he, bindS, chk_d (by omega), bindS, add_e, bindS, chk_d (by omega), bindS, List.drop_succ_cons, List.drop_zero]
   have hp := (List.pairwise_cons.1 hs.1).1
   rw [L5_e S r (m + 1) n _ _ hs.tail (by omega) (fun y hy => by have := hp y hy; omega) (by simp only [hb]; omega) (by omega) (by simp; omega)]
   simp
  ·
   rw [decide_eq_false he, cond_false, if_neg he, ← hb]; simp

theorem L2_e (b : Reorder) (i : Nat) (hi : i ≤ b.Held.length) (hL : b.Held.length ≤ 1000) : ∀ (d k n : Nat) (out : List Frame), k + d = i → d < n → out.length ≤ k → reorder_move_L2 b n (out, i, (i : Int), (k : Int)) = some (out ++ ((b.Held.take i).drop k).map (·.Frame))
 | 0, k, n + 1, out, hk, hn, ho => by
  rw [reorder_move_L2, decide_eq_false (by simp only; omega), cond_false, List.drop_of_length_le (by rw [List.length_take]; omega)]
  simp
 | d + 1, k, n + 1, out, hk, hn, ho => by
  obtain ⟨x, hx⟩ : ∃ x, b.Held[k]? = some x := ⟨_, List.getElem?_eq_getElem (by omega)⟩
  rw [reorder_move_L2, decide_eq_true (by simp only; omega), cond_true]
  simp only
  rw [chk_t rfl, bindS, idxN, hx, bindS, chk_d (by omega), bindS, wrapN (by omega), L2_e b i hi hL d (k + 1) n _ (by omega) (by omega) (by simp; omega)]
  have : (b.Held.take i).drop k = x :: (b.Held.take i).drop (k + 1) := by
   have hlt : k < (b.Held.take i).length := by rw [List.length_take]; omega
   rw [List.drop_eq_getElem_cons hlt]
   congr 1
   have := (List.getElem?_eq_some_iff.1 hx).2
   rw [List.getElem_take, this]
  rw [this]; simp

def mv (S t : Int) (l : List HeldSeq) (i : Nat) : Int × List Frame × List HeldSeq := ((relF S t (l.drop i)).1, (l.take i).map (·.Frame) ++ (relF S t (l.drop i)).2.1, (relF S t (l.drop i)).2.2)

theorem cut_drop {S t : Int} {l : List HeldSeq} {i : Nat} (h : Cut S t l i) : ∀ x ∈ l.drop i, t ≤ dist S x.n := by
 intro x hx
 obtain ⟨k, hk⟩ := List.mem_iff_getElem?.1 hx
 rw [List.getElem?_drop] at hk
 exact h.2.2 (i + k) x (by omega) hk
theorem cut_take {S t : Int} {l : List HeldSeq} {i : Nat} (h : Cut S t l i) : ∀ x ∈ l.take i, dist S x.n < t := by
 intro x hx
 obtain ⟨k, hk⟩ := List.mem_iff_getElem?.1 hx
 rw [List.getElem?_take] at hk
 split at hk
 ·
  rename_i hki; exact h.2.1 k x hki hk
 ·
  cases hk

theorem move_e (b : Reorder) (hL : b.Held.length ≤ 1000) (hs : Sortd b.Start b.Held) (to : Int) (ht : 0 ≤ to ∧ to < 4096) : ∃ i : Nat, Cut b.Start (dist b.Start to) b.Held i ∧
  reorder_move b to = some ((mv b.Start (dist b.Start to) b.Held i).2.1, { b with Start := (b.Start + (mv b.Start (dist b.Start to) b.Held i).1) % 4096 }, (mv b.Start (dist b.Start to) b.Held i).2.2) := by
 obtain ⟨i, e1, e2⟩ := place_e b hL hs to
 refine ⟨i, e2, ?_⟩
 have hi := e2.1
 have hd := dist_nn b.Start to
 unfold reorder_move
 have h2 := L2_e b i hi hL i 0 big [] (by omega) (big_lt (by omega)) (by simp)
 simp only [Int.natCast_zero, List.nil_append, List.drop_zero] at h2
 rw [e1, bindS]
 simp only [Int.toNat_natCast]
 rw [chk_t (by simp; omega), bindS, h2, bindS, bindS]
 have h5 := L5_e b.Start (b.Held.drop i) (dist b.Start to) big { b with Start := to } ((b.Held.take i).map (·.Frame)) (hs.drop i) hd.1 (cut_drop e2) (by simp only; unfold dist; omega) (big_lt (by simp; omega)) (by simp; omega)
 rw [h5, bindS]; rfl

theorem take_loop (L : List HeldSeq) (hL : L.length ≤ 1000) (v : Int) : ∀ (l : List HeldSeq) (i n : Nat) (w o : List HeldSeq) (wf : List Frame), L.drop i = l → l.length < n → wf.length + l.length ≤ 1000 → o.length + l.length ≤ 1000 →
  hotspotref18_take_L2 L v n (wf, o, (i : Int)) = some (wf ++ (l.filter fun x => x.n == v).map (·.Frame), o ++ l.filter fun x => !(x.n == v))
 | [], i, n + 1, w, o, wf, h, hn, h1, h2 => by
  rw [hotspotref18_take_L2, ge_dec (drop_n h)]; simp
 | x :: l, i, n + 1, w, o, wf, h, hn, hw, ho => by
  obtain ⟨h1, h2, h3⟩ := drop_c h
  simp only [List.length_cons] at hn hw ho
  rw [hotspotref18_take_L2, lt_dec h3]
  simp only [cond_true, idxN, h1, bindS]
  by_cases hx : x.n = v
  ·
   have e : (x.Frame.Head.Seq == v) = true := by simpa using hx
   have e' : (x.n == v) = true := e
   rw [e, cond_true, chk_d (by omega), bindS, wrapN (by omega), take_loop L hL v l (i + 1) n w o _ h2 (by omega) (by simp; omega) (by omega), List.filter_cons, List.filter_cons, e']
   simp
  ·
   have e : (x.Frame.Head.Seq == v) = false := by simpa using hx
   have e' : (x.n == v) = false := e
   rw [e, cond_false, chk_d (by omega), bindS, wrapN (by omega), take_loop L hL v l (i + 1) n w _ wf h2 (by omega) (by omega) (by simp; omega), List.filter_cons, List.filter_cons, e']
   simp
theorem take_e (L : List HeldSeq) (hL : L.length ≤ 1000) (v : Int) : hotspotref18_take L v = some ((L.filter fun x => x.n == v).map (·.Frame), L.filter fun x => !(x.n == v)) := by
 unfold hotspotref18_take
 have := take_loop L hL v L 0 big [] [] [] rfl (big_lt (by omega)) (by simpa using hL) (by simpa using hL)
 simp only [Int.natCast_zero, List.nil_append] at this
 rw [this, bindS]

def tk (S m : Int) : List HeldSeq → List Frame × List HeldSeq
 | [] => ([], [])
 | h :: r => if dist S h.n = m then ([h.Frame], r) else ([], h :: r)
theorem take_s (S : Int) (l : List HeldSeq) (m : Int) (hs : Sortd S l) (h0 : 0 ≤ m) (hm : ∀ x ∈ l, m ≤ dist S x.n) (hL : l.length ≤ 1000) : hotspotref18_take l ((S + m) % 4096) = some (tk S m l) := by
 rw [take_e l hL]
 cases l with
 | nil => rfl
 | cons h r =>
  have hp := (List.pairwise_cons.1 hs.1).1
  have key : ∀ x ∈ h :: r, (x.n == (S + m) % 4096) = decide (dist S x.n = m) := by
   intro x hx
   have := dist_nn S x.n
   have := hm x hx
   rw [Bool.eq_iff_iff, beq_iff_eq, decide_eq_true_eq]
   exact at_dist (hs.2 x hx) ⟨h0, by omega⟩
  have hr : ∀ x ∈ r, (x.n == (S + m) % 4096) = false := by
   intro x hx
   rw [key x (by simp [hx]), decide_eq_false]
   have := hp x hx; have := hm h (by simp); omega
  have f1 : (r.filter fun x => x.n == (S + m) % 4096) = [] := List.filter_eq_nil_iff.2 fun x hx => by rw [hr x hx]; decide
  have f2 : (r.filter fun x => !(x.n == (S + m) % 4096)) = r := List.filter_eq_self.2 fun x hx => by rw [hr x hx]; rfl
  rw [List.filter_cons, List.filter_cons, key h (by simp), f1, f2, tk]
  by_cases he : dist S h.n = m
  ·
   rw [decide_eq_true he, if_pos he]; rfl
  ·
   rw [decide_eq_false he, if_neg he]; rfl

def refF (S : Int) : Nat → Int → List HeldSeq → Int × List Frame × List HeldSeq
 | 0, m, l => relF S m l
 | d + 1, m, [] => refF S d (m + 1) []
 | d + 1, m, h :: r => if dist S h.n = m then ((refF S d (m + 1) r).1, h.Frame :: (refF S d (m + 1) r).2.1, (refF S d (m + 1) r).2.2) else refF S d (m + 1) (h :: r)

theorem refF_eq (S : Int) : ∀ (d : Nat) (m : Int) (l : List HeldSeq) (i : Nat), Sortd S l → (∀ x ∈ l, m ≤ dist S x.n) → Cut S (m + d) l i → refF S d m l = mv S (m + d) l i
 | 0, m, l, i, hs, hm, hc => by
  have : i = 0 := by
   rcases Nat.eq_zero_or_pos i with h | h
   ·
    exact h
   ·
    obtain ⟨x, hx⟩ : ∃ x, l[0]? = some x := ⟨_, List.getElem?_eq_getElem (by have := hc.1; omega)⟩
    have := hc.2.1 0 x h hx
    have := hm x (List.mem_of_getElem? hx)
    omega
  subst this
  simp [refF, mv]
 | d + 1, m, [], i, hs, hm, hc => by
  have : i = 0 := by have := hc.1; simpa using this
  subst this
  have := refF_eq S d (m + 1) [] 0 hs (by simp) ⟨by simp, fun k x h => by omega, fun k x _ h => by simp at h⟩
  rw [refF, this, show m + 1 + (d : Int) = m + ((d + 1 : Nat) : Int) by omega]
 | d + 1, m, h :: r, i, hs, hm, hc => by
  have hp := (List.pairwise_cons.1 hs.1).1
  unfold refF
  by_cases he : dist S h.n = m
  ·
   rw [if_pos he]
   obtain ⟨j, rfl⟩ : ∃ j, i = j + 1 := by
    refine ⟨i - 1, ?_⟩
    rcases Nat.eq_zero_or_pos i with q | q
    ·
     have := hc.2.2 0 h (by omega) rfl; omega
    ·
     omega
   have hc' : Cut S (m + 1 + d) r j := ⟨by have := hc.1; simp at this; omega, fun k x hk hx => by have := hc.2.1 (k + 1) x (by omega) (by simpa using hx); omega, fun k x hk hx => by have := hc.2.2 (k + 1) x (by omega) (by simpa using hx); omega⟩
   rw [refF_eq S d (m + 1) r j hs.tail (fun y hy => by have := hp y hy; omega) hc', show m + 1 + (d : Int) = m + ((d + 1 : Nat) : Int) by omega]
   simp [mv]
  ·
   rw [if_neg he]
   have := refF_eq S d (m + 1) (h :: r) i hs (fun y hy => by
    have h1 := hm h (by simp)
    rcases List.mem_cons.1 hy with rfl | hy
    ·
     omega
    ·
     have := hp y hy; omega) (by rw [show m + 1 + (d : Int) = m + ((d + 1 : Nat) : Int) by omega]; exact hc)
   rw [this, show m + 1 + (d : Int) = m + ((d + 1 : Nat) : Int) by omega]

theorem rL2_e (S : Int) : ∀ (N : Nat) (d : Nat) (m : Int) (l : List HeldSeq) (n : Nat) (b : Reorder) (out : List Frame) (dd : Int), d + l.length ≤ N → N < n → (dd = d ∨ d = 0 ∧ dd ≤ 0 ∧ -100000 ≤ dd - l.length) → d ≤ 5000 → Sortd S l → 0 ≤ m → (∀ x ∈ l, m ≤ dist S x.n) → b.Start = (S + m) % 4096 → out.length + l.length ≤ 1000 →
  hotspotref18_move_L2 n (dd, b, l, out) = some ({ b with Start := (S + (refF S d m l).1) % 4096, Held := (refF S d m l).2.2 }, out ++ (refF S d m l).2.1)
 | N, d, m, l, n + 1, b, out, dd, hN, hn, hdd, hd5, hs, h0, hm, hb, ho => by
  rw [hotspotref18_move_L2]
  simp only
  rw [hb, take_s S l m hs h0 hm (by omega), bindS]
  cases d with
  | zero =>
   have hdd0 : dd ≤ 0 ∧ -100000 ≤ dd - l.length := by rcases hdd with h | h <;> omega
   rw [decide_eq_true (by omega), Bool.true_and]
   cases l with
   | nil =>
    simp only [tk, List.length_nil, Int.natCast_zero, beq_self_eq_true, cond_true, refF, relF, List.append_nil]
   | cons h r =>
    rw [tk]
    by_cases he : dist S h.n = m
    ·
     have hp := (List.pairwise_cons.1 hs.1).1
     simp only [List.length_cons] at hN ho hdd0
     rw [if_pos he]
     simp only [List.length_cons, List.length_nil]
     rw [show ((((0 + 1 : Nat)) : Int) == 0) = false from rfl, cond_false, chk_d (by omega), bindS, radd_e, bindS, wrapI (by omega) (by omega)]
     obtain ⟨N, rfl⟩ : ∃ q, N = q + 1 := ⟨N - 1, by omega⟩
     rw [rL2_e S N 0 (m + 1) r n _ _ _ (by omega) (by omega) (.inr ⟨rfl, by omega, by omega⟩) (by omega) hs.tail (by omega) (fun y hy => by have := hp y hy; omega) (by simp only; omega) (by simp; omega)]
     simp only [refF]
     rw [show relF S m (h :: r) = ((relF S (m + 1) r).1, h.Frame :: (relF S (m + 1) r).2.1, (relF S (m + 1) r).2.2) by rw [relF, if_pos he]]
     simp
    ·
     rw [if_neg he]
     simp only [List.length_nil, Int.natCast_zero, beq_self_eq_true, cond_true, refF]
     rw [show relF S m (h :: r) = (m, [], h :: r) by rw [relF, if_neg he]]
     simp [hb]
  | succ d =>
   have hdd1 : dd = ((d + 1 : Nat) : Int) := by rcases hdd with h | h <;> omega
   subst hdd1
   rw [decide_eq_false (by omega), Bool.false_and, cond_false]
   obtain ⟨N, rfl⟩ : ∃ q, N = q + 1 := ⟨N - 1, by omega⟩
   have e1 : IntKind.wrap .i64 (((d + 1 : Nat) : Int) - 1) = (d : Int) := by rw [wrapI (by omega) (by omega)]; omega
   cases l with
   | nil =>
    simp only [List.length_nil] at hN ho
    have htk : tk S m ([] : List HeldSeq) = ([], []) := rfl
    rw [htk]
    simp only
    rw [chk_d (by simp; omega), bindS, radd_e, bindS, e1, rL2_e S N d (m + 1) [] n _ _ _ (by simp; omega) (by omega) (.inl rfl) (by omega) hs (by omega) (by simp) (by simp only; omega) (by simp; omega)]
    simp [refF]
   | cons h r =>
    have hp := (List.pairwise_cons.1 hs.1).1
    rw [tk]
    simp only [List.length_cons] at hN ho
    by_cases he : dist S h.n = m
    ·
     rw [if_pos he]
     simp only [List.length_cons, List.length_nil]
     rw [chk_d (by omega), bindS, radd_e, bindS, e1, rL2_e S N d (m + 1) r n _ _ _ (by omega) (by omega) (.inl rfl) (by omega) hs.tail (by omega) (fun y hy => by have := hp y hy; omega) (by simp only; omega) (by simp; omega)]
     rw [show refF S (d + 1) m (h :: r) = ((refF S d (m + 1) r).1, h.Frame :: (refF S d (m + 1) r).2.1, (refF S d (m + 1) r).2.2) by rw [refF, if_pos he]]
     simp
    ·
     rw [if_neg he]
     simp only [List.length_nil]
     have h1 := hm h (by simp)
     rw [chk_d (by omega), bindS, radd_e, bindS, e1, rL2_e S N d (m + 1) (h :: r) n _ _ _ (by simp; omega) (by omega) (.inl rfl) (by omega) hs (by omega) (fun y hy => by
      rcases List.mem_cons.1 hy with rfl | hy
      ·
       omega
      ·
       have := hp y hy; omega) (by simp only; omega) (by simp; omega)]
     rw [show refF S (d + 1) m (h :: r) = refF S d (m + 1) (h :: r) by rw [refF, if_neg he]]
     simp

theorem rL9_e (d39 : Reorder × List Frame) (v : Int) (hL : d39.1.Held.length ≤ 1000) : ∀ (l : List HeldSeq) (i n : Nat) (acc : List HeldSeq), d39.1.Held.drop i = l → l.length < n → acc.length + l.length ≤ 100000 → hotspotref18_move_L9 d39 v n (acc, (i : Int)) = some (acc ++ l.filter fun x => x.n == v)
 | [], i, n + 1, acc, h, hn, ha => by rw [hotspotref18_move_L9, ge_dec (drop_n h)]; simp
 | x :: l, i, n + 1, acc, h, hn, ha => by
  obtain ⟨h1, h2, h3⟩ := drop_c h
  simp only [List.length_cons] at hn ha
  rw [hotspotref18_move_L9, lt_dec h3]
  simp only [cond_true, idxN, h1, bindS]
  by_cases hx : x.n = v
  ·
   have e : (x.Frame.Head.Seq == v) = true := by simpa using hx
   have e' : (x.n == v) = true := e
   rw [e, cond_true, chk_d (by omega), bindS, wrapN (by omega), rL9_e d39 v hL l (i + 1) n _ h2 (by omega) (by simp; omega), List.filter_cons, e']
   simp
  ·
   have e : (x.Frame.Head.Seq == v) = false := by simpa using hx
   have e' : (x.n == v) = false := e
   rw [e, cond_false, wrapN (by omega), rL9_e d39 v hL l (i + 1) n _ h2 (by omega) (by omega), List.filter_cons, e']
   simp
theorem filt_split (S : Int) : ∀ (l : List HeldSeq) (c : Int), Sortd S l → (l.filter fun x => decide (dist S x.n < c + 1)) = (l.filter fun x => decide (dist S x.n < c)) ++ l.filter fun x => decide (dist S x.n = c)
 | [], c, _ => rfl
 | h :: r, c, hs => by
  have hp := (List.pairwise_cons.1 hs.1).1
  have ih := filt_split S r c hs.tail
  rw [List.filter_cons, List.filter_cons, List.filter_cons]
  rcases Int.lt_trichotomy (dist S h.n) c with q | q | q
  ·
   rw [decide_eq_true (by omega), decide_eq_true q, decide_eq_false (by omega)]
   simp only [if_true, Bool.false_eq_true, if_false, List.cons_append, ih]
  ·
   have hn : ∀ x ∈ r, ¬ dist S x.n < c := fun x hx => by have := hp x hx; omega
   have f1 : (r.filter fun x => decide (dist S x.n < c)) = [] := List.filter_eq_nil_iff.2 fun x hx => by simpa using (by have := hn x hx; omega)
   rw [decide_eq_true (by omega), decide_eq_false (by omega), decide_eq_true q]
   simp only [if_true, Bool.false_eq_true, if_false, ih, f1, List.nil_append]
  ·
   rw [decide_eq_false (by omega), decide_eq_false (by omega), decide_eq_false (by omega)]
   simp only [Bool.false_eq_true, if_false, ih]
theorem rL5_e (S M : Int) (d39 : Reorder × List Frame) (hst : d39.1.Start = (S + M) % 4096) (hM : 0 ≤ M) (hs : Sortd S d39.1.Held) (hk : ∀ x ∈ d39.1.Held, M ≤ dist S x.n ∧ dist S x.n < M + 64) (hL : d39.1.Held.length ≤ 1000) :
  ∀ (k i n : Nat), i + k = 64 → k < n → hotspotref18_move_L5 d39 n ((d39.1.Held.filter fun x => decide (dist S x.n < M + i)), (i : Int)) = some d39.1.Held
 | 0, i, n + 1, hi, hn => by
  rw [hotspotref18_move_L5, decide_eq_false (by simp only; omega), cond_false]
  congr 1
  exact List.filter_eq_self.2 fun x hx => by have := hk x hx; simp; omega
 | k + 1, i, n + 1, hi, hn => by
  have hfl := List.length_filter_le (fun x => decide (dist S x.n < M + i)) d39.1.Held
  have h9 := rL9_e d39 ((S + (M + i)) % 4096) hL d39.1.Held 0 big (d39.1.Held.filter fun x => decide (dist S x.n < M + i)) rfl (big_lt (by omega)) (by omega)
  simp only [Int.natCast_zero] at h9
  rw [hotspotref18_move_L5, decide_eq_true (by simp only; omega), cond_true, radd_e, bindS, hst]
  simp only
  rw [show ((S + M) % 4096 + (i : Int)) % 4096 = (S + (M + i)) % 4096 by omega, h9, bindS, bindS, wrapN (by omega)]
  have e : (d39.1.Held.filter fun x => x.n == (S + (M + i)) % 4096) = d39.1.Held.filter fun x => decide (dist S x.n = M + i) := by
   refine List.filter_congr fun x hx => ?_
   have h1 := dist_nn S x.n
   have h2 := hk x hx
   have h3 := hs.2 x hx
   rw [Bool.eq_iff_iff, beq_iff_eq, decide_eq_true_eq]
   unfold dist at h1 h2 ⊢
   omega
  rw [e, ← filt_split S _ _ hs, show M + (i : Int) + 1 = M + ((i + 1 : Nat) : Int) by omega]
  exact rL5_e S M d39 hst hM hs hk hL k (i + 1) n (by omega) (by omega)

theorem rmove_e (b : Reorder) (hL : b.Held.length ≤ 1000) (hs : Sortd b.Start b.Held) (hb : 0 ≤ b.Start ∧ b.Start < 4096) (t : Nat) (ht : t ≤ 4096) {i : Nat} (hc : Cut b.Start t b.Held i) (hk : ∀ x ∈ (mv b.Start t b.Held i).2.2, dist b.Start x.n < (mv b.Start t b.Held i).1 + 64) :
  hotspotref18_move b (t : Int) = some ((mv b.Start t b.Held i).2.1, { b with Start := (b.Start + (mv b.Start t b.Held i).1) % 4096, Held := (mv b.Start t b.Held i).2.2 }) := by
 unfold hotspotref18_move
 have h2 := rL2_e b.Start (t + b.Held.length) t 0 b.Held big b [] t (Nat.le_refl _) (big_lt (by omega)) (.inl rfl) (by omega) hs (Int.le_refl _) (fun x _ => (dist_nn _ _).1) (by omega) (by simpa using hL)
 have hf := refF_eq b.Start t 0 b.Held i hs (fun x _ => (dist_nn _ _).1) (by simpa using hc)
 rw [Int.zero_add] at hf
 rw [hf] at h2
 obtain ⟨k, e1, e2, e3, e4, e5⟩ := relF_rest b.Start (b.Held.drop i) (t : Int)
 have hrest : (mv b.Start t b.Held i).2.2 = (b.Held.drop i).drop k := e1
 have hM : (mv b.Start t b.Held i).1 = (t : Int) + k := e3
 have h5 := rL5_e b.Start (mv b.Start t b.Held i).1 ({ b with Start := (b.Start + (mv b.Start t b.Held i).1) % 4096, Held := (mv b.Start t b.Held i).2.2 }, [] ++ (mv b.Start t b.Held i).2.1) rfl (by omega) (by simp only; rw [hrest]; exact (hs.drop i).drop k)
  (by
   simp only
   intro x hx
   have := relF_gt b.Start (b.Held.drop i) t (hs.drop i) (cut_drop hc) x hx
   exact ⟨by show (relF b.Start t (b.Held.drop i)).1 ≤ _; omega, hk x hx⟩) (by simp only; rw [hrest]; simp; omega) 64 0 big (by omega) (big_lt (by omega))
 rw [h2, bindS]
 have hnil : (List.filter (fun x => decide (dist b.Start x.n < (mv b.Start t b.Held i).1 + ((0 : Nat) : Int))) (mv b.Start t b.Held i).2.2) = [] := by
  refine List.filter_eq_nil_iff.2 fun x hx => ?_
  have := relF_gt b.Start (b.Held.drop i) t (hs.drop i) (cut_drop hc) x hx
  have : (mv b.Start t b.Held i).1 < dist b.Start x.n := this
  simp; omega
 simp only at h5
 rw [hnil] at h5
 simp only [Int.natCast_zero] at h5
 rw [h5, bindS]; simp
end Go.AX.Z.TR

/-! (TFP) -/

set_option linter.unusedVariables false
set_option linter.unusedSimpArgs false
namespace Go.AX.Z.TR
open Go.AX

theorem number_e (n : Int) : reorder_number n = some (decide (0 ≤ n ∧ n < 4096)) := by
 unfold reorder_number; congr 1
 rw [Bool.eq_iff_iff]; simp
theorem rnumber_e (n : Int) : hotspotref17_Number n = some (decide (0 ≤ n ∧ n < 4096)) := by
 unfold hotspotref17_Number; congr 1
 rw [Bool.eq_iff_iff]; simp; omega
theorem moment_e (n : Int) : reorder_moment n = some (decide (0 ≤ n ∧ n ≤ 1099511627776)) := by
 unfold reorder_moment; congr 1
 rw [Bool.eq_iff_iff]; simp
theorem rmoment_e (n : Int) : hotspotref18_Moment n = some (decide (0 ≤ n ∧ n ≤ 1099511627776)) := by
 unfold hotspotref18_Moment; congr 1
 rw [Bool.eq_iff_iff]; simp

theorem VR.sortd {b : Reorder} (h : VR b) : Sortd b.Start b.Held := (okL_s h.2).1
theorem VR.held {b : Reorder} (h : VR b) : ∀ x ∈ b.Held, 0 < dist b.Start x.n ∧ dist b.Start x.n < b.Size ∧ 0 ≤ x.At ∧ x.At ≤ 1099511627776 := (okL_s h.2).2

structure Mvd (b : Reorder) (t : Int) (out : List Frame) (nx : Reorder) (i k : Nat) : Prop where
 cut : Cut b.Start t b.Held i
 nx : nx = { b with Start := (b.Start + (t + k)) % 4096, Held := (b.Held.drop i).drop k }
 out : out = ((b.Held.take (i + k))).map (·.Frame)
 le : i + k ≤ b.Held.length
 run : ∀ j x, j < k → b.Held[i + j]? = some x → dist b.Start x.n = t + j
 gt : ∀ x ∈ (b.Held.drop i).drop k, t + k < dist b.Start x.n

theorem mvd_of {b : Reorder} (hs : Sortd b.Start b.Held) {t : Int} {i : Nat} (hc : Cut b.Start t b.Held i) : ∃ k, Mvd b t (mv b.Start t b.Held i).2.1 { b with Start := (b.Start + (mv b.Start t b.Held i).1) % 4096, Held := (mv b.Start t b.Held i).2.2 } i k := by
 obtain ⟨k, e1, e2, e3, e4, e5⟩ := relF_rest b.Start (b.Held.drop i) t
 rw [List.length_drop] at e4
 refine ⟨k, hc, ?_, ?_, by have := hc.1; omega, fun j x hj hx => e5 j x hj (by rw [List.getElem?_drop]; exact hx), fun x hx => ?_⟩
 ·
  simp only [mv]; rw [e1, e3]
 ·
  simp only [mv]; rw [e2, List.take_add, List.map_append]
 ·
  have := relF_gt b.Start (b.Held.drop i) t (hs.drop i) (cut_drop hc) x (by rw [e1]; exact hx)
  rw [e3] at this; exact this

theorem mv_e (b : Reorder) (hL : b.Held.length ≤ 1000) (hs : Sortd b.Start b.Held) (to : Int) (ht : 0 ≤ to ∧ to < 4096) : ∃ out nx i k z, Mvd b (dist b.Start to) out nx i k ∧ reorder_move b to = some z ∧ z.1 = out ∧ { z.2.1 with Held := z.2.2 } = nx := by
 obtain ⟨i, hc, e⟩ := move_e b hL hs to ht
 obtain ⟨k, hk⟩ := mvd_of hs hc
 exact ⟨_, _, i, k, _, hk, e, rfl, rfl⟩
theorem rmv_e {b : Reorder} (hL : b.Held.length ≤ 1000) (hs : Sortd b.Start b.Held) (hb : 0 ≤ b.Start ∧ b.Start < 4096) {t : Int} (ht : 0 ≤ t ∧ t ≤ 4096) {out : List Frame} {nx : Reorder} {i k : Nat} (h : Mvd b t out nx i k) (hk : ∀ x ∈ b.Held, dist b.Start x.n < t + 64) : hotspotref18_move b t = some (out, nx) := by
 obtain ⟨T, rfl⟩ : ∃ T : Nat, t = (T : Int) := ⟨t.toNat, by omega⟩
 obtain ⟨k', e1, e2, e3, e4, e5⟩ := relF_rest b.Start (b.Held.drop i) (T : Int)
 have hle : (T : Int) ≤ (mv b.Start T b.Held i).1 := by show (T : Int) ≤ (relF b.Start T (b.Held.drop i)).1; omega
 have := rmove_e b hL hs hb T (by omega) h.cut (fun x hx => by
  have hx : x ∈ (relF b.Start T (b.Held.drop i)).2.2 := hx
  rw [e1] at hx
  have := hk x (List.mem_of_mem_drop (List.mem_of_mem_drop hx)); omega)
 rw [this]
 obtain ⟨k2, hk2⟩ := mvd_of hs h.cut
 have hkk : k2 = k := by
  have a1 := h.le
  have a2 := hk2.le
  rcases Nat.lt_trichotomy k2 k with q | q | q
  ·
   obtain ⟨x, hx⟩ : ∃ x, b.Held[i + k2]? = some x := ⟨_, List.getElem?_eq_getElem (by omega)⟩
   have h1 := h.run k2 x q hx
   have h2 := hk2.gt x (by
    refine List.mem_of_getElem? (i := 0) ?_
    rw [List.getElem?_drop, List.getElem?_drop]; exact hx)
   omega
  ·
   exact q
  ·
   obtain ⟨x, hx⟩ : ∃ x, b.Held[i + k]? = some x := ⟨_, List.getElem?_eq_getElem (by omega)⟩
   have h1 := hk2.run k x q hx
   have h2 := h.gt x (by
    refine List.mem_of_getElem? (i := 0) ?_
    rw [List.getElem?_drop, List.getElem?_drop]; exact hx)
   omega
 subst hkk
 rw [hk2.nx, hk2.out, h.nx, h.out]

theorem Mvd.len {b : Reorder} {t : Int} {out : List Frame} {nx : Reorder} {i k : Nat} (h : Mvd b t out nx i k) : out.length + nx.Held.length = b.Held.length := by
 have := h.le
 rw [h.out, h.nx]
 simp only [List.length_map, List.length_take, List.length_drop]
 omega

def okN (n : Int) : Prop := 0 ≤ n ∧ n < 4096
theorem wnumber_e (n : Int) : window_number n = some (decide (0 ≤ n ∧ n < 4096)) := by
 unfold window_number; congr 1
 rw [Bool.eq_iff_iff]; simp
theorem wcheck_e {w : Window} {n : Int} (hw : okN w.Start) (hn : okN n) : window_check w n = some 0 := by
 unfold window_check window_Check
 rw [wnumber_e, bindS, decide_eq_true (show 0 ≤ w.Start ∧ w.Start < 4096 from hw), Bool.not_true, cond_false, bindS, wnumber_e, bne_self_eq_false, cond_false, bindS, decide_eq_true (show 0 ≤ n ∧ n < 4096 from hn)]; rfl
def mrk (B d : Int) : Int := bor .u64 B (IntKind.wrap .u64 (1 * 2 ^ (min (d).toNat 64)))
theorem mark_e {w : Window} {n : Int} (hw : okN w.Start) (hn : okN n) (hd : dist w.Start n < 64) : window_Mark w n = some ({ w with Bits := mrk w.Bits (dist w.Start n) }, 0) := by
 unfold window_Mark
 have := dist_nn w.Start n
 rw [wcheck_e hw hn, bindS, bne_self_eq_false, cond_false, dist_e, bindS, decide_eq_false (by omega), cond_false, chk_d (by omega), bindS]; rfl
theorem sorted_len {S : Int} : ∀ {l : List HeldSeq} {lo hi : Int}, Sortd S l → (∀ x ∈ l, lo < dist S x.n ∧ dist S x.n < hi) → lo < hi → (l.length : Int) < hi - lo
 | [], lo, hi, _, _, h => by simp; omega
 | x :: l, lo, hi, hs, hb, h => by
  have hp := (List.pairwise_cons.1 hs.1).1
  have hx := hb x (by simp)
  have := sorted_len (lo := dist S x.n) (hi := hi) hs.tail (fun y hy => ⟨hp y hy, (hb y (by simp [hy])).2⟩) hx.2
  simp only [List.length_cons]; omega
theorem held_len {b : Reorder} (hv : VR b) : b.Held.length ≤ 70 := by
 have ho := hv.1
 unfold HeadOk at ho
 have := sorted_len (lo := 0) (hi := b.Size) hv.sortd (fun x hx => by have := hv.held x hx; omega) (by omega)
 omega


theorem ins_e (l : List HeldSeq) (i : Nat) (hi : i ≤ l.length) (hL : l.length ≤ 1000) (x : HeldSeq) : slices_Insert_api_HeldSeq_api_HeldSeq (i : Int) l [x] = some (l.take i ++ [x] ++ l.drop i) := by
 unfold slices_Insert_api_HeldSeq_api_HeldSeq
 rw [chk_t (by simp; omega), bindS, show (((([x] : List HeldSeq).length : Nat) : Int) == 0) = false from rfl, cond_false]
 by_cases h : i = l.length
 ·
  subst h
  rw [beq_self_eq_true, cond_true, chk_d (by simp; omega), bindS, List.take_length, List.drop_length, List.append_nil]
 ·
  rw [show (((i : Int)) == ((l.length : Nat) : Int)) = false by rw [beq_eq_false_iff_ne]; omega, cond_false, chk_t (by simp; omega), bindS, Int.toNat_natCast]

theorem ins_sorted {S d : Int} {l : List HeldSeq} {i : Nat} (hs : Sortd S l) (hc : Cut S d l i) {x : HeldSeq} (hx : dist S x.n = d) (hn : okN x.n) (hf : ¬ ∃ y ∈ l, dist S y.n = d) : Sortd S (l.take i ++ [x] ++ l.drop i) := by
 refine ⟨?_, fun y hy => ?_⟩
 ·
  rw [List.append_assoc, List.pairwise_append]
  refine ⟨hs.1.sublist (List.take_sublist _ _), ?_, fun y hy z hz => ?_⟩
  ·
   rw [List.singleton_append, List.pairwise_cons]
   refine ⟨fun y hy => ?_, hs.1.sublist (List.drop_sublist _ _)⟩
   have h1 := cut_drop hc y hy
   have h2 : dist S y.n ≠ d := fun e => hf ⟨y, List.mem_of_mem_drop hy, e⟩
   omega
  ·
   have h1 := cut_take hc y hy
   rcases List.mem_cons.1 hz with rfl | hz
   ·
    omega
   ·
    have := cut_drop hc z hz; omega
 ·
  simp only [List.mem_append, List.mem_singleton] at hy
  rcases hy with (hy | rfl) | hy
  ·
   exact hs.2 y (List.mem_of_mem_take hy)
  ·
   exact hn
  ·
   exact hs.2 y (List.mem_of_mem_drop hy)

end Go.AX.Z.TR

/-! (TFM) -/

set_option linter.unusedVariables false
set_option linter.unusedSimpArgs false
namespace Go.AX.Z.TR
open Go.AX

theorem wrapU (n : Nat) (h : n < 2 ^ 64) : IntKind.wrap .u64 (n : Int) = (n : Int) := by
 unfold IntKind.wrap; simp only [IntKind.bits, IntKind.signed, Bool.false_and, Bool.false_eq_true, if_false]
 omega

def num (s : Int) (i : Nat) : Int := (s + i) % 4096
def nums (s : Int) : List Int := (List.range' 0 64).map (num s)

theorem numbers_loop {s : Int} (hs : okN s) : ∀ (k i n : Nat) (acc : List Int), i + k = 64 → k < n → acc.length = i → hotspotref17_Numbers_L2 s n (acc, (i : Int)) = some (acc ++ (List.range' i k).map (num s))
 | 0, i, n + 1, acc, hi, hn, ha => by
  rw [hotspotref17_Numbers_L2, decide_eq_false (by simp only; omega), cond_false]; simp
 | k + 1, i, n + 1, acc, hi, hn, ha => by
  unfold okN at hs
  rw [hotspotref17_Numbers_L2, decide_eq_true (by simp only; omega), cond_true]
  simp only
  rw [chk_d (by omega), bindS, wrapI (by omega) (by omega), wrapN (by omega), numbers_loop hs k (i + 1) n _ (by omega) (by omega) (by simp [ha]), List.range'_succ, List.map_cons, List.append_assoc, List.singleton_append]
  have : (s + (i : Int)).tmod 4096 = num s i := by unfold num; exact Int.tmod_eq_emod_of_nonneg (by omega)
  rw [this]
theorem numbers_e {s : Int} (hs : okN s) : hotspotref17_Numbers s = some (nums s) := by
 unfold hotspotref17_Numbers
 have := numbers_loop hs 64 0 big [] rfl (big_lt (by omega)) rfl
 simp only [Int.natCast_zero, List.nil_append] at this
 rw [this]; rfl
theorem nums_at (s : Int) {i : Nat} (hi : i < 64) : (nums s)[i]? = some (num s i) := by
 unfold nums
 rw [List.getElem?_map, List.getElem?_range' hi]
 simp

theorem bit_loop (i : Nat) (hi : i ≤ 64) : ∀ (k j n x : Nat), j + k = i → k < n → x < 2 ^ 64 → hotspotref17_bit_L2 (i : Int) n ((x : Int), (j : Int)) = some ((x / 2 ^ k : Nat) : Int)
 | 0, j, n + 1, x, hj, hn, hx => by
  rw [hotspotref17_bit_L2, decide_eq_false (by simp only; omega), cond_false]; simp
 | k + 1, j, n + 1, x, hj, hn, hx => by
  rw [hotspotref17_bit_L2, decide_eq_true (by simp only; omega), cond_true]
  simp only
  have e : (x : Int).tdiv 2 = ((x / 2 : Nat) : Int) := by rw [Int.tdiv_eq_ediv_of_nonneg (by omega)]; omega
  rw [e, wrapU _ (by omega), wrapN (by omega), bit_loop i hi k (j + 1) n (x / 2) (by omega) (by omega) (by omega), Nat.div_div_eq_div_mul, Nat.pow_succ']
theorem bit_e {B i : Nat} (hi : i < 64) (hB : B < 2 ^ 64) : hotspotref17_bit (B : Int) (i : Int) = some (B.testBit i) := by
 unfold hotspotref17_bit
 have := bit_loop i (by omega) i 0 big B (by omega) (big_lt (by omega)) hB
 simp only [Int.natCast_zero] at this
 rw [this, bindS, Nat.testBit_eq_decide_div_mod_eq]
 generalize B / 2 ^ i = q
 congr 1
 rw [Bool.eq_iff_iff, beq_iff_eq, decide_eq_true_eq, Int.tmod_eq_emod_of_nonneg (by omega)]
 omega

def mk (s : Int) (B : Nat) : List Int := ((List.range' 0 64).filter fun i => B.testBit i).map (num s)
theorem marked_loop {w : Window} {B : Nat} (hB : B < 2 ^ 64) (hb : w.Bits = (B : Int)) : ∀ (k i n : Nat) (acc : List Int), i + k = 64 → k < n → acc.length ≤ i → hotspotref17_Marked_L2 w (nums w.Start) n (acc, (i : Int)) = some (acc ++ ((List.range' i k).filter fun i => B.testBit i).map (num w.Start))
 | 0, i, n + 1, acc, hi, hn, ha => by
  rw [hotspotref17_Marked_L2, decide_eq_false (by simp only; omega), cond_false]; simp
 | k + 1, i, n + 1, acc, hi, hn, ha => by
  rw [hotspotref17_Marked_L2, decide_eq_true (by simp only; omega), cond_true]
  simp only
  rw [hb, bit_e (by omega) hB, bindS, List.range'_succ, List.filter_cons]
  cases ht : B.testBit i with
  | true =>
   rw [cond_true, idxN, nums_at _ (by omega), bindS, chk_d (by omega), bindS, wrapN (by omega), marked_loop hB hb k (i + 1) n _ (by omega) (by omega) (by simp; omega)]
   simp
  | false =>
   rw [cond_false, wrapN (by omega), marked_loop hB hb k (i + 1) n _ (by omega) (by omega) (by omega)]
   simp
theorem mnumber_e {n : Int} (h : okN n) : hotspotref17_Number n = some true := by
 rw [rnumber_e, decide_eq_true (show 0 ≤ n ∧ n < 4096 from h)]
theorem marked_e {w : Window} {B : Nat} (hs : okN w.Start) (hB : B < 2 ^ 64) (hb : w.Bits = (B : Int)) : hotspotref17_Marked w = some (mk w.Start B) := by
 unfold hotspotref17_Marked
 have := marked_loop hB hb 64 0 big [] rfl (big_lt (by omega)) (by simp)
 simp only [Int.natCast_zero, List.nil_append] at this
 rw [mnumber_e hs, bindS, Bool.not_true, cond_false, numbers_e hs, bindS, this]; rfl
theorem mem_mk {s x : Int} {B : Nat} : x ∈ mk s B ↔ ∃ j, j < 64 ∧ B.testBit j = true ∧ num s j = x := by
 unfold mk
 simp only [List.mem_map, List.mem_filter, List.mem_range'_1]
 constructor
 ·
  rintro ⟨j, ⟨⟨h1, h2⟩, h3⟩, h4⟩; exact ⟨j, by omega, h3, h4⟩
 ·
  rintro ⟨j, h1, h2, h3⟩; exact ⟨j, ⟨⟨by omega, by omega⟩, h2⟩, h3⟩
theorem mk_len (s : Int) (B : Nat) : (mk s B).length ≤ 64 := by
 unfold mk
 rw [List.length_map]
 exact Nat.le_trans (List.length_filter_le _ _) (by simp)

theorem of7 (L : List Int) (hL : L.length ≤ 1000) (s st : Int) {i A : Nat} (hi : i < 64) (hA : A < 2 ^ 63) : ∀ (l : List Int) (k n : Nat), L.drop k = l → l.length < n →
  hotspotref17_Of_L7 L (nums s) (⟨st, (A : Int)⟩, (i : Int)) n (k : Int) = some ⟨st, ((2 * A + (if num s i ∈ l then 1 else 0) : Nat) : Int)⟩
 | [], k, n + 1, h, hn => by
  rw [hotspotref17_Of_L7, ge_dec (drop_n h), cond_false]
  simp only
  rw [show (A : Int) * 2 = ((2 * A : Nat) : Int) by omega, wrapU _ (by omega)]
  simp
 | x :: l, k, n + 1, h, hn => by
  obtain ⟨h1, h2, h3⟩ := drop_c h
  simp only [List.length_cons] at hn
  rw [hotspotref17_Of_L7, lt_dec h3, cond_true, idxN, h1, bindS]
  simp only
  rw [idxN, nums_at _ hi, bindS]
  by_cases hx : x = num s i
  ·
   rw [show (x == num s i) = true by simpa using hx, cond_true, show (A : Int) * 2 = ((2 * A : Nat) : Int) by omega, wrapU _ (by omega), show ((2 * A : Nat) : Int) + 1 = ((2 * A + 1 : Nat) : Int) by omega, wrapU _ (by omega), if_pos (by simp [hx])]
  ·
   rw [show (x == num s i) = false by simpa using hx, cond_false, wrapN (by omega), of7 L hL s st hi hA l (k + 1) n h2 (by omega)]
   have : (num s i ∈ x :: l) = (num s i ∈ l) := by
    rw [List.mem_cons, eq_iff_iff]
    exact ⟨fun h => h.elim (fun e => absurd e.symm hx) id, .inr⟩
   simp only [this]

theorem tb_step {A m : Nat} {p : Prop} [Decidable p] : (2 * A + (if p then 1 else 0)).testBit m = (match m with | 0 => decide p | m + 1 => A.testBit m) := by
 cases m with
 | zero =>
  rw [Nat.testBit_zero]
  split <;> simp_all <;> omega
 | succ m =>
  rw [Nat.testBit_succ]
  congr 1
  split <;> omega

theorem of3 (L : List Int) (hL : L.length ≤ 1000) (s st : Int) : ∀ (j n A : Nat), j ≤ 64 → j < n → A < 2 ^ (64 - j) → (∀ m, A.testBit m = (decide (j + m < 64) && decide (num s (j + m) ∈ L))) →
  ∃ A' : Nat, hotspotref17_Of_L3 L (nums s) n (⟨st, (A : Int)⟩, (j : Int) - 1) = some ⟨st, (A' : Int)⟩ ∧ A' < 2 ^ 64 ∧ ∀ m, A'.testBit m = (decide (m < 64) && decide (num s m ∈ L))
 | 0, n + 1, A, hj, hn, hA, hm => by
  refine ⟨A, ?_, by simpa using hA, by simpa using hm⟩
  rw [hotspotref17_Of_L3, decide_eq_false (by simp only; omega), cond_false]
 | j + 1, n + 1, A, hj, hn, hA, hm => by
  have hA63 : A < 2 ^ 63 := Nat.lt_of_lt_of_le hA (Nat.pow_le_pow_right (by omega) (by omega))
  have h7 := of7 L hL s st (i := j) (A := A) (by omega) hA63 L 0 big rfl (big_lt (by omega))
  simp only [Int.natCast_zero] at h7
  rw [hotspotref17_Of_L3, decide_eq_true (by simp only; omega), cond_true, show (((j + 1 : Nat) : Int) - 1) = (j : Int) by omega, h7, bindS, bindS, wrapI (by simp only; omega) (by simp only; omega)]
  refine of3 L hL s st j n _ (by omega) (by omega) ?_ fun m => ?_
  ·
   have : 2 ^ (64 - j) = 2 * 2 ^ (64 - (j + 1)) := by rw [← Nat.pow_succ']; congr 1; omega
   rw [this]
   split <;> omega
  ·
   rw [tb_step]
   cases m with
   | zero => simp; omega
   | succ m => simp only; rw [hm m]; rw [show j + 1 + m = j + (m + 1) by omega]
theorem of_e {s : Int} (hs : okN s) (L : List Int) (hL : L.length ≤ 1000) : ∃ A : Nat, hotspotref17_Of s L = some ⟨s, (A : Int)⟩ ∧ A < 2 ^ 64 ∧ ∀ m, A.testBit m = (decide (m < 64) && decide (num s m ∈ L)) := by
 obtain ⟨A, h1, h2, h3⟩ := of3 L hL s s 64 big 0 (by omega) (big_lt (by omega)) (by decide) (fun m => by simp; omega)
 refine ⟨A, ?_, h2, h3⟩
 unfold hotspotref17_Of
 rw [numbers_e hs, bindS]
 have e : hotspotref17_Of_L3 L (nums s) big ({ Window.z with Start := s }, 63) = some ⟨s, (A : Int)⟩ := h1
 rw [e]; rfl

theorem num_inj {s : Int} {i j : Nat} (hi : i < 4096) (hj : j < 4096) (h : num s i = num s j) : i = j := by unfold num at h; omega
theorem num_mk {s : Int} {B m : Nat} (hm : m < 64) : num s m ∈ mk s B ↔ B.testBit m = true := by
 rw [mem_mk]
 constructor
 ·
  rintro ⟨j, h1, h2, h3⟩
  have := num_inj (by omega) (by omega) h3
  rw [← this]; exact h2
 ·
  intro h; exact ⟨m, hm, h, rfl⟩
theorem tb_big {B m : Nat} (hB : B < 2 ^ 64) (hm : 64 ≤ m) : B.testBit m = false := Nat.testBit_lt_two_pow (Nat.lt_of_lt_of_le hB (Nat.pow_le_pow_right (by omega) hm))

theorem mrk_e {B d : Nat} (hB : B < 2 ^ 64) (hd : d < 64) : mrk (B : Int) (d : Int) = ((B ||| 2 ^ d : Nat) : Int) := by
 have h1 : (IntKind.bits .u64) = 64 := rfl
 unfold mrk bor
 rw [h1, Int.toNat_natCast, Nat.min_eq_left (by omega)]
 have hp : (2 : Int) ^ d = ((2 ^ d : Nat) : Int) := by simp
 have hlt : 2 ^ d < 2 ^ 64 := Nat.pow_lt_pow_right (by omega) hd
 rw [Int.one_mul, hp, wrapU _ hlt, BitVec.ofInt_natCast, BitVec.ofInt_natCast, BitVec.toNat_or, BitVec.toNat_ofNat, BitVec.toNat_ofNat, Nat.mod_eq_of_lt hB, Nat.mod_eq_of_lt hlt, wrapU _ (Nat.or_lt_two_pow hB hlt)]

theorem rmark_e {w : Window} {B : Nat} {n : Int} (hs : okN w.Start) (hB : B < 2 ^ 64) (hb : w.Bits = (B : Int)) (hn : okN n) (hd : dist w.Start n < 64) : hotspotref17_Mark w n = some ({ w with Bits := mrk w.Bits (dist w.Start n) }, 0) := by
 unfold hotspotref17_Mark
 have hd0 := dist_nn w.Start n
 obtain ⟨d, hdd⟩ : ∃ d : Nat, dist w.Start n = (d : Int) := ⟨_, (Int.toNat_of_nonneg hd0.1).symm⟩
 have hl := mk_len w.Start B
 obtain ⟨A, h1, h2, h3⟩ := of_e hs (mk w.Start B ++ [n]) (by simp; omega)
 rw [mnumber_e hs, bindS, Bool.not_true, cond_false, mnumber_e hn, bindS, Bool.not_true, cond_false, rdist_e, bindS, decide_eq_false (by omega), cond_false, marked_e hs hB hb, bindS, chk_d (by omega), bindS, h1, bindS, hdd, hb, mrk_e hB (by omega)]
 have hA : A = B ||| 2 ^ d := by
  refine Nat.eq_of_testBit_eq fun m => ?_
  rw [h3, Nat.testBit_or, Nat.testBit_two_pow]
  by_cases hm : m < 64
  ·
   rw [decide_eq_true hm, Bool.true_and, Bool.eq_iff_iff, decide_eq_true_eq, List.mem_append, List.mem_singleton, num_mk hm, Bool.or_eq_true, decide_eq_true_eq]
   have : num w.Start m = n ↔ d = m := by
    unfold num; unfold okN at hs hn; unfold dist at hdd; omega
   rw [this]
  ·
   rw [decide_eq_false hm, Bool.false_and, tb_big hB (by omega), Bool.false_or]
   symm; rw [decide_eq_false_iff_not]; omega
 rw [hA]

theorem rmove_w {w : Window} {B : Nat} {s' : Int} (hs : okN w.Start) (hB : B < 2 ^ 64) (hb : w.Bits = (B : Int)) (hs' : okN s') (hd : dist w.Start s' < 2048) : ∃ A : Nat, hotspotref17_Move w s' = some (⟨s', (A : Int)⟩, 0) ∧ A < 2 ^ 64 ∧ (w.Bits).fdiv (2 ^ (min (dist w.Start s').toNat 64)) = (A : Int) := by
 unfold hotspotref17_Move
 have hd0 := dist_nn w.Start s'
 obtain ⟨d, hdd⟩ : ∃ d : Nat, dist w.Start s' = (d : Int) := ⟨_, (Int.toNat_of_nonneg hd0.1).symm⟩
 have hl := mk_len w.Start B
 obtain ⟨A, h1, h2, h3⟩ := of_e hs' (mk w.Start B) (by omega)
 refine ⟨A, ?_, h2, ?_⟩
 ·
  rw [mnumber_e hs, bindS, Bool.not_true, cond_false, mnumber_e hs', bindS, Bool.not_true, cond_false, marked_e hs hB hb, bindS, h1, bindS]
 ·
  rw [hb, hdd, Int.toNat_natCast]
  have hp : (2 : Int) ^ (min d 64) = ((2 ^ (min d 64) : Nat) : Int) := by simp
  rw [hp, ← Int.ofNat_fdiv, ← Nat.shiftRight_eq_div_pow]
  suffices hs : B >>> min d 64 = A by rw [hs]
  refine Nat.eq_of_testBit_eq fun m => ?_
  rw [h3, Nat.testBit_shiftRight]
  by_cases hm : m < 64
  ·
   rw [decide_eq_true hm, Bool.true_and, Bool.eq_iff_iff, decide_eq_true_eq, mem_mk]
   have key : ∀ j : Nat, j < 64 → (num w.Start j = num s' m ↔ j = d + m) := by
    intro j hj
    unfold num; unfold okN at hs hs'; unfold dist at hdd hd; omega
   constructor
   ·
    intro h
    have h64 : min d 64 + m < 64 := by
     rcases Nat.lt_or_ge (min d 64 + m) 64 with h' | h'
     ·
      exact h'
     ·
      rw [tb_big hB h'] at h; cases h
    exact ⟨d + m, by omega, by rw [show d + m = min d 64 + m by omega]; exact h, (key _ (by omega)).2 rfl⟩
   ·
    rintro ⟨j, j1, j2, j3⟩
    have := (key j j1).1 j3
    rw [show min d 64 + m = j by omega]; exact j2
  ·
   rw [decide_eq_false hm, Bool.false_and, tb_big hB (by omega)]

theorem note_e {w : Window} {B : Nat} {n : Int} (hs : okN w.Start) (hB : B < 2 ^ 64) (hb : w.Bits = (B : Int)) (hn : okN n) : ∃ w', reorder_note w n = some w' ∧ hotspotref18_Note w n = some w' ∧ okN w'.Start := by
 unfold reorder_note hotspotref18_Note
 have hd := dist_nn w.Start n
 rw [dist_e, bindS, rdist_e, bindS]
 by_cases h : 2048 ≤ dist w.Start n
 ·
  rw [decide_eq_true h, cond_true, cond_true]
  exact ⟨w, rfl, rfl, hs⟩
 ·
  rw [decide_eq_false h, cond_false, cond_false]
  by_cases h2 : 64 ≤ dist w.Start n
  ·
   have hx : okN ((n + (-63)) % 4096) := by unfold okN; omega
   have e1 : dist w.Start ((n + (-63)) % 4096) = dist w.Start n - 63 := by unfold dist at h h2 ⊢; omega
   have e2 : dist ((n + (-63)) % 4096) n = 63 := by unfold okN at hn; unfold dist; omega
   obtain ⟨A, a1, a2, a3⟩ := rmove_w hs hB hb hx (by omega)
   have hm : window_Move w ((n + (-63)) % 4096) = some (⟨(n + (-63)) % 4096, (A : Int)⟩, 0) := by
    unfold window_Move
    rw [wcheck_e hs hx, bindS, bne_self_eq_false, cond_false, dist_e, bindS, decide_eq_true (by omega), cond_true, chk_d (by omega), bindS, a3]
   rw [decide_eq_true h2, cond_true, cond_true, add_e, bindS, hm, bindS, bindS, radd_e, bindS, a1, bindS, bindS, mark_e (w := ⟨(n + (-63)) % 4096, (A : Int)⟩) hx hn (by simp only [e2]; omega), bindS, rmark_e (w := ⟨(n + (-63)) % 4096, (A : Int)⟩) hx a2 rfl hn (by simp only [e2]; omega), bindS]
   exact ⟨_, rfl, rfl, hx⟩
  ·
   rw [decide_eq_false h2, cond_false, cond_false, bindS, bindS, mark_e hs hn (by omega), bindS, rmark_e hs hB hb hn (by omega), bindS]
   exact ⟨_, rfl, rfl, hs⟩
end Go.AX.Z.TR

/-! (TFA) -/

set_option linter.unusedSimpArgs false
set_option linter.unusedVariables false
set_option maxHeartbeats 4000000
set_option maxRecDepth 20000
namespace Go.AX.Z.TR
open Go.AX Go.Proofs
attribute [local irreducible] awp xw xop xcall gsp ob xd xdop xcallD seqQ loopQ blkQ endQ

noncomputable def c1 : Code → Code | .seq x _ => x | c => c
noncomputable def c2 : Code → Code | .seq _ y => y | c => c
noncomputable def body5 : Code := Try.f5.body.getD .skip
noncomputable def z4 : Code := c2 (c2 (c2 body5))
noncomputable def z7 : Code := c2 (c2 (c2 z4))
noncomputable def zD : Code := c2 (c2 z7)

def putsA (a0 : Reorder) (a1 : Frame) (x2 : Reorder) (x3 : Frame) (a2 : Int) : AS :=
 { objs := (upd (upd (upd (upd (upd (fun _ => .dead) 0 (.live (e_Reorder a0 (.imm (List.flatMap E_HeldSeq a0.Held) a0.Held.length)))) 1 (.live (e_Frame a1 (.imm (List.map vu a1.Body) a1.Body.length)))) 2 (.live (e_Reorder x2 (.ref 3 0 x2.Held.length 42)))) 3 (.live (List.flatMap E_HeldSeq x2.Held))) 4 (.live (e_Frame x3 (.imm (List.map vu x3.Body) x3.Body.length)))), next := 5, tmps := (upd (upd (upd (upd (upd (fun _ => .unk) 2 (vi a2)) 3 (.ptr 0 0)) 4 (.ptr 1 0)) 7 (.ptr 2 0)) 8 (.ptr 4 0)) }


def QA (a0 : Reorder) (a1 : Frame) (a2 : Int) (x1 : Bool) (x2 : Reorder) (x3 : Frame) : AExit → AS → Prop
 | .normal, t => x1 = false ∧ ∃ u, Wk 0 K t u ∧ u = putsA a0 a1 x2 x3 a2
 | _, _ => False

theorem partA (a0 : Reorder) (a1 : Frame) (a2 : Int) {x1 : Bool} {x2 : Reorder} {x3 : Frame} (hx1 : x1 = false) (bx1 : hotspotref18_Great a0 a1 = some x1) (bx2 : x1 = false → hotspotref18_Twin a0 = some x2) (bx3 : x1 = false → hotspotref05_Twin a1 = some x3) :
  awp 0 K (chain [c1 body5, c1 (c2 body5), c1 (c2 (c2 body5))] .skip) (QA a0 a1 a2 x1 x2 x3) { objs := fun _ => .dead, next := 0, tmps := arg [(.agg (E_Reorder a0)), (.agg (E_Frame a1)), (vi a2)] } := by
 refine awp_nr [0,1,2] (fun _ => rfl) fun tz => ?_
 refine awp_regW fun KK hKK => ?_
 refine xw_id ?_
 try simp only [go_sem, Nat.reduceAdd]
 refine hKK _ _ (Wk.refl _ _ _) ?_; clear hKK KK
 refine awp_assoc ?_
 refine awp_nr [2,3,4] (fun _ => rfl) fun tz => ?_
 refine awp_regW fun KK hKK => ?_
 refine xw_id ?_
 try simp only [go_sem, Nat.reduceAdd]
 refine xcall_p (hotspotref18_Great_p a0 a1 bx1) ?_; try dsimp only
 try refine xw_id ?_
 try simp only [go_sem, Nat.reduceAdd]
 refine hKK _ _ (Wk.refl _ _ _) ?_; clear hKK KK
 refine awp_cond (b := x1) rfl (fun h1 => ?_) (fun h1 => ?_)
 ·
  rw [h1] at hx1; cases hx1
 ·
  refine awp_skip ?_
  refine awp_nr [2,3,4] (fun _ => rfl) fun tz => ?_
  refine awp_regDW fun KK hKK all hall => ?_
  refine xd_id ?_
  try simp only [List.toList_toArray, List.map_cons, List.map_nil, List.size_toArray, List.length_cons, List.length_nil, Nat.zero_add]
  try simp only [Nat.reduceAdd]
  iterate 3 ((try simp only [go_sem, ]); try simp only [Nat.reduceAdd])
  refine xcallD_E (hotspotref18_Twin_e a0 (bx2 h1) _) ?_; try dsimp only
  try refine xd_id ?_
  iterate 3 ((try simp only [go_sem, ]); try simp only [Nat.reduceAdd])
  refine xcallD_p (hotspotref05_Twin_p a1 (bx3 h1)) ?_; try dsimp only
  try refine xd_id ?_
  iterate 3 ((try simp only [go_sem, ]); try simp only [Nat.reduceAdd])
  refine And.intro ?_ (hKK _ (putsA a0 a1 x2 x3 a2) (by refine Wk.canonD [] [] [some 0, some 1, some 10, some 7, some 11] rfl trivial rfl (tmOU 4 (tmOU 3 (tmOU 2 (tmOU 1 (tmOU 0 tmO0 rfl List.not_mem_nil rfl (e_Reorder_tmx (by rfl) (Tm.clean (Clean.imm (c_HeldSeq _))))) rfl List.not_mem_nil rfl (e_Frame_tmx (by rfl) (Tm.clean (Clean.imm (vu_clean _))))) rfl List.not_mem_nil rfl (e_Reorder_tmx (by rfl) (Tm.refL rfl ?_))) rfl List.not_mem_nil rfl (TmL.of_eq (by first | rfl | (simp only [List.flatMap_append, List.flatMap_cons, List.flatMap_nil, List.map_append, List.map_cons, List.map_nil, List.append_nil, List.nil_append] <;> rfl)) (c_HeldSeq _))) rfl List.not_mem_nil rfl (e_Frame_tmx (by rfl) (Tm.clean (Clean.imm (vu_clean _))))) (tmAllU 8 (tmAllU 7 (tmAllU 4 (tmAllU 3 (tmAllU 2 tmAll0 (Tm.v _)) (Tm.ptr rfl)) (Tm.ptr rfl)) (Tm.ptr rfl)) (Tm.ptr rfl)); all_goals (first | rfl | (simp only [List.length_append, List.length_take, List.length_drop, List.length_cons, List.length_nil, List.length_modify, List.length_set, Nat.zero_add] <;> omega) | omega)) ?_)
  ·
   subst hall
   clear hKK KK
   first | decide +kernel | (simp [printsOk, apartP, clash, meet]; try (first | done | decide +kernel | (repeat (first | exact Or.inr (by decide +kernel) | (refine And.intro (Or.inr (by decide +kernel)) ?_)))))
  ·
   clear hKK KK hall all
   refine awp_skip1 ?_
   exact ⟨h1, _, Wk.refl _ _ _, rfl⟩

theorem puts_great (a0 : Reorder) (a1 : Frame) (a2 : Int) (bx1 : hotspotref18_Great a0 a1 = some true) : SndP K 5 [(.agg (E_Reorder a0)), (.agg (E_Frame a1)), (vi a2)] (vb true) := by
 refine SndP.of_walkW hC (Clean.v _) (clean_cons (Clean.agg (E_Reorder_clean _)) (clean_cons (Clean.agg (E_Frame_clean _)) (clean_cons (Clean.v _) clean_nil))) (show K.P.funcs[5]? = some Try.f5 from Try.func5) rfl rfl (by decide +kernel) (Nat.le_of_ble_eq_true rfl) ?_
 refine awp_nr [0,1,2] (fun _ => rfl) fun tz => ?_
 refine awp_regW fun KK hKK => ?_
 refine xw_id ?_
 try simp only [go_sem, Nat.reduceAdd]
 refine hKK _ _ (Wk.refl _ _ _) ?_; clear hKK KK
 refine awp_assoc ?_
 refine awp_nr [2,3,4] (fun _ => rfl) fun tz => ?_
 refine awp_regW fun KK hKK => ?_
 refine xw_id ?_
 try simp only [go_sem, Nat.reduceAdd]
 refine xcall_p (hotspotref18_Great_p a0 a1 bx1) ?_; try dsimp only
 try refine xw_id ?_
 try simp only [go_sem, Nat.reduceAdd]
 refine hKK _ _ (Wk.refl _ _ _) ?_; clear hKK KK
 refine awp_cond (b := true) rfl (fun h1 => ?_) (fun h1 => by cases h1)
 ·
  refine awp_assoc ?_
  refine awp_nr [] (fun _ => rfl) fun tz => ?_
  refine awp_regW fun KK hKK => ?_
  refine xw_id ?_
  try simp only [go_sem, Nat.reduceAdd]
  refine hKK _ _ (Wk.refl _ _ _) ?_; clear hKK KK
  refine awp_ret ?_
  refine endW_i ?_
  refine end_ret0 rs5 (rfl) ?_
  try simp only [go_sem, Nat.reduceAdd, fz, nilS, packR, List.take_nil, List.take_length, List.length_map, List.length_append, cond_true, cond_false, Nat.ble_eq, ble_self]
  all_goals first | rfl | (simp only [go_sem, Nat.reduceAdd, fz, nilS, packR, List.take_nil, List.take_length, List.length_map, List.length_append, cond_true, cond_false, Nat.ble_eq, ble_self, List.map_append] <;> rfl)

end Go.AX.Z.TR

/-! (TFB) -/

set_option linter.unusedSimpArgs false
set_option linter.unusedVariables false
set_option linter.unusedSectionVars false
set_option maxHeartbeats 4000000
set_option maxRecDepth 20000
namespace Go.AX.Z.TR.F
open Go.AX Go.Proofs
variable [FN]

def WeakA (x x' : AV) : Prop := ∀ (ρ : Rho) (V : View) (y : Value), Rel ρ V x y → Rel ρ V x' y
def WeakL (l m : List AV) : Prop := l.length = m.length ∧ ∀ (i : Nat) x x', l[i]? = some x → m[i]? = some x' → WeakA x x'
theorem WeakL.refl (l : List AV) : WeakL l l := ⟨rfl, fun i x x' h h' => by rw [h] at h'; cases h'; exact fun _ _ _ h => h⟩
theorem WeakL.app {a b c d : List AV} (h : WeakL a b) (k : WeakL c d) : WeakL (a ++ c) (b ++ d) := by
 refine ⟨by rw [List.length_append, List.length_append, h.1, k.1], fun i x x' hx hy => ?_⟩
 rw [List.getElem?_append] at hx hy
 by_cases hi : i < a.length
 ·
  rw [if_pos hi] at hx
  rw [if_pos (by rw [← h.1]; exact hi)] at hy
  exact h.2 i x x' hx hy
 ·
  rw [if_neg hi] at hx
  rw [if_neg (by rw [← h.1]; exact hi), ← h.1] at hy
  exact k.2 _ x x' hx hy
theorem WeakL.one {x y : AV} (h : WeakA x y) : WeakL [x] [y] := by
 refine ⟨rfl, fun i a b ha hb => ?_⟩
 cases i with
 | zero => cases ha; cases hb; exact h
 | succ i => simp at ha
theorem WeakL.flat {α : Type} {f g : α → List AV} (h : ∀ a, WeakL (f a) (g a)) : ∀ l : List α, WeakL (l.flatMap f) (l.flatMap g)
 | [] => WeakL.refl _
 | a :: l => by rw [List.flatMap_cons, List.flatMap_cons]; exact (h a).app (WeakL.flat h l)
theorem WeakL.rel {l m : List AV} (h : WeakL l m) {ρ : Rho} {V : View} {g : Nat → Option Value} (H : ∀ (i : Nat) x y, l[i]? = some x → g i = some y → Rel ρ V x y) : ∀ (i : Nat) x y, m[i]? = some x → g i = some y → Rel ρ V x y := by
 intro i x y hx hy
 have hi : i < l.length := by rw [h.1]; exact (List.getElem?_eq_some_iff.1 hx).1
 have e : l[i]? = some l[i] := List.getElem?_eq_getElem hi
 exact h.2 i _ x e hx ρ V y (H i _ y e hy)
theorem WeakA.fim (N : Nat) (cells : List AV) (n : Nat) : WeakA (.fim N cells n) (.imm cells n) := by
 intro ρ V y h
 cases h with
 | fim _ _ _ b o cap c hV hb H S hlc hN => exact .imm cells n b o cap c hV hb H S hlc
 | fim0 _ a cap => exact .imm0 a cap
theorem WeakA.imm {l m : List AV} (h : WeakL l m) (n : Nat) : WeakA (.imm l n) (.imm m n) := by
 intro ρ V y hr
 cases hr with
 | imm _ _ b o cap c hV hb H S hlc =>
  exact .imm m n b o cap c hV (by rw [← h.1]; exact hb) (h.rel (g := fun i => c[o + i]?) H) (fun i y hi => S i y (by rw [h.1]; exact hi)) hlc
 | imm0 a cap =>
  have : m = [] := List.eq_nil_of_length_eq_zero (by rw [← h.1]; rfl)
  subst this
  exact .imm0 a cap
theorem WeakA.agg {l m : List AV} (h : WeakL l m) : WeakA (.agg l) (.agg m) := by
 intro ρ V y hr
 cases hr with
 | agg _ ys h1 H S => exact .agg m ys (by rw [h1, h.1]) (h.rel (g := fun i => ys[i]?) H) S
theorem weak_vu (l : List Int) : WeakA (T_vu l) (S_vu l) := WeakA.fim _ _ _
theorem weak_Frame (x : Frame) : WeakL (E_Frame x) (TR.E_Frame x) := (WeakL.refl (e_Header x.Head)).app (WeakL.one (weak_vu _))
theorem weak_HeldSeq (x : HeldSeq) : WeakL (E_HeldSeq x) (TR.E_HeldSeq x) := (WeakL.refl [vi x.At]).app (weak_Frame x.Frame)
theorem weak_S_Frame (l : List Frame) : WeakA (S_Frame l) (TR.S_Frame l) := WeakA.imm (WeakL.flat weak_Frame l) _
theorem weak_S_HeldSeq (l : List HeldSeq) : WeakA (S_HeldSeq l) (TR.S_HeldSeq l) := WeakA.imm (WeakL.flat weak_HeldSeq l) _
theorem weak_Reorder (x : Reorder) : WeakL (E_Reorder x) (TR.E_Reorder x) :=
 ((WeakL.refl [vi x.Start, vi x.Size, vi x.Hold]).app (WeakL.one (weak_S_HeldSeq x.Held))).app (WeakL.refl (e_Window x.Seen))

theorem sndP_weak {C : Ctx} {f : FuncId} {args args' : List AV} {r : AV} (h : SndP C f args' r) (hw : WeakL args args') : SndP C f args r := by
 refine ⟨h.clean, fun s => ⟨trivial, fun ρ V w xs h1 h2 h3 h4 => ?_⟩⟩
 exact (h.quiet s).2 ρ V w xs (by rw [h1, hw.1]) (hw.rel (g := fun i => xs[i]?) h2) h3 h4
theorem sndM_gt {f : FuncId} {args : List AV} {mk : (Nat → Nat) → AV} {l : List (List AV)} (h : SndM TR.K f args mk l) : SndM K f args mk l := fun hs => snd_gt (h hs)

theorem SameAll_p (l m : List Frame) {r : Bool} (h0 : hotspotref05_SameAll l m = some r) : SndP K 22 [S_Frame l, TR.S_Frame m] (vb r) :=
 sndP_weak (sndP_gt (TR.hotspotref05_SameAll_p l m h0)) ((WeakL.one (weak_S_Frame l)).app (WeakL.refl [TR.S_Frame m]))
theorem Same_p (x y : Reorder) {r : Bool} (h0 : hotspotref18_Same x y = some r) : SndP K 13 [.agg (E_Reorder x), .agg (TR.E_Reorder y)] (vb r) :=
 sndP_weak (sndP_gt (TR.hotspotref18_Same_p x y h0)) ((WeakL.one (WeakA.agg (weak_Reorder x))).app (WeakL.refl [.agg (TR.E_Reorder y)]))

def putsB (a0 : Reorder) (a1 : Frame) (x2 : Reorder) (x3 : Frame) (a2 : Int) : AS :=
 { objs := (upd (upd (upd (upd (upd (fun _ => .dead) 0 (.froz (e_Reorder a0 (.imm (List.flatMap TR.E_HeldSeq a0.Held) a0.Held.length)))) 1 (.froz (e_Frame a1 (.imm (List.map vu a1.Body) a1.Body.length)))) 2 (.froz (e_Reorder x2 (.ref 3 0 x2.Held.length 42)))) 3 (.froz (List.flatMap TR.E_HeldSeq x2.Held))) 4 (.froz (e_Frame x3 (.imm (List.map vu x3.Body) x3.Body.length)))), next := 5, tmps := (upd (upd (upd (upd (upd (fun _ => .unk) 2 (vi a2)) 3 (.ptr 0 0)) 4 (.ptr 1 0)) 7 (.ptr 2 0)) 8 (.ptr 4 0)) }

structure MidE (x4 : (List Frame) × Reorder × Int) (u : AS) : Prop where
 t3 : u.tmps 3 = .ptr 0 0
 t4 : u.tmps 4 = .ptr 1 0
 t7 : u.tmps 7 = .ptr 2 0
 t8 : u.tmps 8 = .ptr 4 0
 t15 : u.tmps 15 = vb true
 out : ∃ i, u.tmps 9 = .ref i 0 x4.1.length 41 ∧ u.objs i = .live (List.flatMap E_Frame x4.1)
 nxt : ∃ j k, u.tmps 10 = .ptr j 0 ∧ u.objs j = .live (e_Reorder x4.2.1 (.ref k 0 x4.2.1.Held.length 42)) ∧ u.objs k = .live (List.flatMap E_HeldSeq x4.2.1.Held)
 apart : ∀ i j k, u.tmps 9 = .ref i 0 x4.1.length 41 → u.tmps 10 = .ptr j 0 → u.objs j = .live (e_Reorder x4.2.1 (.ref k 0 x4.2.1.Held.length 42)) → i ≠ j ∧ i ≠ k ∧ j ≠ k

def QB (x4 : (List Frame) × Reorder × Int) : AExit → AS → Prop
 | .normal, t => ∃ u, Wk 5 K t u ∧ MidE x4 u
 | _, _ => False

attribute [local irreducible] awp xw xop xcall gsp ob xd xdop xcallD seqQ loopQ blkQ endQ
theorem partB (a0 : Reorder) (a1 : Frame) (a2 : Int) {x2 : Reorder} {x3 : Frame} {x4 x5 : (List Frame) × Reorder × Int} (bx4 : reorder_Put a0 a1 a2 = some x4) (bx5 : hotspotref18_Put a0 a1 a2 = some x5) (bx6 : hotspotref05_SameAll x4.1 x5.1 = some true)
  (bx7 : hotspotref18_Same x4.2.1 x5.2.1 = some true) (he : x4.2.2 = x5.2.2) : awp 5 K (chain [c1 z4, c1 (c2 z4), c1 (c2 (c2 z4))] .skip) (QB x4) (putsB a0 a1 x2 x3 a2) := by
 unfold putsB
 refine awp_nr [2,3,4,7,8] (fun _ => rfl) fun tz => ?_
 refine awp_regW fun KK hKK => ?_
 refine xw_id ?_
 try simp only [go_sem, Nat.reduceAdd]
 refine xcall_M (reorder_Put_m a0 a1 a2 bx4) ?_; try dsimp only
 try refine xw_id ?_
 try simp only [go_sem, Nat.reduceAdd]
 refine hKK _ _ (Wk.refl _ _ _) ?_; clear hKK KK
 refine awp_nr [2,3,4,7,8,9,10,11] (fun _ => rfl) fun tz => ?_
 refine awp_regW fun KK hKK => ?_
 refine xw_id ?_
 try simp only [go_sem, Nat.reduceAdd]
 refine xcall_M (sndM_gt (TR.hotspotref18_Put_m a0 a1 a2 bx5)) ?_; try dsimp only
 try refine xw_id ?_
 try simp only [go_sem, Nat.reduceAdd]
 refine hKK _ _ (Wk.refl _ _ _) ?_; clear hKK KK
 refine awp_nr [3,4,7,8,9,10,11,12,13,14] (fun _ => rfl) fun tz => ?_
 refine awp_regW fun KK hKK => ?_
 refine xw_id ?_
 try simp only [go_sem, Nat.reduceAdd]
 refine xcall_L (by first | (simp only [go_sem, fz, Nat.reduceAdd] <;> rfl) | (simp only [go_sem, fz, List.length_set, ble_self, take_set, cond_true, cond_false, Nat.reduceAdd] <;> rfl)) (SameAll_p x4.1 x5.1 bx6) (Bare.v _) ?_; try dsimp only
 try refine xw_id ?_
 try simp only [go_sem, Nat.reduceAdd]
 refine xcall_L (by first | (simp only [go_sem, fz, Nat.reduceAdd] <;> rfl) | (simp only [go_sem, fz, List.length_set, ble_self, take_set, cond_true, cond_false, Nat.reduceAdd] <;> rfl)) (Same_p x4.2.1 x5.2.1 bx7) (Bare.v _) ?_; try dsimp only
 try refine xw_id ?_
 try simp only [go_sem, Nat.reduceAdd]
 rw [show (x4.2.2 == x5.2.2) = true from by rw [he]; exact beq_self_eq_true _]
 refine hKK _ _ (Wk.refl _ _ _) ?_; clear hKK KK
 refine awp_skip1 ?_
 refine ⟨_, Wk.refl _ _ _, ⟨rfl, rfl, rfl, rfl, rfl, ⟨17, rfl, rfl⟩, ⟨13, 18, rfl, rfl, rfl⟩, fun i j k h1 h2 h3 => ?_⟩⟩
 have e1 : (17 : Nat) = i := by injection h1
 have e2 : (13 : Nat) = j := by injection h2
 subst e1; subst e2
 have h4 : Ob.live (e_Reorder x4.2.1 (.ref 18 0 x4.2.1.Held.length 42)) = .live (e_Reorder x4.2.1 (.ref k 0 x4.2.1.Held.length 42)) := h3
 have h5 : e_Reorder x4.2.1 (.ref 18 0 x4.2.1.Held.length 42) = e_Reorder x4.2.1 (.ref k 0 x4.2.1.Held.length 42) := by injection h4
 have h6 : (e_Reorder x4.2.1 (.ref 18 0 x4.2.1.Held.length 42))[3]? = (e_Reorder x4.2.1 (.ref k 0 x4.2.1.Held.length 42))[3]? := by rw [h5]
 rw [e_Reorder_g_Held, e_Reorder_g_Held] at h6
 have e3 : (18 : Nat) = k := by injection h6 with h7; injection h7
 subst e3
 decide
end Go.AX.Z.TR.F

/-! (TFC) -/

set_option linter.unusedSimpArgs false
set_option linter.unusedVariables false
set_option maxHeartbeats 4000000
set_option maxRecDepth 20000
namespace Go.AX.Z.TR
open Go.AX Go.Proofs

structure Lcs where
 w1 : World
 w2 : World
 y9 : Value
 b9 : Nat
 o9 : Nat
 n9 : Nat
 bx : Nat
 ox : Nat
 yH : Value
 bH : Nat
 oH : Nat
 nH : Nat

def TokB (L : Lcs) (w : World) (b o len : Nat) : Prop := L.w1.heap.size ≤ b ∧ b ≠ L.b9 ∧ b ≠ L.bx ∧ b ≠ L.bH ∧ ∃ c T q, w.heap[b]? = some (.cells c T q) ∧ ∀ k, k < len → ∃ z, c[o + k]? = some (.int .u8 z)
def Tok (L : Lcs) (w : World) (y : Value) : Prop := ∃ a len cap, y = .slice a len cap ∧ len < 4611686018427387904 ∧ (len = 0 ∨ ∃ b o, a = some ⟨b, o, none⟩ ∧ TokB L w b o len)

structure Lp (L : Lcs) (w : World) : Prop where
 mem : Mem L.w1 w
 nc : ∀ (b : Nat) (o : Obj), L.w2.heap[b]? = some o → o.isCells = false → w.heap[b]? = some o
 old : ∀ b, b < L.w1.heap.size → w.heap[b]? = L.w1.heap[b]?
 box : L.w1.heap.size ≤ L.bx ∧ ∃ c T q, w.heap[L.bx]? = some (.cells c T q) ∧ c[L.ox + 3]? = some L.yH
 y9 : ∃ a cap, L.y9 = .slice a L.n9 cap ∧ (L.n9 ≠ 0 → a = some ⟨L.b9, L.o9, none⟩)
 yH : ∃ a cap, L.yH = .slice a L.nH cap ∧ (L.nH ≠ 0 → a = some ⟨L.bH, L.oH, none⟩)
 out : L.n9 ≠ 0 → L.w1.heap.size ≤ L.b9 ∧ L.b9 ≠ L.bx ∧ L.b9 ≠ L.bH ∧ ∃ c T q, w.heap[L.b9]? = some (.cells c T q) ∧ ∀ i, i < L.n9 → ∃ y, c[L.o9 + i * 41 + 40]? = some y ∧ Tok L w y
 hel : L.nH ≠ 0 → L.w1.heap.size ≤ L.bH ∧ L.bH ≠ L.bx ∧ ∃ c T q, w.heap[L.bH]? = some (.cells c T q) ∧ ∀ i, i < L.nH → (∃ z, c[L.oH + i * 42]? = some z) ∧ ∃ y, c[L.oH + i * 42 + 41]? = some y ∧ Tok L w y

theorem setCell_nc {w : World} {b p d : Nat} {v : Value} {c : Array Value} {T : TypeId} {q : Nat × Nat} {o : Obj} (h : w.heap[b]? = some (.cells c T q)) (hd : w.heap[d]? = some o) (ho : o.isCells = false) : (w.setCell ⟨b, p, none⟩ v).heap[d]? = some o := by
 by_cases hb : d = b
 ·
  subst hb; rw [h] at hd; cases hd; simp [Obj.isCells] at ho
 ·
  rw [setCell_other _ _ hb]; exact hd

theorem Tok.byte {L : Lcs} {w : World} {y : Value} {b p : Nat} {z : Int} (h : Tok L w y) : Tok L (w.setCell ⟨b, p, none⟩ (.int .u8 z)) y := by
 obtain ⟨a, len, cap, rfl, hle, h⟩ := h
 refine ⟨a, len, cap, rfl, hle, ?_⟩
 rcases h with h | ⟨d, o, rfl, h1, h2, h3, h4, c, T, q, h5, h6⟩
 ·
  exact .inl h
 ·
  right
  refine ⟨d, o, rfl, h1, h2, h3, h4, ?_⟩
  by_cases hd : d = b
  ·
   subst hd
   refine ⟨_, T, q, setCell_same h5, fun k hk => ?_⟩
   obtain ⟨z', hz⟩ := h6 k hk
   by_cases hp : p = o + k
   ·
    subst hp
    have hlt : o + k < c.size := (Array.getElem?_eq_some_iff.1 hz).1
    exact ⟨z, by simp [hlt]⟩
   ·
    exact ⟨z', by rw [Array.getElem?_setIfInBounds_ne hp]; exact hz⟩
  ·
   exact ⟨c, T, q, by rw [setCell_other _ _ hd]; exact h5, h6⟩
theorem Tok.at {L : Lcs} {w : World} {y v : Value} {p : Nat} (h : Tok L w y) : Tok L (w.setCell ⟨L.bH, p, none⟩ v) y := by
 obtain ⟨a, len, cap, rfl, hle, h⟩ := h
 refine ⟨a, len, cap, rfl, hle, ?_⟩
 rcases h with h | ⟨d, o, rfl, h1, h2, h3, h4, c, T, q, h5, h6⟩
 ·
  exact .inl h
 ·
  exact .inr ⟨d, o, rfl, h1, h2, h3, h4, c, T, q, by rw [setCell_other _ _ h4]; exact h5, h6⟩

theorem Lp.byte {L : Lcs} {w : World} {b o len k : Nat} {z : Int} (h : Lp L w) (ht : TokB L w b o len) : Lp L (w.setCell ⟨b, o + k, none⟩ (.int .u8 z)) := by
 obtain ⟨t1, t2, t3, t4, c, T, q, t5, t6⟩ := ht
 refine ⟨h.mem.trans (mem_setCell t5), fun d o hd ho => setCell_nc t5 (h.nc d o hd ho) ho, fun d hd => ?_, ?_, h.y9, h.yH, fun hn => ?_, fun hn => ?_⟩
 ·
  rw [setCell_other _ _ (by omega)]; exact h.old d hd
 ·
  obtain ⟨g1, c', T', q', g2, g3⟩ := h.box
  exact ⟨g1, c', T', q', by rw [setCell_other _ _ (Ne.symm t3)]; exact g2, g3⟩
 ·
  obtain ⟨g1, g2, g3, c', T', q', g4, g5⟩ := h.out hn
  refine ⟨g1, g2, g3, c', T', q', by rw [setCell_other _ _ (Ne.symm t2)]; exact g4, fun i hi => ?_⟩
  obtain ⟨y, h1, h2⟩ := g5 i hi
  exact ⟨y, h1, h2.byte⟩
 ·
  obtain ⟨g1, g2, c', T', q', g4, g5⟩ := h.hel hn
  refine ⟨g1, g2, c', T', q', by rw [setCell_other _ _ (Ne.symm t4)]; exact g4, fun i hi => ?_⟩
  obtain ⟨g6, y, h1, h2⟩ := g5 i hi
  exact ⟨g6, y, h1, h2.byte⟩
theorem Lp.at {L : Lcs} {w : World} {i : Nat} {v : Value} (h : Lp L w) (hi : i < L.nH) : Lp L (w.setCell ⟨L.bH, L.oH + i * 42, none⟩ v) := by
 obtain ⟨e1, e2, c, T, q, t5, t6⟩ := h.hel (by omega)
 refine ⟨h.mem.trans (mem_setCell t5), fun d o hd ho => setCell_nc t5 (h.nc d o hd ho) ho, fun d hd => ?_, ?_, h.y9, h.yH, fun hn => ?_, fun hn => ?_⟩
 ·
  rw [setCell_other _ _ (by omega)]; exact h.old d hd
 ·
  obtain ⟨g1, c', T', q', g2, g3⟩ := h.box
  exact ⟨g1, c', T', q', by rw [setCell_other _ _ (Ne.symm e2)]; exact g2, g3⟩
 ·
  obtain ⟨g1, g2, g3, c', T', q', g4, g5⟩ := h.out hn
  refine ⟨g1, g2, g3, c', T', q', by rw [setCell_other _ _ g3]; exact g4, fun i hi => ?_⟩
  obtain ⟨y, h1, h2⟩ := g5 i hi
  exact ⟨y, h1, h2.at⟩
 ·
  refine ⟨e1, e2, _, T, q, setCell_same t5, fun j hj => ?_⟩
  obtain ⟨⟨z, g6⟩, y, h1, h2⟩ := t6 j hj
  refine ⟨?_, y, by rw [Array.getElem?_setIfInBounds_ne (by omega)]; exact h1, h2.at⟩
  have hlt : L.oH + j * 42 < c.size := (Array.getElem?_eq_some_iff.1 g6).1
  by_cases hp : L.oH + i * 42 = L.oH + j * 42
  ·
   rw [hp]; exact ⟨v, by simp [hlt]⟩
  ·
   exact ⟨z, by rw [Array.getElem?_setIfInBounds_ne hp]; exact g6⟩

theorem nofreeze {L : Lcs} {w : World} (h : Lp L w) {b o : Nat} {c : Array Value} {T : TypeId} {q : Nat × Nat} {y : Value} (hb : L.w1.heap.size ≤ b) (hh : w.heap[b]? = some (.cells c T q)) (hy : c[o]? = some y) : w.frozen? ⟨b, o, none⟩ = false :=
 h.mem.nfz _ hb (by rw [csz_of hh]; exact (Array.getElem?_eq_some_iff.1 hy).1)

structure Ac (L : Lcs) (p3 p4 p7 p8 : Value) (ds : List Deferred) (a : Act) : Prop where
 sz : a.tmps.size = 129
 df : a.defers = ds
 t3 : tmv a 3 = p3
 t4 : tmv a 4 = p4
 t7 : tmv a 7 = p7
 t8 : tmv a 8 = p8
 t9 : tmv a 9 = L.y9
 t10 : tmv a 10 = .pointer (some ⟨L.bx, L.ox, none⟩)
 t15 : tmv a 15 = .bool true
theorem Ac.put {L : Lcs} {p3 p4 p7 p8 : Value} {ds : List Deferred} {a : Act} (h : Ac L p3 p4 p7 p8 ds a) {d : Nat} (y : Value) (hd : d < 129) (h3 : (d == 3 || d == 4 || d == 7 || d == 8 || d == 9 || d == 10 || d == 15) = false) : Ac L p3 p4 p7 p8 ds (a.put (some d) y) := by
 have hs : d < a.tmps.size := by rw [h.sz]; exact hd
 have key : ∀ t, (t == d) = false → tmv (a.put (some d) y) t = tmv a t := fun t ht => by rw [tmv_put hs, if_neg (by simpa using ht)]
 simp only [Bool.or_eq_false_iff, beq_eq_false_iff_ne] at h3
 obtain ⟨⟨⟨⟨⟨⟨h3, h4⟩, h7⟩, h8⟩, h9⟩, h10⟩, h15⟩ := h3
 exact ⟨by rw [sz_put]; exact h.sz, by rw [df_put]; exact h.df, by rw [key _ (by simpa using Ne.symm h3)]; exact h.t3, by rw [key _ (by simpa using Ne.symm h4)]; exact h.t4, by rw [key _ (by simpa using Ne.symm h7)]; exact h.t7,
  by rw [key _ (by simpa using Ne.symm h8)]; exact h.t8, by rw [key _ (by simpa using Ne.symm h9)]; exact h.t9, by rw [key _ (by simpa using Ne.symm h10)]; exact h.t10, by rw [key _ (by simpa using Ne.symm h15)]; exact h.t15⟩
end Go.AX.Z.TR

/-! (TFE) -/

set_option linter.unusedSimpArgs false
set_option linter.unusedVariables false
set_option maxHeartbeats 1000000
set_option maxRecDepth 20000
namespace Go.AX.Z.TR
open Go.AX Go.Proofs

section
variable {L : Lcs} {p3 p4 p7 p8 : Value} {ds : List Deferred}

theorem wrap_s (i : Nat) (h : i < 4611686018427387904) : IntKind.wrap .i64 ((i : Int) + 1) = ((i + 1 : Nat) : Int) := by
 rw [wrap64 (by omega) (by omega)]; omega

section
variable {P : Program} {ops : Array Oper} {Q : Exit → Act → World → Prop} {i : Nat} {rest : List Nat} {a : Act} {w : World} {dst : Option Nat} {ty : TypeId} {pos : String} {af : Array Edge}
theorem s_mv {x : Operand} {v : Value} (ho : ops[i]? = some ⟨dst, .move x, ty, pos, af, none⟩) (hx : a.eval x = v) (hk : wpOps P ops Q rest (a.put dst v) w) : wpOps P ops Q (i :: rest) a w :=
 s_move ho (by rw [hx]; exact hk)
theorem s_as {x : Operand} {v : Value} (ho : ops[i]? = some ⟨dst, .assign x, ty, pos, af, none⟩) (hx : a.eval x = v) (hk : wpOps P ops Q rest (a.put dst v) w) : wpOps P ops Q (i :: rest) a w :=
 s_assign ho (by rw [hx]; exact hk)
end

def RdB (L : Lcs) (w : World) (i : Nat) (y : Value) : Prop := ∃ c T q, w.heap[L.b9]? = some (.cells c T q) ∧ c[L.o9 + i * 41 + 40]? = some y ∧ Tok L w y
theorem RdB.byte {w : World} {i b o len k : Nat} {y : Value} {z : Int} (h : RdB L w i y) (ht : TokB L w b o len) : RdB L (w.setCell ⟨b, o + k, none⟩ (.int .u8 z)) i y := by
 obtain ⟨c, T, q, h1, h2, h3⟩ := h
 exact ⟨c, T, q, by rw [setCell_other _ _ (Ne.symm ht.2.1)]; exact h1, h2, h3.byte⟩
def RdH (L : Lcs) (w : World) (i : Nat) (y : Value) : Prop := ∃ c T q, w.heap[L.bH]? = some (.cells c T q) ∧ c[L.oH + i * 42 + 1 + 40]? = some y ∧ Tok L w y
theorem RdH.byte {w : World} {i b o len k : Nat} {y : Value} {z : Int} (h : RdH L w i y) (ht : TokB L w b o len) : RdH L (w.setCell ⟨b, o + k, none⟩ (.int .u8 z)) i y := by
 obtain ⟨c, T, q, h1, h2, h3⟩ := h
 exact ⟨c, T, q, by rw [setCell_other _ _ (Ne.symm ht.2.2.2.1)]; exact h1, h2, h3.byte⟩
theorem RdH.at {w : World} {i j : Nat} {y v : Value} (h : RdH L w i y) : RdH L (w.setCell ⟨L.bH, L.oH + j * 42, none⟩ v) i y := by
 obtain ⟨c, T, q, h1, h2, h3⟩ := h
 exact ⟨_, T, q, setCell_same h1, by rw [Array.getElem?_setIfInBounds_ne (by omega)]; exact h2, h3.at⟩
theorem Tok.get {w : World} {ad : Option Go.Addr} {len cap k : Nat} (h : Tok L w (.slice ad len cap)) (hk : k < len) : ∃ b o, ad = some (Go.Addr.mk b o none) ∧ TokB L w b o len := by
 obtain ⟨ad', len', cap', e, -, h⟩ := h
 cases e
 rcases h with h | h
 ·
  omega
 ·
  exact h

attribute [local irreducible] Act.put tmv

theorem loop1 {Q : Exit → Act → World → Prop} (hn : L.n9 < 4611686018427387904) (hQ : ∀ a w, Lp L w → Ac L p3 p4 p7 p8 ds a → Q .normal a w) {a : Act} {w : World} (hl : Lp L w) (ha : Ac L p3 p4 p7 p8 ds a) : (c1 z7).wp K.P Q a w := by
 obtain ⟨a9, cap9, hy9, ha9⟩ := hl.y9
 refine wp_seq (wp_region ?_)
 refine s_as (v := .int .i64 ((0 : Nat) : Int)) rfl rfl ?_
 refine s_end ?_
 refine wp_block (wp_loop_ghost (fun n a w => Lp L w ∧ Ac L p3 p4 p7 p8 ds a ∧ ∃ i : Nat, tmv a 16 = .int .i64 i ∧ i + n = L.n9) L.n9 ⟨hl, (by (repeat (first | refine Ac.put ?_ _ (by decide) rfl | rw [Act.put_none])); exact ha), 0, (by simp only [ev_t, ev_c, tmv_put, sz_put, ha.sz, Nat.reduceLT, Nat.reduceEqDiff, if_true, if_false, ha.t9, ha.t10, Int.toNat_natCast, Nat.mul_one, Nat.add_zero, Act.put_none]), by omega⟩ ?_)
 clear hl ha w a
 rintro n a w ⟨hl, ha, i, h16, hi⟩
 refine wp_seq (wp_seq (wp_region ?_))
 refine s_mv (v := .int .i64 i) rfl (by simp only [ev_t, ev_c, tmv_put, sz_put, ha.sz, Nat.reduceLT, Nat.reduceEqDiff, if_true, if_false, ha.t9, ha.t10, Int.toNat_natCast, Nat.mul_one, Nat.add_zero, Act.put_none, h16]) ?_
 refine s_mv (v := .slice a9 L.n9 cap9) rfl (by simp only [ev_t, ev_c, tmv_put, sz_put, ha.sz, Nat.reduceLT, Nat.reduceEqDiff, if_true, if_false, ha.t9, ha.t10, Int.toNat_natCast, Nat.mul_one, Nat.add_zero, Act.put_none, hy9]) ?_
 refine s_len1 (t := 46) (x := .tmp 57) (ad := a9) (len := L.n9) (cap := cap9) rfl el46 (by simp only [ev_t, ev_c, tmv_put, sz_put, ha.sz, Nat.reduceLT, Nat.reduceEqDiff, if_true, if_false, ha.t9, ha.t10, Int.toNat_natCast, Nat.mul_one, Nat.add_zero, Act.put_none]) ?_
 refine s_lss (m := (i : Int)) (n := (L.n9 : Int)) rfl (by simp only [ev_t, ev_c, tmv_put, sz_put, ha.sz, Nat.reduceLT, Nat.reduceEqDiff, if_true, if_false, ha.t9, ha.t10, Int.toNat_natCast, Nat.mul_one, Nat.add_zero, Act.put_none]) (by simp only [ev_t, ev_c, tmv_put, sz_put, ha.sz, Nat.reduceLT, Nat.reduceEqDiff, if_true, if_false, ha.t9, ha.t10, Int.toNat_natCast, Nat.mul_one, Nat.add_zero, Act.put_none]) (s_end ?_)
 refine wp_cond_split (t := decide ((i : Int) < (L.n9 : Int))) (by simp only [ev_t, ev_c, tmv_put, sz_put, ha.sz, Nat.reduceLT, Nat.reduceEqDiff, if_true, if_false, ha.t9, ha.t10, Int.toNat_natCast, Nat.mul_one, Nat.add_zero, Act.put_none]) (fun ht => ?_) (fun hf => ?_)
 ·
  have hin : i < L.n9 := by have := of_decide_eq_true ht; omega
  have h9 := ha9 (by omega)
  subst h9
  obtain ⟨g1, g2, g3, cc, TT, qq, g4, g5⟩ := hl.out (by omega)
  obtain ⟨y, g6, g7⟩ := g5 i hin
  have hr0 : RdB L w i y := ⟨cc, TT, qq, g4, g6, g7⟩
  clear g1 g2 g3 g4 g5 g6 cc TT qq
  obtain ⟨ad, len, cap, rfl, hlen, -⟩ := g7
  refine wp_skip ?_
  simp only [Exit.then]
  refine wp_seq (wp_block (wp_seq (wp_region ?_)))
  refine s_as (v := .int .i64 ((0 : Nat) : Int)) rfl rfl ?_
  refine s_end ?_
  refine wp_block (wp_loop_ghost (fun m a w => Lp L w ∧ Ac L p3 p4 p7 p8 ds a ∧ RdB L w i (.slice ad len cap) ∧ tmv a 16 = .int .i64 i ∧ ∃ k : Nat, tmv a 17 = .int .i64 k ∧ k + m = len) len ⟨hl, (by (repeat (first | refine Ac.put ?_ _ (by decide) rfl | rw [Act.put_none])); exact ha), hr0, (by simp only [ev_t, ev_c, tmv_put, sz_put, ha.sz, Nat.reduceLT, Nat.reduceEqDiff, if_true, if_false, ha.t9, ha.t10, Int.toNat_natCast, Nat.mul_one, Nat.add_zero, Act.put_none, h16]), 0, (by simp only [ev_t, ev_c, tmv_put, sz_put, ha.sz, Nat.reduceLT, Nat.reduceEqDiff, if_true, if_false, ha.t9, ha.t10, Int.toNat_natCast, Nat.mul_one, Nat.add_zero, Act.put_none]), by omega⟩ ?_)
  clear hl ha h16 a w hr0
  rintro m a w ⟨hl, ha, hr, h16, k, h17, hk⟩
  obtain ⟨c, T, q, r1, r2, r3⟩ := id hr
  refine wp_seq (wp_seq (wp_region ?_))
  refine s_mv (v := .int .i64 k) rfl (by simp only [ev_t, ev_c, tmv_put, sz_put, ha.sz, Nat.reduceLT, Nat.reduceEqDiff, if_true, if_false, ha.t9, ha.t10, Int.toNat_natCast, Nat.mul_one, Nat.add_zero, Act.put_none, h17]) ?_
  refine s_mv (v := .slice (some ⟨L.b9, L.o9, none⟩) L.n9 cap9) rfl (by simp only [ev_t, ev_c, tmv_put, sz_put, ha.sz, Nat.reduceLT, Nat.reduceEqDiff, if_true, if_false, ha.t9, ha.t10, Int.toNat_natCast, Nat.mul_one, Nat.add_zero, Act.put_none, hy9]) ?_
  refine s_mv (v := .int .i64 i) rfl (by simp only [ev_t, ev_c, tmv_put, sz_put, ha.sz, Nat.reduceLT, Nat.reduceEqDiff, if_true, if_false, ha.t9, ha.t10, Int.toNat_natCast, Nat.mul_one, Nat.add_zero, Act.put_none, h16]) ?_
  refine s_index (b := L.b9) (o := L.o9) (len := L.n9) (cap := cap9) (n := (i : Int)) rfl el46 sz44 (by simp only [ev_t, ev_c, tmv_put, sz_put, ha.sz, Nat.reduceLT, Nat.reduceEqDiff, if_true, if_false, ha.t9, ha.t10, Int.toNat_natCast, Nat.mul_one, Nat.add_zero, Act.put_none]) (by simp only [ev_t, ev_c, tmv_put, sz_put, ha.sz, Nat.reduceLT, Nat.reduceEqDiff, if_true, if_false, ha.t9, ha.t10, Int.toNat_natCast, Nat.mul_one, Nat.add_zero, Act.put_none]) (by omega) (by omega) ?_
  refine s_field (b := L.b9) (p := L.o9 + i * 41) rfl fl44_1 sz42 (by simp only [ev_t, ev_c, tmv_put, sz_put, ha.sz, Nat.reduceLT, Nat.reduceEqDiff, if_true, if_false, ha.t9, ha.t10, Int.toNat_natCast, Nat.mul_one, Nat.add_zero, Act.put_none]) ?_
  refine s_load (b := L.b9) (o := L.o9 + i * 41 + 40) rfl ag42 (by simp only [ev_t, ev_c, tmv_put, sz_put, ha.sz, Nat.reduceLT, Nat.reduceEqDiff, if_true, if_false, ha.t9, ha.t10, Int.toNat_natCast, Nat.mul_one, Nat.add_zero, Act.put_none]) r1 r2 ?_
  refine s_len1 (t := 42) (x := .tmp 67) (ad := ad) (len := len) (cap := cap) rfl el42 (by simp only [ev_t, ev_c, tmv_put, sz_put, ha.sz, Nat.reduceLT, Nat.reduceEqDiff, if_true, if_false, ha.t9, ha.t10, Int.toNat_natCast, Nat.mul_one, Nat.add_zero, Act.put_none]) ?_
  refine s_lss (m := (k : Int)) (n := (len : Int)) rfl (by simp only [ev_t, ev_c, tmv_put, sz_put, ha.sz, Nat.reduceLT, Nat.reduceEqDiff, if_true, if_false, ha.t9, ha.t10, Int.toNat_natCast, Nat.mul_one, Nat.add_zero, Act.put_none]) (by simp only [ev_t, ev_c, tmv_put, sz_put, ha.sz, Nat.reduceLT, Nat.reduceEqDiff, if_true, if_false, ha.t9, ha.t10, Int.toNat_natCast, Nat.mul_one, Nat.add_zero, Act.put_none]) (s_end ?_)
  refine wp_cond_split (t := decide ((k : Int) < (len : Int))) (by simp only [ev_t, ev_c, tmv_put, sz_put, ha.sz, Nat.reduceLT, Nat.reduceEqDiff, if_true, if_false, ha.t9, ha.t10, Int.toNat_natCast, Nat.mul_one, Nat.add_zero, Act.put_none]) (fun ht => ?_) (fun hf => ?_)
  ·
   have hkl : k < len := by have := of_decide_eq_true ht; omega
   obtain ⟨b, o, rfl, hb⟩ := r3.get hkl
   obtain ⟨t1, t2, t3, t4, cb, Tb, qb, t5, t6⟩ := id hb
   obtain ⟨z, hz⟩ := t6 k hkl
   have hfr := nofreeze hl t1 t5 hz
   refine wp_skip ?_
   simp only [Exit.then]
   refine wp_seq (wp_block (wp_region ?_))
   refine s_mv (v := .slice (some ⟨L.b9, L.o9, none⟩) L.n9 cap9) rfl (by simp only [ev_t, ev_c, tmv_put, sz_put, ha.sz, Nat.reduceLT, Nat.reduceEqDiff, if_true, if_false, ha.t9, ha.t10, Int.toNat_natCast, Nat.mul_one, Nat.add_zero, Act.put_none, hy9]) ?_
   refine s_mv (v := .int .i64 i) rfl (by simp only [ev_t, ev_c, tmv_put, sz_put, ha.sz, Nat.reduceLT, Nat.reduceEqDiff, if_true, if_false, ha.t9, ha.t10, Int.toNat_natCast, Nat.mul_one, Nat.add_zero, Act.put_none, h16]) ?_
   refine s_index (b := L.b9) (o := L.o9) (len := L.n9) (cap := cap9) (n := (i : Int)) rfl el46 sz44 (by simp only [ev_t, ev_c, tmv_put, sz_put, ha.sz, Nat.reduceLT, Nat.reduceEqDiff, if_true, if_false, ha.t9, ha.t10, Int.toNat_natCast, Nat.mul_one, Nat.add_zero, Act.put_none]) (by simp only [ev_t, ev_c, tmv_put, sz_put, ha.sz, Nat.reduceLT, Nat.reduceEqDiff, if_true, if_false, ha.t9, ha.t10, Int.toNat_natCast, Nat.mul_one, Nat.add_zero, Act.put_none]) (by omega) (by omega) ?_
   refine s_field (b := L.b9) (p := L.o9 + i * 41) rfl fl44_1 sz42 (by simp only [ev_t, ev_c, tmv_put, sz_put, ha.sz, Nat.reduceLT, Nat.reduceEqDiff, if_true, if_false, ha.t9, ha.t10, Int.toNat_natCast, Nat.mul_one, Nat.add_zero, Act.put_none]) ?_
   refine s_load (b := L.b9) (o := L.o9 + i * 41 + 40) rfl ag42 (by simp only [ev_t, ev_c, tmv_put, sz_put, ha.sz, Nat.reduceLT, Nat.reduceEqDiff, if_true, if_false, ha.t9, ha.t10, Int.toNat_natCast, Nat.mul_one, Nat.add_zero, Act.put_none]) r1 r2 ?_
   refine s_mv (v := .int .i64 k) rfl (by simp only [ev_t, ev_c, tmv_put, sz_put, ha.sz, Nat.reduceLT, Nat.reduceEqDiff, if_true, if_false, ha.t9, ha.t10, Int.toNat_natCast, Nat.mul_one, Nat.add_zero, Act.put_none, h17]) ?_
   refine s_index (b := b) (o := o) (len := len) (cap := cap) (n := (k : Int)) rfl el42 sz5 (by simp only [ev_t, ev_c, tmv_put, sz_put, ha.sz, Nat.reduceLT, Nat.reduceEqDiff, if_true, if_false, ha.t9, ha.t10, Int.toNat_natCast, Nat.mul_one, Nat.add_zero, Act.put_none]) (by simp only [ev_t, ev_c, tmv_put, sz_put, ha.sz, Nat.reduceLT, Nat.reduceEqDiff, if_true, if_false, ha.t9, ha.t10, Int.toNat_natCast, Nat.mul_one, Nat.add_zero, Act.put_none]) (by omega) (by omega) ?_
   refine s_load (b := b) (o := o + k) rfl ag5 (by simp only [ev_t, ev_c, tmv_put, sz_put, ha.sz, Nat.reduceLT, Nat.reduceEqDiff, if_true, if_false, ha.t9, ha.t10, Int.toNat_natCast, Nat.mul_one, Nat.add_zero, Act.put_none]) t5 hz ?_
   refine s_addU (m := z) (n := 1) rfl (by simp only [ev_t, ev_c, tmv_put, sz_put, ha.sz, Nat.reduceLT, Nat.reduceEqDiff, if_true, if_false, ha.t9, ha.t10, Int.toNat_natCast, Nat.mul_one, Nat.add_zero, Act.put_none]) (by simp only [ev_t, ev_c, tmv_put, sz_put, ha.sz, Nat.reduceLT, Nat.reduceEqDiff, if_true, if_false, ha.t9, ha.t10, Int.toNat_natCast, Nat.mul_one, Nat.add_zero, Act.put_none]) ?_
   refine s_index (b := b) (o := o) (len := len) (cap := cap) (n := (k : Int)) rfl el42 sz5 (by simp only [ev_t, ev_c, tmv_put, sz_put, ha.sz, Nat.reduceLT, Nat.reduceEqDiff, if_true, if_false, ha.t9, ha.t10, Int.toNat_natCast, Nat.mul_one, Nat.add_zero, Act.put_none]) (by simp only [ev_t, ev_c, tmv_put, sz_put, ha.sz, Nat.reduceLT, Nat.reduceEqDiff, if_true, if_false, ha.t9, ha.t10, Int.toNat_natCast, Nat.mul_one, Nat.add_zero, Act.put_none]) (by omega) (by omega) ?_
   refine s_store (b := b) (o := o + k) (v := .int .u8 (IntKind.wrap .u8 (z + 1))) rfl sz5 (by simp only [ev_t, ev_c, tmv_put, sz_put, ha.sz, Nat.reduceLT, Nat.reduceEqDiff, if_true, if_false, ha.t9, ha.t10, Int.toNat_natCast, Nat.mul_one, Nat.add_zero, Act.put_none]) (by simp only [ev_t, ev_c, tmv_put, sz_put, ha.sz, Nat.reduceLT, Nat.reduceEqDiff, if_true, if_false, ha.t9, ha.t10, Int.toNat_natCast, Nat.mul_one, Nat.add_zero, Act.put_none]) t5 hz hfr rfl (s_end ?_)
   simp only [Exit.inBlock, Exit.then]
   refine wp_region ?_
   refine s_mv (v := .int .i64 k) rfl (by simp only [ev_t, ev_c, tmv_put, sz_put, ha.sz, Nat.reduceLT, Nat.reduceEqDiff, if_true, if_false, ha.t9, ha.t10, Int.toNat_natCast, Nat.mul_one, Nat.add_zero, Act.put_none, h17]) ?_
   refine s_addI (m := (k : Int)) (n := 1) rfl (by simp only [ev_t, ev_c, tmv_put, sz_put, ha.sz, Nat.reduceLT, Nat.reduceEqDiff, if_true, if_false, ha.t9, ha.t10, Int.toNat_natCast, Nat.mul_one, Nat.add_zero, Act.put_none]) (by simp only [ev_t, ev_c, tmv_put, sz_put, ha.sz, Nat.reduceLT, Nat.reduceEqDiff, if_true, if_false, ha.t9, ha.t10, Int.toNat_natCast, Nat.mul_one, Nat.add_zero, Act.put_none]) ?_
   refine s_as (v := .int .i64 (k + 1 : Nat)) rfl (by simp only [ev_t, ev_c, tmv_put, sz_put, ha.sz, Nat.reduceLT, Nat.reduceEqDiff, if_true, if_false, ha.t9, ha.t10, Int.toNat_natCast, Nat.mul_one, Nat.add_zero, Act.put_none, wrap_s k (by omega)]) ?_
   refine s_end ?_
   simp only [Exit.then]
   exact ⟨m - 1, by omega, hl.byte hb, (by (repeat (first | refine Ac.put ?_ _ (by decide) rfl | rw [Act.put_none])); exact ha), hr.byte hb, (by simp only [ev_t, ev_c, tmv_put, sz_put, ha.sz, Nat.reduceLT, Nat.reduceEqDiff, if_true, if_false, ha.t9, ha.t10, Int.toNat_natCast, Nat.mul_one, Nat.add_zero, Act.put_none, h16]), k + 1, (by simp only [ev_t, ev_c, tmv_put, sz_put, ha.sz, Nat.reduceLT, Nat.reduceEqDiff, if_true, if_false, ha.t9, ha.t10, Int.toNat_natCast, Nat.mul_one, Nat.add_zero, Act.put_none]), by omega⟩
  ·
   refine wp_exit ?_
   simp only [Exit.then, Exit.inBlock, if_true]
   refine wp_region ?_
   refine s_mv (v := .int .i64 i) rfl (by simp only [ev_t, ev_c, tmv_put, sz_put, ha.sz, Nat.reduceLT, Nat.reduceEqDiff, if_true, if_false, ha.t9, ha.t10, Int.toNat_natCast, Nat.mul_one, Nat.add_zero, Act.put_none, h16]) ?_
   refine s_addI (m := (i : Int)) (n := 1) rfl (by simp only [ev_t, ev_c, tmv_put, sz_put, ha.sz, Nat.reduceLT, Nat.reduceEqDiff, if_true, if_false, ha.t9, ha.t10, Int.toNat_natCast, Nat.mul_one, Nat.add_zero, Act.put_none]) (by simp only [ev_t, ev_c, tmv_put, sz_put, ha.sz, Nat.reduceLT, Nat.reduceEqDiff, if_true, if_false, ha.t9, ha.t10, Int.toNat_natCast, Nat.mul_one, Nat.add_zero, Act.put_none]) ?_
   refine s_as (v := .int .i64 (i + 1 : Nat)) rfl (by simp only [ev_t, ev_c, tmv_put, sz_put, ha.sz, Nat.reduceLT, Nat.reduceEqDiff, if_true, if_false, ha.t9, ha.t10, Int.toNat_natCast, Nat.mul_one, Nat.add_zero, Act.put_none, wrap_s i (by omega)]) ?_
   refine s_end ?_
   simp only [Exit.then]
   exact ⟨n - 1, by omega, hl, (by (repeat (first | refine Ac.put ?_ _ (by decide) rfl | rw [Act.put_none])); exact ha), i + 1, (by simp only [ev_t, ev_c, tmv_put, sz_put, ha.sz, Nat.reduceLT, Nat.reduceEqDiff, if_true, if_false, ha.t9, ha.t10, Int.toNat_natCast, Nat.mul_one, Nat.add_zero, Act.put_none]), by omega⟩
 ·
  refine wp_exit ?_
  simp only [Exit.then, Exit.inBlock, if_true]
  exact hQ _ _ hl (by (repeat (first | refine Ac.put ?_ _ (by decide) rfl | rw [Act.put_none])); exact ha)
theorem loop2 {Q : Exit → Act → World → Prop} (hn : L.nH < 4611686018427387904) (hQ : ∀ a w, Lp L w → Ac L p3 p4 p7 p8 ds a → Q .normal a w) {a : Act} {w : World} (hl : Lp L w) (ha : Ac L p3 p4 p7 p8 ds a) : (c1 (c2 z7)).wp K.P Q a w := by
 obtain ⟨aH, capH, hyH, haH⟩ := hl.yH
 refine wp_seq (wp_region ?_)
 refine s_as (v := .int .i64 ((0 : Nat) : Int)) rfl rfl ?_
 refine s_end ?_
 refine wp_block (wp_loop_ghost (fun n a w => Lp L w ∧ Ac L p3 p4 p7 p8 ds a ∧ ∃ i : Nat, tmv a 18 = .int .i64 i ∧ i + n = L.nH) L.nH ⟨hl, (by (repeat (first | refine Ac.put ?_ _ (by decide) rfl | rw [Act.put_none])); exact ha), 0, (by simp only [ev_t, ev_c, tmv_put, sz_put, ha.sz, Nat.reduceLT, Nat.reduceEqDiff, if_true, if_false, ha.t9, ha.t10, Int.toNat_natCast, Nat.mul_one, Nat.add_zero, Act.put_none]), by omega⟩ ?_)
 clear hl ha w a
 rintro n a w ⟨hl, ha, i, h18, hi⟩
 obtain ⟨-, bc, bT, bq, b1, b2⟩ := hl.box
 rw [hyH] at b2
 refine wp_seq (wp_seq (wp_region ?_))
 refine s_mv (v := .int .i64 i) rfl (by simp only [ev_t, ev_c, tmv_put, sz_put, ha.sz, Nat.reduceLT, Nat.reduceEqDiff, if_true, if_false, ha.t9, ha.t10, Int.toNat_natCast, Nat.mul_one, Nat.add_zero, Act.put_none, h18]) ?_
 refine s_field (b := L.bx) (p := L.ox) rfl fl27_3 sz22 (by simp only [ev_t, ev_c, tmv_put, sz_put, ha.sz, Nat.reduceLT, Nat.reduceEqDiff, if_true, if_false, ha.t9, ha.t10, Int.toNat_natCast, Nat.mul_one, Nat.add_zero, Act.put_none]) ?_
 refine s_load (b := L.bx) (o := L.ox + 3) rfl ag22 (by simp only [ev_t, ev_c, tmv_put, sz_put, ha.sz, Nat.reduceLT, Nat.reduceEqDiff, if_true, if_false, ha.t9, ha.t10, Int.toNat_natCast, Nat.mul_one, Nat.add_zero, Act.put_none]) b1 b2 ?_
 refine s_len1 (t := 22) (x := .tmp 84) (ad := aH) (len := L.nH) (cap := capH) rfl el22 (by simp only [ev_t, ev_c, tmv_put, sz_put, ha.sz, Nat.reduceLT, Nat.reduceEqDiff, if_true, if_false, ha.t9, ha.t10, Int.toNat_natCast, Nat.mul_one, Nat.add_zero, Act.put_none]) ?_
 refine s_lss (m := (i : Int)) (n := (L.nH : Int)) rfl (by simp only [ev_t, ev_c, tmv_put, sz_put, ha.sz, Nat.reduceLT, Nat.reduceEqDiff, if_true, if_false, ha.t9, ha.t10, Int.toNat_natCast, Nat.mul_one, Nat.add_zero, Act.put_none]) (by simp only [ev_t, ev_c, tmv_put, sz_put, ha.sz, Nat.reduceLT, Nat.reduceEqDiff, if_true, if_false, ha.t9, ha.t10, Int.toNat_natCast, Nat.mul_one, Nat.add_zero, Act.put_none]) (s_end ?_)
 refine wp_cond_split (t := decide ((i : Int) < (L.nH : Int))) (by simp only [ev_t, ev_c, tmv_put, sz_put, ha.sz, Nat.reduceLT, Nat.reduceEqDiff, if_true, if_false, ha.t9, ha.t10, Int.toNat_natCast, Nat.mul_one, Nat.add_zero, Act.put_none]) (fun ht => ?_) (fun hf => ?_)
 ·
  have hin : i < L.nH := by have := of_decide_eq_true ht; omega
  have h9 := haH (by omega)
  subst h9
  obtain ⟨g1, g3, cc, TT, qq, g4, g5⟩ := hl.hel (by omega)
  obtain ⟨⟨zA, g8⟩, y, g6, g7⟩ := g5 i hin
  have hfA := nofreeze hl g1 g4 g8
  have hr0 : RdH L w i y := ⟨cc, TT, qq, g4, g6, g7⟩
  obtain ⟨ad, len, cap, rfl, hlen, -⟩ := g7
  refine wp_skip ?_
  simp only [Exit.then]
  refine wp_seq (wp_block (wp_seq (wp_region ?_)))
  refine s_field (b := L.bx) (p := L.ox) rfl fl27_3 sz22 (by simp only [ev_t, ev_c, tmv_put, sz_put, ha.sz, Nat.reduceLT, Nat.reduceEqDiff, if_true, if_false, ha.t9, ha.t10, Int.toNat_natCast, Nat.mul_one, Nat.add_zero, Act.put_none]) ?_
  refine s_load (b := L.bx) (o := L.ox + 3) rfl ag22 (by simp only [ev_t, ev_c, tmv_put, sz_put, ha.sz, Nat.reduceLT, Nat.reduceEqDiff, if_true, if_false, ha.t9, ha.t10, Int.toNat_natCast, Nat.mul_one, Nat.add_zero, Act.put_none]) b1 b2 ?_
  refine s_mv (v := .int .i64 i) rfl (by simp only [ev_t, ev_c, tmv_put, sz_put, ha.sz, Nat.reduceLT, Nat.reduceEqDiff, if_true, if_false, ha.t9, ha.t10, Int.toNat_natCast, Nat.mul_one, Nat.add_zero, Act.put_none, h18]) ?_
  refine s_index (b := L.bH) (o := L.oH) (len := L.nH) (cap := capH) (n := (i : Int)) rfl el22 sz58 (by simp only [ev_t, ev_c, tmv_put, sz_put, ha.sz, Nat.reduceLT, Nat.reduceEqDiff, if_true, if_false, ha.t9, ha.t10, Int.toNat_natCast, Nat.mul_one, Nat.add_zero, Act.put_none]) (by simp only [ev_t, ev_c, tmv_put, sz_put, ha.sz, Nat.reduceLT, Nat.reduceEqDiff, if_true, if_false, ha.t9, ha.t10, Int.toNat_natCast, Nat.mul_one, Nat.add_zero, Act.put_none]) (by omega) (by omega) ?_
  refine s_field (b := L.bH) (p := L.oH + i * 42) rfl fl58_0 sz3 (by simp only [ev_t, ev_c, tmv_put, sz_put, ha.sz, Nat.reduceLT, Nat.reduceEqDiff, if_true, if_false, ha.t9, ha.t10, Int.toNat_natCast, Nat.mul_one, Nat.add_zero, Act.put_none]) ?_
  refine s_store (b := L.bH) (o := L.oH + i * 42) (v := .int .i64 (-5)) rfl sz3 (by simp only [ev_t, ev_c, tmv_put, sz_put, ha.sz, Nat.reduceLT, Nat.reduceEqDiff, if_true, if_false, ha.t9, ha.t10, Int.toNat_natCast, Nat.mul_one, Nat.add_zero, Act.put_none]) (by simp only [ev_t, ev_c, tmv_put, sz_put, ha.sz, Nat.reduceLT, Nat.reduceEqDiff, if_true, if_false, ha.t9, ha.t10, Int.toNat_natCast, Nat.mul_one, Nat.add_zero, Act.put_none]) g4 g8 hfA rfl (s_end ?_)
  refine wp_seq (wp_region ?_)
  refine s_as (v := .int .i64 ((0 : Nat) : Int)) rfl rfl ?_
  refine s_end ?_
  refine wp_block (wp_loop_ghost (fun m a w => Lp L w ∧ Ac L p3 p4 p7 p8 ds a ∧ RdH L w i (.slice ad len cap) ∧ tmv a 18 = .int .i64 i ∧ ∃ k : Nat, tmv a 19 = .int .i64 k ∧ k + m = len) len ⟨hl.at hin, (by (repeat (first | refine Ac.put ?_ _ (by decide) rfl | rw [Act.put_none])); exact ha), hr0.at, (by simp only [ev_t, ev_c, tmv_put, sz_put, ha.sz, Nat.reduceLT, Nat.reduceEqDiff, if_true, if_false, ha.t9, ha.t10, Int.toNat_natCast, Nat.mul_one, Nat.add_zero, Act.put_none, h18]), 0, (by simp only [ev_t, ev_c, tmv_put, sz_put, ha.sz, Nat.reduceLT, Nat.reduceEqDiff, if_true, if_false, ha.t9, ha.t10, Int.toNat_natCast, Nat.mul_one, Nat.add_zero, Act.put_none]), by omega⟩ ?_)
  clear g1 g3 g4 g5 g6 g8 cc TT qq hfA hl ha h18 hr0 b1 b2 bc bT bq a w zA
  rintro m a w ⟨hl, ha, hr, h18, k, h19, hk⟩
  obtain ⟨c, T, q, r1, r2, r3⟩ := id hr
  obtain ⟨-, bc, bT, bq, b1, b2⟩ := hl.box
  rw [hyH] at b2
  refine wp_seq (wp_seq (wp_region ?_))
  refine s_mv (v := .int .i64 k) rfl (by simp only [ev_t, ev_c, tmv_put, sz_put, ha.sz, Nat.reduceLT, Nat.reduceEqDiff, if_true, if_false, ha.t9, ha.t10, Int.toNat_natCast, Nat.mul_one, Nat.add_zero, Act.put_none, h19]) ?_
  refine s_field (b := L.bx) (p := L.ox) rfl fl27_3 sz22 (by simp only [ev_t, ev_c, tmv_put, sz_put, ha.sz, Nat.reduceLT, Nat.reduceEqDiff, if_true, if_false, ha.t9, ha.t10, Int.toNat_natCast, Nat.mul_one, Nat.add_zero, Act.put_none]) ?_
  refine s_load (b := L.bx) (o := L.ox + 3) rfl ag22 (by simp only [ev_t, ev_c, tmv_put, sz_put, ha.sz, Nat.reduceLT, Nat.reduceEqDiff, if_true, if_false, ha.t9, ha.t10, Int.toNat_natCast, Nat.mul_one, Nat.add_zero, Act.put_none]) b1 b2 ?_
  refine s_mv (v := .int .i64 i) rfl (by simp only [ev_t, ev_c, tmv_put, sz_put, ha.sz, Nat.reduceLT, Nat.reduceEqDiff, if_true, if_false, ha.t9, ha.t10, Int.toNat_natCast, Nat.mul_one, Nat.add_zero, Act.put_none, h18]) ?_
  refine s_index (b := L.bH) (o := L.oH) (len := L.nH) (cap := capH) (n := (i : Int)) rfl el22 sz58 (by simp only [ev_t, ev_c, tmv_put, sz_put, ha.sz, Nat.reduceLT, Nat.reduceEqDiff, if_true, if_false, ha.t9, ha.t10, Int.toNat_natCast, Nat.mul_one, Nat.add_zero, Act.put_none]) (by simp only [ev_t, ev_c, tmv_put, sz_put, ha.sz, Nat.reduceLT, Nat.reduceEqDiff, if_true, if_false, ha.t9, ha.t10, Int.toNat_natCast, Nat.mul_one, Nat.add_zero, Act.put_none]) (by omega) (by omega) ?_
  refine s_field (b := L.bH) (p := L.oH + i * 42) rfl fl58_1 sz44 (by simp only [ev_t, ev_c, tmv_put, sz_put, ha.sz, Nat.reduceLT, Nat.reduceEqDiff, if_true, if_false, ha.t9, ha.t10, Int.toNat_natCast, Nat.mul_one, Nat.add_zero, Act.put_none]) ?_
  refine s_field (b := L.bH) (p := L.oH + i * 42 + 1) rfl fl44_1 sz42 (by simp only [ev_t, ev_c, tmv_put, sz_put, ha.sz, Nat.reduceLT, Nat.reduceEqDiff, if_true, if_false, ha.t9, ha.t10, Int.toNat_natCast, Nat.mul_one, Nat.add_zero, Act.put_none]) ?_
  refine s_load (b := L.bH) (o := L.oH + i * 42 + 1 + 40) rfl ag42 (by simp only [ev_t, ev_c, tmv_put, sz_put, ha.sz, Nat.reduceLT, Nat.reduceEqDiff, if_true, if_false, ha.t9, ha.t10, Int.toNat_natCast, Nat.mul_one, Nat.add_zero, Act.put_none]) r1 r2 ?_
  refine s_len1 (t := 42) (x := .tmp 101) (ad := ad) (len := len) (cap := cap) rfl el42 (by simp only [ev_t, ev_c, tmv_put, sz_put, ha.sz, Nat.reduceLT, Nat.reduceEqDiff, if_true, if_false, ha.t9, ha.t10, Int.toNat_natCast, Nat.mul_one, Nat.add_zero, Act.put_none]) ?_
  refine s_lss (m := (k : Int)) (n := (len : Int)) rfl (by simp only [ev_t, ev_c, tmv_put, sz_put, ha.sz, Nat.reduceLT, Nat.reduceEqDiff, if_true, if_false, ha.t9, ha.t10, Int.toNat_natCast, Nat.mul_one, Nat.add_zero, Act.put_none]) (by simp only [ev_t, ev_c, tmv_put, sz_put, ha.sz, Nat.reduceLT, Nat.reduceEqDiff, if_true, if_false, ha.t9, ha.t10, Int.toNat_natCast, Nat.mul_one, Nat.add_zero, Act.put_none]) (s_end ?_)
  refine wp_cond_split (t := decide ((k : Int) < (len : Int))) (by simp only [ev_t, ev_c, tmv_put, sz_put, ha.sz, Nat.reduceLT, Nat.reduceEqDiff, if_true, if_false, ha.t9, ha.t10, Int.toNat_natCast, Nat.mul_one, Nat.add_zero, Act.put_none]) (fun ht => ?_) (fun hf => ?_)
  ·
   have hkl : k < len := by have := of_decide_eq_true ht; omega
   obtain ⟨b, o, rfl, hb⟩ := r3.get hkl
   obtain ⟨t1, t2, t3, t4, cb, Tb, qb, t5, t6⟩ := id hb
   obtain ⟨z, hz⟩ := t6 k hkl
   have hfr := nofreeze hl t1 t5 hz
   refine wp_skip ?_
   simp only [Exit.then]
   refine wp_seq (wp_block (wp_region ?_))
   refine s_field (b := L.bx) (p := L.ox) rfl fl27_3 sz22 (by simp only [ev_t, ev_c, tmv_put, sz_put, ha.sz, Nat.reduceLT, Nat.reduceEqDiff, if_true, if_false, ha.t9, ha.t10, Int.toNat_natCast, Nat.mul_one, Nat.add_zero, Act.put_none]) ?_
   refine s_load (b := L.bx) (o := L.ox + 3) rfl ag22 (by simp only [ev_t, ev_c, tmv_put, sz_put, ha.sz, Nat.reduceLT, Nat.reduceEqDiff, if_true, if_false, ha.t9, ha.t10, Int.toNat_natCast, Nat.mul_one, Nat.add_zero, Act.put_none]) b1 b2 ?_
   refine s_mv (v := .int .i64 i) rfl (by simp only [ev_t, ev_c, tmv_put, sz_put, ha.sz, Nat.reduceLT, Nat.reduceEqDiff, if_true, if_false, ha.t9, ha.t10, Int.toNat_natCast, Nat.mul_one, Nat.add_zero, Act.put_none, h18]) ?_
   refine s_index (b := L.bH) (o := L.oH) (len := L.nH) (cap := capH) (n := (i : Int)) rfl el22 sz58 (by simp only [ev_t, ev_c, tmv_put, sz_put, ha.sz, Nat.reduceLT, Nat.reduceEqDiff, if_true, if_false, ha.t9, ha.t10, Int.toNat_natCast, Nat.mul_one, Nat.add_zero, Act.put_none]) (by simp only [ev_t, ev_c, tmv_put, sz_put, ha.sz, Nat.reduceLT, Nat.reduceEqDiff, if_true, if_false, ha.t9, ha.t10, Int.toNat_natCast, Nat.mul_one, Nat.add_zero, Act.put_none]) (by omega) (by omega) ?_
   refine s_field (b := L.bH) (p := L.oH + i * 42) rfl fl58_1 sz44 (by simp only [ev_t, ev_c, tmv_put, sz_put, ha.sz, Nat.reduceLT, Nat.reduceEqDiff, if_true, if_false, ha.t9, ha.t10, Int.toNat_natCast, Nat.mul_one, Nat.add_zero, Act.put_none]) ?_
   refine s_field (b := L.bH) (p := L.oH + i * 42 + 1) rfl fl44_1 sz42 (by simp only [ev_t, ev_c, tmv_put, sz_put, ha.sz, Nat.reduceLT, Nat.reduceEqDiff, if_true, if_false, ha.t9, ha.t10, Int.toNat_natCast, Nat.mul_one, Nat.add_zero, Act.put_none]) ?_
   refine s_load (b := L.bH) (o := L.oH + i * 42 + 1 + 40) rfl ag42 (by simp only [ev_t, ev_c, tmv_put, sz_put, ha.sz, Nat.reduceLT, Nat.reduceEqDiff, if_true, if_false, ha.t9, ha.t10, Int.toNat_natCast, Nat.mul_one, Nat.add_zero, Act.put_none]) r1 r2 ?_
   refine s_mv (v := .int .i64 k) rfl (by simp only [ev_t, ev_c, tmv_put, sz_put, ha.sz, Nat.reduceLT, Nat.reduceEqDiff, if_true, if_false, ha.t9, ha.t10, Int.toNat_natCast, Nat.mul_one, Nat.add_zero, Act.put_none, h19]) ?_
   refine s_index (b := b) (o := o) (len := len) (cap := cap) (n := (k : Int)) rfl el42 sz5 (by simp only [ev_t, ev_c, tmv_put, sz_put, ha.sz, Nat.reduceLT, Nat.reduceEqDiff, if_true, if_false, ha.t9, ha.t10, Int.toNat_natCast, Nat.mul_one, Nat.add_zero, Act.put_none]) (by simp only [ev_t, ev_c, tmv_put, sz_put, ha.sz, Nat.reduceLT, Nat.reduceEqDiff, if_true, if_false, ha.t9, ha.t10, Int.toNat_natCast, Nat.mul_one, Nat.add_zero, Act.put_none]) (by omega) (by omega) ?_
   refine s_load (b := b) (o := o + k) rfl ag5 (by simp only [ev_t, ev_c, tmv_put, sz_put, ha.sz, Nat.reduceLT, Nat.reduceEqDiff, if_true, if_false, ha.t9, ha.t10, Int.toNat_natCast, Nat.mul_one, Nat.add_zero, Act.put_none]) t5 hz ?_
   refine s_addU (m := z) (n := 1) rfl (by simp only [ev_t, ev_c, tmv_put, sz_put, ha.sz, Nat.reduceLT, Nat.reduceEqDiff, if_true, if_false, ha.t9, ha.t10, Int.toNat_natCast, Nat.mul_one, Nat.add_zero, Act.put_none]) (by simp only [ev_t, ev_c, tmv_put, sz_put, ha.sz, Nat.reduceLT, Nat.reduceEqDiff, if_true, if_false, ha.t9, ha.t10, Int.toNat_natCast, Nat.mul_one, Nat.add_zero, Act.put_none]) ?_
   refine s_index (b := b) (o := o) (len := len) (cap := cap) (n := (k : Int)) rfl el42 sz5 (by simp only [ev_t, ev_c, tmv_put, sz_put, ha.sz, Nat.reduceLT, Nat.reduceEqDiff, if_true, if_false, ha.t9, ha.t10, Int.toNat_natCast, Nat.mul_one, Nat.add_zero, Act.put_none]) (by simp only [ev_t, ev_c, tmv_put, sz_put, ha.sz, Nat.reduceLT, Nat.reduceEqDiff, if_true, if_false, ha.t9, ha.t10, Int.toNat_natCast, Nat.mul_one, Nat.add_zero, Act.put_none]) (by omega) (by omega) ?_
   refine s_store (b := b) (o := o + k) (v := .int .u8 (IntKind.wrap .u8 (z + 1))) rfl sz5 (by simp only [ev_t, ev_c, tmv_put, sz_put, ha.sz, Nat.reduceLT, Nat.reduceEqDiff, if_true, if_false, ha.t9, ha.t10, Int.toNat_natCast, Nat.mul_one, Nat.add_zero, Act.put_none]) (by simp only [ev_t, ev_c, tmv_put, sz_put, ha.sz, Nat.reduceLT, Nat.reduceEqDiff, if_true, if_false, ha.t9, ha.t10, Int.toNat_natCast, Nat.mul_one, Nat.add_zero, Act.put_none]) t5 hz hfr rfl (s_end ?_)
   simp only [Exit.inBlock, Exit.then]
   refine wp_region ?_
   refine s_mv (v := .int .i64 k) rfl (by simp only [ev_t, ev_c, tmv_put, sz_put, ha.sz, Nat.reduceLT, Nat.reduceEqDiff, if_true, if_false, ha.t9, ha.t10, Int.toNat_natCast, Nat.mul_one, Nat.add_zero, Act.put_none, h19]) ?_
   refine s_addI (m := (k : Int)) (n := 1) rfl (by simp only [ev_t, ev_c, tmv_put, sz_put, ha.sz, Nat.reduceLT, Nat.reduceEqDiff, if_true, if_false, ha.t9, ha.t10, Int.toNat_natCast, Nat.mul_one, Nat.add_zero, Act.put_none]) (by simp only [ev_t, ev_c, tmv_put, sz_put, ha.sz, Nat.reduceLT, Nat.reduceEqDiff, if_true, if_false, ha.t9, ha.t10, Int.toNat_natCast, Nat.mul_one, Nat.add_zero, Act.put_none]) ?_
   refine s_as (v := .int .i64 (k + 1 : Nat)) rfl (by simp only [ev_t, ev_c, tmv_put, sz_put, ha.sz, Nat.reduceLT, Nat.reduceEqDiff, if_true, if_false, ha.t9, ha.t10, Int.toNat_natCast, Nat.mul_one, Nat.add_zero, Act.put_none, wrap_s k (by omega)]) ?_
   refine s_end ?_
   simp only [Exit.then]
   exact ⟨m - 1, by omega, hl.byte hb, (by (repeat (first | refine Ac.put ?_ _ (by decide) rfl | rw [Act.put_none])); exact ha), hr.byte hb, (by simp only [ev_t, ev_c, tmv_put, sz_put, ha.sz, Nat.reduceLT, Nat.reduceEqDiff, if_true, if_false, ha.t9, ha.t10, Int.toNat_natCast, Nat.mul_one, Nat.add_zero, Act.put_none, h18]), k + 1, (by simp only [ev_t, ev_c, tmv_put, sz_put, ha.sz, Nat.reduceLT, Nat.reduceEqDiff, if_true, if_false, ha.t9, ha.t10, Int.toNat_natCast, Nat.mul_one, Nat.add_zero, Act.put_none]), by omega⟩
  ·
   refine wp_exit ?_
   simp only [Exit.then, Exit.inBlock, if_true]
   refine wp_region ?_
   refine s_mv (v := .int .i64 i) rfl (by simp only [ev_t, ev_c, tmv_put, sz_put, ha.sz, Nat.reduceLT, Nat.reduceEqDiff, if_true, if_false, ha.t9, ha.t10, Int.toNat_natCast, Nat.mul_one, Nat.add_zero, Act.put_none, h18]) ?_
   refine s_addI (m := (i : Int)) (n := 1) rfl (by simp only [ev_t, ev_c, tmv_put, sz_put, ha.sz, Nat.reduceLT, Nat.reduceEqDiff, if_true, if_false, ha.t9, ha.t10, Int.toNat_natCast, Nat.mul_one, Nat.add_zero, Act.put_none]) (by simp only [ev_t, ev_c, tmv_put, sz_put, ha.sz, Nat.reduceLT, Nat.reduceEqDiff, if_true, if_false, ha.t9, ha.t10, Int.toNat_natCast, Nat.mul_one, Nat.add_zero, Act.put_none]) ?_
   refine s_as (v := .int .i64 (i + 1 : Nat)) rfl (by simp only [ev_t, ev_c, tmv_put, sz_put, ha.sz, Nat.reduceLT, Nat.reduceEqDiff, if_true, if_false, ha.t9, ha.t10, Int.toNat_natCast, Nat.mul_one, Nat.add_zero, Act.put_none, wrap_s i (by omega)]) ?_
   refine s_end ?_
   simp only [Exit.then]
   exact ⟨n - 1, by omega, hl, (by (repeat (first | refine Ac.put ?_ _ (by decide) rfl | rw [Act.put_none])); exact ha), i + 1, (by simp only [ev_t, ev_c, tmv_put, sz_put, ha.sz, Nat.reduceLT, Nat.reduceEqDiff, if_true, if_false, ha.t9, ha.t10, Int.toNat_natCast, Nat.mul_one, Nat.add_zero, Act.put_none]), by omega⟩
 ·
  refine wp_exit ?_
  simp only [Exit.then, Exit.inBlock, if_true]
  exact hQ _ _ hl (by (repeat (first | refine Ac.put ?_ _ (by decide) rfl | rw [Act.put_none])); exact ha)
end
end Go.AX.Z.TR

/-! (TFH) -/

set_option linter.unusedSimpArgs false
set_option linter.unusedVariables false
set_option maxHeartbeats 4000000
set_option maxRecDepth 20000
namespace Go.AX.Z.TR
open Go.AX Go.Proofs
attribute [local irreducible] awp xw xop xcall gsp ob xd xdop xcallD seqQ loopQ blkQ endQ

def putsD (a0 : Reorder) (a1 : Frame) (x2 : Reorder) (x3 : Frame) : AS :=
 { objs := (upd (upd (upd (upd (upd (fun _ => .dead) 0 (.froz (e_Reorder a0 (.imm (List.flatMap E_HeldSeq a0.Held) a0.Held.length)))) 1 (.froz (e_Frame a1 (.imm (List.map vu a1.Body) a1.Body.length)))) 2 (.froz (e_Reorder x2 (.ref 3 0 x2.Held.length 42)))) 3 (.froz (List.flatMap E_HeldSeq x2.Held))) 4 (.froz (e_Frame x3 (.imm (List.map vu x3.Body) x3.Body.length)))), next := 5, tmps := (upd (upd (upd (upd (upd (fun _ => .unk) 3 (.ptr 0 0)) 4 (.ptr 1 0)) 7 (.ptr 2 0)) 8 (.ptr 4 0)) 15 (vb true)) }

theorem partD (a0 : Reorder) (a1 : Frame) {x2 : Reorder} {x3 : Frame} (bx8 : hotspotref18_Same a0 x2 = some true) (bx9 : hotspotref05_Same a1 x3 = some true) :
  awp 0 K zD (endW 0 K Try.f5 (fun r' s' => fz s'.objs deep r' = vb true)) (putsD a0 a1 x2 x3) := by
 unfold putsD
 refine awp_nr [3,4,7,8,15] (fun _ => rfl) fun tz => ?_
 refine awp_regW fun KK hKK => ?_
 refine xw_id ?_
 try simp only [go_sem, Nat.reduceAdd]
 refine xcall_L (by first | (simp only [go_sem, fz, Nat.reduceAdd] <;> rfl) | (simp only [go_sem, fz, List.length_set, ble_self, take_set, cond_true, cond_false, Nat.reduceAdd] <;> rfl)) (hotspotref18_Same_p a0 x2 bx8) (Bare.v _) ?_; try dsimp only
 try refine xw_id ?_
 try simp only [go_sem, Nat.reduceAdd]
 refine xcall_p (hotspotref05_Same_p a1 x3 bx9) ?_; try dsimp only
 try refine xw_id ?_
 try simp only [go_sem, Nat.reduceAdd]
 refine hKK _ _ (Wk.refl _ _ _) ?_; clear hKK KK
 refine awp_ret1 ?_
 refine endW_i ?_
 refine end_ret0 rs5 (rfl) ?_
 try simp only [go_sem, Nat.reduceAdd, fz, nilS, packR, List.take_nil, List.take_length, List.length_map, List.length_append, cond_true, cond_false, Nat.ble_eq, ble_self]
 all_goals first | rfl | (simp only [go_sem, Nat.reduceAdd, fz, nilS, packR, List.take_nil, List.take_length, List.length_map, List.length_append, cond_true, cond_false, Nat.ble_eq, ble_self, List.map_append] <;> rfl)

end Go.AX.Z.TR

/-! (TFG) -/

set_option linter.unusedSimpArgs false
set_option linter.unusedVariables false
set_option linter.unusedSectionVars false
set_option maxHeartbeats 1000000
set_option maxRecDepth 20000
namespace Go.AX.Z.TR.F
open Go.AX Go.Proofs

theorem ref_blk {ρ : Rho} {V : View} {i n sz : Nat} {y : Value} (N : Nat) (h : Rel ρ V (.ref i 0 n sz) y) :
  ∃ b o a cap, y = .slice a n cap ∧ (n ≠ 0 → a = some (Go.Addr.mk b o none)) ∧ ((n = 0 ∧ b = N) ∨ ∃ loc, ρ i = some loc ∧ b = loc.b ∧ o = loc.base) := by
 cases h with
 | ref _ _ _ _ cap loc h hc hl => exact ⟨loc.b, loc.base, _, cap, rfl, fun _ => rfl, .inr ⟨loc, h, rfl, rfl⟩⟩
 | refE _ _ _ a => exact ⟨N, 0, a, 0, rfl, fun h => (h rfl).elim, .inl ⟨rfl, rfl⟩⟩

section
variable [FN]

theorem tok_of {ρ : Rho} {V : View} {s : HS} {w : World} {L : Lcs} (hI : Inv ρ V s w) (hvn : ∀ b c, V b = some c → FN.n ≤ b → L.w1.heap.size ≤ b) (h9 : ∀ b c, V b = some c → b ≠ L.b9) (hx : ∀ b c, V b = some c → b ≠ L.bx) (hH : ∀ b c, V b = some c → b ≠ L.bH)
  {l : List Int} (hl : l.length < 4611686018427387904) {y : Value} (h : Rel ρ V (T_vu l) y) : Tok L w y := by
 unfold T_vu at h
 generalize hm : l.map vu = m at h
 generalize hn : l.length = n at h hl
 cases h with
 | fim0 _ a cap => exact ⟨a, 0, cap, rfl, hl, .inl rfl⟩
 | fim _ _ _ b o cap c hV hb H S hlc hN =>
  obtain ⟨T, q, g1⟩ := hI.view b c hV
  refine ⟨_, _, cap, rfl, hl, .inr ⟨b, o, rfl, hvn b c hV hN, h9 b c hV, hx b c hV, hH b c hV, c, T, q, g1, fun k hk => ?_⟩⟩
  have hml : m.length = n := by rw [← hm, ← hn, List.length_map]
  have e1 : m[k]? = some (vu (l[k]'(by omega))) := by subst hm; simp
  have hlt : o + k < c.size := by omega
  have e2 : c[o + k]? = some c[o + k] := Array.getElem?_eq_getElem hlt
  exact ⟨_, by rw [e2, Rel.v_inv (H k _ _ e1 e2)]⟩

theorem lp_of {x4 : (List Frame) × Reorder × Int} {u : AS} (hm : MidE x4 u) {ρ : Rho} {V : View} {a : Act} {w1 w2 : World} (hrel : ∀ t, Rel ρ V (u.tmps t) (a.tmps.getD t undef)) (hI : Inv ρ V u.toHS w2)
  (hvn : ∀ b c, V b = some c → FN.n ≤ b → w1.heap.size ≤ b) (hown : ∀ id cells loc, u.objs id = .live cells → ρ id = some loc → w1.heap.size ≤ loc.b) (hmem : Mem w1 w2) (hold : ∀ b, b < w1.heap.size → w2.heap[b]? = w1.heap[b]?)
  (hb1 : ∀ f ∈ x4.1, f.Body.length < 4611686018427387904) (hb2 : ∀ h ∈ x4.2.1.Held, h.Frame.Body.length < 4611686018427387904) :
  ∃ L : Lcs, L.w1 = w1 ∧ L.w2 = w2 ∧ L.n9 = x4.1.length ∧ L.nH = x4.2.1.Held.length ∧ Lp L w2 ∧ tmv a 9 = L.y9 ∧ tmv a 10 = .pointer (some ⟨L.bx, L.ox, none⟩) := by
 obtain ⟨i, e9, oi⟩ := hm.out
 obtain ⟨j, k, e10, oj, ok⟩ := hm.nxt
 obtain ⟨hij, hik, hjk⟩ := hm.apart i j k e9 e10 oj
 have r9 := hrel 9
 have r10 := hrel 10
 rw [e9] at r9
 rw [e10] at r10
 have ex : ∃ lx, ρ j = some lx ∧ a.tmps.getD 10 undef = .pointer (some ⟨lx.b, lx.base, none⟩) := by
  generalize a.tmps.getD 10 undef = y at r10
  cases r10 with
  | ptr _ _ loc h => exact ⟨loc, h, rfl⟩
 obtain ⟨lx, hρj, hy10⟩ := ex
 obtain ⟨cj, Tj, hj1, hj2, hj3, hj4⟩ := hI.live j _ lx oj hρj
 have hg3 : (e_Reorder x4.2.1 (.ref k 0 x4.2.1.Held.length 42))[3]? = some (.ref k 0 x4.2.1.Held.length 42) := e_Reorder_g_Held ..
 obtain ⟨yH, hyc, hyr, -⟩ := hj3.get hg3
 obtain ⟨b9, o9, a9, cap9, hy9, ha9, hd9⟩ := ref_blk w2.heap.size r9
 obtain ⟨bH, oH, aH, capH, hyH, haH, hdH⟩ := ref_blk w2.heap.size hyr
 have nv : ∀ {b n id : Nat} {cells : List AV} {o : Nat}, u.objs id = .live cells → ((n = 0 ∧ b = w2.heap.size) ∨ ∃ loc, ρ id = some loc ∧ b = loc.b ∧ o = loc.base) → ∀ d c, V d = some c → d ≠ b := by
  intro b n id cells o ho h d c hd
  rcases h with ⟨_, rfl⟩ | ⟨loc, h1, rfl, _⟩
  ·
   have := hI.view_lt hd; omega
  ·
   obtain ⟨c', T', g1, g2, g3, g4⟩ := hI.live id cells loc ho h1
   rintro rfl
   rw [hd] at g4; cases g4
 have hxV : ∀ d c, V d = some c → d ≠ lx.b := by
  rintro d c hd rfl
  rw [hd] at hj4; cases hj4
 let L : Lcs := ⟨w1, w2, a.tmps.getD 9 undef, b9, o9, x4.1.length, lx.b, lx.base, yH, bH, oH, x4.2.1.Held.length⟩
 have tok : ∀ {l : List Int} {y : Value}, l.length < 4611686018427387904 → Rel ρ V (T_vu l) y → Tok L w2 y := fun hl h => tok_of (L := L) hI hvn (nv oi hd9) hxV (nv ok hdH) hl h
 refine ⟨L, rfl, rfl, rfl, rfl, ⟨hmem, fun b o h _ => h, hold, ⟨hown j _ lx oj hρj, cj, Tj, (0, 0), hj1, hyc⟩, ⟨a9, cap9, hy9, ha9⟩, ⟨aH, capH, hyH, haH⟩, fun hn => ?_, fun hn => ?_⟩, rfl, hy10⟩
 ·
  rcases hd9 with ⟨h0, _⟩ | ⟨l9, h1, rfl, rfl⟩
  ·
   exact (hn h0).elim
  ·
   obtain ⟨c, T, g1, g2, g3, g4⟩ := hI.live i _ l9 oi h1
   refine ⟨hown i _ l9 oi h1, fun h => hij (hI.inj i j l9 lx _ _ oi oj h1 hρj h), fun h => ?_, c, T, (0, 0), g1, fun p hp => ?_⟩
   ·
    rcases hdH with ⟨_, h5⟩ | ⟨lk, h5, h6, _⟩
    ·
     have h7 := lt_of_heap g1
     have h8 : l9.b = bH := h
     omega
    ·
     have h8 : l9.b = bH := h
     exact hik (hI.inj i k l9 lk _ _ oi ok h1 h5 (by rw [h8, h6]))
   ·
    have hp' : p < x4.1.length := hp
    have e : (x4.1.flatMap E_Frame)[p * 41 + 40]? = some (T_vu x4.1[p].Body) := by
     rw [flat_get (sz := 41) (fun _ => rfl) x4.1 p x4.1[p] 40 (List.getElem?_eq_getElem hp') (by decide)]
     rfl
    obtain ⟨y, q1, q2, -⟩ := g3.get e
    exact ⟨y, by rw [Nat.add_assoc]; exact q1, tok (hb1 _ (List.getElem_mem hp')) q2⟩
 ·
  rcases hdH with ⟨h0, _⟩ | ⟨lk, h1, rfl, rfl⟩
  ·
   exact (hn h0).elim
  ·
   obtain ⟨c, T, g1, g2, g3, g4⟩ := hI.live k _ lk ok h1
   refine ⟨hown k _ lk ok h1, fun h => hjk (hI.inj k j lk lx _ _ ok oj h1 hρj h).symm, c, T, (0, 0), g1, fun p hp => ?_⟩
   have hp' : p < x4.2.1.Held.length := hp
   have e0 : (x4.2.1.Held.flatMap E_HeldSeq)[p * 42]? = some (vi x4.2.1.Held[p].At) := by
    rw [flat_get0 (sz := 42) (fun _ => rfl) x4.2.1.Held p x4.2.1.Held[p] (List.getElem?_eq_getElem hp') (by decide)]
    rfl
   have e : (x4.2.1.Held.flatMap E_HeldSeq)[p * 42 + 41]? = some (T_vu x4.2.1.Held[p].Frame.Body) := by
    rw [flat_get (sz := 42) (fun _ => rfl) x4.2.1.Held p x4.2.1.Held[p] 41 (List.getElem?_eq_getElem hp') (by decide)]
    rfl
   obtain ⟨y, q1, q2, -⟩ := g3.get e
   obtain ⟨z, z1, z2, -⟩ := g3.get e0
   exact ⟨⟨z, z1⟩, y, by rw [Nat.add_assoc]; exact q1, tok (hb2 _ (List.getElem_mem hp')) q2⟩
end
end Go.AX.Z.TR.F

/-! (TFI) -/

set_option linter.unusedSimpArgs false
set_option linter.unusedVariables false
set_option linter.unusedSectionVars false
set_option maxHeartbeats 1000000
set_option maxRecDepth 20000
namespace Go.AX.Z.TR
open Go.AX Go.Proofs

theorem tm5 {P1 : AV → Value → Prop} {u : Nat → AV} {g : Nat → Value} (hu : ∀ y, P1 .unk y) {x3 x4 x7 x8 x15 : AV} (h3 : P1 x3 (g 3)) (h4 : P1 x4 (g 4)) (h7 : P1 x7 (g 7)) (h8 : P1 x8 (g 8)) (h15 : P1 x15 (g 15)) :
  ∀ t, P1 ((upd (upd (upd (upd (upd (fun _ => .unk) 3 x3) 4 x4) 7 x7) 8 x8) 15 x15) t) (g t) := by
 intro t
 by_cases e15 : t = 15
 ·
  subst e15; exact h15
 by_cases e8 : t = 8
 ·
  subst e8; exact h8
 by_cases e7 : t = 7
 ·
  subst e7; exact h7
 by_cases e4 : t = 4
 ·
  subst e4; exact h4
 by_cases e3 : t = 3
 ·
  subst e3; exact h3
 have : (upd (upd (upd (upd (upd (fun _ => AV.unk) 3 x3) 4 x4) 7 x7) 8 x8) 15 x15) t = .unk := by simp [upd, e15, e8, e7, e4, e3]
 rw [this]; exact hu _

theorem frz_upd (f : Nat → Ob) (k : Nat) (c : List AV) : froze (upd f k (.live c)) = upd (froze f) k (.froz c) := by
 funext i
 unfold froze upd
 by_cases h : i = k <;> simp [h]
theorem frz_dead : froze (fun _ => .dead) = fun _ => .dead := rfl
theorem froze_A [F.FN] (a0 : Reorder) (a1 : Frame) (x2 : Reorder) (x3 : Frame) (a2 : Int) : (F.putsB a0 a1 x2 x3 a2).objs = froze (putsA a0 a1 x2 x3 a2).objs := by
 simp only [putsA, F.putsB, frz_upd, frz_dead]
theorem froze_D (a0 : Reorder) (a1 : Frame) (x2 : Reorder) (x3 : Frame) (a2 : Int) : (putsD a0 a1 x2 x3).objs = froze (putsA a0 a1 x2 x3 a2).objs := by
 simp only [putsA, putsD, frz_upd, frz_dead]

theorem ptr_old {ρ ρ' : Rho} {V V' : View} {i : Nat} {y : Value} (h : Rel ρ' V' (.ptr i 0) y) (he : ρ' i = ρ i) : Rel ρ V (.ptr i 0) y := by
 cases h with
 | ptr _ _ loc h => exact .ptr i 0 loc (by rw [← he]; exact h)

theorem puts_p (a0 : Reorder) (a1 : Frame) (a2 : Int) {x2 : Reorder} {x3 : Frame} {x4 x5 : (List Frame) × Reorder × Int} (bx1 : hotspotref18_Great a0 a1 = some false) (bx2 : hotspotref18_Twin a0 = some x2) (bx3 : hotspotref05_Twin a1 = some x3)
  (bx4 : reorder_Put a0 a1 a2 = some x4) (bx5 : hotspotref18_Put a0 a1 a2 = some x5) (bx6 : hotspotref05_SameAll x4.1 x5.1 = some true) (bx7 : hotspotref18_Same x4.2.1 x5.2.1 = some true) (he : x4.2.2 = x5.2.2)
  (bx8 : hotspotref18_Same a0 x2 = some true) (bx9 : hotspotref05_Same a1 x3 = some true)
  (hl1 : x4.1.length < 4611686018427387904) (hl2 : x4.2.1.Held.length < 4611686018427387904) (hb1 : ∀ f ∈ x4.1, f.Body.length < 4611686018427387904) (hb2 : ∀ h ∈ x4.2.1.Held, h.Frame.Body.length < 4611686018427387904) :
  SndP K 5 [(.agg (E_Reorder a0)), (.agg (E_Frame a1)), (vi a2)] (vb true) := by
 refine SndP.of_zero (Clean.v _) (clean_cons (Clean.agg (E_Reorder_clean _)) (clean_cons (Clean.agg (E_Frame_clean _)) (clean_cons (Clean.v _) clean_nil))) (snd_of_code (fn := Try.f5) (c := body5) (show K.P.funcs[5]? = some Try.f5 from Try.func5) rfl rfl (Nat.le_of_ble_eq_true rfl) ?_)
 intro B a w hLo hms hBs hg
 show (chain [c1 body5, c1 (c2 body5), c1 (c2 (c2 body5))] z4).wp K.P _ a w
 refine chain_sound hC hLo hms (N := 129) (Q := QA a0 a1 a2 false x2 x3) ?_ (fun _ _ _ h => h.elim) (fun _ _ _ _ h => h.elim) _ _ _ _ ?_ (partA a0 a1 a2 rfl bx1 (fun _ => bx2) (fun _ => bx3)) hg
 ·
  clear hg a w
  rintro s aA wA ⟨_, u, hwk, rfl⟩ hgs0
  have hgs := hwk _ _ _ _ hLo hgs0
  clear hwk hgs0 s
  obtain ⟨ρ1, V1, k1, k3, k4, k5, k6, k7, k8⟩ := hgs
  obtain ⟨f1, f2, f3⟩ := gs_froze (C := K) (N := 129) (B := B) k1 k3
  obtain ⟨n, hn1, hn2⟩ : ∃ n, (∀ b c, VV ρ1 V1 (putsA a0 a1 x2 x3 a2).toHS wA b = some c → b < n) ∧ (∀ g, g + 1 = n → ∃ c, VV ρ1 V1 (putsA a0 a1 x2 x3 a2).toHS wA g = some c) := by
   by_cases h : ∃ b, b < wA.heap.size ∧ ∃ c, VV ρ1 V1 (putsA a0 a1 x2 x3 a2).toHS wA b = some c
   ·
    obtain ⟨m, h1, ⟨c, h2⟩, h3⟩ := greatest _ _ h
    exact ⟨m + 1, fun b c hb => Nat.lt_succ_of_le (h3 b (f2.view_lt hb) ⟨c, hb⟩), fun g hg => ⟨c, by rw [Nat.succ.inj hg]; exact h2⟩⟩
   ·
    exact ⟨0, fun b c hb => (h ⟨b, f2.view_lt hb, c, hb⟩).elim, fun g hg => by omega⟩
  letI : F.FN := ⟨n⟩
  have hGt : GtOk F.K (VV ρ1 V1 (putsA a0 a1 x2 x3 a2).toHS wA) := by
   intro g cs hg
   have hg' : (if g + 1 = n then some [] else none) = some cs := hg
   split at hg'
   ·
    rename_i hgn
    cases hg'
    obtain ⟨c, hc⟩ := hn2 g hgn
    exact ⟨c, hc, ⟨by simp, fun i x y hx => by simp at hx, fun i y hi => by simp at hi⟩⟩
   ·
    cases hg'
  let B1 : Base := ⟨ρ1, VV ρ1 V1 (putsA a0 a1 x2 x3 a2).toHS wA, ⟨froze (putsA a0 a1 x2 x3 a2).objs, 5⟩, wA, B.mks⟩
  have hLo1 : Lo 5 B1 := ⟨rfl, fun id hid => k3.fresh id hid, fun m hm => Nat.le_trans (hLo.2.2 m hm) k5.size⟩
  have hg1 : GS F.K 129 B1 (fun _ => False) (F.putsB a0 a1 x2 x3 a2) aA wA := by
   refine ⟨ρ1, VV ρ1 V1 (putsA a0 a1 x2 x3 a2).toHS wA, f1, ?_, hGt, ?_, k6, k7, fun id h => h.elim⟩
   ·
    have e : (F.putsB a0 a1 x2 x3 a2).toHS = ⟨froze (putsA a0 a1 x2 x3 a2).objs, 5⟩ := by rw [← froze_A]; rfl
    rw [e]; exact f2
   ·
    have e : (F.putsB a0 a1 x2 x3 a2).toHS = ⟨froze (putsA a0 a1 x2 x3 a2).objs, 5⟩ := by rw [← froze_A]; rfl
    rw [e]; exact Grew.refl _ _ _ _
  show (chain [c1 z4, c1 (c2 z4), c1 (c2 (c2 z4))] z7).wp F.K.P _ aA wA
  refine chain_sound F.hC hLo1 hms (N := 129) (Q := F.QB x4) ?_ (fun _ _ _ h => h.elim) (fun _ _ _ _ h => h.elim) _ _ _ _ ?_ (F.partB a0 a1 a2 bx4 bx5 bx6 bx7 he) hg1
  ·
   rintro s a2' w2 ⟨u, hwk, hm⟩ hgs0
   have hgs := hwk _ _ _ _ hLo1 hgs0
   clear hwk hgs0 s
   obtain ⟨ρ2, V2, l1, l3, l4, l5, l6, l7, l8⟩ := hgs
   have hold : ∀ b, b < wA.heap.size → w2.heap[b]? = wA.heap[b]? := fun b hb => l5.keep b hb (f3 b)
   have hvn : ∀ b c, V2 b = some c → n ≤ b → wA.heap.size ≤ b := by
    intro b c hb hnb
    rcases l5.vnew b c hb with h | h | h
    ·
     have := hn1 b c h; omega
    ·
     exact (f3 b h).elim
    ·
     exact h
   have hown : ∀ id cells loc, u.objs id = .live cells → ρ2 id = some loc → wA.heap.size ≤ loc.b := by
    intro id cells loc h1 h2
    rcases l5.own loc.b ⟨id, cells, loc, h1, h2, rfl⟩ with h | h
    ·
     exact (f3 _ h).elim
    ·
     exact h
   obtain ⟨L, hL1, hL2, hL9, hLH, hLp, ht9, ht10⟩ := F.lp_of hm l1 l3 hvn hown l5.mem hold hb1 hb2
   have hAc : Ac L (tmv a2' 3) (tmv a2' 4) (tmv a2' 7) (tmv a2' 8) a2'.defers a2' := by
    refine ⟨l6, rfl, rfl, rfl, rfl, rfl, ht9, ht10, ?_⟩
    have := l1 15
    rw [hm.t15] at this
    exact Rel.v_inv this
   have p3 : Rel ρ1 (VV ρ1 V1 (putsA a0 a1 x2 x3 a2).toHS wA) (.ptr 0 0) (tmv a2' 3) := ptr_old (by have := l1 3; rw [hm.t3] at this; exact this) (l5.old 0 (show (0 : Nat) < 5 by decide))
   have p4 : Rel ρ1 (VV ρ1 V1 (putsA a0 a1 x2 x3 a2).toHS wA) (.ptr 1 0) (tmv a2' 4) := ptr_old (by have := l1 4; rw [hm.t4] at this; exact this) (l5.old 1 (show (1 : Nat) < 5 by decide))
   have p7 : Rel ρ1 (VV ρ1 V1 (putsA a0 a1 x2 x3 a2).toHS wA) (.ptr 2 0) (tmv a2' 7) := ptr_old (by have := l1 7; rw [hm.t7] at this; exact this) (l5.old 2 (show (2 : Nat) < 5 by decide))
   have p8 : Rel ρ1 (VV ρ1 V1 (putsA a0 a1 x2 x3 a2).toHS wA) (.ptr 4 0) (tmv a2' 8) := ptr_old (by have := l1 8; rw [hm.t8] at this; exact this) (l5.old 4 (show (4 : Nat) < 5 by decide))
   have hmk : ∃ rs : List Nat, rs.Nodup ∧ a2'.defers = rs.map mark ∧ (B.mks = none → rs = []) ∧ ∀ r ∈ rs, (∀ m, B.mks = some m → m ≤ r) ∧ w2.heap[r]? = some (.deferred (some [])) := l7
   clear l1 l3 l4 l5 l6 l7 l8 hm hown hvn
   show (Code.seq (c1 z7) (.seq (c1 (c2 z7)) zD)).wp K.P _ a2' w2
   refine wp_seq (loop1 (by rw [hL9]; exact hl1) (fun a3 w3 hp3 ha3 => ?_) hLp hAc)
   refine wp_seq (loop2 (by rw [hLH]; exact hl2) (fun a4 w4 hp4 ha4 => ?_) hp3 ha3)
   clear hLp hAc hp3 ha3 a3 w3
   have hgD : GS K 129 B (fun _ => False) (putsD a0 a1 x2 x3) a4 w4 := by
    refine gs_after k3 k4 k5 (by rw [← hL1]; exact hp4.old) (by rw [← hL1]; exact hp4.mem) (froze_D a0 a1 x2 x3 a2) rfl ?_ ha4.sz ?_
    ·
     refine tm5 (P1 := Rel ρ1 (VV ρ1 V1 (putsA a0 a1 x2 x3 a2).toHS wA)) (u := fun _ => .unk) (fun y => .unk y) ?_ ?_ ?_ ?_ ?_
     ·
      have := ha4.t3; unfold tmv at this; rw [this]; exact p3
     ·
      have := ha4.t4; unfold tmv at this; rw [this]; exact p4
     ·
      have := ha4.t7; unfold tmv at this; rw [this]; exact p7
     ·
      have := ha4.t8; unfold tmv at this; rw [this]; exact p8
     ·
      have := ha4.t15; unfold tmv at this; rw [this]; exact .v _
    ·
     obtain ⟨rs, m1, m2, m3, m4⟩ := hmk
     refine ⟨rs, m1, by rw [ha4.df]; exact m2, m3, fun r hr => ⟨(m4 r hr).1, hp4.nc r _ (by rw [hL2]; exact (m4 r hr).2) rfl⟩⟩
   exact wp_mono (awp_sound hC hLo hms zD _ _ _ _ (by decide +kernel) (partD a0 a1 bx8 bx9) hgD) fun e a w h => ends_of hLo h
  ·
   intro c hc
   simp only [List.mem_cons, List.not_mem_nil, or_false] at hc
   rcases hc with rfl | rfl | rfl <;> decide +kernel
 ·
  intro c hc
  simp only [List.mem_cons, List.not_mem_nil, or_false] at hc
  rcases hc with rfl | rfl | rfl <;> decide +kernel

end Go.AX.Z.TR

/-! (TFN) -/

set_option linter.unusedVariables false
set_option linter.unusedSimpArgs false
namespace Go.AX.Z.TR
open Go.AX

def SameF (L M : List HeldSeq) : Prop := ∀ v : Int, (L.filter fun x => x.n == v) = M.filter fun x => x.n == v

theorem SameF.rest {L M : List HeldSeq} (h : SameF L M) (v : Int) : SameF (L.filter fun x => !(x.n == v)) (M.filter fun x => !(x.n == v)) := by
 intro u
 rw [List.filter_filter, List.filter_filter]
 by_cases hu : u = v
 ·
  subst hu
  have : ∀ l : List HeldSeq, (l.filter fun x => (x.n == u) && !(x.n == u)) = [] := fun l => List.filter_eq_nil_iff.2 fun x _ => by cases x.n == u <;> decide
  rw [this, this]
 ·
  have : ∀ l : List HeldSeq, (l.filter fun x => (x.n == u) && !(x.n == v)) = l.filter fun x => x.n == u := fun l => List.filter_congr fun x _ => by
   rw [Bool.eq_iff_iff]
   simp only [Bool.and_eq_true, beq_iff_eq, Bool.not_eq_true', beq_eq_false_iff_ne]
   exact ⟨fun h => h.1, fun h => ⟨h, fun h' => hu (h ▸ h')⟩⟩
  rw [this, this]; exact h u

theorem L2_sim : ∀ (n : Nat) (d : Int) (b c : Reorder) (h1 h2 : List HeldSeq) (out : List Frame) (r : Reorder × List Frame), SameF h1 h2 → h1.length ≤ 1000 → h2.length ≤ 1000 → c = { b with Held := c.Held } → hotspotref18_move_L2 n (d, b, h1, out) = some r →
  ∃ M, hotspotref18_move_L2 n (d, c, h2, out) = some ({ r.1 with Held := M }, r.2) ∧ SameF r.1.Held M ∧ M.length ≤ 1000 ∧ r.1.Held.length ≤ 1000
 | 0, d, b, c, h1, h2, out, r, hF, l1, l2, hc, hr => by cases hr
 | n + 1, d, b, c, h1, h2, out, r, hF, l1, l2, hc, hr => by
  have hS : c.Start = b.Start := by rw [hc]
  rw [hotspotref18_move_L2] at hr ⊢
  simp only at hr ⊢
  rw [take_e h1 l1, bindS] at hr
  rw [hS, take_e h2 l2, bindS]
  simp only at hr ⊢
  rw [← hF b.Start]
  generalize hg : (decide (d ≤ 0) && ((((h1.filter fun x => x.n == b.Start).map (·.Frame)).length : Nat) : Int) == 0) = g at hr ⊢
  cases g with
  | true =>
   rw [cond_true] at hr ⊢
   cases hr
   exact ⟨h2, by rw [hc], hF, l2, l1⟩
  | false =>
   rw [cond_false] at hr ⊢
   obtain ⟨u, hu, hr⟩ := bnd hr
   rw [hu, bindS]
   rw [radd_e, bindS] at hr ⊢
   exact L2_sim n _ _ _ _ _ _ r (hF.rest b.Start) (Nat.le_trans (List.length_filter_le _ _) l1) (Nat.le_trans (List.length_filter_le _ _) l2) (by rw [hc]) hr

theorem L5_sim (d1 d2 : Reorder × List Frame) (hs : d2.1.Start = d1.1.Start) (hF : SameF d1.1.Held d2.1.Held) (l1 : d1.1.Held.length ≤ 1000) (l2 : d2.1.Held.length ≤ 1000) :
  ∀ (k i n : Nat) (acc : List HeldSeq), i + k = 64 → k < n → acc.length ≤ i * 1000 → hotspotref18_move_L5 d2 n (acc, (i : Int)) = hotspotref18_move_L5 d1 n (acc, (i : Int))
 | 0, i, n + 1, acc, hi, hn, ha => by
  rw [hotspotref18_move_L5, hotspotref18_move_L5, decide_eq_false (by simp only; omega), cond_false, cond_false]
 | k + 1, i, n + 1, acc, hi, hn, ha => by
  rw [hotspotref18_move_L5, hotspotref18_move_L5, decide_eq_true (by simp only; omega), cond_true, cond_true]
  simp only
  rw [hs, radd_e, bindS, bindS]
  have e1 := rL9_e d1 ((d1.1.Start + (i : Int)) % 4096) l1 d1.1.Held 0 big acc rfl (big_lt (by omega)) (by omega)
  have e2 := rL9_e d2 ((d1.1.Start + (i : Int)) % 4096) l2 d2.1.Held 0 big acc rfl (big_lt (by omega)) (by omega)
  simp only [Int.natCast_zero] at e1 e2
  rw [e1, e2, bindS, bindS, bindS, bindS, ← hF, wrapN (by omega)]
  refine L5_sim d1 d2 hs hF l1 l2 k (i + 1) n _ (by omega) (by omega) ?_
  have := List.length_filter_le (fun x : HeldSeq => x.n == (d1.1.Start + (i : Int)) % 4096) d1.1.Held
  rw [List.length_append]; omega

theorem move_sim {b : Reorder} {L M : List HeldSeq} (h : SameF L M) (l1 : L.length ≤ 1000) (l2 : M.length ≤ 1000) {t : Int} {r : List Frame × Reorder} (hr : hotspotref18_move { b with Held := L } t = some r) : hotspotref18_move { b with Held := M } t = some r := by
 unfold hotspotref18_move at hr ⊢
 obtain ⟨u, hu, hr⟩ := bnd hr
 obtain ⟨N, hN, hF, m1, m2⟩ := L2_sim big t { b with Held := L } { b with Held := M } L M [] u h l1 l2 rfl hu
 rw [hN, bindS]
 have h5 := L5_sim u ({ u.1 with Held := N }, u.2) rfl hF m2 m1 64 0 big [] rfl (big_lt (by omega)) (by simp)
 simp only [Int.natCast_zero] at h5
 rw [h5]
 obtain ⟨v, hv, hr⟩ := bnd hr
 rw [hv, bindS]
 exact hr

theorem sameF_ins {l : List HeldSeq} {x : HeldSeq} (i : Nat) (hx : ∀ y ∈ l, y.n ≠ x.n) : SameF (l.take i ++ [x] ++ l.drop i) (l ++ [x]) := by
 intro v
 have hl : (l.filter fun y => y.n == v) = ((l.take i).filter fun y => y.n == v) ++ (l.drop i).filter fun y => y.n == v := by rw [← List.filter_append, List.take_append_drop]
 rw [List.filter_append, List.filter_append, List.filter_append, hl]
 by_cases h : x.n = v
 ·
  have e1 : ((l.take i).filter fun y => y.n == v) = [] := List.filter_eq_nil_iff.2 fun y hy => by
   have := hx y (List.mem_of_mem_take hy); rw [h] at this; simpa using this
  have e2 : ((l.drop i).filter fun y => y.n == v) = [] := List.filter_eq_nil_iff.2 fun y hy => by
   have := hx y (List.mem_of_mem_drop hy); rw [h] at this; simpa using this
  rw [e1, e2]; simp
 ·
  have e : ([x].filter fun y => y.n == v) = [] := List.filter_eq_nil_iff.2 fun y hy => by
   rw [List.mem_singleton] at hy; subst hy; simpa using h
  rw [e]; simp

theorem puts_e (b : Reorder) (f : Frame) (now : Int) (hf : Fit b.Held) (hfb : f.Body.length ≤ 2400) {B : Nat} (hB : B < 2 ^ 64) (hb : b.Seen.Bits = (B : Int)) : ∃ r : List Frame × Reorder × Int, reorder_Put b f now = some r ∧ hotspotref18_Put b f now = some r ∧
  r.1.length ≤ 1000 ∧ r.2.1.Held.length ≤ 1000 ∧ (∀ g ∈ r.1, g.Body.length ≤ 2400) ∧ ∀ h ∈ r.2.1.Held, h.Frame.Body.length ≤ 2400 := by
 unfold reorder_Put hotspotref18_Put
 have hL := hf.1
 have hz : ∀ e : Int, (([], Reorder.z, e) : List Frame × Reorder × Int).1.length ≤ 1000 ∧ (([], Reorder.z, e) : List Frame × Reorder × Int).2.1.Held.length ≤ 1000 ∧ (∀ g ∈ (([], Reorder.z, e) : List Frame × Reorder × Int).1, g.Body.length ≤ 2400) ∧ ∀ h ∈ (([], Reorder.z, e) : List Frame × Reorder × Int).2.1.Held, h.Frame.Body.length ≤ 2400 :=
  fun e => ⟨by simp, by simp [Reorder.z], fun g hg => by simp at hg, fun h hh => by simp [Reorder.z] at hh⟩
 rw [check_e b (by omega), bindS, valid_e b (by omega), bindS]
 rcases (Decidable.em (VR b)).symm with hv | hv
 ·
  rw [if_neg hv, decide_eq_false hv]
  exact ⟨_, rfl, rfl, hz 8⟩
 rw [if_pos hv, bne_self_eq_false, cond_false, decide_eq_true hv, Bool.not_true, cond_false, moment_e, bindS, rmoment_e, bindS]
 rcases (Decidable.em (0 ≤ now ∧ now ≤ 1099511627776)).symm with hnow | hnow
 ·
  rw [decide_eq_false hnow, Bool.not_false, cond_true, bindS, cond_true, cond_true, bindS, cond_true]
  exact ⟨_, rfl, rfl, hz 2⟩
 rw [decide_eq_true hnow, Bool.not_true, cond_false, number_e, bindS, bindS, cond_false, rnumber_e, bindS, bindS]
 rcases (Decidable.em (0 ≤ f.Head.Seq ∧ f.Head.Seq < 4096)).symm with hn | hn
 ·
  rw [decide_eq_false hn, Bool.not_false, cond_true, cond_true]
  exact ⟨_, rfl, rfl, hz 2⟩
 rw [decide_eq_true hn, Bool.not_true, cond_false, cond_false, dist_e, bindS, rdist_e, bindS]
 obtain ⟨i, p1, p2⟩ := place_e b hL hv.sortd f.Head.Seq
 rw [p1, bindS, take_e b.Held hL, bindS]
 simp only
 rcases Decidable.em (2048 ≤ dist b.Start f.Head.Seq) with hfar | hfar
 ·
  rw [decide_eq_true hfar, Bool.true_or, cond_true, Bool.true_or, cond_true]
  exact ⟨_, rfl, rfl, hz 21⟩
 rw [decide_eq_false hfar, Bool.false_or, Bool.false_or]
 have hho := hv.sortd.2
 have hfd : (∃ x ∈ b.Held, dist b.Start x.n = dist b.Start f.Head.Seq) ↔ (0 : Int) < ((((b.Held.filter fun x => x.n == f.Head.Seq).map (·.Frame)).length : Nat) : Int) := by
  rw [List.length_map]
  constructor
  ·
   rintro ⟨x, hx, he⟩
   have h1 := hho x hx
   have hm : x ∈ b.Held.filter fun x => x.n == f.Head.Seq := List.mem_filter.2 ⟨hx, by rw [beq_iff_eq]; unfold dist at he; omega⟩
   have := List.length_pos_of_mem hm
   omega
  ·
   intro h
   obtain ⟨x, hx⟩ := List.exists_mem_of_length_pos (by omega : 0 < (b.Held.filter fun x => x.n == f.Head.Seq).length)
   obtain ⟨h1, h2⟩ := List.mem_filter.1 hx
   rw [beq_iff_eq] at h2
   exact ⟨x, h1, by rw [h2]⟩
 by_cases hfound : ∃ x ∈ b.Held, dist b.Start x.n = dist b.Start f.Head.Seq
 ·
  rw [decide_eq_true hfound, cond_true, decide_eq_true (hfd.1 hfound), cond_true]
  exact ⟨_, rfl, rfl, hz 21⟩
 rw [decide_eq_false hfound, cond_false, decide_eq_false (fun h => hfound (hfd.2 h)), cond_false]
 have ho := hv.1
 have hdn := dist_nn b.Start f.Head.Seq
 obtain ⟨w, w1, w2, w3⟩ := note_e (w := b.Seen) (n := f.Head.Seq) ho.2.2.2.2.2 hB hb hn
 rw [w1, bindS, twin_e _ hf, bindS, w2, bindS, chk_d (by omega), bindS, chk_d (by omega), bindS]
 unfold header_Twin
 rw [chk_d (by omega), bindS, bindS, ins_e b.Held i p2.1 hL, bindS]
 obtain ⟨x, hx⟩ : ∃ x : HeldSeq, x = ⟨now, f⟩ := ⟨_, rfl⟩
 have hxs : ({ HeldSeq.z with At := now, Frame := f } : HeldSeq) = x := by rw [hx]
 rw [hxs]
 have hxn : x.n = f.Head.Seq := by rw [hx]
 have hxA : x.At = now := by rw [hx]
 have hxb : x.Frame.Body.length ≤ 2400 := by rw [hx]; exact hfb
 obtain ⟨L, hLdef⟩ : ∃ L, L = b.Held.take i ++ [x] ++ b.Held.drop i := ⟨_, rfl⟩
 rw [← hLdef]
 have hLs : Sortd b.Start L := by rw [hLdef]; exact ins_sorted hv.sortd p2 (by rw [hxn]) (by rw [hxn]; exact hn) hfound
 have h64 : b.Held.length ≤ 70 := held_len hv
 have hLlen : L.length ≤ 999 := by
  rw [hLdef]; simp; omega
 have hmemL : ∀ y ∈ L, y = x ∨ y ∈ b.Held := by
  intro y hy
  rw [hLdef] at hy
  simp only [List.mem_append, List.mem_singleton] at hy
  rcases hy with (hy | hy) | hy
  ·
   exact .inr (List.mem_of_mem_take hy)
  ·
   exact .inl hy
  ·
   exact .inr (List.mem_of_mem_drop hy)
 have hbL : ∀ y ∈ L, y.Frame.Body.length ≤ 2400 := fun y hy => (hmemL y hy).elim (fun e => by rw [e]; exact hxb) (hf.2 y)
 obtain ⟨t, ht⟩ : ∃ t, t = if b.Size ≤ dist b.Start f.Head.Seq then dist b.Start f.Head.Seq + 1 - b.Size else 0 := ⟨_, rfl⟩
 obtain ⟨to, hto⟩ : ∃ to, to = if b.Size ≤ dist b.Start f.Head.Seq then (f.Head.Seq + (1 - b.Size)) % 4096 else b.Start := ⟨_, rfl⟩
 have ht0 : 0 ≤ t ∧ t ≤ 2048 := by unfold HeadOk at ho; rw [ht]; split <;> omega
 have hdto : dist b.Start to = t := by
  unfold HeadOk at ho
  rw [ht, hto]
  split
  ·
   unfold dist at hdn hfar ⊢; rename_i h; unfold dist at h; omega
  ·
   unfold dist; simp
 have hton : 0 ≤ to ∧ to < 4096 := by unfold HeadOk at ho; rw [hto]; split <;> omega
 have hgo : (bif decide (b.Size ≤ dist b.Start f.Head.Seq) then ((window_Add f.Head.Seq (IntKind.wrap .i64 (1 - b.Size))).bind fun x42 => some x42) else some b.Start) = some to := by
  unfold HeadOk at ho
  rw [hto]
  by_cases h : b.Size ≤ dist b.Start f.Head.Seq
  ·
   rw [decide_eq_true h, cond_true, add_e, bindS, wrapI (by omega) (by omega), if_pos h]
  ·
   rw [decide_eq_false h, cond_false, if_neg h]
 have hmx : (if IntKind.wrap .i64 ((IntKind.wrap .i64 (dist b.Start f.Head.Seq - b.Size)) + 1) < 0 then 0 else IntKind.wrap .i64 ((IntKind.wrap .i64 (dist b.Start f.Head.Seq - b.Size)) + 1)) = t := by
  unfold HeadOk at ho
  rw [wrapI (i := dist b.Start f.Head.Seq - b.Size) (by omega) (by omega), wrapI (by omega) (by omega), ht]
  split <;> split <;> omega
 rw [hgo, bindS, hmx]
 obtain ⟨out, nx, i2, k, z, m1, m2, rfl, rfl⟩ := mv_e { b with Seen := w, Held := L } (by simp only; omega) hLs to hton
 rw [show dist ({ b with Seen := w, Held := L } : Reorder).Start to = t from hdto] at m1
 have hbd : ∀ y ∈ L, dist b.Start y.n < t + 64 := by
  unfold HeadOk at ho
  intro y hy
  rcases hmemL y hy with rfl | hy
  ·
   rw [hxn, ht]; split <;> omega
  ·
   have := hv.held y hy; omega
 have hr := rmv_e (b := { b with Seen := w, Held := L }) (by simp only; omega) hLs ho.1 ⟨ht0.1, by omega⟩ m1 hbd
 have hsim := move_sim (b := { b with Seen := w }) (L := L) (M := b.Held ++ [x]) (by
  rw [hLdef]
  refine sameF_ins i fun y hy he => hfound ⟨y, hy, ?_⟩
  rw [he, hxn]) (by omega) (by simp; omega) hr
 rw [m2, bindS, hsim, bindS]
 have hlen := m1.len
 simp only at hlen
 refine ⟨_, rfl, rfl, by simp only; omega, by simp only; omega, fun g hg => ?_, fun h hh => ?_⟩
 ·
  have e := m1.out
  simp only at hg e
  rw [e] at hg
  obtain ⟨y, hy, rfl⟩ := List.mem_map.1 hg
  exact hbL y (List.mem_of_mem_take hy)
 ·
  have e := m1.nx
  have e2 : h ∈ (L.drop i2).drop k := by
   have : z.2.2 = (L.drop i2).drop k := congrArg Reorder.Held e
   rw [← this]; exact hh
  exact hbL h (List.mem_of_mem_drop (List.mem_of_mem_drop e2))

theorem twinF_e (f : Frame) (h : f.Body.length ≤ 2400) : hotspotref05_Twin f = some f := by
 unfold hotspotref05_Twin
 rw [chk_d (by omega), bindS]

theorem puts (b : Reorder) (f : Frame) (now : Int) {B : Nat} (hB : B < 2 ^ 64) (hb : b.Seen.Bits = (B : Int)) : SndP K 5 [(.agg (E_Reorder b)), (.agg (E_Frame f)), (vi now)] (vb true) := by
 obtain ⟨g, g1, g2⟩ := great_e b f
 cases g with
 | true => exact puts_great b f now g1
 | false =>
  obtain ⟨h1, h2, h3⟩ := g2 rfl
  obtain ⟨r, r1, r2, r3, r4, r5, r6⟩ := puts_e b f now h2 h3 hB hb
  exact puts_p b f now g1 (rtwin_e b h2) (twinF_e f h3) r1 r2 (sameAll_e r.1 (by omega)) (sameR_e r.2.1 (by omega)) rfl (sameR_e b (by omega)) (sameF f) (by omega) (by omega) (fun g hg => by have := r5 g hg; omega) (fun h hh => by have := r6 h hh; omega)
end Go.AX.Z.TR

/-! (TRY) -/

set_option linter.unusedVariables false
namespace Go.AX.Z.TR
open Go.AX Go.Proofs

/-! ## Arguments, read -/

theorem ud3 : K.P.underlying 3 = some (.int .i64) := by kernel_rfl

theorem ud5 : K.P.underlying 5 = some (.int .u8) := by kernel_rfl

theorem ud4 : K.P.underlying 4 = some (.bool) := by kernel_rfl

def W_Addr (B : Nat) (x : Addr) : Prop := ((Lit.int .u8 x.a0).wf = true) ∧ ((Lit.int .u8 x.a1).wf = true) ∧ ((Lit.int .u8 x.a2).wf = true) ∧ ((Lit.int .u8 x.a3).wf = true) ∧ ((Lit.int .u8 x.a4).wf = true) ∧ ((Lit.int .u8 x.a5).wf = true)

theorem ud39 : K.P.underlying 39 = some (.array 6 5) := by kernel_rfl

theorem rd39 {B n : Nat} {l : List AV} (h : Ty K.P B n 39 l) : ∃ x : Addr, l = e_Addr x ∧ W_Addr B x := by
 obtain ⟨m, ls, rfl, h1, h2⟩ := ty_array ud39 h
 obtain ⟨vs, h3, h4, h5⟩ := ty_ints ud5 ls h2
 match vs, (h4.trans h1 : vs.length = 6) with
 | [a0, a1, a2, a3, a4, a5], _ => exact ⟨⟨a0, a1, a2, a3, a4, a5⟩, h3, h5 _ (by simp), h5 _ (by simp), h5 _ (by simp), h5 _ (by simp), h5 _ (by simp), h5 _ (by simp)⟩

def W_Header (B : Nat) (x : Header) : Prop := ((Lit.int .u8 x.Kind).wf = true) ∧ ((Lit.int .u8 x.Sub).wf = true) ∧ ((Lit.int .i64 x.Duration).wf = true) ∧ (W_Addr B x.A1) ∧ (W_Addr B x.A2) ∧ (W_Addr B x.A3) ∧ (W_Addr B x.A4) ∧ ((Lit.int .i64 x.Seq).wf = true) ∧ ((Lit.int .i64 x.Frag).wf = true) ∧ ((Lit.int .i64 x.Tid).wf = true) ∧ ((Lit.int .u8 x.Ack).wf = true)

theorem rd41 {B n : Nat} {l : List AV} (h : Ty K.P B n 41 l) : ∃ x : Header, l = e_Header x ∧ W_Header B x := by
 obtain ⟨m, h⟩ := ty_struct Try.underlying41 h
 have h' : TyAll (Ty K.P B m) [5, 5, 4, 4, 4, 4, 4, 4, 4, 3, 39, 39, 39, 39, 3, 3, 3, 5, 4, 4] l := h
 obtain ⟨_, _, rfl, h0, _, _, rfl, h1, _, _, rfl, h2, _, _, rfl, h3, _, _, rfl, h4, _, _, rfl, h5, _, _, rfl, h6, _, _, rfl, h7, _, _, rfl, h8, _, _, rfl, h9, _, _, rfl, h10, _, _, rfl, h11, _, _, rfl, h12, _, _, rfl, h13, _, _, rfl, h14, _, _, rfl, h15, _, _, rfl, h16, _, _, rfl, h17, _, _, rfl, h18, _, _, rfl, h19, rfl⟩ := h'
 obtain ⟨v0, rfl, w0⟩ := ty_int ud5 h0
 obtain ⟨v1, rfl, w1⟩ := ty_int ud5 h1
 obtain ⟨v2, rfl⟩ := ty_bool ud4 h2
 obtain ⟨v3, rfl⟩ := ty_bool ud4 h3
 obtain ⟨v4, rfl⟩ := ty_bool ud4 h4
 obtain ⟨v5, rfl⟩ := ty_bool ud4 h5
 obtain ⟨v6, rfl⟩ := ty_bool ud4 h6
 obtain ⟨v7, rfl⟩ := ty_bool ud4 h7
 obtain ⟨v8, rfl⟩ := ty_bool ud4 h8
 obtain ⟨v9, rfl, w9⟩ := ty_int ud3 h9
 obtain ⟨v10, rfl, w10⟩ := rd39 h10
 obtain ⟨v11, rfl, w11⟩ := rd39 h11
 obtain ⟨v12, rfl, w12⟩ := rd39 h12
 obtain ⟨v13, rfl, w13⟩ := rd39 h13
 obtain ⟨v14, rfl, w14⟩ := ty_int ud3 h14
 obtain ⟨v15, rfl, w15⟩ := ty_int ud3 h15
 obtain ⟨v16, rfl, w16⟩ := ty_int ud3 h16
 obtain ⟨v17, rfl, w17⟩ := ty_int ud5 h17
 obtain ⟨v18, rfl⟩ := ty_bool ud4 h18
 obtain ⟨v19, rfl⟩ := ty_bool ud4 h19
 exact ⟨⟨v0, v1, v2, v3, v4, v5, v6, v7, v8, v9, v10, v11, v12, v13, v14, v15, v16, v17, v18, v19⟩, rfl, ⟨w0, w1, w9, w10, w11, w12, w13, w14, w15, w16, w17⟩⟩

theorem ud42 : K.P.underlying 42 = some (.slice 5) := by kernel_rfl

theorem rsl42 {B n : Nat} {x : AV} (h : Ty K.P B n 42 [x]) : ∃ l : (List Int), x = S_vu l ∧ l.length ≤ B ∧ ∀ z ∈ l, (Lit.int .u8 z).wf = true := by
 obtain ⟨vs, rfl, h1, h2⟩ := ty_slice_ints ud42 ud5 h
 exact ⟨vs, rfl, h1, h2⟩

def W_Frame (B : Nat) (x : Frame) : Prop := (W_Header B x.Head) ∧ (x.Body.length ≤ B ∧ ∀ z ∈ x.Body, (Lit.int .u8 z).wf = true)

theorem rd44 {B n : Nat} {l : List AV} (h : Ty K.P B n 44 l) : ∃ x : Frame, l = E_Frame x ∧ W_Frame B x := by
 obtain ⟨m, h⟩ := ty_struct Try.underlying44 h
 have h' : TyAll (Ty K.P B m) [41, 42] l := h
 obtain ⟨_, _, rfl, h0, _, _, rfl, h1, rfl⟩ := h'
 obtain ⟨v0, rfl, w0⟩ := rd41 h0
 obtain ⟨s1, rfl⟩ : ∃ x, _ = [x] := ty_single h1 (by rw [ud42]; intro _ hh; cases hh) (by rw [ud42]; intro _ _ hh; cases hh)
 obtain ⟨v1, rfl, w1⟩ := rsl42 h1
 exact ⟨⟨v0, v1⟩, rfl, ⟨w0, w1⟩⟩

def W_HeldSeq (B : Nat) (x : HeldSeq) : Prop := ((Lit.int .i64 x.At).wf = true) ∧ (W_Frame B x.Frame)

theorem rd58 {B n : Nat} {l : List AV} (h : Ty K.P B n 58 l) : ∃ x : HeldSeq, l = E_HeldSeq x ∧ W_HeldSeq B x := by
 obtain ⟨m, h⟩ := ty_struct Try.underlying58 h
 have h' : TyAll (Ty K.P B m) [3, 44] l := h
 obtain ⟨_, _, rfl, h0, _, _, rfl, h1, rfl⟩ := h'
 obtain ⟨v0, rfl, w0⟩ := ty_int ud3 h0
 obtain ⟨v1, rfl, w1⟩ := rd44 h1
 exact ⟨⟨v0, v1⟩, rfl, ⟨w0, w1⟩⟩

theorem ud22 : K.P.underlying 22 = some (.slice 58) := by kernel_rfl

theorem rsl22 {B n : Nat} {x : AV} (h : Ty K.P B n 22 [x]) : ∃ l : (List HeldSeq), x = S_HeldSeq l ∧ l.length ≤ B ∧ ∀ z ∈ l, W_HeldSeq B z := by
 obtain ⟨l, rfl, h1, h2⟩ := ty_slice_rows (W_HeldSeq B) ud22 (fun _ _ h => rd58 h) h
 exact ⟨l, rfl, h1, h2⟩

theorem ud23 : K.P.underlying 23 = some (.int .u64) := by kernel_rfl

def W_Window (B : Nat) (x : Window) : Prop := ((Lit.int .i64 x.Start).wf = true) ∧ ((Lit.int .u64 x.Bits).wf = true)

theorem rd25 {B n : Nat} {l : List AV} (h : Ty K.P B n 25 l) : ∃ x : Window, l = e_Window x ∧ W_Window B x := by
 obtain ⟨m, h⟩ := ty_struct Try.underlying25 h
 have h' : TyAll (Ty K.P B m) [3, 23] l := h
 obtain ⟨_, _, rfl, h0, _, _, rfl, h1, rfl⟩ := h'
 obtain ⟨v0, rfl, w0⟩ := ty_int ud3 h0
 obtain ⟨v1, rfl, w1⟩ := ty_int ud23 h1
 exact ⟨⟨v0, v1⟩, rfl, ⟨w0, w1⟩⟩

def W_Reorder (B : Nat) (x : Reorder) : Prop := ((Lit.int .i64 x.Start).wf = true) ∧ ((Lit.int .i64 x.Size).wf = true) ∧ ((Lit.int .i64 x.Hold).wf = true) ∧ (x.Held.length ≤ B ∧ ∀ z ∈ x.Held, W_HeldSeq B z) ∧ (W_Window B x.Seen)

theorem rd27 {B n : Nat} {l : List AV} (h : Ty K.P B n 27 l) : ∃ x : Reorder, l = E_Reorder x ∧ W_Reorder B x := by
 obtain ⟨m, h⟩ := ty_struct Try.underlying27 h
 have h' : TyAll (Ty K.P B m) [3, 3, 3, 22, 25] l := h
 obtain ⟨_, _, rfl, h0, _, _, rfl, h1, _, _, rfl, h2, _, _, rfl, h3, _, _, rfl, h4, rfl⟩ := h'
 obtain ⟨v0, rfl, w0⟩ := ty_int ud3 h0
 obtain ⟨v1, rfl, w1⟩ := ty_int ud3 h1
 obtain ⟨v2, rfl, w2⟩ := ty_int ud3 h2
 obtain ⟨s3, rfl⟩ : ∃ x, _ = [x] := ty_single h3 (by rw [ud22]; intro _ hh; cases hh) (by rw [ud22]; intro _ _ hh; cases hh)
 obtain ⟨v3, rfl, w3⟩ := rsl22 h3
 obtain ⟨v4, rfl, w4⟩ := rd25 h4
 exact ⟨⟨v0, v1, v2, v3, v4⟩, rfl, ⟨w0, w1, w2, w3, w4⟩⟩

end Go.AX.Z.TR

/-! (TFZ) -/

set_option linter.unusedVariables false
namespace Go.AX.Z.TR
open Go.AX
theorem u64_wf {x : Int} (h : (Lit.int .u64 x).wf = true) : 0 ≤ x ∧ x < 18446744073709551616 := by
 have e : IntKind.u64.min ≤ x ∧ x ≤ IntKind.u64.max := by simpa [Lit.wf] using h
 have h1 : IntKind.u64.min = 0 := rfl
 have h2 : IntKind.u64.max = 18446744073709551615 := rfl
 omega
theorem putsW {B : Nat} (b : Reorder) (f : Frame) (now : Int) (h : W_Reorder B b) : SndP K 5 [(.agg (E_Reorder b)), (.agg (E_Frame f)), (vi now)] (vb true) := by
 obtain ⟨_, _, _, _, _, h5⟩ := h
 have := u64_wf h5
 exact puts b f now (B := b.Seen.Bits.toNat) (by omega) (Int.toNat_of_nonneg this.1).symm
end Go.AX.Z.TR

/-! (TRU) -/

/- How bulks bound what a reading holds. -/
namespace Go.Proofs.Ytnkikepecbjfdaa.bulks
open Go.AX

theorem one_le {H : Type} (d : DataW H) : 1 ≤ Rows.uptoBulk d := by
 cases d with
 | lit l => cases l <;> simp [Rows.uptoBulk]
 | nil => simp [Rows.uptoBulk]
 | ptr d => simp [Rows.uptoBulk]
 | slice elems spare => simp [Rows.uptoBulk]
 | agg parts => simp [Rows.uptoBulk]
 | iface t d => simp [Rows.uptoBulk]
 | map entries => simp [Rows.uptoBulk]
 | held h => simp [Rows.uptoBulk]

theorem part_le {H : Type} {d : DataW H} {l : List (DataW H)} (h : d ∈ l) : Rows.uptoBulk d ≤ Rows.uptoBulkAll l := by
 induction l with
 | nil => cases h
 | cons x r ih =>
  simp only [Rows.uptoBulkAll]
  cases List.mem_cons.1 h with
  | inl e => subst e; omega
  | inr e => have := ih e; omega

theorem length_le {H : Type} (l : List (DataW H)) : l.length ≤ Rows.uptoBulkAll l := by
 induction l with
 | nil => simp [Rows.uptoBulkAll]
 | cons x r ih => have := one_le x; simp only [Rows.uptoBulkAll, List.length_cons]; omega

theorem bulk {H : Type} : Bulk (H := H) Rows.uptoBulk where
 ptr d := by simp [Rows.uptoBulk]
 elems es sp d h := by have := part_le h; simp only [Rows.uptoBulk]; omega
 len es sp := by have := length_le es; simp only [Rows.uptoBulk]; omega
 agg ds d h := by have := part_le h; simp only [Rows.uptoBulk]; omega
 str bs := by simp [Rows.uptoBulk]

theorem bound {H : Type} {l : List (DataW H)} (hk : Rows.uptoSmall H l = true) : Rows.uptoBulkAll l ≤ 1048576 := by
 have := of_decide_eq_true hk
 exact this

end Go.Proofs.Ytnkikepecbjfdaa.bulks

/-! (TFTReorderPuts) -/

/- ReorderPuts: the law returns true whatever its arguments. -/
namespace Go.Proofs.Ytnkikepecbjfdaa.reorderPuts
open Go.ChangeShapes Go.WideShapes Go.ChangeAt Go.RowKit Go.AX Go.AX.Z Go.AX.Z.TR

theorem own : ownKnob Try.prog.godebug = none := by kernel_rfl
theorem laid : laidOutB K.P = true := by kernel_rfl
theorem par : parB K.P Try.f5.params.toList = true := by kernel_rfl

theorem law (B : Nat) (xs : List AV) (h : TyArgs K.P B Try.f5.params.toList xs) : SndP K 5 xs (.v (.bool true)) := by
 have h' : TyArgs K.P B [27, 44, 3] xs := h
 obtain ⟨_, _, rfl, h0, _, _, rfl, h1, _, _, rfl, h2, rfl⟩ := h'
 obtain ⟨_, _, rfl, qp0⟩ := tyV_ty Try.underlying27 h0
 obtain ⟨p0, rfl, wp0⟩ := rd27 qp0
 obtain ⟨_, _, rfl, qp1⟩ := tyV_ty Try.underlying44 h1
 obtain ⟨p1, rfl, wp1⟩ := rd44 qp1
 obtain ⟨p2, rfl, wp2⟩ := tyV_int ud3 h2
 exact putsW p0 p1 p2 wp0

set_option maxRecDepth 100000 in
theorem lifted (os : Os) (started : os.Started) (H : Type) (enc : TypeId × Value → H) :
  ReturnsInHanded {} Try.checked os 5 .any (Rows.reorderPutsSpec.pre6 enc Try.prog Try.f5 Rows.reorderPutsRow.domain false) (Rows.reorderPutsSpec.post enc Try.prog Try.f5 false true false false) := by
 refine returnsInHanded_of_change (C := Try.checked) own started (by kernel_rfl) Try.func5
  (ChangeSpec.witness6 (enc := enc) (C := Try.checked) false ⟨#[], #[.agg #[.int .i64 0, .int .i64 0, .int .i64 0, .slice none 0 0, .int .i64 0, .int .u64 0], .agg #[.int .u8 0, .int .u8 0, .bool false, .bool false, .bool false, .bool false, .bool false, .bool false, .bool false, .int .i64 0, .int .u8 0, .int .u8 0, .int .u8 0, .int .u8 0, .int .u8 0, .int .u8 0, .int .u8 0, .int .u8 0, .int .u8 0, .int .u8 0, .int .u8 0, .int .u8 0, .int .u8 0, .int .u8 0, .int .u8 0, .int .u8 0, .int .u8 0, .int .u8 0, .int .u8 0, .int .u8 0, .int .u8 0, .int .u8 0, .int .u8 0, .int .u8 0, .int .i64 0, .int .i64 0, .int .i64 0, .int .u8 0, .bool false, .bool false, .slice none 0 0], .int .i64 0], []⟩ 8 (by kernel_rfl) (by kernel_rfl) (by kernel_rfl) (by kernel_rfl)) ?_
 intro W base args ds gs before hval hW hcnd _
 exact law_contract (C := K) (f := 5) ⟨Try.f5, Try.func5, rfl, by decide +kernel⟩ (fn := Try.f5) (tb := 4) (B := Rows.uptoBulkAll ds) (bk := Rows.uptoBulk) rfl laid par rfl Try.underlying4 (law _) rfl
  (fun ds hds => by match ds, hds with | [d1, d2, d3], _ => rfl) bulks.bulk hval hW (fun d hd => bulks.part_le hd)

theorem over : Rows.ReorderPutsSaid :=
 OpenClaim.holds_of_wide 5 Try.f5 rfl rfl rfl rfl rfl rfl rfl ⟨rfl, rfl, rfl, rfl, rfl⟩ rfl rfl rfl rfl rfl (by kernel_rfl) Try.func5 (by kernel_rfl)
  (of_decide_eq_true (by kernel_rfl)) (by unfold Func.isWrapper; first | (rw [if_pos (by decide +kernel)]; kernel_rfl) | (rw [if_neg (by decide +kernel)]; exact ⟨rfl, rfl⟩))
  (fun os started H enc _ => lifted os started H enc)

end Go.Proofs.Ytnkikepecbjfdaa.reorderPuts
