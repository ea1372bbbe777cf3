/- ReorderOnce: the law returns true whatever its arguments. -/
import Derived.Test.YtnkikepecbjfdaaWalkb
import Derived.Test.YtnkikepecbjfdaaRows
import Derived.WalkKit
import Derived.ProofKit
import Derived.OpenShut
import Derived.JoinedCond
set_option linter.unusedVariables false
set_option linter.unusedSimpArgs false

/-! (TRP) -/

set_option linter.unusedVariables false
set_option linter.unusedSimpArgs false
namespace Go.AX.Z.TR
open Go.AX

/-! ## Numbers -/

theorem dist_e (a b : Int) : window_Dist a b = some (dist a b) := by
  have := dist_bits a b
  unfold window_Dist band
  rw [show IntKind.bits .u64 = 64 from rfl, this]
theorem add_e (a b : Int) : window_Add a b = some ((a + b) % 4096) := by
  have := add_bits a b
  unfold window_Add band
  rw [show IntKind.bits .u64 = 64 from rfl, this]
theorem dist_nn (a b : Int) : 0 ≤ dist a b ∧ dist a b < 4096 := by unfold dist; omega
theorem rest_e (a : Int) : hotspotref17_Rest a = some (a % 4096) := by
  unfold hotspotref17_Rest
  by_cases h : 0 ≤ a
  · have e : a.tmod 4096 = a % 4096 := Int.tmod_eq_emod_of_nonneg h
    rw [e, decide_eq_false (by omega), cond_false]
  · have e : a.tmod 4096 = -((-a) % 4096) := tmod_neg (by omega)
    rw [e]
    by_cases h0 : (-a) % 4096 = 0
    · rw [decide_eq_false (by omega), cond_false]; congr 1; omega
    · rw [decide_eq_true (by omega), cond_true, wrapI (by omega) (by omega)]; congr 1; omega
theorem radd_e (a b : Int) : hotspotref17_Add a b = some ((a + b) % 4096) := by
  unfold hotspotref17_Add
  rw [rest_e, bindS, rest_e, bindS, wrapI (by omega) (by omega), Int.tmod_eq_emod_of_nonneg (by omega)]
  congr 1; omega
theorem rdist_loop (t : Int) (ht : 0 ≤ t ∧ t < 4096) : ∀ (k : Nat) (x d : Int) (n : Nat), 0 ≤ x ∧ x < 4096 → dist x t = k → 0 ≤ d ∧ d + k ≤ 4096 → k < n → hotspotref17_Dist_L2 t n (x, d) = some (d + k)
  | 0, x, d, n + 1, hx, hk, hd, hn => by
    have e : x = t := by unfold dist at hk; omega
    subst e
    rw [hotspotref17_Dist_L2, bne_self_eq_false, cond_false]; simp
  | k + 1, x, d, n + 1, hx, hk, hd, hn => by
    have hne : x ≠ t := by rintro rfl; unfold dist at hk; omega
    have e1 : (IntKind.wrap .i64 (x + 1)).tmod 4096 = (x + 1) % 4096 := by rw [wrapI (by omega) (by omega), Int.tmod_eq_emod_of_nonneg (by omega)]
    rw [hotspotref17_Dist_L2, show (x != t) = true by simpa using hne, cond_true]
    simp only
    have hk1 : ((k + 1 : Nat) : Int) ≤ 4095 := by have := (dist_nn x t).2; omega
    have e2 : dist ((x + 1) % 4096) t = k := by
      unfold dist at hk ⊢
      clear e1
      by_cases hx1 : x + 1 = 4096
      · have : (x + 1) % 4096 = 0 := by omega
        rw [this]; omega
      · have : (x + 1) % 4096 = x + 1 := by omega
        rw [this]; omega
    rw [e1, wrapI (by omega) (by omega), rdist_loop t ht k _ _ n (by omega) e2 (by omega) (by omega)]
    congr 1; omega
theorem rdist_e (a b : Int) : hotspotref17_Dist a b = some (dist a b) := by
  unfold hotspotref17_Dist
  have h := dist_nn (a % 4096) (b % 4096)
  rw [rest_e, bindS, rest_e, bindS, rdist_loop (b % 4096) (by omega) (dist (a % 4096) (b % 4096)).toNat (a % 4096) 0 big (by omega) (by omega) (by omega) (big_lt (by omega)), bindS]
  congr 1
  unfold dist at h ⊢
  omega

/-! ## States -/

abbrev HeldSeq.n (h : HeldSeq) : Int := h.Frame.Head.Seq

def OkE (st sz last : Int) (h : HeldSeq) : Prop := (0 ≤ h.n ∧ h.n < 4096) ∧ (0 ≤ h.At ∧ h.At ≤ 1099511627776) ∧ last < dist st h.n ∧ dist st h.n < sz
instance (st sz last : Int) (h : HeldSeq) : Decidable (OkE st sz last h) := by unfold OkE; infer_instance
def OkL (st sz : Int) : Int → List HeldSeq → Prop
  | _, [] => True
  | last, h :: l => OkE st sz last h ∧ OkL st sz (dist st h.n) l
def decL (st sz : Int) : (last : Int) → (l : List HeldSeq) → Decidable (OkL st sz last l)
  | _, [] => .isTrue trivial
  | last, h :: l => by
    have := decL st sz (dist st h.n) l
    unfold OkL; infer_instance
instance (st sz last : Int) (l : List HeldSeq) : Decidable (OkL st sz last l) := decL st sz last l
def HeadOk (b : Reorder) : Prop := (0 ≤ b.Start ∧ b.Start < 4096) ∧ 1 ≤ b.Size ∧ b.Size ≤ 64 ∧ 0 ≤ b.Hold ∧ b.Hold ≤ 16777216 ∧ (0 ≤ b.Seen.Start ∧ b.Seen.Start < 4096)
instance (b : Reorder) : Decidable (HeadOk b) := by unfold HeadOk; infer_instance
def VR (b : Reorder) : Prop := HeadOk b ∧ OkL b.Start b.Size 0 b.Held
instance (b : Reorder) : Decidable (VR b) := by unfold VR; infer_instance

theorem check_loop (b : Reorder) (hs : b.Held.length < 4611686018427387904) : ∀ (l : List HeldSeq) (i n : Nat) (last : Int), b.Held.drop i = l → l.length < n →
    reorder_Check_L2 b n (last, (i : Int)) = some (if OkL b.Start b.Size last l then Ex.go () else Ex.ret 8)
  | [], i, n + 1, last, h, hn => by
    rw [reorder_Check_L2, ge_dec (drop_n h)]
    simp [OkL]
  | x :: l, i, n + 1, last, h, hn => by
    obtain ⟨h1, h2, h3⟩ := drop_c h
    simp only [List.length_cons] at hn
    rw [reorder_Check_L2, lt_dec h3]
    simp only [cond_true, idxN, h1, bindS, dist_e, reorder_number, reorder_moment]
    have key : ((bif !(decide (0 ≤ x.n) && decide (x.n < 4096)) then some true else some (!(decide (0 ≤ x.At) && decide (x.At ≤ 1099511627776)))).bind fun x25 =>
        bif ((x25 || decide (dist b.Start x.n ≤ last)) || decide (b.Size ≤ dist b.Start x.n)) then some (Ex.ret 8) else reorder_Check_L2 b n (dist b.Start x.n, IntKind.wrap .i64 ((i : Int) + 1))) =
        if OkE b.Start b.Size last x then reorder_Check_L2 b n (dist b.Start x.n, IntKind.wrap .i64 ((i : Int) + 1)) else some (Ex.ret 8) := by
      by_cases ho : OkE b.Start b.Size last x
      · rw [if_pos ho]
        obtain ⟨⟨a1, a2⟩, ⟨a3, a4⟩, a5, a6⟩ := ho
        rw [decide_eq_true a1, decide_eq_true a2, decide_eq_true a3, decide_eq_true a4, decide_eq_false (by omega), decide_eq_false (by omega)]; rfl
      · rw [if_neg ho]
        by_cases h1 : 0 ≤ x.n ∧ x.n < 4096
        · rw [show (!(decide (0 ≤ x.n) && decide (x.n < 4096))) = false by simp; omega, cond_false, bindS]
          have : ((!(decide (0 ≤ x.At) && decide (x.At ≤ 1099511627776)) || decide (dist b.Start x.n ≤ last)) || decide (b.Size ≤ dist b.Start x.n)) = true := by
            simp only [Bool.or_eq_true, Bool.not_eq_true', Bool.and_eq_false_iff, decide_eq_true_eq, decide_eq_false_iff_not]
            unfold OkE at ho
            omega
          rw [this, cond_true]
        · rw [show (!(decide (0 ≤ x.n) && decide (x.n < 4096))) = true by simp; omega, cond_true, bindS]; rfl
    refine key.trans ?_
    by_cases ho : OkE b.Start b.Size last x
    · rw [if_pos ho, wrapN (by omega), check_loop b hs l (i + 1) n _ h2 (by omega)]
      congr 1
      simp only [OkL, ho, true_and]
    · rw [if_neg ho, if_neg (fun q => ho q.1)]

theorem check_e (b : Reorder) (hs : b.Held.length < 4611686018427387904) : reorder_Check b = some (if VR b then 0 else 8) := by
  unfold reorder_Check window_Check window_number reorder_number
  rw [bindS, bindS]
  have hl := check_loop b hs b.Held 0 big 0 rfl (big_lt hs)
  simp only [Int.natCast_zero] at hl
  by_cases h : HeadOk b
  · obtain ⟨⟨a1, a2⟩, a3, a4, a5, a6, a7, a8⟩ := h
    rw [decide_eq_true a1, decide_eq_true a2, decide_eq_false (by omega), decide_eq_false (by omega), decide_eq_false (by omega), decide_eq_false (by omega), decide_eq_true a7, decide_eq_true a8]
    simp only [Bool.and_self, Bool.not_true, Bool.or_self, cond_false, bindS]
    rw [show ((0 : Int) != 0) = false from rfl, cond_false, hl, bindS]
    by_cases ho : OkL b.Start b.Size 0 b.Held
    · rw [if_pos ho, if_pos ⟨⟨⟨a1, a2⟩, a3, a4, a5, a6, a7, a8⟩, ho⟩]; rfl
    · rw [if_neg ho, if_neg (fun q => ho q.2)]; rfl
  · rw [if_neg (fun q => h q.1)]
    by_cases h1 : (((((!(decide (0 ≤ b.Start) && decide (b.Start < 4096))) || decide (b.Size < 1)) || decide (64 < b.Size)) || decide (b.Hold < 0)) || decide (16777216 < b.Hold)) = true
    · rw [h1, cond_true, bindS]; rfl
    · rw [Bool.not_eq_true] at h1
      rw [h1, cond_false]
      simp only [Bool.or_eq_false_iff, Bool.not_eq_false', Bool.and_eq_true, decide_eq_true_eq, decide_eq_false_iff_not] at h1
      have : (decide (0 ≤ b.Seen.Start) && decide (b.Seen.Start < 4096)) = false := by
        simp only [Bool.and_eq_false_iff, decide_eq_false_iff_not]
        unfold HeadOk at h
        omega
      rw [this]; rfl

theorem valid_loop (b : Reorder) (hs : b.Held.length < 4611686018427387904) : ∀ (l : List HeldSeq) (i n : Nat) (last : Int), b.Held.drop i = l → l.length < n → 0 ≤ last → (i = 0 → last = 0) → (0 < i → ∃ y, b.Held[i - 1]? = some y ∧ dist b.Start y.n = last) →
    hotspotref18_Valid_L2 b n (i : Int) = some (if OkL b.Start b.Size last l then Ex.go () else Ex.ret false)
  | [], i, n + 1, last, h, hn, _, _, _ => by
    rw [hotspotref18_Valid_L2, ge_dec (drop_n h)]
    simp [OkL]
  | x :: l, i, n + 1, last, h, hn, hp, hp0, hp1 => by
    obtain ⟨h1, h2, h3⟩ := drop_c h
    simp only [List.length_cons] at hn
    rw [hotspotref18_Valid_L2, lt_dec h3]
    simp only [cond_true, idxN, h1, bindS, rdist_e, hotspotref17_Number, hotspotref18_Moment]
    have kp : (bif decide ((0 : Int) < (i : Int)) then ((idx b.Held (IntKind.wrap .i64 ((i : Int) - 1))).bind fun x32 => some (decide (dist b.Start x.n ≤ dist b.Start x32.Frame.Head.Seq))) else some false) = some (decide (0 < i ∧ dist b.Start x.n ≤ last)) := by
      by_cases hi : 0 < i
      · obtain ⟨y, y1, y2⟩ := hp1 hi
        rw [decide_eq_true (by omega : (0 : Int) < (i : Int)), cond_true, wrapI (by omega) (by omega), show (i : Int) - 1 = ((i - 1 : Nat) : Int) by omega, idxN, y1, bindS, y2]
        congr 1; exact decide_eq_decide.2 (by omega)
      · rw [decide_eq_false (by omega : ¬ (0 : Int) < (i : Int)), cond_false, decide_eq_false (by omega)]
    rw [kp]
    have key : ((bif !(decide (0 ≤ x.n) && decide (x.n ≤ 4095)) then some true else some (!(decide (0 ≤ x.At) && decide (x.At ≤ 1099511627776)))).bind fun x30 =>
        bif x30 then some (Ex.ret false) else
        ((bif (decide (dist b.Start x.n < 1) || decide (b.Size ≤ dist b.Start x.n)) then some true else ((some (decide (0 < i ∧ dist b.Start x.n ≤ last))).bind fun x34 => some x34)).bind fun x35 =>
        bif x35 then some (Ex.ret false) else hotspotref18_Valid_L2 b n (IntKind.wrap .i64 ((i : Int) + 1)))) =
        if OkE b.Start b.Size last x then hotspotref18_Valid_L2 b n (IntKind.wrap .i64 ((i : Int) + 1)) else some (Ex.ret false) := by
      have hnn := dist_nn b.Start x.n
      by_cases ho : OkE b.Start b.Size last x
      · rw [if_pos ho]
        obtain ⟨⟨a1, a2⟩, ⟨a3, a4⟩, a5, a6⟩ := ho
        rw [decide_eq_true a1, decide_eq_true (by omega : x.n ≤ 4095), decide_eq_true a3, decide_eq_true a4, decide_eq_false (by omega), decide_eq_false (by omega), bindS, decide_eq_false (by omega)]; rfl
      · rw [if_neg ho]
        by_cases h1 : 0 ≤ x.n ∧ x.n < 4096
        · rw [show (!(decide (0 ≤ x.n) && decide (x.n ≤ 4095))) = false by simp; omega, cond_false, bindS]
          by_cases h2 : 0 ≤ x.At ∧ x.At ≤ 1099511627776
          · rw [show (!(decide (0 ≤ x.At) && decide (x.At ≤ 1099511627776))) = false by simp; omega, cond_false, bindS]
            by_cases h4 : dist b.Start x.n < 1 ∨ b.Size ≤ dist b.Start x.n
            · rw [show (decide (dist b.Start x.n < 1) || decide (b.Size ≤ dist b.Start x.n)) = true by simp; omega, cond_true, bindS]; rfl
            · rw [show (decide (dist b.Start x.n < 1) || decide (b.Size ≤ dist b.Start x.n)) = false by simp; omega, cond_false, bindS, decide_eq_true (by unfold OkE at ho; omega)]; rfl
          · rw [show (!(decide (0 ≤ x.At) && decide (x.At ≤ 1099511627776))) = true by simp; omega, cond_true]
        · rw [show (!(decide (0 ≤ x.n) && decide (x.n ≤ 4095))) = true by simp; omega, cond_true, bindS]; rfl
    refine key.trans ?_
    by_cases ho : OkE b.Start b.Size last x
    · rw [if_pos ho, wrapN (by omega), valid_loop b hs l (i + 1) n (dist b.Start x.n) h2 (by omega) (dist_nn _ _).1 (fun h => by omega) (fun _ => ⟨x, h1, rfl⟩)]
      congr 1
      simp only [OkL, ho, true_and]
    · rw [if_neg ho, if_neg (fun q => ho q.1)]

theorem valid_e (b : Reorder) (hs : b.Held.length < 4611686018427387904) : hotspotref18_Valid b = some (decide (VR b)) := by
  unfold hotspotref18_Valid hotspotref17_Number
  rw [bindS, bindS]
  have hl := valid_loop b hs b.Held 0 big 0 rfl (big_lt hs) (Int.le_refl _) (fun _ => rfl) (fun h => by omega)
  simp only [Int.natCast_zero] at hl
  by_cases h : HeadOk b
  · obtain ⟨⟨a1, a2⟩, a3, a4, a5, a6, a7, a8⟩ := h
    rw [decide_eq_true a1, decide_eq_true (by omega : b.Start ≤ 4095), decide_eq_false (by omega), decide_eq_false (by omega), decide_eq_false (by omega), decide_eq_false (by omega), decide_eq_true a7, decide_eq_true (by omega : b.Seen.Start ≤ 4095)]
    simp only [Bool.and_self, Bool.not_true, Bool.or_self, cond_false, bindS]
    rw [hl, bindS]
    by_cases ho : OkL b.Start b.Size 0 b.Held
    · rw [if_pos ho, decide_eq_true (show VR b from ⟨⟨⟨a1, a2⟩, a3, a4, a5, a6, a7, a8⟩, ho⟩)]; rfl
    · rw [if_neg ho, decide_eq_false (show ¬ VR b from fun q => ho q.2)]; rfl
  · rw [decide_eq_false (show ¬ VR b from fun q => h q.1)]
    by_cases h1 : (((((!(decide (0 ≤ b.Start) && decide (b.Start ≤ 4095))) || decide (b.Size < 1)) || decide (64 < b.Size)) || decide (b.Hold < 0)) || decide (16777216 < b.Hold)) = true
    · rw [h1, cond_true, bindS]; rfl
    · rw [Bool.not_eq_true] at h1
      rw [h1, cond_false]
      simp only [Bool.or_eq_false_iff, Bool.not_eq_false', Bool.and_eq_true, decide_eq_true_eq, decide_eq_false_iff_not] at h1
      have : (decide (0 ≤ b.Seen.Start) && decide (b.Seen.Start ≤ 4095)) = false := by
        simp only [Bool.and_eq_false_iff, decide_eq_false_iff_not]
        unfold HeadOk at h
        omega
      rw [this]; rfl

/-! ## Copies, comparisons -/

def Fit (l : List HeldSeq) : Prop := l.length ≤ 1000 ∧ ∀ x ∈ l, x.Frame.Body.length ≤ 2400

theorem twin_loop (L : List HeldSeq) (hs : L.length ≤ 1000) : ∀ (l acc : List HeldSeq) (i n : Nat), L.drop i = l → l.length < n → (∀ x ∈ l, x.Frame.Body.length ≤ 2400) → acc.length + l.length ≤ 1000 →
    reorder_twin_L2 L n (acc, (i : Int)) = some (acc ++ l)
  | [], acc, i, n + 1, h, hn, hb, ha => by
    rw [reorder_twin_L2, ge_dec (drop_n h)]; simp
  | x :: l, acc, i, n + 1, h, hn, hb, ha => by
    obtain ⟨h1, h2, h3⟩ := drop_c h
    simp only [List.length_cons] at ha hn
    have hx := hb x (by simp)
    rw [reorder_twin_L2, lt_dec h3]
    simp only [cond_true, idxN, h1, bindS, header_Twin]
    rw [chk_d (by omega), bindS, bindS, chk_d (by omega), bindS, wrapN (by omega), twin_loop L hs l _ (i + 1) n h2 (by omega) (fun y hy => hb y (by simp [hy])) (by simp; omega)]
    simp
theorem twin_e (l : List HeldSeq) (h : Fit l) : reorder_twin l = some l := by
  unfold reorder_twin
  have := twin_loop l h.1 l [] 0 big rfl (big_lt (by have := h.1; omega)) h.2 (by simpa using h.1)
  simp only [Int.natCast_zero, List.nil_append] at this
  rw [this, bindS]
theorem rtwin_loop (b : Reorder) (hs : b.Held.length ≤ 1000) : ∀ (l acc : List HeldSeq) (i n : Nat), b.Held.drop i = l → l.length < n → (∀ x ∈ l, x.Frame.Body.length ≤ 2400) → acc.length + l.length ≤ 1000 →
    hotspotref18_Twin_L2 b n (acc, (i : Int)) = some (acc ++ l)
  | [], acc, i, n + 1, h, hn, hb, ha => by
    rw [hotspotref18_Twin_L2, ge_dec (drop_n h)]; simp
  | x :: l, acc, i, n + 1, h, hn, hb, ha => by
    obtain ⟨h1, h2, h3⟩ := drop_c h
    simp only [List.length_cons] at ha hn
    have hx := hb x (by simp)
    rw [hotspotref18_Twin_L2, lt_dec h3]
    simp only [cond_true, idxN, h1, bindS, hotspotref05_Twin]
    rw [chk_d (by omega), bindS, bindS, chk_d (by omega), bindS, wrapN (by omega), rtwin_loop b hs l _ (i + 1) n h2 (by omega) (fun y hy => hb y (by simp [hy])) (by simp; omega)]
    simp
theorem rtwin_e (b : Reorder) (h : Fit b.Held) : hotspotref18_Twin b = some b := by
  unfold hotspotref18_Twin
  have := rtwin_loop b h.1 b.Held [] 0 big rfl (big_lt (by have := h.1; omega)) h.2 (by simpa using h.1)
  simp only [Int.natCast_zero, List.nil_append] at this
  rw [this, bindS]
theorem sameF (f : Frame) : hotspotref05_Same f f = some true := by
  unfold hotspotref05_Same
  rw [decide_eq_true rfl, sEq_refl]; rfl
theorem sameAll_loop (L : List Frame) (hs : L.length < 4611686018427387904) : ∀ (l : List Frame) (i n : Nat), L.drop i = l → l.length < n → hotspotref05_SameAll_L2 L L n (i : Int) = some (Ex.go ())
  | [], i, n + 1, h, hn => by rw [hotspotref05_SameAll_L2, ge_dec (drop_n h)]; rfl
  | x :: l, i, n + 1, h, hn => by
    obtain ⟨h1, h2, h3⟩ := drop_c h
    simp only [List.length_cons] at hn
    rw [hotspotref05_SameAll_L2, lt_dec h3]
    simp only [cond_true, idxN, h1, bindS, sameF, Bool.not_true, cond_false]
    rw [wrapN (by omega), sameAll_loop L hs l (i + 1) n h2 (by omega)]
theorem sameAll_e (L : List Frame) (hs : L.length < 4611686018427387904) : hotspotref05_SameAll L L = some true := by
  unfold hotspotref05_SameAll
  have := sameAll_loop L hs L 0 big rfl (big_lt hs)
  simp only [Int.natCast_zero] at this
  rw [bne_self_eq_false, cond_false, this, bindS]; rfl
theorem sameR_loop (b : Reorder) (hs : b.Held.length < 4611686018427387904) : ∀ (l : List HeldSeq) (i n : Nat), b.Held.drop i = l → l.length < n → hotspotref18_Same_L2 b b n (i : Int) = some (Ex.go ())
  | [], i, n + 1, h, hn => by rw [hotspotref18_Same_L2, ge_dec (drop_n h)]; rfl
  | x :: l, i, n + 1, h, hn => by
    obtain ⟨h1, h2, h3⟩ := drop_c h
    simp only [List.length_cons] at hn
    rw [hotspotref18_Same_L2, lt_dec h3]
    simp only [cond_true, idxN, h1, bindS, sameF, Bool.not_true, cond_false, bne_self_eq_false]
    rw [wrapN (by omega), sameR_loop b hs l (i + 1) n h2 (by omega)]
theorem sameR_e (b : Reorder) (hs : b.Held.length < 4611686018427387904) : hotspotref18_Same b b = some true := by
  unfold hotspotref18_Same
  have := sameR_loop b hs b.Held 0 big rfl (big_lt hs)
  simp only [Int.natCast_zero] at this
  rw [bne_self_eq_false, bne_self_eq_false, bne_self_eq_false, bne_self_eq_false, decide_eq_true rfl]
  simp only [Bool.not_true, Bool.or_self, cond_false]
  rw [this, bindS]; rfl

theorem great_loop (b : Reorder) (hs : b.Held.length ≤ 1000) : ∀ (l : List HeldSeq) (i n : Nat), b.Held.drop i = l → l.length < n →
    ∃ o, hotspotref18_Great_L2 b n (i : Int) = some o ∧ (o = Ex.ret true ∨ o = Ex.go () ∧ ∀ x ∈ l, x.Frame.Body.length ≤ 2400)
  | [], i, n + 1, h, hn => by
    rw [hotspotref18_Great_L2, ge_dec (drop_n h)]
    exact ⟨_, rfl, .inr ⟨rfl, by simp⟩⟩
  | x :: l, i, n + 1, h, hn => by
    obtain ⟨h1, h2, h3⟩ := drop_c h
    simp only [List.length_cons] at hn
    rw [hotspotref18_Great_L2, lt_dec h3]
    simp only [cond_true, idxN, h1, bindS, hotspotref05_Great]
    by_cases hx : 2400 < x.Frame.Body.length
    · rw [decide_eq_true (by omega), cond_true]; exact ⟨_, rfl, .inl rfl⟩
    · rw [decide_eq_false (by omega), cond_false, wrapN (by omega)]
      obtain ⟨o, e1, e2⟩ := great_loop b hs l (i + 1) n h2 (by omega)
      refine ⟨o, e1, ?_⟩
      rcases e2 with e2 | ⟨e2, e3⟩
      · exact .inl e2
      · refine .inr ⟨e2, fun y hy => ?_⟩
        rcases List.mem_cons.1 hy with rfl | hy
        · omega
        · exact e3 y hy
theorem great_e (b : Reorder) (f : Frame) : ∃ g, hotspotref18_Great b f = some g ∧ (g = false → b.Held.length ≤ 70 ∧ Fit b.Held ∧ f.Body.length ≤ 2400) := by
  unfold hotspotref18_Great
  by_cases h : 70 < b.Held.length
  · rw [decide_eq_true (by omega), cond_true, bindS, cond_true]
    exact ⟨_, rfl, fun h => by cases h⟩
  · rw [decide_eq_false (by omega), cond_false]
    unfold hotspotref05_Great
    by_cases hf : 2400 < f.Body.length
    · rw [decide_eq_true (by omega), bindS, bindS, cond_true]
      exact ⟨_, rfl, fun h => by cases h⟩
    · rw [decide_eq_false (by omega), bindS, bindS, cond_false]
      obtain ⟨o, e1, e2⟩ := great_loop b (by omega) b.Held 0 big rfl (big_lt (by omega))
      simp only [Int.natCast_zero] at e1
      rw [e1, bindS]
      rcases e2 with rfl | ⟨rfl, e3⟩
      · exact ⟨_, rfl, fun h => by cases h⟩
      · exact ⟨_, rfl, fun _ => ⟨by omega, ⟨by omega, e3⟩, by omega⟩⟩
end Go.AX.Z.TR

/-! (TRQ) -/

set_option linter.unusedVariables false
set_option linter.unusedSimpArgs false
namespace Go.AX.Z.TR
open Go.AX

/-! ## Rows of frames, in order -/

def Sortd (S : Int) (l : List HeldSeq) : Prop := l.Pairwise (fun x y => dist S x.n < dist S y.n) ∧ ∀ x ∈ l, 0 ≤ x.n ∧ x.n < 4096
theorem okL_s {st sz : Int} : ∀ {l : List HeldSeq} {last : Int}, OkL st sz last l → Sortd st l ∧ ∀ x ∈ l, last < dist st x.n ∧ dist st x.n < sz ∧ 0 ≤ x.At ∧ x.At ≤ 1099511627776
  | [], last, _ => ⟨⟨.nil, by simp⟩, by simp⟩
  | h :: l, last, ho => by
    obtain ⟨⟨a1, a2, a3, a4⟩, h2⟩ := ho
    obtain ⟨⟨i1, i2⟩, i3⟩ := okL_s h2
    refine ⟨⟨List.pairwise_cons.2 ⟨fun y hy => (i3 y hy).1, i1⟩, fun x hx => ?_⟩, fun x hx => ?_⟩
    · rcases List.mem_cons.1 hx with rfl | hx
      · exact a1
      · exact i2 x hx
    · rcases List.mem_cons.1 hx with rfl | hx
      · exact ⟨a3, a4, a2⟩
      · have := i3 x hx; exact ⟨by omega, this.2⟩
theorem s_okL {st sz : Int} : ∀ {l : List HeldSeq} {last : Int}, Sortd st l → (∀ x ∈ l, last < dist st x.n ∧ dist st x.n < sz ∧ 0 ≤ x.At ∧ x.At ≤ 1099511627776) → OkL st sz last l
  | [], _, _, _ => trivial
  | h :: l, last, hs, hb => by
    obtain ⟨p1, p2⟩ := List.pairwise_cons.1 hs.1
    have b := hb h (by simp)
    exact ⟨⟨hs.2 h (by simp), b.2.2, b.1, b.2.1⟩, s_okL ⟨p2, fun x hx => hs.2 x (by simp [hx])⟩ fun x hx => ⟨p1 x hx, (hb x (by simp [hx])).2⟩⟩
theorem Sortd.tail {S : Int} {h : HeldSeq} {l : List HeldSeq} (hs : Sortd S (h :: l)) : Sortd S l := ⟨(List.pairwise_cons.1 hs.1).2, fun x hx => hs.2 x (by simp [hx])⟩
theorem Sortd.drop {S : Int} {l : List HeldSeq} (hs : Sortd S l) (i : Nat) : Sortd S (l.drop i) := ⟨hs.1.sublist (List.drop_sublist _ _), fun x hx => hs.2 x (List.mem_of_mem_drop hx)⟩
theorem Sortd.idx {S : Int} {l : List HeldSeq} (hs : Sortd S l) {i j : Nat} {x y : HeldSeq} (hij : i < j) (hx : l[i]? = some x) (hy : l[j]? = some y) : dist S x.n < dist S y.n := by
  obtain ⟨h1, e1⟩ := List.getElem?_eq_some_iff.1 hx
  obtain ⟨h2, e2⟩ := List.getElem?_eq_some_iff.1 hy
  have := List.pairwise_iff_getElem.1 hs.1 i j h1 h2 hij
  rw [e1, e2] at this; exact this

/-- A number is the one at a distance. -/
theorem at_dist {S n m : Int} (hn : 0 ≤ n ∧ n < 4096) (hm : 0 ≤ m ∧ m < 4096) : n = (S + m) % 4096 ↔ dist S n = m := by
  unfold dist; omega

/-- Where the elements at a distance begin. -/
def Cut (S t : Int) (l : List HeldSeq) (i : Nat) : Prop := i ≤ l.length ∧ (∀ k x, k < i → l[k]? = some x → dist S x.n < t) ∧ (∀ k x, i ≤ k → l[k]? = some x → t ≤ dist S x.n)

theorem bs_loop (b : Reorder) (L : List HeldSeq) (hL : L.length ≤ 1000) (t : Int) (ht : 0 ≤ t ∧ t < 4096) (hs : Sortd b.Start L) : ∀ (m i j n : Nat), j - i ≤ m → i ≤ j → j ≤ L.length → m < n → (∀ k x, k < i → L[k]? = some x → dist b.Start x.n < t) → (∀ k x, j ≤ k → L[k]? = some x → t ≤ dist b.Start x.n) →
    ∃ r : Nat, slices_BinarySearchFunc_api_HeldSeq_api_HeldSeq_int_L2 L t b n ((i : Int), (j : Int)) = some (r : Int) ∧ Cut b.Start t L r
  | 0, i, j, n + 1, hm, hij, hj, hn, h1, h2 => by
    have e : i = j := by omega
    subst e
    rw [slices_BinarySearchFunc_api_HeldSeq_api_HeldSeq_int_L2, decide_eq_false (by simp), cond_false]
    exact ⟨i, rfl, hj, h1, h2⟩
  | m + 1, i, j, n + 1, hm, hij, hj, hn, h1, h2 => by
    rw [slices_BinarySearchFunc_api_HeldSeq_api_HeldSeq_int_L2]
    by_cases hlt : i < j
    · have ehe : IntKind.wrap .i64 ((IntKind.wrap .u64 (IntKind.wrap .i64 ((i : Int) + (j : Int)))).fdiv (2 ^ (min 1 64))) = (((i + j) / 2 : Nat) : Int) := by
        rw [wrapI (i := (i : Int) + (j : Int)) (by omega) (by omega)]
        have : IntKind.wrap .u64 ((i : Int) + (j : Int)) = (i : Int) + (j : Int) := by
          rw [wrapU]; omega
        rw [this, show ((2 : Int) ^ (min 1 64)) = 2 from rfl, Int.fdiv_eq_ediv_of_nonneg _ (by decide), wrapI (by omega) (by omega)]; omega
      have hh : (i + j) / 2 < L.length := by omega
      obtain ⟨x, hx⟩ : ∃ x, L[(i + j) / 2]? = some x := ⟨_, List.getElem?_eq_getElem hh⟩
      have hd := dist_nn b.Start x.Frame.Head.Seq
      rw [decide_eq_true (by simp; omega), cond_true]
      simp only [ehe]
      rw [idxN, hx, bindS]
      unfold reorder_place_1
      rw [dist_e, bindS, bindS, wrapI (by omega) (by omega)]
      by_cases hxt : dist b.Start x.n < t
      · rw [decide_eq_true (by show dist b.Start x.Frame.Head.Seq - t < 0; have : dist b.Start x.Frame.Head.Seq < t := hxt; omega), cond_true, wrapN (by omega)]
        refine bs_loop b L hL t ht hs m ((i + j) / 2 + 1) j n (by omega) (by omega) hj (by omega) (fun k y hk hy => ?_) h2
        rcases Nat.lt_or_ge k ((i + j) / 2) with q | q
        · have := hs.idx q hy hx; omega
        · have : k = (i + j) / 2 := by omega
          subst this; rw [hx] at hy; cases hy; exact hxt
      · rw [decide_eq_false (by show ¬ dist b.Start x.Frame.Head.Seq - t < 0; have : ¬ dist b.Start x.Frame.Head.Seq < t := hxt; omega), cond_false]
        refine bs_loop b L hL t ht hs m i ((i + j) / 2) n (by omega) (by omega) (by omega) (by omega) h1 (fun k y hk hy => ?_)
        rcases Nat.lt_or_ge ((i + j) / 2) k with q | q
        · have := hs.idx q hx hy; omega
        · have : k = (i + j) / 2 := by omega
          subst this; rw [hx] at hy; cases hy; omega
    · have e : i = j := by omega
      subst e
      rw [decide_eq_false (by simp), cond_false]
      exact ⟨i, rfl, hj, h1, h2⟩

theorem place_e (b : Reorder) (hL : b.Held.length ≤ 1000) (hs : Sortd b.Start b.Held) (n : Int) : ∃ r : Nat, reorder_place b n = some ((r : Int), decide (∃ x ∈ b.Held, dist b.Start x.n = dist b.Start n)) ∧ Cut b.Start (dist b.Start n) b.Held r := by
  unfold reorder_place slices_BinarySearchFunc_api_HeldSeq_api_HeldSeq_int
  obtain ⟨r, e1, e2⟩ := bs_loop b b.Held hL (dist b.Start n) (dist_nn _ _) hs b.Held.length 0 b.Held.length big (by omega) (by omega) (Nat.le_refl _) (big_lt (by omega)) (fun k x hk => by omega) (fun k x hk hx => by have := (List.getElem?_eq_some_iff.1 hx).1; omega)
  simp only [Int.natCast_zero] at e1
  rw [dist_e, bindS, e1, bindS]
  refine ⟨r, ?_, e2⟩
  obtain ⟨c1, c2, c3⟩ := e2
  by_cases hr : r < b.Held.length
  · obtain ⟨x, hx⟩ : ∃ x, b.Held[r]? = some x := ⟨_, List.getElem?_eq_getElem hr⟩
    have hd := dist_nn b.Start x.Frame.Head.Seq
    have hd2 := dist_nn b.Start n
    rw [lt_dec hr, cond_true, idxN, hx, bindS]
    unfold reorder_place_1
    rw [dist_e, bindS, bindS, wrapI (by omega) (by omega), bindS, bindS]
    congr 2
    rw [Bool.eq_iff_iff, decide_eq_true_eq, beq_iff_eq]
    constructor
    · intro h
      exact ⟨x, List.mem_of_getElem? hx, by show dist b.Start x.Frame.Head.Seq = _; omega⟩
    · rintro ⟨y, hy, h⟩
      obtain ⟨k, hk⟩ := List.mem_iff_getElem?.1 hy
      have hxr := c3 r x (Nat.le_refl _) hx
      rcases Nat.lt_trichotomy k r with q | q | q
      · have := c2 k y q hk; omega
      · subst q; rw [hx] at hk; cases hk
        show dist b.Start x.Frame.Head.Seq - _ = 0
        have : dist b.Start x.Frame.Head.Seq = dist b.Start n := h
        omega
      · have := hs.idx q hx hk; omega
  · rw [ge_dec (by omega), cond_false, bindS, bindS]
    congr 2
    symm
    rw [decide_eq_false_iff_not]
    rintro ⟨y, hy, h⟩
    obtain ⟨k, hk⟩ := List.mem_iff_getElem?.1 hy
    have hkl := (List.getElem?_eq_some_iff.1 hk).1
    have := c2 k y (by omega) hk
    omega

/-! ## Moving -/

/-- What is released in order, from distance 'm' on: where it ends, the frames, the others. -/
def relF (S : Int) : Int → List HeldSeq → Int × List Frame × List HeldSeq
  | m, [] => (m, [], [])
  | m, h :: r => if dist S h.n = m then ((relF S (m + 1) r).1, h.Frame :: (relF S (m + 1) r).2.1, (relF S (m + 1) r).2.2) else (m, [], h :: r)

theorem relF_len (S : Int) : ∀ (l : List HeldSeq) (m : Int), (relF S m l).2.1.length + (relF S m l).2.2.length = l.length ∧ (relF S m l).1 = m + (relF S m l).2.1.length
  | [], m => by simp [relF]
  | h :: r, m => by
    unfold relF
    have := relF_len S r (m + 1)
    split
    · simp only [List.length_cons]; omega
    · simp
theorem relF_rest (S : Int) : ∀ (l : List HeldSeq) (m : Int), ∃ k, (relF S m l).2.2 = l.drop k ∧ (relF S m l).2.1 = (l.take k).map (·.Frame) ∧ (relF S m l).1 = m + k ∧ k ≤ l.length ∧ ∀ j x, j < k → l[j]? = some x → dist S x.n = m + j
  | [], m => ⟨0, rfl, rfl, by simp [relF], Nat.le_refl _, fun j x h => by omega⟩
  | h :: r, m => by
    unfold relF
    split
    · rename_i hm
      obtain ⟨k, e1, e2, e3, e4, e5⟩ := relF_rest S r (m + 1)
      refine ⟨k + 1, by simpa using e1, by simp [e2], by simp only [e3]; omega, by simp; omega, fun j x hj hx => ?_⟩
      cases j with
      | zero => simp at hx; subst hx; simp [hm]
      | succ j => have := e5 j x (by omega) (by simpa using hx); omega
    · exact ⟨0, rfl, rfl, by simp, Nat.zero_le _, fun j x h => by omega⟩
theorem relF_gt (S : Int) : ∀ (l : List HeldSeq) (m : Int), Sortd S l → (∀ x ∈ l, m ≤ dist S x.n) → ∀ x ∈ (relF S m l).2.2, (relF S m l).1 < dist S x.n
  | [], m, _, _, x, hx => by simp [relF] at hx
  | h :: r, m, hs, hm, x, hx => by
    unfold relF at hx ⊢
    by_cases he : dist S h.n = m
    · rw [if_pos he] at hx ⊢
      exact relF_gt S r (m + 1) hs.tail (fun y hy => by have := (List.pairwise_cons.1 hs.1).1 y hy; omega) x hx
    · rw [if_neg he] at hx ⊢
      simp only at hx ⊢
      have h1 := hm h (by simp)
      rcases List.mem_cons.1 hx with rfl | hx
      · omega
      · have := (List.pairwise_cons.1 hs.1).1 x hx; omega

theorem L5_e (S : Int) : ∀ (l : List HeldSeq) (m : Int) (n : Nat) (b : Reorder) (out : List Frame), Sortd S l → 0 ≤ m → (∀ x ∈ l, m ≤ dist S x.n) → b.Start = (S + m) % 4096 → l.length < n → out.length + l.length ≤ 1000 →
    reorder_move_L5 n (b, l, out) = some ({ b with Start := (S + (relF S m l).1) % 4096 }, (relF S m l).2.2, out ++ (relF S m l).2.1)
  | [], m, n + 1, b, out, hs, h0, hm, hb, hn, ho => by
    rw [reorder_move_L5]
    simp only [List.length_nil, Int.natCast_zero, relF, List.append_nil]
    rw [decide_eq_false (by omega), cond_false, bindS, cond_false, ← hb]
  | h :: r, m, n + 1, b, out, hs, h0, hm, hb, hn, ho => by
    have hd := dist_nn S h.n
    have hh := hm h (by simp)
    have hr := hs.2 h (by simp)
    rw [reorder_move_L5]
    simp only [List.length_cons] at hn ho ⊢
    rw [decide_eq_true (by omega), cond_true, idx0, List.getElem?_cons_zero, bindS, bindS]
    have hiff : (h.Frame.Head.Seq == b.Start) = decide (dist S h.n = m) := by
      rw [Bool.eq_iff_iff, beq_iff_eq, decide_eq_true_eq, hb]
      exact at_dist hr ⟨h0, by omega⟩
    rw [hiff]
    unfold relF
    by_cases he : dist S h.n = m
    · rw [decide_eq_true he, cond_true, if_pos he, bindS, chk_d (by omega), bindS, add_e, bindS, chk_d (by omega), bindS, List.drop_succ_cons, List.drop_zero]
      have hp := (List.pairwise_cons.1 hs.1).1
      rw [L5_e S r (m + 1) n _ _ hs.tail (by omega) (fun y hy => by have := hp y hy; omega) (by simp only [hb]; omega) (by omega) (by simp; omega)]
      simp
    · rw [decide_eq_false he, cond_false, if_neg he, ← hb]; simp

theorem L2_e (b : Reorder) (i : Nat) (q : Bool) (hi : i ≤ b.Held.length) (hL : b.Held.length ≤ 1000) : ∀ (d k n : Nat) (out : List Frame), k + d = i → d < n → out.length ≤ k → reorder_move_L2 ((i : Int), q) b n (out, (k : Int)) = some (out ++ ((b.Held.take i).drop k).map (·.Frame))
  | 0, k, n + 1, out, hk, hn, ho => by
    rw [reorder_move_L2, Int.toNat_natCast, decide_eq_false (by simp only; omega), cond_false, List.drop_of_length_le (by rw [List.length_take]; omega)]
    simp
  | d + 1, k, n + 1, out, hk, hn, ho => by
    obtain ⟨x, hx⟩ : ∃ x, b.Held[k]? = some x := ⟨_, List.getElem?_eq_getElem (by omega)⟩
    rw [reorder_move_L2, Int.toNat_natCast, decide_eq_true (by simp only; omega), cond_true, chk_t rfl, bindS]
    simp only
    rw [idxN, hx, bindS, chk_d (by omega), bindS, wrapN (by omega), L2_e b i q hi hL d (k + 1) n _ (by omega) (by omega) (by simp; omega)]
    have : (b.Held.take i).drop k = x :: (b.Held.take i).drop (k + 1) := by
      have hlt : k < (b.Held.take i).length := by rw [List.length_take]; omega
      rw [List.drop_eq_getElem_cons hlt]
      congr 1
      have := (List.getElem?_eq_some_iff.1 hx).2
      rw [List.getElem_take, this]
    rw [this]; simp

/-- What moving releases: where it ends, the frames, the others. -/
def mv (S t : Int) (l : List HeldSeq) (i : Nat) : Int × List Frame × List HeldSeq := ((relF S t (l.drop i)).1, (l.take i).map (·.Frame) ++ (relF S t (l.drop i)).2.1, (relF S t (l.drop i)).2.2)

theorem cut_drop {S t : Int} {l : List HeldSeq} {i : Nat} (h : Cut S t l i) : ∀ x ∈ l.drop i, t ≤ dist S x.n := by
  intro x hx
  obtain ⟨k, hk⟩ := List.mem_iff_getElem?.1 hx
  rw [List.getElem?_drop] at hk
  exact h.2.2 (i + k) x (by omega) hk
theorem cut_take {S t : Int} {l : List HeldSeq} {i : Nat} (h : Cut S t l i) : ∀ x ∈ l.take i, dist S x.n < t := by
  intro x hx
  obtain ⟨k, hk⟩ := List.mem_iff_getElem?.1 hx
  rw [List.getElem?_take] at hk
  split at hk
  · rename_i hki; exact h.2.1 k x hki hk
  · cases hk

theorem move_e (b : Reorder) (hL : b.Held.length ≤ 1000) (hs : Sortd b.Start b.Held) (to : Int) (ht : 0 ≤ to ∧ to < 4096) : ∃ i : Nat, Cut b.Start (dist b.Start to) b.Held i ∧
    reorder_move b to = some ((mv b.Start (dist b.Start to) b.Held i).2.1, { b with Start := (b.Start + (mv b.Start (dist b.Start to) b.Held i).1) % 4096 }, (mv b.Start (dist b.Start to) b.Held i).2.2) := by
  obtain ⟨i, e1, e2⟩ := place_e b hL hs to
  refine ⟨i, e2, ?_⟩
  have hi := e2.1
  have hd := dist_nn b.Start to
  unfold reorder_move
  have h2 := L2_e b i (decide (∃ x ∈ b.Held, dist b.Start x.n = dist b.Start to)) hi hL i 0 big [] (by omega) (big_lt (by omega)) (by simp)
  simp only [Int.natCast_zero, List.nil_append, List.drop_zero] at h2
  rw [e1, bindS, chk_t (by simp; omega), bindS, h2, bindS, bindS, Int.toNat_natCast]
  have h5 := L5_e b.Start (b.Held.drop i) (dist b.Start to) big { b with Start := to } ((b.Held.take i).map (·.Frame)) (hs.drop i) hd.1 (cut_drop e2) (by simp only; unfold dist; omega) (big_lt (by simp; omega)) (by simp; omega)
  rw [h5, bindS]; rfl

/-! ## The reference's moving -/

theorem take_loop (L : List HeldSeq) (hL : L.length ≤ 1000) (v : Int) : ∀ (l : List HeldSeq) (i n : Nat) (w o : List HeldSeq) (wf : List Frame), L.drop i = l → l.length < n → wf.length + l.length ≤ 1000 → o.length + l.length ≤ 1000 →
    hotspotref18_take_L2 L v n (wf, o, (i : Int)) = some (wf ++ (l.filter fun x => x.n == v).map (·.Frame), o ++ l.filter fun x => !(x.n == v))
  | [], i, n + 1, w, o, wf, h, hn, h1, h2 => by
    rw [hotspotref18_take_L2, ge_dec (drop_n h)]; simp
  | x :: l, i, n + 1, w, o, wf, h, hn, hw, ho => by
    obtain ⟨h1, h2, h3⟩ := drop_c h
    simp only [List.length_cons] at hn hw ho
    rw [hotspotref18_take_L2, lt_dec h3]
    simp only [cond_true, idxN, h1, bindS]
    by_cases hx : x.n = v
    · have e : (x.Frame.Head.Seq == v) = true := by simpa using hx
      have e' : (x.n == v) = true := e
      rw [e, cond_true, chk_d (by omega), bindS, wrapN (by omega), take_loop L hL v l (i + 1) n w o _ h2 (by omega) (by simp; omega) (by omega), List.filter_cons, List.filter_cons, e']
      simp
    · have e : (x.Frame.Head.Seq == v) = false := by simpa using hx
      have e' : (x.n == v) = false := e
      rw [e, cond_false, chk_d (by omega), bindS, wrapN (by omega), take_loop L hL v l (i + 1) n w _ wf h2 (by omega) (by omega) (by simp; omega), List.filter_cons, List.filter_cons, e']
      simp
theorem take_e (L : List HeldSeq) (hL : L.length ≤ 1000) (v : Int) : hotspotref18_take L v = some ((L.filter fun x => x.n == v).map (·.Frame), L.filter fun x => !(x.n == v)) := by
  unfold hotspotref18_take
  have := take_loop L hL v L 0 big [] [] [] rfl (big_lt (by omega)) (by simpa using hL) (by simpa using hL)
  simp only [Int.natCast_zero, List.nil_append] at this
  rw [this, bindS]

/-- One step: the frame at distance 'm', where it is there. -/
def tk (S m : Int) : List HeldSeq → List Frame × List HeldSeq
  | [] => ([], [])
  | h :: r => if dist S h.n = m then ([h.Frame], r) else ([], h :: r)
theorem take_s (S : Int) (l : List HeldSeq) (m : Int) (hs : Sortd S l) (h0 : 0 ≤ m) (hm : ∀ x ∈ l, m ≤ dist S x.n) (hL : l.length ≤ 1000) : hotspotref18_take l ((S + m) % 4096) = some (tk S m l) := by
  rw [take_e l hL]
  cases l with
  | nil => rfl
  | cons h r =>
    have hp := (List.pairwise_cons.1 hs.1).1
    have key : ∀ x ∈ h :: r, (x.n == (S + m) % 4096) = decide (dist S x.n = m) := by
      intro x hx
      have := dist_nn S x.n
      have := hm x hx
      rw [Bool.eq_iff_iff, beq_iff_eq, decide_eq_true_eq]
      exact at_dist (hs.2 x hx) ⟨h0, by omega⟩
    have hr : ∀ x ∈ r, (x.n == (S + m) % 4096) = false := by
      intro x hx
      rw [key x (by simp [hx]), decide_eq_false]
      have := hp x hx; have := hm h (by simp); omega
    have f1 : (r.filter fun x => x.n == (S + m) % 4096) = [] := List.filter_eq_nil_iff.2 fun x hx => by rw [hr x hx]; decide
    have f2 : (r.filter fun x => !(x.n == (S + m) % 4096)) = r := List.filter_eq_self.2 fun x hx => by rw [hr x hx]; rfl
    rw [List.filter_cons, List.filter_cons, key h (by simp), f1, f2, tk]
    by_cases he : dist S h.n = m
    · rw [decide_eq_true he, if_pos he]; rfl
    · rw [decide_eq_false he, if_neg he]; rfl

def refF (S : Int) : Nat → Int → List HeldSeq → Int × List Frame × List HeldSeq
  | 0, m, l => relF S m l
  | d + 1, m, [] => refF S d (m + 1) []
  | d + 1, m, h :: r => if dist S h.n = m then ((refF S d (m + 1) r).1, h.Frame :: (refF S d (m + 1) r).2.1, (refF S d (m + 1) r).2.2) else refF S d (m + 1) (h :: r)

theorem refF_eq (S : Int) : ∀ (d : Nat) (m : Int) (l : List HeldSeq) (i : Nat), Sortd S l → (∀ x ∈ l, m ≤ dist S x.n) → Cut S (m + d) l i → refF S d m l = mv S (m + d) l i
  | 0, m, l, i, hs, hm, hc => by
    have : i = 0 := by
      rcases Nat.eq_zero_or_pos i with h | h
      · exact h
      · obtain ⟨x, hx⟩ : ∃ x, l[0]? = some x := ⟨_, List.getElem?_eq_getElem (by have := hc.1; omega)⟩
        have := hc.2.1 0 x h hx
        have := hm x (List.mem_of_getElem? hx)
        omega
    subst this
    simp [refF, mv]
  | d + 1, m, [], i, hs, hm, hc => by
    have : i = 0 := by have := hc.1; simpa using this
    subst this
    have := refF_eq S d (m + 1) [] 0 hs (by simp) ⟨by simp, fun k x h => by omega, fun k x _ h => by simp at h⟩
    rw [refF, this, show m + 1 + (d : Int) = m + ((d + 1 : Nat) : Int) by omega]
  | d + 1, m, h :: r, i, hs, hm, hc => by
    have hp := (List.pairwise_cons.1 hs.1).1
    unfold refF
    by_cases he : dist S h.n = m
    · rw [if_pos he]
      obtain ⟨j, rfl⟩ : ∃ j, i = j + 1 := by
        refine ⟨i - 1, ?_⟩
        rcases Nat.eq_zero_or_pos i with q | q
        · have := hc.2.2 0 h (by omega) rfl; omega
        · omega
      have hc' : Cut S (m + 1 + d) r j := ⟨by have := hc.1; simp at this; omega, fun k x hk hx => by have := hc.2.1 (k + 1) x (by omega) (by simpa using hx); omega, fun k x hk hx => by have := hc.2.2 (k + 1) x (by omega) (by simpa using hx); omega⟩
      rw [refF_eq S d (m + 1) r j hs.tail (fun y hy => by have := hp y hy; omega) hc', show m + 1 + (d : Int) = m + ((d + 1 : Nat) : Int) by omega]
      simp [mv]
    · rw [if_neg he]
      have := refF_eq S d (m + 1) (h :: r) i hs (fun y hy => by
        have h1 := hm h (by simp)
        rcases List.mem_cons.1 hy with rfl | hy
        · omega
        · have := hp y hy; omega) (by rw [show m + 1 + (d : Int) = m + ((d + 1 : Nat) : Int) by omega]; exact hc)
      rw [this, show m + 1 + (d : Int) = m + ((d + 1 : Nat) : Int) by omega]

theorem rL2_e (S : Int) : ∀ (N : Nat) (d : Nat) (m : Int) (l : List HeldSeq) (n : Nat) (b : Reorder) (out : List Frame) (dd : Int), d + l.length ≤ N → N < n → (dd = d ∨ d = 0 ∧ dd ≤ 0 ∧ -100000 ≤ dd - l.length) → d ≤ 5000 → Sortd S l → 0 ≤ m → (∀ x ∈ l, m ≤ dist S x.n) → b.Start = (S + m) % 4096 → out.length + l.length ≤ 1000 →
    hotspotref18_move_L2 n (dd, b, l, out) = some ({ b with Start := (S + (refF S d m l).1) % 4096, Held := (refF S d m l).2.2 }, out ++ (refF S d m l).2.1)
  | N, d, m, l, n + 1, b, out, dd, hN, hn, hdd, hd5, hs, h0, hm, hb, ho => by
    rw [hotspotref18_move_L2]
    simp only
    rw [hb, take_s S l m hs h0 hm (by omega), bindS]
    cases d with
    | zero =>
      have hdd0 : dd ≤ 0 ∧ -100000 ≤ dd - l.length := by rcases hdd with h | h <;> omega
      rw [decide_eq_true (by omega), Bool.true_and]
      cases l with
      | nil =>
        simp only [tk, List.length_nil, Int.natCast_zero, beq_self_eq_true, cond_true, refF, relF, List.append_nil]
      | cons h r =>
        rw [tk]
        by_cases he : dist S h.n = m
        · have hp := (List.pairwise_cons.1 hs.1).1
          simp only [List.length_cons] at hN ho hdd0
          rw [if_pos he]
          simp only [List.length_cons, List.length_nil]
          rw [show ((((0 + 1 : Nat)) : Int) == 0) = false from rfl, cond_false, chk_d (by omega), bindS, radd_e, bindS, wrapI (by omega) (by omega)]
          obtain ⟨N, rfl⟩ : ∃ q, N = q + 1 := ⟨N - 1, by omega⟩
          rw [rL2_e S N 0 (m + 1) r n _ _ _ (by omega) (by omega) (.inr ⟨rfl, by omega, by omega⟩) (by omega) hs.tail (by omega) (fun y hy => by have := hp y hy; omega) (by simp only; omega) (by simp; omega)]
          simp only [refF]
          rw [show relF S m (h :: r) = ((relF S (m + 1) r).1, h.Frame :: (relF S (m + 1) r).2.1, (relF S (m + 1) r).2.2) by rw [relF, if_pos he]]
          simp
        · rw [if_neg he]
          simp only [List.length_nil, Int.natCast_zero, beq_self_eq_true, cond_true, refF]
          rw [show relF S m (h :: r) = (m, [], h :: r) by rw [relF, if_neg he]]
          simp [hb]
    | succ d =>
      have hdd1 : dd = ((d + 1 : Nat) : Int) := by rcases hdd with h | h <;> omega
      subst hdd1
      rw [decide_eq_false (by omega), Bool.false_and, cond_false]
      obtain ⟨N, rfl⟩ : ∃ q, N = q + 1 := ⟨N - 1, by omega⟩
      have e1 : IntKind.wrap .i64 (((d + 1 : Nat) : Int) - 1) = (d : Int) := by rw [wrapI (by omega) (by omega)]; omega
      cases l with
      | nil =>
        simp only [List.length_nil] at hN ho
        have htk : tk S m ([] : List HeldSeq) = ([], []) := rfl
        rw [htk]
        simp only
        rw [chk_d (by simp; omega), bindS, radd_e, bindS, e1, rL2_e S N d (m + 1) [] n _ _ _ (by simp; omega) (by omega) (.inl rfl) (by omega) hs (by omega) (by simp) (by simp only; omega) (by simp; omega)]
        simp [refF]
      | cons h r =>
        have hp := (List.pairwise_cons.1 hs.1).1
        rw [tk]
        simp only [List.length_cons] at hN ho
        by_cases he : dist S h.n = m
        · rw [if_pos he]
          simp only [List.length_cons, List.length_nil]
          rw [chk_d (by omega), bindS, radd_e, bindS, e1, rL2_e S N d (m + 1) r n _ _ _ (by omega) (by omega) (.inl rfl) (by omega) hs.tail (by omega) (fun y hy => by have := hp y hy; omega) (by simp only; omega) (by simp; omega)]
          rw [show refF S (d + 1) m (h :: r) = ((refF S d (m + 1) r).1, h.Frame :: (refF S d (m + 1) r).2.1, (refF S d (m + 1) r).2.2) by rw [refF, if_pos he]]
          simp
        · rw [if_neg he]
          simp only [List.length_nil]
          have h1 := hm h (by simp)
          rw [chk_d (by omega), bindS, radd_e, bindS, e1, rL2_e S N d (m + 1) (h :: r) n _ _ _ (by simp; omega) (by omega) (.inl rfl) (by omega) hs (by omega) (fun y hy => by
            rcases List.mem_cons.1 hy with rfl | hy
            · omega
            · have := hp y hy; omega) (by simp only; omega) (by simp; omega)]
          rw [show refF S (d + 1) m (h :: r) = refF S d (m + 1) (h :: r) by rw [refF, if_neg he]]
          simp

/-! The reference's sorting. -/
theorem rL9_e (d39 : Reorder × List Frame) (v : Int) (hL : d39.1.Held.length ≤ 1000) : ∀ (l : List HeldSeq) (i n : Nat) (acc : List HeldSeq), d39.1.Held.drop i = l → l.length < n → acc.length + l.length ≤ 100000 → hotspotref18_move_L9 d39 v n (acc, (i : Int)) = some (acc ++ l.filter fun x => x.n == v)
  | [], i, n + 1, acc, h, hn, ha => by rw [hotspotref18_move_L9, ge_dec (drop_n h)]; simp
  | x :: l, i, n + 1, acc, h, hn, ha => by
    obtain ⟨h1, h2, h3⟩ := drop_c h
    simp only [List.length_cons] at hn ha
    rw [hotspotref18_move_L9, lt_dec h3]
    simp only [cond_true, idxN, h1, bindS]
    by_cases hx : x.n = v
    · have e : (x.Frame.Head.Seq == v) = true := by simpa using hx
      have e' : (x.n == v) = true := e
      rw [e, cond_true, chk_d (by omega), bindS, wrapN (by omega), rL9_e d39 v hL l (i + 1) n _ h2 (by omega) (by simp; omega), List.filter_cons, e']
      simp
    · have e : (x.Frame.Head.Seq == v) = false := by simpa using hx
      have e' : (x.n == v) = false := e
      rw [e, cond_false, wrapN (by omega), rL9_e d39 v hL l (i + 1) n _ h2 (by omega) (by omega), List.filter_cons, e']
      simp
theorem filt_split (S : Int) : ∀ (l : List HeldSeq) (c : Int), Sortd S l → (l.filter fun x => decide (dist S x.n < c + 1)) = (l.filter fun x => decide (dist S x.n < c)) ++ l.filter fun x => decide (dist S x.n = c)
  | [], c, _ => rfl
  | h :: r, c, hs => by
    have hp := (List.pairwise_cons.1 hs.1).1
    have ih := filt_split S r c hs.tail
    rw [List.filter_cons, List.filter_cons, List.filter_cons]
    rcases Int.lt_trichotomy (dist S h.n) c with q | q | q
    · rw [decide_eq_true (by omega), decide_eq_true q, decide_eq_false (by omega)]
      simp only [if_true, Bool.false_eq_true, if_false, List.cons_append, ih]
    · have hn : ∀ x ∈ r, ¬ dist S x.n < c := fun x hx => by have := hp x hx; omega
      have f1 : (r.filter fun x => decide (dist S x.n < c)) = [] := List.filter_eq_nil_iff.2 fun x hx => by simpa using (by have := hn x hx; omega)
      rw [decide_eq_true (by omega), decide_eq_false (by omega), decide_eq_true q]
      simp only [if_true, Bool.false_eq_true, if_false, ih, f1, List.nil_append]
    · rw [decide_eq_false (by omega), decide_eq_false (by omega), decide_eq_false (by omega)]
      simp only [Bool.false_eq_true, if_false, ih]
theorem rL5_e (S M : Int) (d39 : Reorder × List Frame) (hst : d39.1.Start = (S + M) % 4096) (hM : 0 ≤ M) (hs : Sortd S d39.1.Held) (hk : ∀ x ∈ d39.1.Held, M ≤ dist S x.n ∧ dist S x.n < M + 64) (hL : d39.1.Held.length ≤ 1000) :
    ∀ (k i n : Nat), i + k = 64 → k < n → hotspotref18_move_L5 d39 n ((d39.1.Held.filter fun x => decide (dist S x.n < M + i)), (i : Int)) = some d39.1.Held
  | 0, i, n + 1, hi, hn => by
    rw [hotspotref18_move_L5, decide_eq_false (by simp only; omega), cond_false]
    congr 1
    exact List.filter_eq_self.2 fun x hx => by have := hk x hx; simp; omega
  | k + 1, i, n + 1, hi, hn => by
    have hfl := List.length_filter_le (fun x => decide (dist S x.n < M + i)) d39.1.Held
    have h9 := rL9_e d39 ((S + (M + i)) % 4096) hL d39.1.Held 0 big (d39.1.Held.filter fun x => decide (dist S x.n < M + i)) rfl (big_lt (by omega)) (by omega)
    simp only [Int.natCast_zero] at h9
    rw [hotspotref18_move_L5, decide_eq_true (by simp only; omega), cond_true, radd_e, bindS, hst]
    simp only
    rw [show ((S + M) % 4096 + (i : Int)) % 4096 = (S + (M + i)) % 4096 by omega, h9, bindS, bindS, wrapN (by omega)]
    have e : (d39.1.Held.filter fun x => x.n == (S + (M + i)) % 4096) = d39.1.Held.filter fun x => decide (dist S x.n = M + i) := by
      refine List.filter_congr fun x hx => ?_
      have h1 := dist_nn S x.n
      have h2 := hk x hx
      have h3 := hs.2 x hx
      rw [Bool.eq_iff_iff, beq_iff_eq, decide_eq_true_eq]
      unfold dist at h1 h2 ⊢
      omega
    rw [e, ← filt_split S _ _ hs, show M + (i : Int) + 1 = M + ((i + 1 : Nat) : Int) by omega]
    exact rL5_e S M d39 hst hM hs hk hL k (i + 1) n (by omega) (by omega)

theorem rmove_e (b : Reorder) (hL : b.Held.length ≤ 1000) (hs : Sortd b.Start b.Held) (hb : 0 ≤ b.Start ∧ b.Start < 4096) (t : Nat) (ht : t ≤ 4096) {i : Nat} (hc : Cut b.Start t b.Held i) (hk : ∀ x ∈ (mv b.Start t b.Held i).2.2, dist b.Start x.n < (mv b.Start t b.Held i).1 + 64) :
    hotspotref18_move b (t : Int) = some ((mv b.Start t b.Held i).2.1, { b with Start := (b.Start + (mv b.Start t b.Held i).1) % 4096, Held := (mv b.Start t b.Held i).2.2 }) := by
  unfold hotspotref18_move
  have h2 := rL2_e b.Start (t + b.Held.length) t 0 b.Held big b [] t (Nat.le_refl _) (big_lt (by omega)) (.inl rfl) (by omega) hs (Int.le_refl _) (fun x _ => (dist_nn _ _).1) (by omega) (by simpa using hL)
  have hf := refF_eq b.Start t 0 b.Held i hs (fun x _ => (dist_nn _ _).1) (by simpa using hc)
  rw [Int.zero_add] at hf
  rw [hf] at h2
  obtain ⟨k, e1, e2, e3, e4, e5⟩ := relF_rest b.Start (b.Held.drop i) (t : Int)
  have hrest : (mv b.Start t b.Held i).2.2 = (b.Held.drop i).drop k := e1
  have hM : (mv b.Start t b.Held i).1 = (t : Int) + k := e3
  have h5 := rL5_e b.Start (mv b.Start t b.Held i).1 ({ b with Start := (b.Start + (mv b.Start t b.Held i).1) % 4096, Held := (mv b.Start t b.Held i).2.2 }, [] ++ (mv b.Start t b.Held i).2.1) rfl (by omega) (by simp only; rw [hrest]; exact (hs.drop i).drop k)
    (by
      simp only
      intro x hx
      have := relF_gt b.Start (b.Held.drop i) t (hs.drop i) (cut_drop hc) x hx
      exact ⟨by show (relF b.Start t (b.Held.drop i)).1 ≤ _; omega, hk x hx⟩) (by simp only; rw [hrest]; simp; omega) 64 0 big (by omega) (big_lt (by omega))
  rw [h2, bindS]
  have hnil : (List.filter (fun x => decide (dist b.Start x.n < (mv b.Start t b.Held i).1 + ((0 : Nat) : Int))) (mv b.Start t b.Held i).2.2) = [] := by
    refine List.filter_eq_nil_iff.2 fun x hx => ?_
    have := relF_gt b.Start (b.Held.drop i) t (hs.drop i) (cut_drop hc) x hx
    have : (mv b.Start t b.Held i).1 < dist b.Start x.n := this
    simp; omega
  simp only at h5
  rw [hnil] at h5
  simp only [Int.natCast_zero] at h5
  rw [h5, bindS]; simp
end Go.AX.Z.TR

/-! (TRA) -/

namespace Go.AX.Z.TR
open Go.AX
theorem alive_e : hotspotlaw18_alive = some true := by decide +kernel
end Go.AX.Z.TR

/-! (TRR) -/

set_option linter.unusedVariables false
set_option linter.unusedSimpArgs false
namespace Go.AX.Z.TR
open Go.AX

/-! ## Bar, Expire, Due -/

theorem number_e (n : Int) : reorder_number n = some (decide (0 ≤ n ∧ n < 4096)) := by
  unfold reorder_number; congr 1
  rw [Bool.eq_iff_iff]; simp
theorem rnumber_e (n : Int) : hotspotref17_Number n = some (decide (0 ≤ n ∧ n < 4096)) := by
  unfold hotspotref17_Number; congr 1
  rw [Bool.eq_iff_iff]; simp; omega
theorem moment_e (n : Int) : reorder_moment n = some (decide (0 ≤ n ∧ n ≤ 1099511627776)) := by
  unfold reorder_moment; congr 1
  rw [Bool.eq_iff_iff]; simp
theorem rmoment_e (n : Int) : hotspotref18_Moment n = some (decide (0 ≤ n ∧ n ≤ 1099511627776)) := by
  unfold hotspotref18_Moment; congr 1
  rw [Bool.eq_iff_iff]; simp

theorem VR.sortd {b : Reorder} (h : VR b) : Sortd b.Start b.Held := (okL_s h.2).1
theorem VR.held {b : Reorder} (h : VR b) : ∀ x ∈ b.Held, 0 < dist b.Start x.n ∧ dist b.Start x.n < b.Size ∧ 0 ≤ x.At ∧ x.At ≤ 1099511627776 := (okL_s h.2).2

/-- What moving a state gives. -/
structure Mvd (b : Reorder) (t : Int) (out : List Frame) (nx : Reorder) (i k : Nat) : Prop where
  cut : Cut b.Start t b.Held i
  nx : nx = { b with Start := (b.Start + (t + k)) % 4096, Held := (b.Held.drop i).drop k }
  out : out = ((b.Held.take (i + k))).map (·.Frame)
  le : i + k ≤ b.Held.length
  run : ∀ j x, j < k → b.Held[i + j]? = some x → dist b.Start x.n = t + j
  gt : ∀ x ∈ (b.Held.drop i).drop k, t + k < dist b.Start x.n

theorem mvd_of {b : Reorder} (hs : Sortd b.Start b.Held) {t : Int} {i : Nat} (hc : Cut b.Start t b.Held i) : ∃ k, Mvd b t (mv b.Start t b.Held i).2.1 { b with Start := (b.Start + (mv b.Start t b.Held i).1) % 4096, Held := (mv b.Start t b.Held i).2.2 } i k := by
  obtain ⟨k, e1, e2, e3, e4, e5⟩ := relF_rest b.Start (b.Held.drop i) t
  rw [List.length_drop] at e4
  refine ⟨k, hc, ?_, ?_, by have := hc.1; omega, fun j x hj hx => e5 j x hj (by rw [List.getElem?_drop]; exact hx), fun x hx => ?_⟩
  · simp only [mv]; rw [e1, e3]
  · simp only [mv]; rw [e2, List.take_add, List.map_append]
  · have := relF_gt b.Start (b.Held.drop i) t (hs.drop i) (cut_drop hc) x (by rw [e1]; exact hx)
    rw [e3] at this; exact this

/-- Moving, both ways. -/
theorem mv_e (b : Reorder) (hL : b.Held.length ≤ 1000) (hs : Sortd b.Start b.Held) (to : Int) (ht : 0 ≤ to ∧ to < 4096) : ∃ out nx i k z, Mvd b (dist b.Start to) out nx i k ∧ reorder_move b to = some z ∧ z.1 = out ∧ { z.2.1 with Held := z.2.2 } = nx := by
  obtain ⟨i, hc, e⟩ := move_e b hL hs to ht
  obtain ⟨k, hk⟩ := mvd_of hs hc
  exact ⟨_, _, i, k, _, hk, e, rfl, rfl⟩
theorem rmv_e {b : Reorder} (hL : b.Held.length ≤ 1000) (hs : Sortd b.Start b.Held) (hb : 0 ≤ b.Start ∧ b.Start < 4096) {t : Int} (ht : 0 ≤ t ∧ t ≤ 4096) {out : List Frame} {nx : Reorder} {i k : Nat} (h : Mvd b t out nx i k) (hk : ∀ x ∈ b.Held, dist b.Start x.n < t + 64) : hotspotref18_move b t = some (out, nx) := by
  obtain ⟨T, rfl⟩ : ∃ T : Nat, t = (T : Int) := ⟨t.toNat, by omega⟩
  obtain ⟨k', e1, e2, e3, e4, e5⟩ := relF_rest b.Start (b.Held.drop i) (T : Int)
  have hle : (T : Int) ≤ (mv b.Start T b.Held i).1 := by show (T : Int) ≤ (relF b.Start T (b.Held.drop i)).1; omega
  have := rmove_e b hL hs hb T (by omega) h.cut (fun x hx => by
    have hx : x ∈ (relF b.Start T (b.Held.drop i)).2.2 := hx
    rw [e1] at hx
    have := hk x (List.mem_of_mem_drop (List.mem_of_mem_drop hx)); omega)
  rw [this]
  obtain ⟨k2, hk2⟩ := mvd_of hs h.cut
  have hkk : k2 = k := by
    have a1 := h.le
    have a2 := hk2.le
    rcases Nat.lt_trichotomy k2 k with q | q | q
    · obtain ⟨x, hx⟩ : ∃ x, b.Held[i + k2]? = some x := ⟨_, List.getElem?_eq_getElem (by omega)⟩
      have h1 := h.run k2 x q hx
      have h2 := hk2.gt x (by
        refine List.mem_of_getElem? (i := 0) ?_
        rw [List.getElem?_drop, List.getElem?_drop]; exact hx)
      omega
    · exact q
    · obtain ⟨x, hx⟩ : ∃ x, b.Held[i + k]? = some x := ⟨_, List.getElem?_eq_getElem (by omega)⟩
      have h1 := hk2.run k x q hx
      have h2 := h.gt x (by
        refine List.mem_of_getElem? (i := 0) ?_
        rw [List.getElem?_drop, List.getElem?_drop]; exact hx)
      omega
  subst hkk
  rw [hk2.nx, hk2.out, h.nx, h.out]

theorem Mvd.len {b : Reorder} {t : Int} {out : List Frame} {nx : Reorder} {i k : Nat} (h : Mvd b t out nx i k) : out.length + nx.Held.length = b.Held.length := by
  have := h.le
  rw [h.out, h.nx]
  simp only [List.length_map, List.length_take, List.length_drop]
  omega

/-- Both answer alike: the frames, the state and the error. -/
theorem bar_e (b : Reorder) (hf : Fit b.Held) (n : Int) : ∃ r : List Frame × Reorder × Int, reorder_Bar b n = some r ∧ hotspotref18_Bar b n = some r ∧ r.1.length ≤ 1000 ∧ r.2.1.Held.length ≤ 1000 := by
  unfold reorder_Bar hotspotref18_Bar
  have hL := hf.1
  rw [check_e b (by omega), bindS, valid_e b (by omega), bindS]
  by_cases hv : VR b
  · rw [if_pos hv, bne_self_eq_false, cond_false, decide_eq_true hv, Bool.not_true, cond_false, number_e, bindS, rnumber_e, bindS]
    by_cases hn : 0 ≤ n ∧ n < 4096
    · rw [decide_eq_true hn, Bool.not_true, cond_false, cond_false, twin_e _ hf, bindS, dist_e, bindS, rdist_e, bindS]
      by_cases hd : 2048 ≤ dist b.Start n
      · rw [decide_eq_true hd, cond_true, cond_true]
        exact ⟨_, rfl, rfl, by simp, hL⟩
      · rw [decide_eq_false hd, cond_false, cond_false]
        obtain ⟨out, nx, i, k, z, h1, h2, rfl, rfl⟩ := mv_e b hL hv.sortd n hn
        have hr := rmv_e hL hv.sortd hv.1.1 ⟨(dist_nn _ _).1, by omega⟩ h1 (fun x hx => by have := hv.held x hx; have := hv.1.2.2.1; have := (dist_nn b.Start n).1; omega)
        have hlen := h1.len
        rw [show ({ b with Held := b.Held } : Reorder) = b from rfl, h2, bindS, hr, bindS]
        exact ⟨_, rfl, rfl, by simp only; omega, by simp only at hlen ⊢; omega⟩
    · rw [decide_eq_false hn, Bool.not_false, cond_true, cond_true]
      exact ⟨_, rfl, rfl, by simp, by simp [Reorder.z]⟩
  · rw [if_neg hv, decide_eq_false hv]
    exact ⟨_, rfl, rfl, by simp, by simp [Reorder.z]⟩

def due (hold now : Int) (x : HeldSeq) : Bool := decide (x.At + hold ≤ now)
/-- The last one that is due. -/
def ld (hold now : Int) (l : List HeldSeq) : Option HeldSeq := (l.filter (due hold now)).getLast?
theorem ld_mem {hold now : Int} {l : List HeldSeq} {x : HeldSeq} (h : ld hold now l = some x) : x ∈ l ∧ due hold now x = true := by
  have := List.mem_of_getLast? h
  exact List.mem_filter.1 this
theorem ld_snoc (hold now : Int) (l : List HeldSeq) (x : HeldSeq) : ld hold now (l ++ [x]) = if due hold now x = true then some x else ld hold now l := by
  unfold ld
  rw [List.filter_append, List.filter_cons, List.filter_nil]
  split
  · simp
  · simp
theorem ld_cons (hold now : Int) (x : HeldSeq) (l : List HeldSeq) : ld hold now (x :: l) = match ld hold now l with | some y => some y | none => if due hold now x = true then some x else none := by
  unfold ld
  rw [List.filter_cons]
  split
  · rename_i h
    cases hl : (l.filter (due hold now)).getLast? with
    | none =>
      have : l.filter (due hold now) = [] := List.getLast?_eq_none_iff.1 hl
      rw [this]; rfl
    | some y =>
      rw [List.getLast?_cons, hl]; rfl
  · cases hl : (l.filter (due hold now)).getLast? with
    | none => rfl
    | some y => rfl

theorem exp0_e (b : Reorder) (now : Int) (hv : VR b) : ∀ c, c ≤ b.Held.length → reorder_Expire_L0 b now b.Held c = match ld b.Hold now (b.Held.take c) with
    | some x => ((window_Add x.Frame.Head.Seq 1).bind fun y => ((reorder_move { b with Held := b.Held } y).bind fun z => some (Ex.ret (z.1, { z.2.1 with Held := z.2.2 }, 0))))
    | none => some (Ex.go ())
  | 0, _ => by rw [reorder_Expire_L0, List.take_zero]; rfl
  | c + 1, hc => by
    have hlt : c < b.Held.length := by omega
    obtain ⟨x, hx⟩ : ∃ x, b.Held[c]? = some x := ⟨_, List.getElem?_eq_getElem hlt⟩
    have e : b.Held.take (c + 1) = b.Held.take c ++ [x] := by
      rw [List.take_add_one, hx]; rfl
    have hb := hv.held x (List.mem_of_getElem? hx)
    have hh := hv.1
    rw [reorder_Expire_L0, hx, bindS, e, ld_snoc, wrapI (i := x.At + b.Hold) (by unfold HeadOk at hh; omega) (by unfold HeadOk at hh; omega)]
    unfold due
    by_cases hd : x.At + b.Hold ≤ now
    · rw [decide_eq_true hd, cond_true, if_pos rfl]
    · rw [decide_eq_false hd, cond_false, if_neg (by decide), exp0_e b now hv c (by omega)]

theorem exp3_e (b : Reorder) (now : Int) (hv : VR b) (hL : b.Held.length ≤ 1000) : ∀ (l : List HeldSeq) (i n : Nat) (d : Int), b.Held.drop i = l → l.length < n → hotspotref18_Expire_L3 b now n (d, (i : Int)) = some (match ld b.Hold now l with | some x => dist b.Start x.n + 1 | none => d)
  | [], i, n + 1, d, h, hn => by rw [hotspotref18_Expire_L3, ge_dec (drop_n h)]; rfl
  | x :: l, i, n + 1, d, h, hn => by
    obtain ⟨h1, h2, h3⟩ := drop_c h
    simp only [List.length_cons] at hn
    have hb := hv.held x (List.mem_of_getElem? h1)
    have hh := hv.1
    have hnn := dist_nn b.Start x.n
    rw [hotspotref18_Expire_L3, lt_dec h3]
    simp only [cond_true, idxN, h1, bindS]
    rw [wrapI (i := x.At + b.Hold) (by unfold HeadOk at hh; omega) (by unfold HeadOk at hh; omega), ld_cons, rdist_e, bindS, wrapN (by omega)]
    unfold due
    by_cases hd : x.At + b.Hold ≤ now
    · rw [decide_eq_true hd, cond_true, exp3_e b now hv hL l (i + 1) n _ h2 (by omega), wrapI (by show -4611686018427387904 ≤ dist b.Start x.n + 1; omega) (by show dist b.Start x.n + 1 < _; omega)]
      cases ld b.Hold now l <;> rfl
    · rw [decide_eq_false hd, cond_false, exp3_e b now hv hL l (i + 1) n _ h2 (by omega)]
      cases ld b.Hold now l <;> rfl

/-- What Expire gives. -/
inductive Expd (b : Reorder) (now : Int) (r : List Frame × Reorder × Int) : Prop
  | bad (h : ¬ VR b) (e : r = ([], Reorder.z, 8))
  | arg (h : VR b) (h2 : ¬ (0 ≤ now ∧ now ≤ 1099511627776)) (e : r = ([], Reorder.z, 2))
  | quiet (h : VR b) (h1 : 0 ≤ now ∧ now ≤ 1099511627776) (h2 : ld b.Hold now b.Held = none) (e : r = ([], b, 0))
  | move (h : VR b) (h1 : 0 ≤ now ∧ now ≤ 1099511627776) (x : HeldSeq) (h2 : ld b.Hold now b.Held = some x) (i k : Nat) (hm : Mvd b (dist b.Start x.n + 1) r.1 r.2.1 i k) (e : r.2.2 = 0)

theorem expire_e (b : Reorder) (hf : Fit b.Held) (now : Int) : ∃ r : List Frame × Reorder × Int, reorder_Expire b now = some r ∧ hotspotref18_Expire b now = some r ∧ r.1.length ≤ 1000 ∧ r.2.1.Held.length ≤ 1000 ∧ Expd b now r := by
  unfold reorder_Expire hotspotref18_Expire
  have hL := hf.1
  rw [check_e b (by omega), bindS, valid_e b (by omega), bindS]
  by_cases hv : VR b
  · rw [if_pos hv, bne_self_eq_false, cond_false, decide_eq_true hv, Bool.not_true, cond_false, moment_e, bindS, rmoment_e, bindS]
    by_cases hn : 0 ≤ now ∧ now ≤ 1099511627776
    · have h3 := exp3_e b now hv hL b.Held 0 big 0 rfl (big_lt (by omega))
      simp only [Int.natCast_zero] at h3
      rw [decide_eq_true hn, Bool.not_true, cond_false, cond_false, twin_e _ hf, bindS, chk_d (by omega), bindS, exp0_e b now hv _ (Nat.le_refl _), List.take_length, h3, bindS]
      cases hld : ld b.Hold now b.Held with
      | none =>
        simp only
        rw [bindS, Ex.k_go']
        exact ⟨_, rfl, rfl, by simp, hL, .quiet hv hn hld rfl⟩
      | some x =>
        obtain ⟨hx, hdue⟩ := ld_mem hld
        have hb := hv.held x hx
        have hsq := hv.sortd.2 x hx
        have hh := hv.1
        have h64 : dist b.Start x.n < 64 := by have := hh.2.2.1; omega
        have hto : dist b.Start ((x.n + 1) % 4096) = dist b.Start x.n + 1 := by unfold dist at h64 ⊢; omega
        obtain ⟨out, nx, i, k, z, m1, m2, rfl, rfl⟩ := mv_e b hL hv.sortd ((x.n + 1) % 4096) (by omega)
        rw [hto] at m1
        have hr := rmv_e hL hv.sortd hv.1.1 ⟨by omega, by omega⟩ m1 (fun y hy => by have := hv.held y hy; have := hh.2.2.1; omega)
        have hlen := m1.len
        simp only
        rw [add_e, bindS, show ({ b with Held := b.Held } : Reorder) = b from rfl, show (x.Frame.Head.Seq + 1) % 4096 = (x.n + 1) % 4096 from rfl, m2, bindS, bindS, Ex.k_ret', show (dist b.Start x.n + 1 == 0) = false by rw [beq_eq_false_iff_ne]; omega, cond_false, hr, bindS]
        exact ⟨_, rfl, rfl, by simp only; omega, by simp only at hlen ⊢; omega, .move hv hn x hld i k m1 rfl⟩
    · rw [decide_eq_false hn, Bool.not_false, cond_true, cond_true]
      exact ⟨_, rfl, rfl, by simp, by simp [Reorder.z], .arg hv hn rfl⟩
  · rw [if_neg hv, decide_eq_false hv]
    exact ⟨_, rfl, rfl, by simp, by simp [Reorder.z], .bad hv rfl⟩

/-- The least time. -/
def mn (a : Int) : List HeldSeq → Int
  | [] => a
  | x :: l => mn (if x.At < a then x.At else a) l
theorem mn_le : ∀ (l : List HeldSeq) (a : Int), mn a l ≤ a ∧ ∀ x ∈ l, mn a l ≤ x.At
  | [], a => ⟨Int.le_refl _, by simp⟩
  | y :: l, a => by
    obtain ⟨h1, h2⟩ := mn_le l (if y.At < a then y.At else a)
    have ha : (if y.At < a then y.At else a) ≤ a ∧ (if y.At < a then y.At else a) ≤ y.At := by split <;> omega
    rw [mn]
    refine ⟨by omega, fun x hx => ?_⟩
    rcases List.mem_cons.1 hx with rfl | hx
    · omega
    · exact h2 x hx
theorem mn_or : ∀ (l : List HeldSeq) (a : Int), mn a l = a ∨ ∃ x ∈ l, mn a l = x.At
  | [], a => .inl rfl
  | y :: l, a => by
    rw [mn]
    rcases mn_or l (if y.At < a then y.At else a) with h | ⟨x, hx, h⟩
    · rw [h]; split
      · exact .inr ⟨y, by simp, rfl⟩
      · exact .inl rfl
    · exact .inr ⟨x, by simp [hx], h⟩
theorem heta (m : HeldSeq) : (⟨m.At, ⟨m.Frame.Head, m.Frame.Body⟩⟩ : HeldSeq) = m := by cases m; rfl
theorem min_loop (L : List HeldSeq) (hL : L.length ≤ 1000) (hb : ∀ x ∈ L, 0 ≤ x.At ∧ x.At ≤ 1099511627776) : ∀ (l : List HeldSeq) (i n : Nat) (m : HeldSeq), L.drop i = l → l.length < n → 0 ≤ m.At ∧ m.At ≤ 1099511627776 →
    ∃ z, slices_MinFunc_api_HeldSeq_api_HeldSeq_L3 L n (m, (i : Int)) = some z ∧ z.At = mn m.At l := by
  intro l
  induction l with
  | nil =>
    intro i n m h hn hm
    obtain ⟨n, rfl⟩ : ∃ q, n = q + 1 := ⟨n - 1, by simp at hn; omega⟩
    rw [slices_MinFunc_api_HeldSeq_api_HeldSeq_L3, ge_dec (drop_n h), cond_false]
    simp only [heta]
    exact ⟨m, rfl, rfl⟩
  | cons x l ih =>
    intro i n m h hn hm
    obtain ⟨n, rfl⟩ : ∃ q, n = q + 1 := ⟨n - 1, by simp at hn; omega⟩
    obtain ⟨h1, h2, h3⟩ := drop_c h
    simp only [List.length_cons] at hn
    have hx := hb x (List.mem_of_getElem? h1)
    rw [slices_MinFunc_api_HeldSeq_api_HeldSeq_L3, lt_dec h3]
    simp only [cond_true, idxN, h1, bindS, reorder_Due_1, heta]
    rw [wrapI (by omega) (by omega), wrapN (by omega), mn]
    by_cases hd : x.At < m.At
    · rw [decide_eq_true (by omega), cond_true, if_pos hd]
      exact ih (i + 1) n x h2 (by omega) hx
    · rw [decide_eq_false (by omega), cond_false, if_neg hd]
      exact ih (i + 1) n m h2 (by omega) hm
theorem rdue_loop (b : Reorder) (hL : b.Held.length ≤ 1000) : ∀ (l : List HeldSeq) (i n : Nat) (m : Int), b.Held.drop i = l → l.length < n → hotspotref18_Due_L2 b n (m, (i : Int)) = some (mn m l)
  | [], i, n + 1, m, h, hn => by rw [hotspotref18_Due_L2, ge_dec (drop_n h)]; rfl
  | x :: l, i, n + 1, m, h, hn => by
    obtain ⟨h1, h2, h3⟩ := drop_c h
    simp only [List.length_cons] at hn
    rw [hotspotref18_Due_L2, lt_dec h3]
    simp only [cond_true, idxN, h1, bindS]
    rw [wrapN (by omega), rdue_loop b hL l (i + 1) n _ h2 (by omega), mn]
/-- When the next one is due. -/
def dueAt (b : Reorder) : Int × Bool := if VR b then match b.Held with | [] => (0, false) | x :: l => (mn x.At l + b.Hold, true) else (0, false)
theorem due_e (b : Reorder) (hL : b.Held.length ≤ 1000) : reorder_Due b = some (dueAt b) ∧ hotspotref18_Due b = some (dueAt b) := by
  unfold reorder_Due hotspotref18_Due dueAt
  rw [check_e b (by omega), bindS, valid_e b (by omega), bindS]
  by_cases hv : VR b
  · rw [if_pos hv, decide_eq_true hv, if_pos hv]
    have hb := hv.held
    have hh := hv.1
    have key : ∀ L, b.Held = L → (bif ((0 : Int) != 0) || ((L.length : Int) == 0) then some (0, false) else ((slices_MinFunc_api_HeldSeq_api_HeldSeq L).bind fun x62 => some (IntKind.wrap .i64 (x62.At + b.Hold), true))) = some (match L with | [] => (0, false) | x :: l => (mn x.At l + b.Hold, true)) ∧
        (bif (!true) || ((L.length : Int) == 0) then some (0, false) else ((idx L 0).bind fun x65 => ((hotspotref18_Due_L2 b big (x65.At, 1)).bind fun d66 => some (IntKind.wrap .i64 (d66 + b.Hold), true)))) = some (match L with | [] => (0, false) | x :: l => (mn x.At l + b.Hold, true)) := by
      intro L hbL
      cases L with
      | nil => exact ⟨rfl, rfl⟩
      | cons x l =>
        have hlen : (x :: l).length ≤ 1000 := by rw [← hbL]; exact hL
        simp only [List.length_cons] at hlen
        have hx : 0 ≤ x.At ∧ x.At ≤ 1099511627776 := by have := hb x (by rw [hbL]; simp); omega
        have hbl : ∀ y ∈ x :: l, 0 ≤ y.At ∧ y.At ≤ 1099511627776 := fun y hy => by have := hb y (by rw [hbL]; exact hy); omega
        have hmn : 0 ≤ mn x.At l ∧ mn x.At l ≤ 1099511627776 := by
          rcases mn_or l x.At with h | ⟨y, hy, h⟩
          · rw [h]; exact hx
          · rw [h]; exact hbl y (by simp [hy])
        have e0 : (((x :: l).length : Int) == 0) = false := by rw [beq_eq_false_iff_ne]; simp; omega
        obtain ⟨z, z1, z2⟩ := min_loop (x :: l) (by simpa using hlen) hbl l 1 big x rfl (big_lt (by omega)) hx
        have z1' : slices_MinFunc_api_HeldSeq_api_HeldSeq_L3 (x :: l) big (x, 1) = some z := z1
        have hd := rdue_loop b hL l 1 big x.At (by rw [hbL]; rfl) (big_lt (by omega))
        have hd' : hotspotref18_Due_L2 b big (x.At, 1) = some (mn x.At l) := hd
        constructor
        · rw [e0, show (((0 : Int) != 0) || false) = false from rfl, cond_false]
          unfold slices_MinFunc_api_HeldSeq_api_HeldSeq
          rw [decide_eq_false (by simp only [List.length_cons]; omega), cond_false, bindS, idx0, List.getElem?_cons_zero, bindS, z1', bindS, bindS]
          simp only
          rw [z2, wrapI (by unfold HeadOk at hh; omega) (by unfold HeadOk at hh; omega)]
        · rw [e0, show ((!true) || false) = false from rfl, cond_false, idx0, List.getElem?_cons_zero, bindS, hd', bindS, wrapI (by unfold HeadOk at hh; omega) (by unfold HeadOk at hh; omega)]
    exact key b.Held rfl
  · rw [if_neg hv, decide_eq_false hv, if_neg hv]
    exact ⟨rfl, rfl⟩
theorem report_e (b : Reorder) (hL : b.Held.length ≤ 1000) : reorder_Report b = some (if VR b then (b.Seen, 0) else (Window.z, 8)) := by
  unfold reorder_Report
  rw [check_e b (by omega), bindS]
  by_cases hv : VR b
  · rw [if_pos hv, if_pos hv]; rfl
  · rw [if_neg hv, if_neg hv]; rfl

theorem wr_loop : ∀ (k : Nat) (l : List HeldSeq) (i n : Nat), i + k = l.length → l.length ≤ 1000 → k < n → hotspotlaw18_ReorderMoves_L8 n (l, (i : Int)) = some ()
  | 0, l, i, n + 1, h, hl, hn => by rw [hotspotlaw18_ReorderMoves_L8]; simp only; rw [ge_dec (by omega)]; rfl
  | k + 1, l, i, n + 1, h, hl, hn => by
    obtain ⟨x, hx⟩ : ∃ x, l[i]? = some x := ⟨_, List.getElem?_eq_getElem (by omega)⟩
    rw [hotspotlaw18_ReorderMoves_L8]
    simp only
    rw [lt_dec (by omega), cond_true, idxN, hx, bindS, wrapN (by omega), wr_loop k _ (i + 1) n (by simp; omega) (by simpa using hl) (by omega)]

theorem moves (b : Reorder) (n : Int) : hotspotlaw18_ReorderMoves b n = some true := by
  unfold hotspotlaw18_ReorderMoves
  obtain ⟨g, g1, g2⟩ := great_e b Frame.z
  rw [g1, bindS]
  cases g with
  | true => rfl
  | false =>
    obtain ⟨h70, hf, _⟩ := g2 rfl
    obtain ⟨r, r1, r2, r3, r4⟩ := bar_e b hf n
    obtain ⟨x, x1, x2, x3, x4, _⟩ := expire_e b hf n
    obtain ⟨d1, d2⟩ := due_e b (by omega)
    rw [cond_false, rtwin_e b hf, bindS, r1, bindS, r2, bindS, x1, bindS, x2, bindS, sameAll_e _ (by omega), bindS, cond_true, sameR_e _ (by omega), bindS, bindS, beq_self_eq_true, Bool.true_and, cond_true, sameAll_e _ (by omega), bindS, bindS, cond_true, sameR_e _ (by omega), bindS, bindS,
      d1, bindS, d2, bindS, report_e b (by omega), bindS, valid_e b (by omega), bindS]
    have hw := wr_loop x.2.1.Held.length x.2.1.Held 0 big (by omega) x4 (big_lt (by omega))
    simp only [Int.natCast_zero] at hw
    by_cases hv : VR b
    · simp only [if_pos hv, decide_eq_true hv, cond_true, bindS]
      rw [hw, bindS]
      simp only [beq_self_eq_true, Bool.true_and, Bool.and_true, decide_eq_true, cond_true, bindS, Bool.true_or]
      rw [check_e b (by omega), if_pos hv, bindS, beq_self_eq_true, bindS, cond_true, sameR_e _ (by omega)]; rfl
    · simp only [if_neg hv, decide_eq_false hv, cond_false, bindS]
      rw [hw, bindS]
      simp only [beq_self_eq_true, Bool.true_and, Bool.and_true, decide_eq_true, cond_true, bindS]
      rw [check_e b (by omega), if_neg hv]
      simp only [show ((8 : Int) == 0) = false from rfl, show ((8 : Int) == 8) = true from rfl, beq_self_eq_true, Bool.true_and, Bool.or_true, cond_true, bindS]
      rw [sameR_e _ (by omega)]; rfl
end Go.AX.Z.TR

/-! (TRT) -/

set_option linter.unusedVariables false
set_option linter.unusedSimpArgs false
namespace Go.AX.Z.TR
open Go.AX

/-! ## After Expire nothing is due -/

theorem ld_none {hold now : Int} {l : List HeldSeq} (h : ld hold now l = none) : ∀ x ∈ l, ¬ x.At + hold ≤ now := by
  intro x hx hd
  have : l.filter (due hold now) = [] := List.getLast?_eq_none_iff.1 h
  have hm : x ∈ l.filter (due hold now) := List.mem_filter.2 ⟨hx, by simpa [due] using hd⟩
  rw [this] at hm; cases hm

/-- Behind the last that is due none is due. -/
theorem ld_after {S hold now : Int} {x : HeldSeq} : ∀ {l : List HeldSeq}, Sortd S l → ld hold now l = some x → ∀ y ∈ l, dist S x.n < dist S y.n → ¬ y.At + hold ≤ now
  | [], _, h, y, hy, _ => by cases hy
  | z :: l, hs, h, y, hy, hd => by
    have hp := (List.pairwise_cons.1 hs.1).1
    rw [ld_cons] at h
    cases hl : ld hold now l with
    | some w =>
      rw [hl] at h; cases h
      rcases List.mem_cons.1 hy with rfl | hy
      · have := hp x (ld_mem hl).1; omega
      · exact ld_after hs.tail hl y hy hd
    | none =>
      rw [hl] at h
      simp only at h
      split at h
      · cases h
        rcases List.mem_cons.1 hy with rfl | hy
        · omega
        · exact ld_none hl y hy
      · cases h

theorem timely_loop (x : List Frame × Reorder × Int) (now : Int) (hL : x.2.1.Held.length ≤ 1000) (hb : ∀ y ∈ x.2.1.Held, 0 ≤ y.At ∧ y.At ≤ 1099511627776) (hh : 0 ≤ x.2.1.Hold ∧ x.2.1.Hold ≤ 16777216) (hd : ∀ y ∈ x.2.1.Held, ¬ y.At + x.2.1.Hold ≤ now) :
    ∀ (l : List HeldSeq) (i n : Nat), x.2.1.Held.drop i = l → l.length < n → hotspotlaw18_ReorderTimely_L3 x now n (i : Int) = some (Ex.go ())
  | [], i, n + 1, h, hn => by rw [hotspotlaw18_ReorderTimely_L3, ge_dec (drop_n h)]; rfl
  | y :: l, i, n + 1, h, hn => by
    obtain ⟨h1, h2, h3⟩ := drop_c h
    simp only [List.length_cons] at hn
    have hy := hb y (List.mem_of_getElem? h1)
    have hdy := hd y (List.mem_of_getElem? h1)
    rw [hotspotlaw18_ReorderTimely_L3, lt_dec h3]
    simp only [cond_true, idxN, h1, bindS]
    rw [wrapI (i := y.At + x.2.1.Hold) (by omega) (by omega), decide_eq_false hdy, cond_false, wrapN (by omega), timely_loop x now hL hb hh hd l (i + 1) n h2 (by omega)]

theorem dueAt_of {b : Reorder} (hv : VR b) : (b.Held = [] ∧ dueAt b = (0, false)) ∨ ∃ a, dueAt b = (a + b.Hold, true) ∧ (∀ x ∈ b.Held, a ≤ x.At) ∧ ∃ x ∈ b.Held, a = x.At := by
  unfold dueAt
  rw [if_pos hv]
  cases h : b.Held with
  | nil => exact .inl ⟨rfl, rfl⟩
  | cons x l =>
    refine .inr ⟨mn x.At l, rfl, fun y hy => ?_, ?_⟩
    · obtain ⟨h1, h2⟩ := mn_le l x.At
      rcases List.mem_cons.1 hy with rfl | hy
      · exact h1
      · exact h2 y hy
    · rcases mn_or l x.At with h | ⟨y, hy, h⟩
      · exact ⟨x, by simp, h⟩
      · exact ⟨y, by simp [hy], h⟩

/-- A state that was moved is valid. -/
theorem Mvd.valid {b : Reorder} {t : Int} {out : List Frame} {nx : Reorder} {i k : Nat} (h : Mvd b t out nx i k) (ho : HeadOk b) (hs : Sortd b.Start b.Held) (ht : 0 ≤ t) (hk : ∀ x ∈ b.Held, dist b.Start x.n < t + b.Size ∧ 0 ≤ x.At ∧ x.At ≤ 1099511627776) : VR nx := by
  obtain ⟨rfl⟩ : nx = _ := h.nx
  have hsd := (hs.drop i).drop k
  have hgt := h.gt
  have hmem : ∀ x ∈ (b.Held.drop i).drop k, x ∈ b.Held := fun x hx => List.mem_of_mem_drop (List.mem_of_mem_drop hx)
  have hdd : ∀ x ∈ (b.Held.drop i).drop k, dist ((b.Start + (t + k)) % 4096) x.n = dist b.Start x.n - (t + k) := by
    intro x hx
    have h1 := hgt x hx
    have h2 := dist_nn b.Start x.n
    unfold dist at h1 h2 ⊢
    omega
  unfold HeadOk at ho
  refine ⟨?_, ?_⟩
  · unfold HeadOk
    simp only
    omega
  · simp only
    refine s_okL ⟨?_, fun x hx => hsd.2 x hx⟩ fun x hx => ?_
    · refine hsd.1.imp_of_mem fun {x y} hx hy hxy => ?_
      rw [hdd x hx, hdd y hy]; omega
    · rw [hdd x hx]
      have h1 := hgt x hx
      have h2 := hk x (hmem x hx)
      omega

theorem timely (b : Reorder) (now : Int) : hotspotlaw18_ReorderTimely b now = some true := by
  unfold hotspotlaw18_ReorderTimely
  obtain ⟨g, g1, g2⟩ := great_e b Frame.z
  rw [alive_e, bindS, g1, bindS]
  cases g with
  | true => rfl
  | false =>
    obtain ⟨h70, hf, _⟩ := g2 rfl
    obtain ⟨r, r1, _, r3, r4, re⟩ := expire_e b hf now
    rw [show (false || !true) = false from rfl, cond_false, r1, bindS]
    have hL := hf.1
    cases re with
    | bad h e => subst e; rfl
    | arg h h2 e => subst e; rfl
    | quiet h h1 h2 e =>
      subst e
      have hnd := ld_none h2
      have hb := h.held
      have hh := h.1
      have ht := timely_loop ([], b, 0) now hL (fun y hy => ⟨(hb y hy).2.2.1, (hb y hy).2.2.2⟩) (by unfold HeadOk at hh; simp only; omega) hnd b.Held 0 big rfl (big_lt (by omega))
      simp only [Int.natCast_zero] at ht
      obtain ⟨d1, _⟩ := due_e b hL
      simp only [bne_self_eq_false, cond_false]
      rw [ht, bindS, Ex.k_go', d1, bindS, bindS]
      have hq : ((!(dueAt b).2) || decide (now < (dueAt b).1)) = true := by
        rcases dueAt_of h with ⟨_, e⟩ | ⟨a, e, _, x, hx, rfl⟩
        · rw [e]; rfl
        · rw [e]
          have := hnd x hx
          simp only [Bool.not_true, Bool.false_or, decide_eq_true_eq]; omega
      rw [hq, Bool.true_and, cond_true, Bool.not_true, cond_false]
      simp only [List.length_nil, Int.natCast_zero, beq_self_eq_true, cond_true]
      rw [sameR_e b (by omega)]; rfl
    | move h h1 x h2 i k hm e =>
      obtain ⟨hx, hdx⟩ := ld_mem h2
      have hb := h.held
      have hh := h.1
      have hbx := hb x hx
      have hv' : VR r.2.1 := hm.valid h.1 h.sortd (by omega) (fun y hy => by have := hb y hy; exact ⟨by omega, this.2.2⟩)
      have hrest : ∀ y ∈ r.2.1.Held, y ∈ b.Held ∧ dist b.Start x.n < dist b.Start y.n := by
        intro y hy
        rw [hm.nx] at hy
        have := hm.gt y hy
        exact ⟨List.mem_of_mem_drop (List.mem_of_mem_drop hy), by omega⟩
      have hHold : r.2.1.Hold = b.Hold := by rw [hm.nx]
      have hnd : ∀ y ∈ r.2.1.Held, ¬ y.At + r.2.1.Hold ≤ now := by
        intro y hy
        obtain ⟨q1, q2⟩ := hrest y hy
        rw [hHold]
        exact ld_after h.sortd h2 y q1 q2
      have ht := timely_loop r now r4 (fun y hy => by have := hb y (hrest y hy).1; omega) (by rw [hHold]; unfold HeadOk at hh; omega) hnd r.2.1.Held 0 big rfl (big_lt (by omega))
      simp only [Int.natCast_zero] at ht
      obtain ⟨d1, _⟩ := due_e b hL
      obtain ⟨d2, _⟩ := due_e r.2.1 r4
      rw [e, bne_self_eq_false, cond_false, ht, bindS, Ex.k_go', d1, bindS, d2, bindS]
      have hq : ((!(dueAt r.2.1).2) || decide (now < (dueAt r.2.1).1)) = true := by
        rcases dueAt_of hv' with ⟨_, e⟩ | ⟨a, e, _, y, hy, rfl⟩
        · rw [e]; rfl
        · rw [e]
          have := hnd y hy
          simp only [Bool.not_true, Bool.false_or, decide_eq_true_eq]; omega
      have hq2 : ((!(dueAt b).2) || decide (now < (dueAt b).1)) = false := by
        have hdx' : x.At + b.Hold ≤ now := of_decide_eq_true hdx
        rcases dueAt_of h with ⟨e, _⟩ | ⟨a, e, ha, _⟩
        · rw [e] at hx; cases hx
        · rw [e]
          have := ha x hx
          simp only [Bool.not_true, Bool.false_or, decide_eq_false_iff_not]; omega
      have hout : 0 < r.1.length := by
        have hpos : 0 < i + k := by
          rcases Nat.eq_zero_or_pos (i + k) with q | q
          · have hi0 : i = 0 := by omega
            have hk0 : k = 0 := by omega
            subst hi0; subst hk0
            have := hm.gt x (by simpa using hx)
            omega
          · exact q
        have := hm.le
        rw [hm.out, List.length_map, List.length_take]; omega
      rw [hq, hq2, Bool.true_and, cond_true, Bool.not_false, cond_true, bindS, bindS, Bool.false_or, decide_eq_true (by omega)]; rfl
end Go.AX.Z.TR

/-! (TRV) -/

set_option linter.unusedVariables false
set_option linter.unusedSimpArgs false
namespace Go.AX.Z.TR
open Go.AX

/-! ## Windows -/

def okN (n : Int) : Prop := 0 ≤ n ∧ n < 4096
theorem wnumber_e (n : Int) : window_number n = some (decide (0 ≤ n ∧ n < 4096)) := by
  unfold window_number; congr 1
  rw [Bool.eq_iff_iff]; simp
theorem wcheck_e {w : Window} {n : Int} (hw : okN w.Start) (hn : okN n) : window_check w n = some 0 := by
  unfold window_check window_Check
  rw [wnumber_e, bindS, decide_eq_true (show 0 ≤ w.Start ∧ w.Start < 4096 from hw), Bool.not_true, cond_false, bindS, wnumber_e, bne_self_eq_false, cond_false, bindS, decide_eq_true (show 0 ≤ n ∧ n < 4096 from hn)]; rfl
/-- Marked. -/
def mrk (B d : Int) : Int := bor .u64 B (IntKind.wrap .u64 (1 * 2 ^ (min (d).toNat 64)))
theorem mark_e {w : Window} {n : Int} (hw : okN w.Start) (hn : okN n) (hd : dist w.Start n < 64) : window_Mark w n = some ({ w with Bits := mrk w.Bits (dist w.Start n) }, 0) := by
  unfold window_Mark
  have := dist_nn w.Start n
  rw [wcheck_e hw hn, bindS, bne_self_eq_false, cond_false, dist_e, bindS, decide_eq_false (by omega), cond_false, chk_d (by omega), bindS]; rfl
theorem note_e {w : Window} {n : Int} (hw : okN w.Start) (hn : okN n) : ∃ w', reorder_note w n = some w' ∧ okN w'.Start ∧ (2048 ≤ dist w.Start n ∧ w' = w ∨ dist w.Start n < 2048 ∧ dist w'.Start n < 64 ∧ (∃ B, w'.Bits = mrk B (dist w'.Start n)) ∧ (w'.Start = w.Start ∨ dist w'.Start n = 63)) := by
  unfold reorder_note
  have hd := dist_nn w.Start n
  rw [dist_e, bindS]
  by_cases h : 2048 ≤ dist w.Start n
  · rw [decide_eq_true h, cond_true]
    exact ⟨w, rfl, hw, .inl ⟨h, rfl⟩⟩
  · rw [decide_eq_false h, cond_false]
    by_cases h2 : 64 ≤ dist w.Start n
    · have hx : okN ((n + (-63)) % 4096) := by unfold okN; omega
      have e1 : dist w.Start ((n + (-63)) % 4096) = dist w.Start n - 63 := by unfold dist at h h2 ⊢; omega
      have e2 : dist ((n + (-63)) % 4096) n = 63 := by unfold okN at hn; unfold dist; omega
      have hm : window_Move w ((n + (-63)) % 4096) = some ({ Window.z with Bits := (w.Bits).fdiv (2 ^ (min (dist w.Start n - 63).toNat 64)), Start := (n + (-63)) % 4096 }, 0) := by
        unfold window_Move
        rw [wcheck_e hw hx, bindS, bne_self_eq_false, cond_false, dist_e, e1, bindS, decide_eq_true (by omega), cond_true, chk_d (by omega), bindS]
      rw [decide_eq_true h2, cond_true, add_e, bindS, hm, bindS, bindS, mark_e (w := { Window.z with Bits := (w.Bits).fdiv (2 ^ (min (dist w.Start n - 63).toNat 64)), Start := (n + (-63)) % 4096 }) hx hn (by simp only [e2]; omega), bindS]
      exact ⟨_, rfl, hx, .inr ⟨by omega, by simp only [e2]; omega, ⟨_, rfl⟩, .inr e2⟩⟩
    · rw [decide_eq_false h2, cond_false, bindS, mark_e hw hn (by omega), bindS]
      exact ⟨_, rfl, hw, .inr ⟨by omega, by simp only; omega, ⟨_, rfl⟩, .inl rfl⟩⟩

/-! ## Putting -/

theorem sorted_len {S : Int} : ∀ {l : List HeldSeq} {lo hi : Int}, Sortd S l → (∀ x ∈ l, lo < dist S x.n ∧ dist S x.n < hi) → lo < hi → (l.length : Int) < hi - lo
  | [], lo, hi, _, _, h => by simp; omega
  | x :: l, lo, hi, hs, hb, h => by
    have hp := (List.pairwise_cons.1 hs.1).1
    have hx := hb x (by simp)
    have := sorted_len (lo := dist S x.n) (hi := hi) hs.tail (fun y hy => ⟨hp y hy, (hb y (by simp [hy])).2⟩) hx.2
    simp only [List.length_cons]; omega
theorem held_len {b : Reorder} (hv : VR b) : b.Held.length ≤ 70 := by
  have ho := hv.1
  unfold HeadOk at ho
  have := sorted_len (lo := 0) (hi := b.Size) hv.sortd (fun x hx => by have := hv.held x hx; omega) (by omega)
  omega


theorem ins_e (l : List HeldSeq) (i : Nat) (hi : i ≤ l.length) (hL : l.length ≤ 1000) (x : HeldSeq) : slices_Insert_api_HeldSeq_api_HeldSeq (i : Int) l [x] = some (l.take i ++ [x] ++ l.drop i) := by
  unfold slices_Insert_api_HeldSeq_api_HeldSeq
  rw [chk_t (by simp; omega), bindS, show (((([x] : List HeldSeq).length : Nat) : Int) == 0) = false from rfl, cond_false]
  by_cases h : i = l.length
  · subst h
    rw [beq_self_eq_true, cond_true, chk_d (by simp; omega), bindS, List.take_length, List.drop_length, List.append_nil]
  · rw [show (((i : Int)) == ((l.length : Nat) : Int)) = false by rw [beq_eq_false_iff_ne]; omega, cond_false, chk_t (by simp; omega), bindS, Int.toNat_natCast]

theorem ins_sorted {S d : Int} {l : List HeldSeq} {i : Nat} (hs : Sortd S l) (hc : Cut S d l i) {x : HeldSeq} (hx : dist S x.n = d) (hn : okN x.n) (hf : ¬ ∃ y ∈ l, dist S y.n = d) : Sortd S (l.take i ++ [x] ++ l.drop i) := by
  refine ⟨?_, fun y hy => ?_⟩
  · rw [List.append_assoc, List.pairwise_append]
    refine ⟨hs.1.sublist (List.take_sublist _ _), ?_, fun y hy z hz => ?_⟩
    · rw [List.singleton_append, List.pairwise_cons]
      refine ⟨fun y hy => ?_, hs.1.sublist (List.drop_sublist _ _)⟩
      have h1 := cut_drop hc y hy
      have h2 : dist S y.n ≠ d := fun e => hf ⟨y, List.mem_of_mem_drop hy, e⟩
      omega
    · have h1 := cut_take hc y hy
      rcases List.mem_cons.1 hz with rfl | hz
      · omega
      · have := cut_drop hc z hz; omega
  · simp only [List.mem_append, List.mem_singleton] at hy
    rcases hy with (hy | rfl) | hy
    · exact hs.2 y (List.mem_of_mem_take hy)
    · exact hn
    · exact hs.2 y (List.mem_of_mem_drop hy)

/-- What a step that succeeds gives. -/
structure Stp (b : Reorder) (add : Option HeldSeq) (r : List Frame × Reorder × Int) (w : Window) (L : List HeldSeq) (t : Int) (i k : Nat) : Prop where
  err : r.2.2 = 0
  mv : Mvd { b with Seen := w, Held := L } t r.1 r.2.1 i k
  t0 : 0 ≤ t ∧ t ≤ 2048
  valid : VR r.2.1
  sorted : Sortd b.Start L
  held : match add with | none => L = b.Held ∧ w = b.Seen | some x => ∃ j, L = b.Held.take j ++ [x] ++ b.Held.drop j ∧ reorder_note b.Seen x.n = some w

theorem stay_s {b : Reorder} (hv : VR b) : Stp b none ([], b, 0) b.Seen b.Held 0 0 0 := by
  have hh := hv.held
  have ho := hv.1
  unfold HeadOk at ho
  refine ⟨rfl, ⟨⟨Nat.zero_le _, fun k x h => by omega, fun k x _ hx => (dist_nn _ _).1⟩, ?_, rfl, Nat.zero_le _, fun j x h => by omega, fun x hx => ?_⟩, ⟨Int.le_refl _, by omega⟩, hv, hv.sortd, rfl, rfl⟩
  · simp only [List.drop_zero]
    have : (b.Start + (0 + ((0 : Nat) : Int))) % 4096 = b.Start := by omega
    rw [this]
  · have := hh x (by simpa using hx)
    simpa using this.1

theorem put_e (b : Reorder) (hv : VR b) (hf : Fit b.Held) (f : Frame) (hfb : f.Body.length ≤ 2400) (now : Int) : ∃ r : List Frame × Reorder × Int, reorder_Put b f now = some r ∧
    (r = ([], Reorder.z, 2) ∨ r = ([], Reorder.z, 21) ∨ (okN f.Head.Seq ∧ ∃ w L t i k, Stp b (some ⟨now, f⟩) r w L t i k)) ∧
    (0 ≤ now ∧ now ≤ 1099511627776 → okN f.Head.Seq → 2048 ≤ dist b.Start f.Head.Seq → r = ([], Reorder.z, 21)) ∧
    (0 ≤ now ∧ now ≤ 1099511627776 → okN f.Head.Seq → dist b.Start f.Head.Seq < 2048 → (∀ x ∈ b.Held, dist b.Start x.n ≠ dist b.Start f.Head.Seq) → ∃ w L i k, Stp b (some ⟨now, f⟩) r w L (if b.Size ≤ dist b.Start f.Head.Seq then dist b.Start f.Head.Seq + 1 - b.Size else 0) i k) := by
  unfold reorder_Put
  have hL := hf.1
  rw [check_e b (by omega), if_pos hv, bindS, bne_self_eq_false, cond_false, moment_e, bindS]
  rcases (Decidable.em (0 ≤ now ∧ now ≤ 1099511627776)).symm with hnow | hnow
  · rw [decide_eq_false hnow, Bool.not_false, cond_true, bindS, cond_true]
    exact ⟨_, rfl, .inl rfl, fun h => absurd h hnow, fun h => absurd h hnow⟩
  rw [decide_eq_true hnow, Bool.not_true, cond_false, number_e, bindS, bindS]
  rcases (Decidable.em (0 ≤ f.Head.Seq ∧ f.Head.Seq < 4096)).symm with hn | hn
  · rw [decide_eq_false hn, Bool.not_false, cond_true]
    exact ⟨_, rfl, .inl rfl, fun _ h => absurd h hn, fun _ h => absurd h hn⟩
  rw [decide_eq_true hn, Bool.not_true, cond_false, dist_e, bindS]
  obtain ⟨i, p1, p2⟩ := place_e b hL hv.sortd f.Head.Seq
  rw [p1, bindS]
  simp only
  by_cases hfar : 2048 ≤ dist b.Start f.Head.Seq
  · rw [decide_eq_true hfar, Bool.true_or, cond_true]
    exact ⟨_, rfl, .inr (.inl rfl), fun _ _ _ => rfl, fun _ _ h => by omega⟩
  rw [decide_eq_false hfar, Bool.false_or]
  by_cases hfound : ∃ x ∈ b.Held, dist b.Start x.n = dist b.Start f.Head.Seq
  · rw [decide_eq_true hfound, cond_true]
    exact ⟨_, rfl, .inr (.inl rfl), fun _ _ _ => rfl, fun _ _ _ h => by obtain ⟨x, hx, he⟩ := hfound; exact absurd he (h x hx)⟩
  rw [decide_eq_false hfound, cond_false]
  have ho := hv.1
  have hdn := dist_nn b.Start f.Head.Seq
  obtain ⟨w, w1, w2, w3⟩ := note_e (w := b.Seen) (n := f.Head.Seq) ho.2.2.2.2.2 hn
  rw [w1, bindS, twin_e _ hf, bindS]
  unfold header_Twin
  rw [chk_d (by omega), bindS, bindS, ins_e b.Held i p2.1 hL, bindS]
  obtain ⟨x, hx⟩ : ∃ x : HeldSeq, x = ⟨now, f⟩ := ⟨_, rfl⟩
  have hxs : ({ HeldSeq.z with At := now, Frame := { f with Body := f.Body } } : HeldSeq) = x := by rw [hx]
  rw [hxs]
  have hxn : x.n = f.Head.Seq := by rw [hx]
  have hxA : x.At = now := by rw [hx]
  obtain ⟨L, hLdef⟩ : ∃ L, L = b.Held.take i ++ [x] ++ b.Held.drop i := ⟨_, rfl⟩
  rw [← hLdef]
  have hLs : Sortd b.Start L := by rw [hLdef]; exact ins_sorted hv.sortd p2 (by rw [hxn]) (by rw [hxn]; exact hn) hfound
  have hLlen : L.length ≤ 1000 := by
    have h64 : b.Held.length ≤ 70 := held_len hv
    rw [hLdef]; simp; omega
  have hmemL : ∀ y ∈ L, y = x ∨ y ∈ b.Held := by
    intro y hy
    rw [hLdef] at hy
    simp only [List.mem_append, List.mem_singleton] at hy
    rcases hy with (hy | hy) | hy
    · exact .inr (List.mem_of_mem_take hy)
    · exact .inl hy
    · exact .inr (List.mem_of_mem_drop hy)
  obtain ⟨t, ht⟩ : ∃ t, t = if b.Size ≤ dist b.Start f.Head.Seq then dist b.Start f.Head.Seq + 1 - b.Size else 0 := ⟨_, rfl⟩
  obtain ⟨to, hto⟩ : ∃ to, to = if b.Size ≤ dist b.Start f.Head.Seq then (f.Head.Seq + (1 - b.Size)) % 4096 else b.Start := ⟨_, rfl⟩
  have ht0 : 0 ≤ t ∧ t ≤ 2048 := by unfold HeadOk at ho; rw [ht]; split <;> omega
  have hdto : dist b.Start to = t := by
    unfold HeadOk at ho
    rw [ht, hto]
    split
    · unfold dist at hdn hfar ⊢; rename_i h; unfold dist at h; omega
    · unfold dist; simp
  have hton : 0 ≤ to ∧ to < 4096 := by unfold HeadOk at ho; rw [hto]; split <;> omega
  have hgo : (bif decide (b.Size ≤ dist b.Start f.Head.Seq) then ((window_Add f.Head.Seq (IntKind.wrap .i64 (1 - b.Size))).bind fun x42 => some x42) else some b.Start) = some to := by
    unfold HeadOk at ho
    rw [hto]
    by_cases h : b.Size ≤ dist b.Start f.Head.Seq
    · rw [decide_eq_true h, cond_true, add_e, bindS, wrapI (by omega) (by omega), if_pos h]
    · rw [decide_eq_false h, cond_false, if_neg h]
  rw [hgo, bindS]
  obtain ⟨out, nx, i2, k, z, m1, m2, rfl, rfl⟩ := mv_e { b with Seen := w, Held := L } hLlen hLs to hton
  rw [show dist ({ b with Seen := w, Held := L } : Reorder).Start to = t from hdto] at m1
  have hbd : ∀ y ∈ L, dist b.Start y.n < t + b.Size ∧ 0 ≤ y.At ∧ y.At ≤ 1099511627776 := by
    intro y hy
    rcases hmemL y hy with rfl | hy
    · rw [hxn, hxA]
      refine ⟨?_, hnow⟩
      rw [ht]; split <;> omega
    · have := hv.held y hy; omega
  have hval := m1.valid (show HeadOk { b with Seen := w, Held := L } from ⟨ho.1, ho.2.1, ho.2.2.1, ho.2.2.2.1, ho.2.2.2.2.1, w2⟩) hLs ht0.1 hbd
  rw [m2, bindS]
  have hst : Stp b (some x) (z.1, { z.2.1 with Held := z.2.2 }, 0) w L t i2 k := by
    refine ⟨rfl, m1, ht0, hval, hLs, ?_⟩
    simp only
    exact ⟨i, hLdef, by first | exact w1 | (rw [hxn]; exact w1)⟩
  refine ⟨_, rfl, .inr (.inr ⟨hn, w, L, t, i2, k, hst⟩), fun _ _ h => absurd h hfar, fun _ _ _ _ => ⟨w, L, i2, k, by rw [← ht]; exact hst⟩⟩

/-! ## Steps -/

theorem step_e (b : Reorder) (hv : VR b) (hf : Fit b.Held) (s : Hotspotref18_Step) (hfb : s.Frame.Body.length ≤ 2400) : ∃ r : List Frame × Reorder × Int, hotspotlaw18_do b s = some r ∧
    ((r.1 = [] ∧ r.2.1 = Reorder.z ∧ r.2.2 ≠ 0) ∨ (∃ w L t i k, Stp b (if s.Kind = 0 then some ⟨s.N, s.Frame⟩ else none) r w L t i k)) := by
  unfold hotspotlaw18_do
  have hL := hf.1
  by_cases h0 : s.Kind = 0
  · rw [h0, beq_self_eq_true, cond_true, if_pos rfl]
    obtain ⟨r, r1, r2, _⟩ := put_e b hv hf s.Frame hfb s.N
    rw [r1, bindS]
    refine ⟨_, rfl, ?_⟩
    rcases r2 with rfl | rfl | ⟨_, h⟩
    · exact .inl ⟨rfl, rfl, by decide⟩
    · exact .inl ⟨rfl, rfl, by decide⟩
    · exact .inr h
  · rw [show (s.Kind == 0) = false by simpa using h0, cond_false, if_neg h0]
    by_cases h1 : s.Kind = 1
    · rw [h1, beq_self_eq_true, cond_true]
      unfold reorder_Bar
      rw [check_e b (by omega), if_pos hv, bindS, bne_self_eq_false, cond_false, number_e, bindS]
      by_cases hn : 0 ≤ s.N ∧ s.N < 4096
      · rw [decide_eq_true hn, Bool.not_true, cond_false, twin_e _ hf, bindS, dist_e, bindS]
        by_cases hd : 2048 ≤ dist b.Start s.N
        · rw [decide_eq_true hd, cond_true, bindS]
          exact ⟨_, rfl, .inr ⟨_, _, _, _, _, stay_s hv⟩⟩
        · rw [decide_eq_false hd, cond_false]
          obtain ⟨out, nx, i, k, z, m1, m2, rfl, rfl⟩ := mv_e b hL hv.sortd s.N hn
          rw [show ({ b with Held := b.Held } : Reorder) = b from rfl, m2, bindS, bindS]
          have hnn := dist_nn b.Start s.N
          exact ⟨_, rfl, .inr ⟨b.Seen, b.Held, dist b.Start s.N, i, k, rfl, m1, ⟨hnn.1, by omega⟩, m1.valid hv.1 hv.sortd hnn.1 (fun y hy => by have := hv.held y hy; omega), hv.sortd, rfl, rfl⟩⟩
      · rw [decide_eq_false hn, Bool.not_false, cond_true, bindS]
        exact ⟨_, rfl, .inl ⟨rfl, rfl, by decide⟩⟩
    · rw [show (s.Kind == 1) = false by simpa using h1, cond_false]
      by_cases h2 : s.Kind = 2
      · rw [h2, beq_self_eq_true, cond_true]
        obtain ⟨r, r1, _, _, _, re⟩ := expire_e b hf s.N
        rw [r1, bindS]
        refine ⟨_, rfl, ?_⟩
        cases re with
        | bad h e => exact absurd hv h
        | arg h h2 e => subst e; exact .inl ⟨rfl, rfl, by decide⟩
        | quiet h h1 h2 e => subst e; exact .inr ⟨_, _, _, _, _, stay_s hv⟩
        | move h h1 x h2 i k hm e =>
          have hb := hv.held x (ld_mem h2).1
          have ho := hv.1.2.2.1
          exact .inr ⟨b.Seen, b.Held, dist b.Start x.n + 1, i, k, e, hm, ⟨by omega, by omega⟩, hm.valid hv.1 hv.sortd (by omega) (fun y hy => by have := hv.held y hy; omega), hv.sortd, rfl, rfl⟩
      · rw [show (s.Kind == 2) = false by simpa using h2, cond_false]
        exact ⟨_, rfl, .inl ⟨rfl, rfl, by decide⟩⟩
end Go.AX.Z.TR

/-! (TRK) -/

set_option linter.unusedVariables false
set_option linter.unusedSimpArgs false
namespace Go.AX.Z.TR
open Go.AX

/-! ## Every frame is released or held -/

def sameB (a b : Frame) : Bool := decide (a.Head = b.Head) && sEq a.Body b.Body
theorem same_d (a b : Frame) : hotspotref05_Same a b = some (sameB a b) := rfl
theorem sameB_refl (a : Frame) : sameB a a = true := by unfold sameB; rw [decide_eq_true rfl, sEq_refl]; rfl
theorem sameB_seq {a b : Frame} (h : sameB a b = true) : a.Head.Seq = b.Head.Seq := by
  unfold sameB at h
  simp only [Bool.and_eq_true, decide_eq_true_eq] at h
  rw [h.1]

/-- In a sorted row frames that are the same are one. -/
theorem same_iff {S : Int} {L : List HeldSeq} (hs : Sortd S L) {p q : Nat} {x y : HeldSeq} (hx : L[p]? = some x) (hy : L[q]? = some y) (h : sameB x.Frame y.Frame = true) : p = q := by
  have hn := sameB_seq h
  rcases Nat.lt_trichotomy p q with c | c | c
  · have := hs.idx c hx hy
    have e : x.n = y.n := hn
    rw [e] at this; omega
  · exact c
  · have := hs.idx c hy hx
    have e : x.n = y.n := hn
    rw [e] at this; omega

theorem keeps8 (r : List Frame × Reorder × Int) (b : Reorder) (d : Int) {h : HeldSeq} (hd : idx b.Held d = some h) (hL : r.1.length ≤ 1000) : ∀ (l : List Frame) (i n : Nat) (c : Nat), r.1.drop i = l → l.length < n → c ≤ i → hotspotlaw18_ReorderKeeps_L8 r b d n ((c : Int), (i : Int)) = some (((c + l.countP fun y => sameB y h.Frame : Nat)) : Int)
  | [], i, n + 1, c, hl, hn, hc => by rw [hotspotlaw18_ReorderKeeps_L8, ge_dec (drop_n hl)]; rfl
  | x :: l, i, n + 1, c, hl, hn, hc => by
    obtain ⟨h1, h2, h3⟩ := drop_c hl
    simp only [List.length_cons] at hn
    rw [hotspotlaw18_ReorderKeeps_L8, lt_dec h3]
    simp only [cond_true, idxN, h1, bindS, hd, same_d]
    rw [List.countP_cons, wrapN (by omega), wrapN (by omega)]
    cases hx : sameB x h.Frame
    · rw [cond_false, keeps8 r b d hd hL l (i + 1) n c h2 (by omega) (by omega)]; simp
    · rw [cond_true, keeps8 r b d hd hL l (i + 1) n (c + 1) h2 (by omega) (by omega)]; simp; omega
def sameH (a b : HeldSeq) : Bool := a.At == b.At && sameB a.Frame b.Frame
theorem keeps11 (r : List Frame × Reorder × Int) (b : Reorder) (d : Int) {h : HeldSeq} (hd : idx b.Held d = some h) (hL : r.2.1.Held.length ≤ 1000) : ∀ (l : List HeldSeq) (i n : Nat) (c : Nat), r.2.1.Held.drop i = l → l.length < n → c ≤ i + 1000 → hotspotlaw18_ReorderKeeps_L11 r b d n ((c : Int), (i : Int)) = some (((c + l.countP fun y => sameH y h : Nat)) : Int)
  | [], i, n + 1, c, hl, hn, hc => by rw [hotspotlaw18_ReorderKeeps_L11, ge_dec (drop_n hl)]; rfl
  | x :: l, i, n + 1, c, hl, hn, hc => by
    obtain ⟨h1, h2, h3⟩ := drop_c hl
    simp only [List.length_cons] at hn
    have e : (bif x.At == h.At then some (sameB x.Frame h.Frame) else some false) = some (sameH x h) := by
      unfold sameH; cases x.At == h.At <;> rfl
    rw [hotspotlaw18_ReorderKeeps_L11, lt_dec h3]
    simp only [cond_true, idxN, h1, bindS, hd, same_d]
    rw [e, bindS, List.countP_cons, wrapN (by omega), wrapN (by omega)]
    cases hx : sameH x h
    · rw [cond_false, keeps11 r b d hd hL l (i + 1) n c h2 (by omega) (by omega)]; simp
    · rw [cond_true, keeps11 r b d hd hL l (i + 1) n (c + 1) h2 (by omega) (by omega)]; simp; omega

/-- The one element at a place. -/
theorem count_at {α : Type} (P : α → Bool) : ∀ (l : List α) (p : Nat) (x : α), l[p]? = some x → P x = true → (∀ (q : Nat) (y : α), l[q]? = some y → P y = true → q = p) → l.countP P = 1
  | [], p, x, h, _, _ => by simp at h
  | a :: l, 0, x, h, hP, hu => by
    simp at h; subst h
    rw [List.countP_cons, hP]
    have : l.countP P = 0 := by
      rw [List.countP_eq_zero]
      intro y hy hPy
      obtain ⟨q, hq⟩ := List.mem_iff_getElem?.1 hy
      have := hu (q + 1) y (by simpa using hq) hPy
      omega
    rw [this]; simp
  | a :: l, p + 1, x, h, hP, hu => by
    rw [List.countP_cons]
    have ha : P a = false := by
      cases hPa : P a with
      | false => rfl
      | true => have := hu 0 a rfl hPa; omega
    rw [ha, count_at P l p x (by simpa using h) hP fun q y hq hPy => by have := hu (q + 1) y (by simpa using hq) hPy; omega]
    simp
theorem count_none {α : Type} (P : α → Bool) (l : List α) (h : ∀ (q : Nat) (y : α), l[q]? = some y → P y = false) : l.countP P = 0 := by
  rw [List.countP_eq_zero]
  intro y hy hPy
  obtain ⟨q, hq⟩ := List.mem_iff_getElem?.1 hy
  rw [h q y hq] at hPy; cases hPy

theorem keeps_one {b : Reorder} {add : Option HeldSeq} {r : List Frame × Reorder × Int} {w : Window} {L : List HeldSeq} {t : Int} {i k : Nat} (h : Stp b add r w L t i k) {x : HeldSeq} (hx : x ∈ b.Held) :
    (r.1.countP fun y => sameB y x.Frame) + (r.2.1.Held.countP fun y => sameH y x) = 1 := by
  have hm := h.mv
  have hxL : x ∈ L := by
    have hh := h.held
    cases add with
    | none => simp only at hh; rw [hh.1]; exact hx
    | some z =>
      obtain ⟨j, hj, _⟩ := hh
      rw [hj]
      rw [← List.take_append_drop j b.Held] at hx
      simp only [List.mem_append] at hx ⊢
      rcases hx with hx | hx
      · exact .inl (.inl hx)
      · exact .inr hx
  obtain ⟨p, hp⟩ := List.mem_iff_getElem?.1 hxL
  have hout : r.1 = (L.take (i + k)).map (·.Frame) := hm.out
  have hrest : r.2.1.Held = L.drop (i + k) := by rw [hm.nx]; simp only [List.drop_drop]
  rw [hout, hrest, List.countP_map]
  rcases Nat.lt_or_ge p (i + k) with c | c
  · have e1 : (L.take (i + k)).countP ((fun y => sameB y x.Frame) ∘ (·.Frame)) = 1 := by
      refine count_at _ _ p x (by rw [List.getElem?_take, if_pos c]; exact hp) (sameB_refl _) fun q y hq hP => ?_
      rw [List.getElem?_take] at hq
      split at hq
      · exact same_iff h.sorted hq hp hP
      · cases hq
    have e2 : (L.drop (i + k)).countP (fun y => sameH y x) = 0 := by
      refine count_none _ _ fun q y hq => ?_
      rw [List.getElem?_drop] at hq
      cases hP : sameH y x with
      | false => rfl
      | true =>
        unfold sameH at hP
        simp only [Bool.and_eq_true] at hP
        have := same_iff h.sorted hq hp hP.2
        omega
    rw [e1, e2]
  · have e1 : (L.take (i + k)).countP ((fun y => sameB y x.Frame) ∘ (·.Frame)) = 0 := by
      refine count_none _ _ fun q y hq => ?_
      rw [List.getElem?_take] at hq
      split at hq
      · cases hP : sameB y.Frame x.Frame with
        | false => exact hP
        | true => have := same_iff h.sorted hq hp hP; omega
      · cases hq
    have e2 : (L.drop (i + k)).countP (fun y => sameH y x) = 1 := by
      refine count_at _ _ (p - (i + k)) x (by rw [List.getElem?_drop, show i + k + (p - (i + k)) = p by omega]; exact hp) (by unfold sameH; rw [beq_self_eq_true, sameB_refl]; rfl) fun q y hq hP => ?_
      rw [List.getElem?_drop] at hq
      unfold sameH at hP
      simp only [Bool.and_eq_true] at hP
      have := same_iff h.sorted hq hp hP.2
      omega
    rw [e1, e2]

theorem keeps4 {b : Reorder} {add : Option HeldSeq} {r : List Frame × Reorder × Int} {w : Window} {L : List HeldSeq} {t : Int} {i k : Nat} (h : Stp b add r w L t i k) (hb : b.Held.length ≤ 1000) (h1 : r.1.length ≤ 1000) (h2 : r.2.1.Held.length ≤ 1000) :
    ∀ (l : List HeldSeq) (j n : Nat), b.Held.drop j = l → l.length < n → hotspotlaw18_ReorderKeeps_L4 b r n (j : Int) = some (Ex.go ())
  | [], j, n + 1, hl, hn => by rw [hotspotlaw18_ReorderKeeps_L4, ge_dec (drop_n hl)]; rfl
  | x :: l, j, n + 1, hl, hn => by
    obtain ⟨g1, g2, g3⟩ := drop_c hl
    simp only [List.length_cons] at hn
    have hd : idx b.Held (j : Int) = some x := by rw [idxN]; exact g1
    have k8 := keeps8 r b j hd h1 r.1 0 big 0 rfl (big_lt (by omega)) (Nat.le_refl _)
    have k11 := keeps11 r b j hd h2 r.2.1.Held 0 big (0 + r.1.countP fun y => sameB y x.Frame) rfl (big_lt (by omega)) (by have := List.countP_le_length (p := fun y => sameB y x.Frame) (l := r.1); omega)
    have one := keeps_one h (List.mem_of_getElem? g1)
    simp only [Int.natCast_zero] at k8 k11
    rw [hotspotlaw18_ReorderKeeps_L4, lt_dec g3, cond_true, k8, bindS, k11, bindS, show 0 + (r.1.countP fun y => sameB y x.Frame) + (r.2.1.Held.countP fun y => sameH y x) = 1 by omega, show (((1 : Nat) : Int) != 1) = false from rfl, cond_false, bindS, Ex.kE_go', wrapN (by omega), keeps4 h hb h1 h2 l (j + 1) n g2 (by omega)]

def addN : Option HeldSeq → Nat | none => 0 | some _ => 1
theorem stp_len {b : Reorder} {add : Option HeldSeq} {r : List Frame × Reorder × Int} {w : Window} {L : List HeldSeq} {t : Int} {i k : Nat} (h : Stp b add r w L t i k) : r.1.length + r.2.1.Held.length = b.Held.length + addN add := by
  have := h.mv.len
  have hh := h.held
  simp only at this
  rw [this]
  cases add with
  | none => simp only at hh; rw [hh.1]; rfl
  | some z =>
    obtain ⟨j, hj, _⟩ := hh
    rw [hj]
    simp only [List.length_append, List.length_singleton, List.length_take, List.length_drop, addN]
    omega

theorem keeps (b : Reorder) (s : Hotspotref18_Step) : hotspotlaw18_ReorderKeeps b s = some true := by
  unfold hotspotlaw18_ReorderKeeps
  obtain ⟨g, g1, g2⟩ := great_e b s.Frame
  rw [alive_e, bindS, g1, bindS]
  cases g with
  | true => rfl
  | false =>
    obtain ⟨h70, hf, hfb⟩ := g2 rfl
    rw [cond_false, check_e b (by omega), bindS, bindS]
    by_cases hv : VR b
    · rw [if_pos hv, show (((0 : Int) != 0) || !true) = false from rfl, cond_false]
      obtain ⟨r, r1, r2⟩ := step_e b hv hf s hfb
      rw [r1, bindS]
      rcases r2 with ⟨e1, e2, e3⟩ | ⟨w, L, t, i, k, h⟩
      · rw [show (r.2.2 != 0) = true by simpa using e3, cond_true, e1, e2]
        simp only [List.length_nil, Int.natCast_zero, beq_self_eq_true, Bool.and_self, cond_true]
        rw [sameR_e _ (by simp [Reorder.z])]; rfl
      · have hlen := stp_len h
        have hadd : b.Held.length + addN (if s.Kind = 0 then some (⟨s.N, s.Frame⟩ : HeldSeq) else none) ≤ 1000 := by split <;> simp only [addN] <;> omega
        have hmany : (bif (s.Kind == 0) then some (IntKind.wrap .i64 ((b.Held.length : Int) + 1)) else some (b.Held.length : Int)) = some ((r.1.length + r.2.1.Held.length : Nat) : Int) := by
          rw [hlen]
          by_cases h0 : s.Kind = 0
          · rw [h0, beq_self_eq_true, cond_true, if_pos rfl, wrapN (by omega)]; rfl
          · rw [show (s.Kind == 0) = false by simpa using h0, cond_false, if_neg h0]; rfl
        have hsz : r.2.1.Size = b.Size ∧ r.2.1.Hold = b.Hold := by rw [h.mv.nx]; exact ⟨rfl, rfl⟩
        have h4 := keeps4 h (by omega) (by omega) (by omega) b.Held 0 big rfl (big_lt (by omega))
        simp only [Int.natCast_zero] at h4
        rw [h.err, bne_self_eq_false, cond_false, hmany, bindS, wrapI (by omega) (by omega), show ((r.1.length : Int) + (r.2.1.Held.length : Int)) = ((r.1.length + r.2.1.Held.length : Nat) : Int) by omega, bne_self_eq_false, hsz.1, hsz.2, bne_self_eq_false, bne_self_eq_false, Bool.or_self, Bool.or_self, cond_false, check_e _ (by omega), if_pos h.valid, bindS, bne_self_eq_false, bindS, cond_false, h4, bindS]
        rfl
    · rw [if_neg hv]; rfl
end Go.AX.Z.TR

/-! (TRN) -/

set_option linter.unusedVariables false
set_option linter.unusedSimpArgs false
namespace Go.AX.Z.TR
open Go.AX

/-! ## Nothing is released twice -/

theorem L12_e (r : List Frame × Reorder × Int) (d : Int × List Frame × Int) {g : Frame} (hg : idx r.1 d.2.2 = some g) (o : List Frame) (hL : o.length ≤ 1000) (p : Nat) (y : Frame) (hp : o[p]? = some y) (hy : sameB y g = true) (hq : ∀ (q : Nat) (z : Frame), q < p → o[q]? = some z → sameB z g = false) :
    ∀ (k m n : Nat), m + k = p → k + 2 < n → hotspotlaw18_ReorderOnce_L12 r d n (o, false, (m : Int)) = some (o.take p ++ o.drop (p + 1), true)
  | 0, m, n + 1, hm, hn => by
    have e : m = p := by omega
    subst e
    have hlt := (List.getElem?_eq_some_iff.1 hp).1
    obtain ⟨n, rfl⟩ : ∃ q, n = q + 1 := ⟨n - 1, by omega⟩
    rw [hotspotlaw18_ReorderOnce_L12]
    simp only
    rw [lt_dec hlt, Bool.not_false, Bool.and_self, cond_true, idxN, hp, bindS, hg, bindS, same_d, bindS, hy, cond_true, wrapN (by omega), chk_t (by simp; omega), bindS, chk_d (by omega), bindS, chk_t (by simp; omega), bindS, Int.toNat_natCast, Int.toNat_natCast, chk_d (by omega), bindS, hotspotlaw18_ReorderOnce_L12]
    simp only
    rw [Bool.not_true, Bool.and_false, cond_false]
  | k + 1, m, n + 1, hm, hn => by
    have hlt := (List.getElem?_eq_some_iff.1 hp).1
    obtain ⟨z, hz⟩ : ∃ z, o[m]? = some z := ⟨_, List.getElem?_eq_getElem (by omega)⟩
    rw [hotspotlaw18_ReorderOnce_L12]
    simp only
    rw [lt_dec (by omega), Bool.not_false, Bool.and_self, cond_true, idxN, hz, bindS, hg, bindS, same_d, bindS, hq m z (by omega) hz, cond_false, wrapN (by omega), L12_e r d hg o hL p y hp hy hq k (m + 1) n (by omega) (by omega)]

/-- The first that is the same. -/
theorem first_same (g : Frame) : ∀ (o : List Frame), g ∈ o → ∃ (p : Nat) (y : Frame), o[p]? = some y ∧ sameB y g = true ∧ ∀ (q : Nat) (z : Frame), q < p → o[q]? = some z → sameB z g = false
  | [], h => by cases h
  | a :: o, h => by
    cases ha : sameB a g with
    | true => exact ⟨0, a, rfl, ha, fun q z hq => by omega⟩
    | false =>
      have hm : g ∈ o := by
        rcases List.mem_cons.1 h with rfl | h
        · rw [sameB_refl] at ha; cases ha
        · exact h
      obtain ⟨p, y, h1, h2, h3⟩ := first_same g o hm
      refine ⟨p + 1, y, by simpa using h1, h2, fun q z hq hz => ?_⟩
      cases q with
      | zero => simp at hz; subst hz; exact ha
      | succ q => exact h3 q z (by omega) (by simpa using hz)

theorem rm_perm {S : Int} {L : List HeldSeq} (hs : Sortd S L) {q : Nat} {x : HeldSeq} (hx : L[q]? = some x) {o : List Frame} (ho : List.Perm o ((L.drop q).map (·.Frame))) {p : Nat} {y : Frame} (hp : o[p]? = some y) (hy : sameB y x.Frame = true) : List.Perm (o.take p ++ o.drop (p + 1)) ((L.drop (q + 1)).map (·.Frame)) := by
  have hmem : y ∈ (L.drop q).map (·.Frame) := (ho.mem_iff).1 (List.mem_of_getElem? hp)
  obtain ⟨z, hz, rfl⟩ := List.mem_map.1 hmem
  obtain ⟨j, hj⟩ := List.mem_iff_getElem?.1 hz
  rw [List.getElem?_drop] at hj
  have e := same_iff hs hj hx hy
  have e0 : j = 0 := by omega
  subst e0
  rw [Nat.add_zero, hx] at hj; cases hj
  have hlt := (List.getElem?_eq_some_iff.1 hp).1
  have h1 : o = o.take p ++ x.Frame :: o.drop (p + 1) := by
    conv => lhs; rw [← List.take_append_drop p o]
    rw [List.drop_eq_getElem_cons hlt, (List.getElem?_eq_some_iff.1 hp).2]
  have h2 : List.Perm o (x.Frame :: (o.take p ++ o.drop (p + 1))) := by
    conv => lhs; rw [h1]
    exact List.perm_middle
  have hlt2 := (List.getElem?_eq_some_iff.1 hx).1
  have h3 : (L.drop q).map (·.Frame) = x.Frame :: (L.drop (q + 1)).map (·.Frame) := by
    rw [List.drop_eq_getElem_cons hlt2, (List.getElem?_eq_some_iff.1 hx).2]; rfl
  rw [h3] at ho
  exact (h2.symm.trans ho).cons_inv

theorem stp_dist {b : Reorder} {add : Option HeldSeq} {r : List Frame × Reorder × Int} {w : Window} {L : List HeldSeq} {t : Int} {i k : Nat} (h : Stp b add r w L t i k) {q : Nat} (hq : q < i + k) {x : HeldSeq} (hx : L[q]? = some x) : dist b.Start x.n < t + k := by
  rcases Nat.lt_or_ge q i with c | c
  · have := h.mv.cut.2.1 q x c hx
    have : dist b.Start x.n < t := this
    omega
  · have := h.mv.run (q - i) x (by omega) (by rw [show i + (q - i) = q by omega]; exact hx)
    have : dist b.Start x.n = t + ((q - i : Nat) : Int) := this
    omega

theorem once8 {b : Reorder} {add : Option HeldSeq} {r : List Frame × Reorder × Int} {w : Window} {L : List HeldSeq} {t : Int} {i k : Nat} (h : Stp b add r w L t i k) (hL : L.length ≤ 200) {d61 : Reorder × Int × Int × List Frame × Int} (hb : d61.1.Start = b.Start) {passed : Int} (hpa : d61.2.1 = passed) (hp0 : 0 ≤ passed ∧ passed ≤ 1000000000) :
    ∀ (m q n : Nat) (last : Int) (o : List Frame), q + m = i + k → m < n → -1 ≤ last → last < passed + (t + k) → (∀ x, L[q]? = some x → last < passed + dist b.Start x.n) → List.Perm o ((L.drop q).map (·.Frame)) →
      ∃ last' o', hotspotlaw18_ReorderOnce_L8 r d61 n (last, o, (q : Int)) = some (Ex.go (last', o')) ∧ -1 ≤ last' ∧ last' < passed + (t + k) ∧ List.Perm o' ((L.drop (i + k)).map (·.Frame))
  | 0, q, n + 1, last, o, hq, hn, hl0, hl1, hlx, ho => by
    have hlen : r.1.length = i + k := by
      have := h.mv.le
      rw [h.mv.out, List.length_map, List.length_take]
      simp only at this ⊢; omega
    have hqe : q = i + k := by omega
    subst hqe
    rw [hotspotlaw18_ReorderOnce_L8]
    simp only
    rw [ge_dec (by omega), cond_false]
    exact ⟨last, o, rfl, hl0, hl1, ho⟩
  | m + 1, q, n + 1, last, o, hq, hn, hl0, hl1, hlx, ho => by
    have hle := h.mv.le
    simp only at hle
    have hlen : r.1.length = i + k := by
      rw [h.mv.out, List.length_map, List.length_take]
      simp only; omega
    obtain ⟨x, hx⟩ : ∃ x, L[q]? = some x := ⟨_, List.getElem?_eq_getElem (by omega)⟩
    have hrx : r.1[q]? = some x.Frame := by
      rw [h.mv.out, List.getElem?_map, List.getElem?_take, if_pos (by omega)]
      simp only [hx, Option.map_some]
    have hdx := dist_nn b.Start x.n
    have hdl := stp_dist h (show q < i + k by omega) hx
    have hll := hlx x hx
    have ht := h.t0
    have hxo : x.Frame ∈ o := by
      rw [ho.mem_iff]
      refine List.mem_map.2 ⟨x, ?_, rfl⟩
      exact List.mem_of_getElem? (i := 0) (by rw [List.getElem?_drop, Nat.add_zero]; exact hx)
    obtain ⟨p, y, p1, p2, p3⟩ := first_same x.Frame o hxo
    have hol : o.length ≤ 1000 := by rw [ho.length_eq]; simp; omega
    have hpl := (List.getElem?_eq_some_iff.1 p1).1
    have h12 := L12_e r (last, o, (q : Int)) (show idx r.1 (q : Int) = some x.Frame by rw [idxN]; exact hrx) o hol p y p1 p2 p3 p 0 big (by omega) (big_lt (by omega))
    simp only [Int.natCast_zero] at h12
    have hw : IntKind.wrap .i64 (passed + dist b.Start x.Frame.Head.Seq) = passed + dist b.Start x.n := by
      show IntKind.wrap .i64 (passed + dist b.Start x.n) = _
      exact wrapI (by omega) (by omega)
    obtain ⟨last', o', e1, e2, e3, e4⟩ := once8 h hL hb hpa hp0 m (q + 1) n (passed + dist b.Start x.n) (o.take p ++ o.drop (p + 1)) (by omega) (by omega) (by omega) (by omega) (fun z hz => by
      have := h.sorted.idx (show q < q + 1 by omega) hx hz; omega) (rm_perm h.sorted hx ho p1 p2)
    rw [hotspotlaw18_ReorderOnce_L8]
    simp only
    rw [lt_dec (by omega), cond_true, idxN, hrx, bindS, hb, dist_e, bindS, hpa, hw, decide_eq_false (by omega), cond_false, h12, bindS, Bool.not_true, cond_false, bindS, Ex.kE_go', wrapN (by omega)]
    exact ⟨last', o', e1, e2, e3, e4⟩

/-- Behind the frames that were put. -/
structure Onc (b : Reorder) (passed last : Int) (o : List Frame) (i : Nat) : Prop where
  v : VR b
  f : Fit b.Held
  p : List.Perm o (b.Held.map (·.Frame))
  l : -1 ≤ last ∧ last < passed
  s : 0 ≤ passed ∧ passed ≤ 4096 * (i : Int)

theorem ReorderHeta (b : Reorder) : ({ b with Held := b.Held } : Reorder) = b := rfl

theorem once3 (S : List Hotspotref18_Step) (hS : S.length ≤ 200) (hb : ∀ s ∈ S, s.Frame.Body.length ≤ 2400) : ∀ (l : List Hotspotref18_Step) (i n : Nat) (b : Reorder) (passed last : Int) (o : List Frame), S.drop i = l → l.length < n → Onc b passed last o i →
    ∃ b' o', hotspotlaw18_ReorderOnce_L3 S n (b, passed, last, o, (i : Int)) = some (Ex.go (b', o')) ∧ o'.length = b'.Held.length := by
  intro l
  induction l with
  | nil =>
    intro i n b passed last o h hn hi
    obtain ⟨n, rfl⟩ : ∃ q, n = q + 1 := ⟨n - 1, by simp at hn; omega⟩
    rw [hotspotlaw18_ReorderOnce_L3]
    simp only
    rw [ge_dec (drop_n h), cond_false]
    exact ⟨b, o, rfl, by rw [hi.p.length_eq, List.length_map]⟩
  | cons s l ih =>
    intro i n b passed last o h hn hi
    obtain ⟨n, rfl⟩ : ∃ q, n = q + 1 := ⟨n - 1, by simp at hn; omega⟩
    obtain ⟨h1, h2, h3⟩ := drop_c h
    simp only [List.length_cons] at hn
    obtain ⟨r, r1, r2⟩ := step_e b hi.v hi.f s (hb s (List.mem_of_getElem? h1))
    have h70 := held_len hi.v
    have hs := hi.s
    have hl := hi.l
    rw [hotspotlaw18_ReorderOnce_L3]
    simp only
    rw [lt_dec h3, cond_true, idxN, h1, bindS, show ({ Start := b.Start, Size := b.Size, Hold := b.Hold, Held := b.Held, Seen := b.Seen } : Reorder) = b from rfl, r1, bindS]
    rcases r2 with ⟨e1, e2, e3⟩ | ⟨w, L, t, i2, k, hst⟩
    · rw [show (r.2.2 != 0) = true by simpa using e3, cond_true, bindS, Ex.kE_go', wrapN (by omega)]
      exact ih (i + 1) n b passed last o h2 (by omega) ⟨hi.v, hi.f, hi.p, hi.l, by omega, by omega⟩
    · have hLl : L.length ≤ 200 := by
        have := stp_len hst
        have h2 := hst.mv.len
        simp only at h2
        rw [h2] at this
        rw [this]; split <;> simp only [addN] <;> omega
      have hperm : ∀ o1, o1 = (if s.Kind = 0 then o ++ [s.Frame] else o) → List.Perm o1 (L.map (·.Frame)) := by
        intro o1 ho1
        have hh := hst.held
        by_cases h0 : s.Kind = 0
        · rw [if_pos h0] at ho1 hh
          obtain ⟨j, hj, _⟩ := hh
          rw [ho1, hj]
          simp only [List.map_append, List.map_cons, List.map_nil]
          have hp := hi.p
          have e : b.Held.map (·.Frame) = (b.Held.take j).map (·.Frame) ++ (b.Held.drop j).map (·.Frame) := by rw [← List.map_append, List.take_append_drop]
          rw [e] at hp
          refine (hp.append_right [s.Frame]).trans ?_
          rw [List.append_assoc, List.append_assoc]
          exact List.Perm.append_left _ List.perm_append_comm
        · rw [if_neg h0] at ho1 hh
          simp only at hh
          rw [ho1, hh.1]; exact hi.p
      have hopen : (bif (s.Kind == 0) then ((chk (decide ((o.length + 1) * 104 ≤ 140737488355328))).bind fun x67 => some (o ++ [s.Frame])) else some o) = some (if s.Kind = 0 then o ++ [s.Frame] else o) := by
        have hol : o.length ≤ 70 := by rw [hi.p.length_eq, List.length_map]; exact h70
        by_cases h0 : s.Kind = 0
        · rw [h0, beq_self_eq_true, cond_true, chk_d (by omega), bindS, if_pos rfl]
        · rw [show (s.Kind == 0) = false by simpa using h0, cond_false, if_neg h0]
      have hle := hst.mv.le
      simp only at hle
      have ht := hst.t0
      obtain ⟨last', o', f1, f2, f3, f4⟩ := once8 hst hLl (d61 := (b, passed, last, o, (i : Int))) rfl (passed := passed) rfl ⟨hs.1, by omega⟩ (i2 + k) 0 big last (if s.Kind = 0 then o ++ [s.Frame] else o) (by omega) (big_lt (by omega)) hl.1 (by omega) (fun x hx => by have := (dist_nn b.Start x.n).1; omega) (by rw [List.drop_zero]; exact hperm _ rfl)
      simp only [Int.natCast_zero] at f1
      have hnx : r.2.1.Start = (b.Start + (t + k)) % 4096 := by rw [hst.mv.nx]
      have hdn : dist b.Start r.2.1.Start = t + k := by rw [hnx]; unfold dist; omega
      have hHeld : r.2.1.Held = L.drop (i2 + k) := by rw [hst.mv.nx]; simp only [List.drop_drop]
      have hfit : Fit r.2.1.Held := by
        refine ⟨by rw [hHeld]; simp; omega, fun x hx => ?_⟩
        rw [hHeld] at hx
        have hxL := List.mem_of_mem_drop hx
        have hh := hst.held
        by_cases h0 : s.Kind = 0
        · rw [if_pos h0] at hh
          obtain ⟨j, hj, _⟩ := hh
          rw [hj] at hxL
          simp only [List.mem_append, List.mem_singleton] at hxL
          rcases hxL with (hxL | hxL) | hxL
          · exact hi.f.2 x (List.mem_of_mem_take hxL)
          · rw [hxL]; exact hb s (List.mem_of_getElem? h1)
          · exact hi.f.2 x (List.mem_of_mem_drop hxL)
        · rw [if_neg h0] at hh
          simp only at hh
          rw [hh.1] at hxL
          exact hi.f.2 x hxL
      rw [hst.err, bne_self_eq_false, cond_false, hopen, bindS, f1, bindS, Ex.kE_go', dist_e, bindS, hdn, wrapI (by omega) (by omega), decide_eq_false (by omega), cond_false, bindS, Ex.kE_go', wrapN (by omega)]
      exact ih (i + 1) n r.2.1 (passed + (t + k)) last' o' h2 (by omega) ⟨hst.valid, hfit, by rw [hHeld]; exact f4, ⟨f2, by omega⟩, by omega, by omega⟩

theorem lgreat_loop (S : List Hotspotref18_Step) (hs : S.length ≤ 1000) : ∀ (l : List Hotspotref18_Step) (i n : Nat), S.drop i = l → l.length < n →
    ∃ o, hotspotlaw18_great_L2 S n (i : Int) = some o ∧ (o = Ex.ret true ∨ o = Ex.go () ∧ ∀ x ∈ l, x.Frame.Body.length ≤ 2400)
  | [], i, n + 1, h, hn => by
    rw [hotspotlaw18_great_L2, ge_dec (drop_n h)]
    exact ⟨_, rfl, .inr ⟨rfl, by simp⟩⟩
  | x :: l, i, n + 1, h, hn => by
    obtain ⟨h1, h2, h3⟩ := drop_c h
    simp only [List.length_cons] at hn
    rw [hotspotlaw18_great_L2, lt_dec h3]
    simp only [cond_true, idxN, h1, bindS, hotspotref05_Great]
    by_cases hx : 2400 < x.Frame.Body.length
    · rw [decide_eq_true (by omega), cond_true]; exact ⟨_, rfl, .inl rfl⟩
    · rw [decide_eq_false (by omega), cond_false, wrapN (by omega)]
      obtain ⟨o, e1, e2⟩ := lgreat_loop S hs l (i + 1) n h2 (by omega)
      refine ⟨o, e1, ?_⟩
      rcases e2 with e2 | ⟨e2, e3⟩
      · exact .inl e2
      · refine .inr ⟨e2, fun y hy => ?_⟩
        rcases List.mem_cons.1 hy with rfl | hy
        · omega
        · exact e3 y hy
theorem lgreat_e (S : List Hotspotref18_Step) : ∃ g, hotspotlaw18_great S = some g ∧ (g = false → S.length ≤ 200 ∧ ∀ s ∈ S, s.Frame.Body.length ≤ 2400) := by
  unfold hotspotlaw18_great
  by_cases h : 200 < S.length
  · rw [decide_eq_true (by omega), cond_true]
    exact ⟨_, rfl, fun h => by cases h⟩
  · rw [decide_eq_false (by omega), cond_false]
    obtain ⟨o, e1, e2⟩ := lgreat_loop S (by omega) S 0 big rfl (big_lt (by omega))
    simp only [Int.natCast_zero] at e1
    rw [e1, bindS]
    rcases e2 with rfl | ⟨rfl, e3⟩
    · exact ⟨_, rfl, fun h => by cases h⟩
    · exact ⟨_, rfl, fun _ => ⟨by omega, e3⟩⟩

theorem new_e (a b c : Int) : ∃ x : Reorder × Int, reorder_New a b c = some x ∧ ((x.2 = 2) ∨ (x.2 = 0 ∧ x.1 = { Reorder.z with Hold := c, Seen := { Window.z with Start := a }, Size := b, Start := a } ∧ VR x.1)) := by
  unfold reorder_New
  rw [check_e _ (by simp [Reorder.z]), bindS]
  by_cases hv : VR { Reorder.z with Hold := c, Seen := { Window.z with Start := a }, Size := b, Start := a }
  · rw [if_pos hv, bne_self_eq_false, cond_false]
    exact ⟨_, rfl, .inr ⟨rfl, rfl, hv⟩⟩
  · rw [if_neg hv]
    exact ⟨_, rfl, .inl rfl⟩

theorem once (a b c : Int) (S : List Hotspotref18_Step) : hotspotlaw18_ReorderOnce a b c S = some true := by
  unfold hotspotlaw18_ReorderOnce
  obtain ⟨x, x1, x2⟩ := new_e a b c
  rw [alive_e, bindS, x1, bindS]
  rcases x2 with h2 | ⟨h0, hx, hv⟩
  · rw [h2, show ((2 : Int) != 0) = true from rfl, cond_true, bindS]; rfl
  · obtain ⟨g, g1, g2⟩ := lgreat_e S
    rw [h0, bne_self_eq_false, cond_false, g1, bindS, bindS]
    cases g with
    | true => rfl
    | false =>
      obtain ⟨l1, l2⟩ := g2 rfl
      have hHeld : x.1.Held = [] := by rw [hx]; rfl
      obtain ⟨b', o', e1, e2⟩ := once3 S l1 l2 S 0 big x.1 0 (-1) [] rfl (big_lt (by omega)) ⟨hv, by rw [hHeld]; exact ⟨by simp, by simp⟩, by rw [hHeld]; exact .nil, by omega, by omega, by omega⟩
      simp only [Int.natCast_zero] at e1
      rw [show (false || !true) = false from rfl, cond_false, e1, bindS, Ex.k_go']
      simp only
      rw [e2, beq_self_eq_true]; rfl
end Go.AX.Z.TR

/-! (TRY) -/

set_option linter.unusedVariables false
namespace Go.AX.Z.TR
open Go.AX Go.Proofs

/-! ## Arguments, read -/

theorem ud3 : K.P.underlying 3 = some (.int .i64) := by kernel_rfl

theorem ud5 : K.P.underlying 5 = some (.int .u8) := by kernel_rfl

theorem ud4 : K.P.underlying 4 = some (.bool) := by kernel_rfl

def W_Addr (B : Nat) (x : Addr) : Prop := ((Lit.int .u8 x.a0).wf = true) ∧ ((Lit.int .u8 x.a1).wf = true) ∧ ((Lit.int .u8 x.a2).wf = true) ∧ ((Lit.int .u8 x.a3).wf = true) ∧ ((Lit.int .u8 x.a4).wf = true) ∧ ((Lit.int .u8 x.a5).wf = true)

theorem ud39 : K.P.underlying 39 = some (.array 6 5) := by kernel_rfl

theorem rd39 {B n : Nat} {l : List AV} (h : Ty K.P B n 39 l) : ∃ x : Addr, l = e_Addr x ∧ W_Addr B x := by
  obtain ⟨m, ls, rfl, h1, h2⟩ := ty_array ud39 h
  obtain ⟨vs, h3, h4, h5⟩ := ty_ints ud5 ls h2
  match vs, (h4.trans h1 : vs.length = 6) with
  | [a0, a1, a2, a3, a4, a5], _ => exact ⟨⟨a0, a1, a2, a3, a4, a5⟩, h3, h5 _ (by simp), h5 _ (by simp), h5 _ (by simp), h5 _ (by simp), h5 _ (by simp), h5 _ (by simp)⟩

def W_Header (B : Nat) (x : Header) : Prop := ((Lit.int .u8 x.Kind).wf = true) ∧ ((Lit.int .u8 x.Sub).wf = true) ∧ ((Lit.int .i64 x.Duration).wf = true) ∧ (W_Addr B x.A1) ∧ (W_Addr B x.A2) ∧ (W_Addr B x.A3) ∧ (W_Addr B x.A4) ∧ ((Lit.int .i64 x.Seq).wf = true) ∧ ((Lit.int .i64 x.Frag).wf = true) ∧ ((Lit.int .i64 x.Tid).wf = true) ∧ ((Lit.int .u8 x.Ack).wf = true)

theorem rd41 {B n : Nat} {l : List AV} (h : Ty K.P B n 41 l) : ∃ x : Header, l = e_Header x ∧ W_Header B x := by
  obtain ⟨m, h⟩ := ty_struct Try.underlying41 h
  have h' : TyAll (Ty K.P B m) [5, 5, 4, 4, 4, 4, 4, 4, 4, 3, 39, 39, 39, 39, 3, 3, 3, 5, 4, 4] l := h
  obtain ⟨_, _, rfl, h0, _, _, rfl, h1, _, _, rfl, h2, _, _, rfl, h3, _, _, rfl, h4, _, _, rfl, h5, _, _, rfl, h6, _, _, rfl, h7, _, _, rfl, h8, _, _, rfl, h9, _, _, rfl, h10, _, _, rfl, h11, _, _, rfl, h12, _, _, rfl, h13, _, _, rfl, h14, _, _, rfl, h15, _, _, rfl, h16, _, _, rfl, h17, _, _, rfl, h18, _, _, rfl, h19, rfl⟩ := h'
  obtain ⟨v0, rfl, w0⟩ := ty_int ud5 h0
  obtain ⟨v1, rfl, w1⟩ := ty_int ud5 h1
  obtain ⟨v2, rfl⟩ := ty_bool ud4 h2
  obtain ⟨v3, rfl⟩ := ty_bool ud4 h3
  obtain ⟨v4, rfl⟩ := ty_bool ud4 h4
  obtain ⟨v5, rfl⟩ := ty_bool ud4 h5
  obtain ⟨v6, rfl⟩ := ty_bool ud4 h6
  obtain ⟨v7, rfl⟩ := ty_bool ud4 h7
  obtain ⟨v8, rfl⟩ := ty_bool ud4 h8
  obtain ⟨v9, rfl, w9⟩ := ty_int ud3 h9
  obtain ⟨v10, rfl, w10⟩ := rd39 h10
  obtain ⟨v11, rfl, w11⟩ := rd39 h11
  obtain ⟨v12, rfl, w12⟩ := rd39 h12
  obtain ⟨v13, rfl, w13⟩ := rd39 h13
  obtain ⟨v14, rfl, w14⟩ := ty_int ud3 h14
  obtain ⟨v15, rfl, w15⟩ := ty_int ud3 h15
  obtain ⟨v16, rfl, w16⟩ := ty_int ud3 h16
  obtain ⟨v17, rfl, w17⟩ := ty_int ud5 h17
  obtain ⟨v18, rfl⟩ := ty_bool ud4 h18
  obtain ⟨v19, rfl⟩ := ty_bool ud4 h19
  exact ⟨⟨v0, v1, v2, v3, v4, v5, v6, v7, v8, v9, v10, v11, v12, v13, v14, v15, v16, v17, v18, v19⟩, rfl, ⟨w0, w1, w9, w10, w11, w12, w13, w14, w15, w16, w17⟩⟩

theorem ud42 : K.P.underlying 42 = some (.slice 5) := by kernel_rfl

theorem rsl42 {B n : Nat} {x : AV} (h : Ty K.P B n 42 [x]) : ∃ l : (List Int), x = S_vu l ∧ l.length ≤ B ∧ ∀ z ∈ l, (Lit.int .u8 z).wf = true := by
  obtain ⟨vs, rfl, h1, h2⟩ := ty_slice_ints ud42 ud5 h
  exact ⟨vs, rfl, h1, h2⟩

def W_Frame (B : Nat) (x : Frame) : Prop := (W_Header B x.Head) ∧ (x.Body.length ≤ B ∧ ∀ z ∈ x.Body, (Lit.int .u8 z).wf = true)

theorem rd44 {B n : Nat} {l : List AV} (h : Ty K.P B n 44 l) : ∃ x : Frame, l = E_Frame x ∧ W_Frame B x := by
  obtain ⟨m, h⟩ := ty_struct Try.underlying44 h
  have h' : TyAll (Ty K.P B m) [41, 42] l := h
  obtain ⟨_, _, rfl, h0, _, _, rfl, h1, rfl⟩ := h'
  obtain ⟨v0, rfl, w0⟩ := rd41 h0
  obtain ⟨s1, rfl⟩ : ∃ x, _ = [x] := ty_single h1 (by rw [ud42]; intro _ hh; cases hh) (by rw [ud42]; intro _ _ hh; cases hh)
  obtain ⟨v1, rfl, w1⟩ := rsl42 h1
  exact ⟨⟨v0, v1⟩, rfl, ⟨w0, w1⟩⟩

def W_HeldSeq (B : Nat) (x : HeldSeq) : Prop := ((Lit.int .i64 x.At).wf = true) ∧ (W_Frame B x.Frame)

theorem rd58 {B n : Nat} {l : List AV} (h : Ty K.P B n 58 l) : ∃ x : HeldSeq, l = E_HeldSeq x ∧ W_HeldSeq B x := by
  obtain ⟨m, h⟩ := ty_struct Try.underlying58 h
  have h' : TyAll (Ty K.P B m) [3, 44] l := h
  obtain ⟨_, _, rfl, h0, _, _, rfl, h1, rfl⟩ := h'
  obtain ⟨v0, rfl, w0⟩ := ty_int ud3 h0
  obtain ⟨v1, rfl, w1⟩ := rd44 h1
  exact ⟨⟨v0, v1⟩, rfl, ⟨w0, w1⟩⟩

theorem ud22 : K.P.underlying 22 = some (.slice 58) := by kernel_rfl

theorem rsl22 {B n : Nat} {x : AV} (h : Ty K.P B n 22 [x]) : ∃ l : (List HeldSeq), x = S_HeldSeq l ∧ l.length ≤ B ∧ ∀ z ∈ l, W_HeldSeq B z := by
  obtain ⟨l, rfl, h1, h2⟩ := ty_slice_rows (W_HeldSeq B) ud22 (fun _ _ h => rd58 h) h
  exact ⟨l, rfl, h1, h2⟩

theorem ud23 : K.P.underlying 23 = some (.int .u64) := by kernel_rfl

def W_Window (B : Nat) (x : Window) : Prop := ((Lit.int .i64 x.Start).wf = true) ∧ ((Lit.int .u64 x.Bits).wf = true)

theorem rd25 {B n : Nat} {l : List AV} (h : Ty K.P B n 25 l) : ∃ x : Window, l = e_Window x ∧ W_Window B x := by
  obtain ⟨m, h⟩ := ty_struct Try.underlying25 h
  have h' : TyAll (Ty K.P B m) [3, 23] l := h
  obtain ⟨_, _, rfl, h0, _, _, rfl, h1, rfl⟩ := h'
  obtain ⟨v0, rfl, w0⟩ := ty_int ud3 h0
  obtain ⟨v1, rfl, w1⟩ := ty_int ud23 h1
  exact ⟨⟨v0, v1⟩, rfl, ⟨w0, w1⟩⟩

def W_Reorder (B : Nat) (x : Reorder) : Prop := ((Lit.int .i64 x.Start).wf = true) ∧ ((Lit.int .i64 x.Size).wf = true) ∧ ((Lit.int .i64 x.Hold).wf = true) ∧ (x.Held.length ≤ B ∧ ∀ z ∈ x.Held, W_HeldSeq B z) ∧ (W_Window B x.Seen)

theorem rd27 {B n : Nat} {l : List AV} (h : Ty K.P B n 27 l) : ∃ x : Reorder, l = E_Reorder x ∧ W_Reorder B x := by
  obtain ⟨m, h⟩ := ty_struct Try.underlying27 h
  have h' : TyAll (Ty K.P B m) [3, 3, 3, 22, 25] l := h
  obtain ⟨_, _, rfl, h0, _, _, rfl, h1, _, _, rfl, h2, _, _, rfl, h3, _, _, rfl, h4, rfl⟩ := h'
  obtain ⟨v0, rfl, w0⟩ := ty_int ud3 h0
  obtain ⟨v1, rfl, w1⟩ := ty_int ud3 h1
  obtain ⟨v2, rfl, w2⟩ := ty_int ud3 h2
  obtain ⟨s3, rfl⟩ : ∃ x, _ = [x] := ty_single h3 (by rw [ud22]; intro _ hh; cases hh) (by rw [ud22]; intro _ _ hh; cases hh)
  obtain ⟨v3, rfl, w3⟩ := rsl22 h3
  obtain ⟨v4, rfl, w4⟩ := rd25 h4
  exact ⟨⟨v0, v1, v2, v3, v4⟩, rfl, ⟨w0, w1, w2, w3, w4⟩⟩

def W_Hotspotref18_Step (B : Nat) (x : Hotspotref18_Step) : Prop := ((Lit.int .i64 x.Kind).wf = true) ∧ ((Lit.int .i64 x.N).wf = true) ∧ (W_Frame B x.Frame)

theorem rd75 {B n : Nat} {l : List AV} (h : Ty K.P B n 75 l) : ∃ x : Hotspotref18_Step, l = E_Hotspotref18_Step x ∧ W_Hotspotref18_Step B x := by
  obtain ⟨m, h⟩ := ty_struct Try.underlying75 h
  have h' : TyAll (Ty K.P B m) [3, 3, 44] l := h
  obtain ⟨_, _, rfl, h0, _, _, rfl, h1, _, _, rfl, h2, rfl⟩ := h'
  obtain ⟨v0, rfl, w0⟩ := ty_int ud3 h0
  obtain ⟨v1, rfl, w1⟩ := ty_int ud3 h1
  obtain ⟨v2, rfl, w2⟩ := rd44 h2
  exact ⟨⟨v0, v1, v2⟩, rfl, ⟨w0, w1, w2⟩⟩

theorem ud71 : K.P.underlying 71 = some (.slice 75) := by kernel_rfl

theorem rsl71 {B n : Nat} {x : AV} (h : Ty K.P B n 71 [x]) : ∃ l : (List Hotspotref18_Step), x = S_Hotspotref18_Step l ∧ l.length ≤ B ∧ ∀ z ∈ l, W_Hotspotref18_Step B z := by
  obtain ⟨l, rfl, h1, h2⟩ := ty_slice_rows (W_Hotspotref18_Step B) ud71 (fun _ _ h => rd75 h) h
  exact ⟨l, rfl, h1, h2⟩

end Go.AX.Z.TR

/-! (TRU) -/

/- How bulks bound what a reading holds. -/
namespace Go.Proofs.Ytnkikepecbjfdaa.bulks
open Go.AX

theorem one_le {H : Type} (d : DataW H) : 1 ≤ Rows.uptoBulk d := by
  cases d with
  | lit l => cases l <;> simp [Rows.uptoBulk]
  | nil => simp [Rows.uptoBulk]
  | ptr d => simp [Rows.uptoBulk]
  | slice elems spare => simp [Rows.uptoBulk]
  | agg parts => simp [Rows.uptoBulk]
  | iface t d => simp [Rows.uptoBulk]
  | map entries => simp [Rows.uptoBulk]
  | held h => simp [Rows.uptoBulk]

theorem part_le {H : Type} {d : DataW H} {l : List (DataW H)} (h : d ∈ l) : Rows.uptoBulk d ≤ Rows.uptoBulkAll l := by
  induction l with
  | nil => cases h
  | cons x r ih =>
    simp only [Rows.uptoBulkAll]
    cases List.mem_cons.1 h with
    | inl e => subst e; omega
    | inr e => have := ih e; omega

theorem length_le {H : Type} (l : List (DataW H)) : l.length ≤ Rows.uptoBulkAll l := by
  induction l with
  | nil => simp [Rows.uptoBulkAll]
  | cons x r ih => have := one_le x; simp only [Rows.uptoBulkAll, List.length_cons]; omega

theorem bulk {H : Type} : Bulk (H := H) Rows.uptoBulk where
  ptr d := by simp [Rows.uptoBulk]
  elems es sp d h := by have := part_le h; simp only [Rows.uptoBulk]; omega
  len es sp := by have := length_le es; simp only [Rows.uptoBulk]; omega
  agg ds d h := by have := part_le h; simp only [Rows.uptoBulk]; omega
  str bs := by simp [Rows.uptoBulk]

theorem bound {H : Type} {l : List (DataW H)} (hk : Rows.uptoSmall H l = true) : Rows.uptoBulkAll l ≤ 1048576 := by
  have := of_decide_eq_true hk
  exact this

end Go.Proofs.Ytnkikepecbjfdaa.bulks

/-! (TRTReorderOnce) -/

/- ReorderOnce: the law returns true whatever its arguments. -/
namespace Go.Proofs.Ytnkikepecbjfdaa.reorderOnce
open Go.ChangeShapes Go.WideShapes Go.ChangeAt Go.RowKit Go.AX Go.AX.Z Go.AX.Z.TR

theorem own : ownKnob Try.prog.godebug = none := by kernel_rfl
theorem laid : laidOutB K.P = true := by kernel_rfl
theorem par : parB K.P Try.f8.params.toList = true := by kernel_rfl

theorem law (B : Nat) (xs : List AV) (h : TyArgs K.P B Try.f8.params.toList xs) : SndP K 8 xs (.v (.bool true)) := by
  have h' : TyArgs K.P B [3, 3, 3, 71] xs := h
  obtain ⟨_, _, rfl, h0, _, _, rfl, h1, _, _, rfl, h2, _, _, rfl, h3, rfl⟩ := h'
  obtain ⟨p0, rfl, wp0⟩ := tyV_int ud3 h0
  obtain ⟨p1, rfl, wp1⟩ := tyV_int ud3 h1
  obtain ⟨p2, rfl, wp2⟩ := tyV_int ud3 h2
  obtain ⟨_, qp3⟩ := tyV_one ud71 h3
  obtain ⟨p3, rfl, wp3⟩ := rsl71 qp3
  exact hotspotlaw18_ReorderOnce_p p0 p1 p2 p3 (once p0 p1 p2 p3)

set_option maxRecDepth 100000 in
theorem lifted (os : Os) (started : os.Started) (H : Type) (enc : TypeId × Value → H) :
    ReturnsInHanded {} Try.checked os 8 .any (Rows.reorderOnceSpec.pre6 enc Try.prog Try.f8 Rows.reorderOnceRow.domain false) (Rows.reorderOnceSpec.post enc Try.prog Try.f8 false true false false) := by
  refine returnsInHanded_of_change (C := Try.checked) own started (by kernel_rfl) Try.func8
    (ChangeSpec.witness6 (enc := enc) (C := Try.checked) false ⟨#[], #[.int .i64 0, .int .i64 0, .int .i64 0, .slice none 0 0], []⟩ 8 (by kernel_rfl) (by kernel_rfl) (by kernel_rfl) (by kernel_rfl)) ?_
  intro W base args ds gs before hval hW hcnd _
  exact law_contract (C := K) (f := 8) ⟨Try.f8, Try.func8, rfl, by decide +kernel⟩ (fn := Try.f8) (tb := 4) (B := Rows.uptoBulkAll ds) (bk := Rows.uptoBulk) rfl laid par rfl Try.underlying4 (law _) rfl
    (fun ds hds => by match ds, hds with | [d1, d2, d3, d4], _ => rfl) bulks.bulk hval hW (fun d hd => bulks.part_le hd)

theorem over : Rows.ReorderOnceSaid :=
  OpenClaim.holds_of_wide 8 Try.f8 rfl rfl rfl rfl rfl rfl rfl ⟨rfl, rfl, rfl, rfl, rfl⟩ rfl rfl rfl rfl rfl (by kernel_rfl) Try.func8 (by kernel_rfl)
    (of_decide_eq_true (by kernel_rfl)) (by unfold Func.isWrapper; first | (rw [if_pos (by decide +kernel)]; kernel_rfl) | (rw [if_neg (by decide +kernel)]; exact ⟨rfl, rfl⟩))
    (fun os started H enc _ => lifted os started H enc)

end Go.Proofs.Ytnkikepecbjfdaa.reorderOnce
