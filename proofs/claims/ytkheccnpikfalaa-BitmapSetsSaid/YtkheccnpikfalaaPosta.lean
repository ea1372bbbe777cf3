/- BitmapSets: the law returns true whatever its arguments. -/
import Derived.Test.YtkheccnpikfalaaWalka
import Derived.Test.YtkheccnpikfalaaRows
import Derived.WalkKit
import Derived.ProofKit
import Derived.OpenShut
import Derived.JoinedCond
set_option linter.unusedVariables false
set_option linter.unusedSimpArgs false

/-! (TBP) -/

set_option linter.unusedVariables false
set_option linter.unusedSimpArgs false
namespace Go.AX.Z.TB
open Go.AX

/-! ## Rows of identifiers -/

/-- Rising numbers behind one, at most 255. -/
def Srt : Int → List Int → Prop
  | _, [] => True
  | p, x :: l => (p < x ∧ x ≤ 255) ∧ Srt x l
instance decSrt : ∀ (p : Int) (l : List Int), Decidable (Srt p l)
  | _, [] => .isTrue trivial
  | p, x :: l => @instDecidableAnd (p < x ∧ x ≤ 255) (Srt x l) inferInstance (decSrt x l)
def VT (t : Traffic) : Prop := Srt 0 t.Aids
instance (t : Traffic) : Decidable (VT t) := decSrt 0 t.Aids

theorem srt_pw : ∀ {l : List Int} {p : Int}, Srt p l → (l.Pairwise fun x y => x < y) ∧ ∀ x ∈ l, p < x ∧ x ≤ 255
  | [], _, _ => ⟨.nil, by simp⟩
  | x :: l, p, h => by
    obtain ⟨h1, h2⟩ := srt_pw h.2
    refine ⟨List.pairwise_cons.2 ⟨fun y hy => (h2 y hy).1, h1⟩, fun y hy => ?_⟩
    rcases List.mem_cons.1 hy with rfl | hy
    · exact h.1
    · have := h2 y hy; have := h.1; omega

theorem pw_ext : ∀ {l m : List Int}, (l.Pairwise fun x y => x < y) → (m.Pairwise fun x y => x < y) → (∀ x, x ∈ l ↔ x ∈ m) → l = m
  | [], [], _, _, _ => rfl
  | [], y :: m, _, _, h => by have := (h y).2 (by simp); simp at this
  | x :: l, [], _, _, h => by have := (h x).1 (by simp); simp at this
  | x :: l, y :: m, hl, hm, h => by
    obtain ⟨l1, l2⟩ := List.pairwise_cons.1 hl
    obtain ⟨m1, m2⟩ := List.pairwise_cons.1 hm
    have e : x = y := by
      have a := (h x).1 (by simp)
      have b := (h y).2 (by simp)
      rcases List.mem_cons.1 a with a | a
      · exact a
      · rcases List.mem_cons.1 b with b | b
        · exact b.symm
        · have := m1 x a; have := l1 y b; omega
    subst e
    congr 1
    refine pw_ext l2 m2 fun z => ?_
    have hz := h z
    simp only [List.mem_cons] at hz
    constructor
    · intro q
      rcases hz.1 (.inr q) with r | r
      · subst r; have := l1 z q; omega
      · exact r
    · intro q
      rcases hz.2 (.inr q) with r | r
      · subst r; have := m1 z q; omega
      · exact r

theorem check_loop (t : Traffic) (hL : t.Aids.length < 4611686018427387904) : ∀ (l : List Int) (p : Int) (i n : Nat), t.Aids.drop i = l → l.length < n →
    ∃ o, bitmap_Check_L2 t n (p, (i : Int)) = some o ∧ (o = Ex.ret 8 ∨ o = Ex.go ()) ∧ (o = Ex.go () ↔ Srt p l) := by
  intro l
  induction l with
  | nil =>
    intro p i n h hn
    obtain ⟨n, rfl⟩ : ∃ m, n = m + 1 := ⟨n - 1, by simp at hn; omega⟩
    rw [bitmap_Check_L2, ge_dec (drop_n h)]
    exact ⟨_, rfl, .inr rfl, by simp [Srt]⟩
  | cons x l ih =>
    intro p i n h hn
    obtain ⟨n, rfl⟩ : ∃ m, n = m + 1 := ⟨n - 1, by simp at hn; omega⟩
    obtain ⟨h1, h2, h3⟩ := drop_c h
    simp only [List.length_cons] at hn
    rw [bitmap_Check_L2, lt_dec h3]
    simp only [cond_true, idxN, h1, bindS]
    by_cases hb : x ≤ p ∨ 255 < x
    · rw [show (decide (x ≤ p) || decide (255 < x)) = true by simpa using hb, cond_true]
      refine ⟨_, rfl, .inl rfl, ?_⟩
      constructor
      · intro q; cases q
      · intro q; have := q.1; omega
    · rw [show (decide (x ≤ p) || decide (255 < x)) = false by simp only [Bool.or_eq_false_iff, decide_eq_false_iff_not]; omega, cond_false, wrapN (by omega)]
      obtain ⟨o, e1, e2, e3⟩ := ih x (i + 1) n h2 (by omega)
      refine ⟨o, e1, e2, e3.trans ?_⟩
      constructor
      · intro q; exact ⟨by omega, q⟩
      · intro q; exact q.2

theorem valid_loop (t : Traffic) (hL : t.Aids.length < 4611686018427387904) : ∀ (l : List Int) (p : Int) (i n : Nat), t.Aids.drop i = l → l.length < n → 0 ≤ p → (i = 0 → p = 0) → (0 < i → t.Aids[i - 1]? = some p) →
    ∃ o, hotspotref33_Valid_L2 t n (i : Int) = some o ∧ (o = Ex.ret false ∨ o = Ex.go ()) ∧ (o = Ex.go () ↔ Srt p l) := by
  intro l
  induction l with
  | nil =>
    intro p i n h hn _ _ _
    obtain ⟨n, rfl⟩ : ∃ m, n = m + 1 := ⟨n - 1, by simp at hn; omega⟩
    rw [hotspotref33_Valid_L2, ge_dec (drop_n h)]
    exact ⟨_, rfl, .inr rfl, by simp [Srt]⟩
  | cons x l ih =>
    intro p i n h hn hp hp0 hp1
    obtain ⟨n, rfl⟩ : ∃ m, n = m + 1 := ⟨n - 1, by simp at hn; omega⟩
    obtain ⟨h1, h2, h3⟩ := drop_c h
    simp only [List.length_cons] at hn
    rw [hotspotref33_Valid_L2, lt_dec h3]
    simp only [cond_true, idxN, h1, bindS]
    have key : (bif decide (x < 1) || decide (255 < x) then some true else ((bif decide ((0 : Int) < (i : Int)) then ((idx t.Aids (IntKind.wrap .i64 ((i : Int) - 1))).bind fun x11 => some (decide (x ≤ x11))) else some false).bind fun x12 => some x12)) = some (decide (x ≤ p ∨ 255 < x)) := by
      by_cases hb : x < 1 ∨ 255 < x
      · rw [show (decide (x < 1) || decide (255 < x)) = true by simpa using hb, cond_true, decide_eq_true (by omega)]
      · rw [show (decide (x < 1) || decide (255 < x)) = false by simp only [Bool.or_eq_false_iff, decide_eq_false_iff_not]; omega, cond_false]
        by_cases hi : 0 < i
        · rw [decide_eq_true (by omega : (0 : Int) < (i : Int)), cond_true, wrapI (by omega) (by omega), show (i : Int) - 1 = ((i - 1 : Nat) : Int) by omega, idxN, hp1 hi, bindS, bindS]
          congr 1; exact decide_eq_decide.2 (by omega)
        · rw [decide_eq_false (by omega : ¬ (0 : Int) < (i : Int)), cond_false, bindS, decide_eq_false (by have := hp0 (by omega); omega)]
    rw [key, bindS]
    by_cases hb : x ≤ p ∨ 255 < x
    · rw [decide_eq_true hb, cond_true]
      refine ⟨_, rfl, .inl rfl, ?_⟩
      constructor
      · intro q; cases q
      · intro q; have := q.1; omega
    · rw [decide_eq_false hb, cond_false, wrapN (by omega)]
      obtain ⟨o, e1, e2, e3⟩ := ih x (i + 1) n h2 (by omega) (by omega) (by omega) (fun _ => h1)
      refine ⟨o, e1, e2, e3.trans ?_⟩
      constructor
      · intro q; exact ⟨by omega, q⟩
      · intro q; exact q.2

theorem check_e (t : Traffic) (hL : t.Aids.length ≤ 1000) : bitmap_Check t = some (if VT t then 0 else 8) := by
  unfold bitmap_Check
  obtain ⟨o, e1, e2, e3⟩ := check_loop t (by omega) t.Aids 0 0 big rfl (big_lt (by omega))
  simp only [Int.natCast_zero] at e1
  rw [e1, bindS]
  rcases e2 with rfl | rfl
  · rw [if_neg (show ¬ VT t from fun q => by cases e3.2 q)]; rfl
  · rw [if_pos (show VT t from e3.1 rfl)]; rfl
theorem valid_e (t : Traffic) (hL : t.Aids.length ≤ 1000) : hotspotref33_Valid t = some (decide (VT t)) := by
  unfold hotspotref33_Valid
  obtain ⟨o, e1, e2, e3⟩ := valid_loop t (by omega) t.Aids 0 0 big rfl (big_lt (by omega)) (Int.le_refl _) (fun _ => rfl) (fun h => by omega)
  simp only [Int.natCast_zero] at e1
  rw [e1, bindS]
  rcases e2 with rfl | rfl
  · rw [decide_eq_false (show ¬ VT t from fun q => by cases e3.2 q)]; rfl
  · rw [decide_eq_true (show VT t from e3.1 rfl)]; rfl

theorem in_loop (L : List Int) (hL : L.length ≤ 2000) (a : Int) : ∀ (l : List Int) (i n : Nat), L.drop i = l → l.length < n → hotspotref33_In_L2 L a n (i : Int) = some (if a ∈ l then Ex.ret true else Ex.go ()) := by
  intro l
  induction l with
  | nil =>
    intro i n h hn
    obtain ⟨n, rfl⟩ : ∃ m, n = m + 1 := ⟨n - 1, by simp at hn; omega⟩
    rw [hotspotref33_In_L2, ge_dec (drop_n h)]; simp
  | cons x l ih =>
    intro i n h hn
    obtain ⟨n, rfl⟩ : ∃ m, n = m + 1 := ⟨n - 1, by simp at hn; omega⟩
    obtain ⟨h1, h2, h3⟩ := drop_c h
    simp only [List.length_cons] at hn
    rw [hotspotref33_In_L2, lt_dec h3]
    simp only [cond_true, idxN, h1, bindS]
    by_cases hx : x = a
    · rw [show (x == a) = true by simpa using hx, cond_true, if_pos (by simp [hx])]
    · rw [show (x == a) = false by simpa using hx, cond_false, wrapN (by omega), ih (i + 1) n h2 (by omega)]
      have : a ∈ x :: l ↔ a ∈ l := by simp [Ne.symm hx]
      simp only [this]
theorem in_e (L : List Int) (hL : L.length ≤ 2000) (a : Int) : hotspotref33_In L a = some (decide (a ∈ L)) := by
  unfold hotspotref33_In
  have := in_loop L hL a L 0 big rfl (big_lt (by omega))
  simp only [Int.natCast_zero] at this
  rw [this, bindS]
  by_cases h : a ∈ L
  · rw [if_pos h, decide_eq_true h]; rfl
  · rw [if_neg h, decide_eq_false h]; rfl

/-- The numbers from one up to 255 that are in a list. -/
def filt (m : List Int) (k : Nat) : List Int := ((List.range' k (256 - k)).map fun i : Nat => (i : Int)).filter fun x => decide (x ∈ m)
theorem filt_mem (m : List Int) (k : Nat) (hk : k ≤ 256) (x : Int) : x ∈ filt m k ↔ x ∈ m ∧ (k : Int) ≤ x ∧ x ≤ 255 := by
  unfold filt
  rw [List.mem_filter, List.mem_map, decide_eq_true_eq]
  constructor
  · rintro ⟨⟨i, hi, rfl⟩, h⟩
    rw [List.mem_range'_1] at hi
    exact ⟨h, by omega, by omega⟩
  · rintro ⟨h, h1, h2⟩
    exact ⟨⟨x.toNat, by rw [List.mem_range'_1]; omega, by omega⟩, h⟩
theorem filt_pw (m : List Int) (k : Nat) : (filt m k).Pairwise fun x y => x < y := by
  unfold filt
  refine List.Pairwise.filter _ (List.Pairwise.map _ (fun a b h => ?_) (List.pairwise_lt_range' (s := k) (n := 256 - k)))
  omega
theorem filt_s (m : List Int) {k : Nat} (hk : k ≤ 255) : filt m k = (if (k : Int) ∈ m then [(k : Int)] else []) ++ filt m (k + 1) := by
  unfold filt
  rw [show 256 - k = (256 - (k + 1)) + 1 by omega, List.range'_succ, List.map_cons, List.filter_cons]
  by_cases h : (k : Int) ∈ m
  · rw [if_pos (by simpa using h), if_pos h]; rfl
  · rw [if_neg (by simpa using h), if_neg h]; rfl
theorem of_loop (m : List Int) (hm : m.length ≤ 2000) (T : Traffic) : ∀ (d k n : Nat) (acc : List Int), k + d = 256 → d < n → acc.length ≤ k → hotspotref33_Of_L2 m n (T, acc, (k : Int)) = some (T, acc ++ filt m k) := by
  intro d
  induction d with
  | zero =>
    intro k n acc hk hn hc
    obtain ⟨n, rfl⟩ : ∃ q, n = q + 1 := ⟨n - 1, by omega⟩
    rw [hotspotref33_Of_L2, decide_eq_false (by simp only; omega), cond_false, show k = 256 by omega]
    simp [filt]
  | succ d ih =>
    intro k n acc hk hn hc
    obtain ⟨n, rfl⟩ : ∃ q, n = q + 1 := ⟨n - 1, by omega⟩
    rw [hotspotref33_Of_L2, decide_eq_true (by simp only; omega), cond_true]
    simp only
    rw [in_e m hm, bindS, filt_s m (by omega : k ≤ 255)]
    by_cases h : (k : Int) ∈ m
    · rw [decide_eq_true h, cond_true, chk_d (by omega), bindS, wrapN (by omega), ih (k + 1) n _ (by omega) (by omega) (by simp; omega), if_pos h]
      simp
    · rw [decide_eq_false h, cond_false, wrapN (by omega), ih (k + 1) n _ (by omega) (by omega) (by omega), if_neg h]
      simp
theorem of_e (g : Bool) (m : List Int) (hm : m.length ≤ 2000) : hotspotref33_Of g m = some { Traffic.z with Group := g, Aids := filt m 1 } := by
  unfold hotspotref33_Of
  have := of_loop m hm { Traffic.z with Group := g } 255 1 big [] (by omega) (big_lt (by omega)) (by simp)
  rw [show (1 : Int) = ((1 : Nat) : Int) from rfl, this]; rfl

theorem change_loop (t : Traffic) (hL : t.Aids.length ≤ 1000) (a : Int) : ∀ (l acc : List Int) (i n : Nat), t.Aids.drop i = l → l.length < n → acc.length + l.length ≤ 1000 → hotspotref33_Change_L3 t a n (acc, (i : Int)) = some (acc ++ l.filter fun x => x != a) := by
  intro l
  induction l with
  | nil =>
    intro acc i n h hn hc
    obtain ⟨n, rfl⟩ : ∃ m, n = m + 1 := ⟨n - 1, by simp at hn; omega⟩
    rw [hotspotref33_Change_L3, ge_dec (drop_n h)]; simp
  | cons x l ih =>
    intro acc i n h hn hc
    obtain ⟨n, rfl⟩ : ∃ m, n = m + 1 := ⟨n - 1, by simp at hn; omega⟩
    obtain ⟨h1, h2, h3⟩ := drop_c h
    simp only [List.length_cons] at hn hc
    rw [hotspotref33_Change_L3, lt_dec h3]
    simp only [cond_true, idxN, h1, bindS, List.filter_cons]
    cases hx : (x != a)
    · rw [cond_false, wrapN (by omega), ih acc (i + 1) n h2 (by omega) (by omega)]; rfl
    · rw [cond_true, chk_d (by omega), bindS, wrapN (by omega), ih _ (i + 1) n h2 (by omega) (by simp; omega)]; simp

/-- What a change gives. -/
theorem change_e (t : Traffic) (a : Int) (s : Bool) (hL : t.Aids.length ≤ 300) (hv : VT t) (ha : 0 ≤ a ∧ a ≤ 255) :
    hotspotref33_Change t a s = some ({ Traffic.z with Group := (bif a == 0 then s else t.Group), Aids := filt (t.Aids.filter (fun x => x != a) ++ (bif s then [a] else [])) 1 }, 0) := by
  unfold hotspotref33_Change hotspotref33_Check
  rw [valid_e t (by omega), decide_eq_true hv, bindS]
  have hc := change_loop t (by omega) a t.Aids [] 0 big rfl (big_lt (by omega)) (by simpa using (by omega : t.Aids.length ≤ 1000))
  simp only [Int.natCast_zero, List.nil_append] at hc
  have hlen : (t.Aids.filter fun x => x != a).length ≤ 300 := Nat.le_trans (List.length_filter_le _ _) hL
  rw [show (decide (a < 0) || decide (255 < a)) = false by simp only [Bool.or_eq_false_iff, decide_eq_false_iff_not]; omega]
  simp only [Bool.not_true, cond_false, bindS, bne_self_eq_false, hc]
  cases h0 : (a == 0) <;> cases s
  all_goals simp only [cond_true, cond_false, bindS, List.append_nil]
  all_goals first
    | rw [of_e _ _ (by omega)]; rfl
    | rw [chk_d (by omega), bindS, bindS, of_e _ _ (by simp; omega)]; rfl

/-! ## The search -/

theorem half_e (i k : Nat) (h : i + k < 1000000) : IntKind.wrap .i64 ((IntKind.wrap .u64 (IntKind.wrap .i64 ((i : Int) + (k : Int)))).fdiv (2 ^ (min 1 64))) = (((i + k) / 2 : Nat) : Int) := by
  rw [wrapI (i := (i : Int) + (k : Int)) (by omega) (by omega), wrapU, show ((2 : Int) ^ (min 1 64)) = 2 from rfl, Int.emod_eq_of_lt (by omega) (by omega), Int.fdiv_eq_ediv_of_nonneg _ (by decide), wrapI (by omega) (by omega)]
  omega
theorem less_e (x a : Int) : cmp_Less_int x a = some (decide (x < a)) := by
  unfold cmp_Less_int cmp_isNaN_int
  rw [bne_self_eq_false]; rfl
theorem cut_e (a : Int) : ∀ (L : List Int), (L.Pairwise fun x y => x < y) → ∃ j, j ≤ L.length ∧ (∀ (h : Nat) y, L[h]? = some y → h < j → y < a) ∧ (∀ (h : Nat) y, L[h]? = some y → j ≤ h → a ≤ y)
  | [], _ => ⟨0, Nat.le_refl _, by simp, by simp⟩
  | x :: L, hp => by
    obtain ⟨h1, h2⟩ := List.pairwise_cons.1 hp
    by_cases hx : x < a
    · obtain ⟨j, p, b, c⟩ := cut_e a L h2
      refine ⟨j + 1, by simpa using p, fun h y hy hlt => ?_, fun h y hy hle => ?_⟩
      · cases h with
        | zero => simp at hy; subst hy; exact hx
        | succ h => exact b h y (by simpa using hy) (by omega)
      · cases h with
        | zero => omega
        | succ h => exact c h y (by simpa using hy) (by omega)
    · refine ⟨0, Nat.zero_le _, fun h y hy hlt => by omega, fun h y hy hle => ?_⟩
      cases h with
      | zero => simp at hy; subst hy; omega
      | succ h =>
        have := h1 y (List.mem_of_getElem? (by simpa using hy))
        omega
theorem search_loop (L : List Int) (hL : L.length ≤ 1000) (a : Int) (j : Nat) (hlo : ∀ (h : Nat) y, L[h]? = some y → h < j → y < a) (hhi : ∀ (h : Nat) y, L[h]? = some y → j ≤ h → a ≤ y) : ∀ (m i k n : Nat), i ≤ j → j ≤ k → k ≤ L.length → k - i ≤ m → m < n →
    slices_BinarySearch_int_int_L2 L a n ((i : Int), (k : Int)) = some (j : Int) := by
  intro m
  induction m with
  | zero =>
    intro i k n h1 h2 h3 h4 h5
    obtain ⟨n, rfl⟩ : ∃ q, n = q + 1 := ⟨n - 1, by omega⟩
    rw [slices_BinarySearch_int_int_L2, decide_eq_false (by simp only; omega), cond_false]
    congr 1; simp only; omega
  | succ m ih =>
    intro i k n h1 h2 h3 h4 h5
    obtain ⟨n, rfl⟩ : ∃ q, n = q + 1 := ⟨n - 1, by omega⟩
    rw [slices_BinarySearch_int_int_L2]
    by_cases hik : i < k
    · rw [decide_eq_true (by simp only; omega), cond_true]
      simp only [half_e i k (by omega)]
      have hh : (i + k) / 2 < L.length := by omega
      have eh : L[(i + k) / 2]? = some L[(i + k) / 2] := by simp [hh]
      rw [idxN, eh, bindS, less_e, bindS]
      by_cases hj : (i + k) / 2 < j
      · rw [decide_eq_true (hlo _ _ eh hj), cond_true, wrapN (by omega)]
        exact ih ((i + k) / 2 + 1) k n (by omega) h2 h3 (by omega) (by omega)
      · rw [decide_eq_false (by have := hhi _ _ eh (by omega); omega), cond_false]
        exact ih i ((i + k) / 2) n h1 (by omega) (by omega) (by omega) (by omega)
    · rw [decide_eq_false (by simp only; omega), cond_false]
      congr 1; simp only; omega
theorem search_e (L : List Int) (hL : L.length ≤ 1000) (a : Int) {j : Nat} (hj : j ≤ L.length) (hlo : ∀ (h : Nat) y, L[h]? = some y → h < j → y < a) (hhi : ∀ (h : Nat) y, L[h]? = some y → j ≤ h → a ≤ y) :
    slices_BinarySearch_int_int L a = some ((j : Int), decide (L[j]? = some a)) := by
  unfold slices_BinarySearch_int_int
  have s := search_loop L hL a j hlo hhi L.length 0 L.length big (by omega) hj (Nat.le_refl _) (by omega) (big_lt (by omega))
  simp only [Int.natCast_zero] at s
  rw [s, bindS]
  by_cases hl : j < L.length
  · have ej : L[j]? = some L[j] := by simp [hl]
    rw [lt_dec hl, cond_true, idxN, ej, bindS]
    unfold slices_isNaN_int
    by_cases hx : L[j] = a
    · rw [show (L[j] == a) = true by simpa using hx, cond_true, hx, decide_eq_true rfl]; rfl
    · rw [show (L[j] == a) = false by simpa using hx, cond_false, bne_self_eq_false, decide_eq_false (by simpa using hx)]; rfl
  · rw [ge_dec (by omega), cond_false, List.getElem?_eq_none (by omega)]; rfl
theorem mem_cut {L : List Int} {a : Int} (hP : L.Pairwise fun x y => x < y) {j : Nat} (hlo : ∀ (h : Nat) y, L[h]? = some y → h < j → y < a) (hhi : ∀ (h : Nat) y, L[h]? = some y → j ≤ h → a ≤ y) : L[j]? = some a ↔ a ∈ L := by
  constructor
  · exact List.mem_of_getElem?
  · intro h
    obtain ⟨i, hi⟩ := List.mem_iff_getElem?.1 h
    have hij : ¬ i < j := fun q => by have := hlo i a hi q; omega
    by_cases hji : i = j
    · subst hji; exact hi
    · have hil := (List.getElem?_eq_some_iff.1 hi).1
      have ej : L[j]? = some L[j] := by simp [show j < L.length by omega]
      have := hhi j _ ej (Nat.le_refl _)
      have pw := List.pairwise_iff_getElem.1 hP j i (by omega) hil (by omega)
      rw [(List.getElem?_eq_some_iff.1 hi).2] at pw
      omega

theorem index_loop (L : List Int) (hL : L.length ≤ 2000) (a : Int) : ∀ (l : List Int) (i n : Nat), L.drop i = l → l.length < n → ∃ o, slices_Index_int_int_L2 L a n (i : Int) = some o ∧ ((a ∈ l ∧ ∃ k : Nat, o = Ex.ret (k : Int)) ∨ (a ∉ l ∧ o = Ex.go ())) := by
  intro l
  induction l with
  | nil =>
    intro i n h hn
    obtain ⟨n, rfl⟩ : ∃ m, n = m + 1 := ⟨n - 1, by simp at hn; omega⟩
    rw [slices_Index_int_int_L2, ge_dec (drop_n h)]
    exact ⟨_, rfl, .inr ⟨by simp, rfl⟩⟩
  | cons x l ih =>
    intro i n h hn
    obtain ⟨n, rfl⟩ : ∃ m, n = m + 1 := ⟨n - 1, by simp at hn; omega⟩
    obtain ⟨h1, h2, h3⟩ := drop_c h
    simp only [List.length_cons] at hn
    rw [slices_Index_int_int_L2, lt_dec h3]
    simp only [cond_true, idxN, h1, bindS]
    by_cases hx : a = x
    · rw [show (a == x) = true by simpa using hx, cond_true]
      exact ⟨_, rfl, .inl ⟨by simp [hx], i, rfl⟩⟩
    · rw [show (a == x) = false by simpa using hx, cond_false, wrapN (by omega)]
      obtain ⟨o, e1, e2⟩ := ih (i + 1) n h2 (by omega)
      refine ⟨o, e1, ?_⟩
      simpa [hx] using e2
theorem contains_e (L : List Int) (hL : L.length ≤ 2000) (a : Int) : slices_Contains_int_int L a = some (decide (a ∈ L)) := by
  unfold slices_Contains_int_int slices_Index_int_int
  obtain ⟨o, e1, e2⟩ := index_loop L hL a L 0 big rfl (big_lt (by omega))
  simp only [Int.natCast_zero] at e1
  rw [e1]
  rcases e2 with ⟨h, k, rfl⟩ | ⟨h, rfl⟩
  · rw [decide_eq_true h]
    simp [Ex.k]
  · rw [decide_eq_false h]; rfl
end Go.AX.Z.TB

/-! (TBQ) -/

set_option linter.unusedVariables false
set_option linter.unusedSimpArgs false
namespace Go.AX.Z.TB
open Go.AX

/-! ## Changes -/

theorem same_e (t : Traffic) (hL : t.Aids.length ≤ 1000) : hotspotref33_SameMap t t = some true := by
  unfold hotspotref33_SameMap
  have key : ∀ (l : List Int) (i n : Nat), t.Aids.drop i = l → l.length < n → hotspotref33_SameMap_L2 t t n (i : Int) = some (Ex.go ()) := by
    intro l
    induction l with
    | nil =>
      intro i n h hn
      obtain ⟨n, rfl⟩ : ∃ m, n = m + 1 := ⟨n - 1, by simp at hn; omega⟩
      rw [hotspotref33_SameMap_L2, ge_dec (drop_n h)]; rfl
    | cons x l ih =>
      intro i n h hn
      obtain ⟨n, rfl⟩ : ∃ m, n = m + 1 := ⟨n - 1, by simp at hn; omega⟩
      obtain ⟨h1, h2, h3⟩ := drop_c h
      simp only [List.length_cons] at hn
      rw [hotspotref33_SameMap_L2, lt_dec h3]
      simp only [cond_true, idxN, h1, bindS, bne_self_eq_false, cond_false]
      rw [wrapN (by omega)]
      exact ih (i + 1) n h2 (by omega)
  have := key t.Aids 0 big rfl (big_lt (by omega))
  simp only [Int.natCast_zero] at this
  rw [this, bne_self_eq_false, beq_self_eq_true]; rfl

theorem lcheck_e (t : Traffic) (a : Int) (hL : t.Aids.length ≤ 1000) : bitmap_check t a = some (if VT t then (if 0 ≤ a ∧ a ≤ 255 then 0 else 2) else 8) ∧ hotspotref33_Check t a = some (if VT t then (if 0 ≤ a ∧ a ≤ 255 then 0 else 2) else 8) := by
  unfold bitmap_check hotspotref33_Check
  rw [check_e t hL, valid_e t hL, bindS, bindS]
  by_cases hv : VT t
  · rw [if_pos hv, if_pos hv, decide_eq_true hv]
    simp only [bne_self_eq_false, Bool.not_true, cond_false]
    by_cases ha : 0 ≤ a ∧ a ≤ 255
    · rw [if_pos ha, show (decide (a < 0) || decide (255 < a)) = false by simp only [Bool.or_eq_false_iff, decide_eq_false_iff_not]; omega]
      exact ⟨rfl, rfl⟩
    · rw [if_neg ha, show (decide (a < 0) || decide (255 < a)) = true by simp; omega]
      exact ⟨rfl, rfl⟩
  · rw [if_neg hv, if_neg hv, decide_eq_false hv]
    exact ⟨rfl, rfl⟩

/-- The identifiers of a map are what the reference finds in a list with the same members. -/
theorem filt_eq {m l : List Int} (hl : Srt 0 l) (h : ∀ x, 1 ≤ x → x ≤ 255 → (x ∈ m ↔ x ∈ l)) : filt m 1 = l := by
  obtain ⟨p1, p2⟩ := srt_pw hl
  refine pw_ext (filt_pw m 1) p1 fun x => ?_
  rw [filt_mem m 1 (by omega)]
  constructor
  · rintro ⟨a, b, c⟩; exact (h x (by omega) c).1 a
  · intro a
    have := p2 x a
    exact ⟨(h x (by omega) this.2).2 a, by omega, this.2⟩
theorem pw_srt : ∀ {l : List Int} {p : Int}, (l.Pairwise fun x y => x < y) → (∀ x ∈ l, p < x ∧ x ≤ 255) → Srt p l
  | [], _, _, _ => trivial
  | x :: l, p, h1, h2 => by
    obtain ⟨a, b⟩ := List.pairwise_cons.1 h1
    exact ⟨h2 x (by simp), pw_srt b fun y hy => ⟨a y hy, (h2 y (by simp [hy])).2⟩⟩

theorem ins_srt {l : List Int} (hl : Srt 0 l) {a : Int} (ha : 0 < a ∧ a ≤ 255) {j : Nat} (hj : j ≤ l.length) (hlo : ∀ (h : Nat) y, l[h]? = some y → h < j → y < a) (hhi : ∀ (h : Nat) y, l[h]? = some y → j ≤ h → a < y) : Srt 0 (l.take j ++ [a] ++ l.drop j) := by
  obtain ⟨p1, p2⟩ := srt_pw hl
  refine pw_srt ?_ fun x hx => ?_
  · rw [List.append_assoc, List.pairwise_append]
    refine ⟨p1.sublist (List.take_sublist _ _), ?_, fun u hu v hv => ?_⟩
    · rw [List.singleton_append, List.pairwise_cons]
      refine ⟨fun v hv => ?_, p1.sublist (List.drop_sublist _ _)⟩
      obtain ⟨i, hi⟩ := List.mem_iff_getElem?.1 hv
      rw [List.getElem?_drop] at hi
      exact hhi (j + i) v hi (by omega)
    · obtain ⟨i, hi⟩ := List.mem_iff_getElem?.1 hu
      rw [List.getElem?_take] at hi
      split at hi
      · rename_i hij
        have hu' := hlo i u hi hij
        rw [List.singleton_append] at hv
        rcases List.mem_cons.1 hv with rfl | hv
        · exact hu'
        · obtain ⟨i', hi'⟩ := List.mem_iff_getElem?.1 hv
          rw [List.getElem?_drop] at hi'
          have := hhi (j + i') v hi' (by omega)
          omega
      · cases hi
  · simp only [List.mem_append, List.mem_singleton] at hx
    rcases hx with (h | h) | h
    · exact p2 x (List.mem_of_mem_take h)
    · omega
    · exact p2 x (List.mem_of_mem_drop h)

/-- A map with an identifier put in, or taken out. -/
theorem set_e (t : Traffic) (a : Int) (hL : t.Aids.length ≤ 300) (hv : VT t) (ha : 0 ≤ a ∧ a ≤ 255) :
    ∃ R, bitmap_Set t a = some (R, 0) ∧ hotspotref33_Change t a true = some (R, 0) ∧ R.Aids.length ≤ 301 := by
  obtain ⟨p1, p2⟩ := srt_pw hv
  rw [change_e t a true hL hv ha]
  unfold bitmap_Set
  rw [(lcheck_e t a (by omega)).1, if_pos hv, if_pos ha, bindS, bne_self_eq_false, cond_false]
  unfold slices_Clone_int_int
  rw [chk_d (by omega), bindS, bindS]
  obtain ⟨j, hj, hlo, hhi⟩ := cut_e a t.Aids p1
  rw [search_e t.Aids (by omega) a hj hlo hhi, bindS]
  by_cases h0 : a = 0
  · subst h0
    have : filt (t.Aids.filter (fun x => x != 0) ++ [0]) 1 = t.Aids := filt_eq hv fun x h1 h2 => by
      simp only [List.mem_append, List.mem_filter, List.mem_singleton, bne_iff_ne, ne_eq]
      constructor
      · rintro (h | h)
        · exact h.1
        · omega
      · intro h; exact .inl ⟨h, by omega⟩
    simp only [beq_self_eq_true, cond_true, this]
    exact ⟨_, rfl, rfl, by simp only; omega⟩
  · rw [show (a == 0) = false by simpa using h0]
    simp only [cond_false, cond_true]
    by_cases hm : t.Aids[j]? = some a
    · have hin := (mem_cut p1 hlo hhi).1 hm
      have : filt (t.Aids.filter (fun x => x != a) ++ [a]) 1 = t.Aids := filt_eq hv fun x h1 h2 => by
        simp only [List.mem_append, List.mem_filter, List.mem_singleton, bne_iff_ne, ne_eq]
        constructor
        · rintro (h | rfl)
          · exact h.1
          · exact hin
        · intro h
          by_cases hx : x = a
          · exact .inr hx
          · exact .inl ⟨h, hx⟩
      rw [decide_eq_true hm, this]
      exact ⟨_, rfl, rfl, by simp only; omega⟩
    · have hnin : a ∉ t.Aids := fun h => hm ((mem_cut p1 hlo hhi).2 h)
      have hhi' : ∀ (h : Nat) y, t.Aids[h]? = some y → j ≤ h → a < y := fun h y hy hle => by
        have := hhi h y hy hle
        have : y ≠ a := fun q => hnin (q ▸ List.mem_of_getElem? hy)
        omega
      have hs := ins_srt hv (by omega : 0 < a ∧ a ≤ 255) hj hlo hhi'
      have : filt (t.Aids.filter (fun x => x != a) ++ [a]) 1 = t.Aids.take j ++ [a] ++ t.Aids.drop j := filt_eq hs fun x h1 h2 => by
        have hmem : x ∈ t.Aids ↔ x ∈ t.Aids.take j ∨ x ∈ t.Aids.drop j := by
          rw [← List.mem_append, List.take_append_drop]
        simp only [List.mem_append, List.mem_filter, List.mem_singleton, bne_iff_ne, ne_eq]
        constructor
        · rintro (h | rfl)
          · rcases hmem.1 h.1 with h | h
            · exact .inl (.inl h)
            · exact .inr h
          · exact .inl (.inr rfl)
        · rintro ((h | h) | h)
          · exact .inl ⟨hmem.2 (.inl h), fun q => hnin (q ▸ hmem.2 (.inl h))⟩
          · exact .inr h
          · exact .inl ⟨hmem.2 (.inr h), fun q => hnin (q ▸ hmem.2 (.inr h))⟩
      rw [decide_eq_false hm, this]
      simp only [Bool.not_false, cond_true]
      unfold slices_Insert_int_int
      rw [show (decide (0 ≤ (j : Int)) && decide ((j : Int) ≤ (t.Aids.length : Int))) = true by simp; omega]
      rw [chk_t rfl, bindS, show ((([a] : List Int).length : Int) == 0) = false from rfl, cond_false]
      by_cases hjl : j = t.Aids.length
      · rw [show (((j : Nat) : Int) == ((t.Aids.length : Nat) : Int)) = true by rw [beq_iff_eq]; omega, cond_true, chk_d (by simp; omega), bindS, bindS]
        refine ⟨_, ?_, rfl, by simp; omega⟩
        rw [hjl, List.take_length, List.drop_length, List.append_nil]
      · rw [show (((j : Nat) : Int) == ((t.Aids.length : Nat) : Int)) = false by rw [beq_eq_false_iff_ne]; omega, cond_false, chk_t (by simp; omega), bindS, bindS]
        exact ⟨_, by simp only [Int.toNat_natCast], rfl, by simp; omega⟩

theorem clear_e (t : Traffic) (a : Int) (hL : t.Aids.length ≤ 300) (hv : VT t) (ha : 0 ≤ a ∧ a ≤ 255) :
    ∃ R, bitmap_Clear t a = some (R, 0) ∧ hotspotref33_Change t a false = some (R, 0) ∧ R.Aids.length ≤ 301 := by
  obtain ⟨p1, p2⟩ := srt_pw hv
  rw [change_e t a false hL hv ha]
  unfold bitmap_Clear
  rw [(lcheck_e t a (by omega)).1, if_pos hv, if_pos ha, bindS, bne_self_eq_false, cond_false]
  unfold slices_Clone_int_int
  rw [chk_d (by omega), bindS, bindS]
  obtain ⟨j, hj, hlo, hhi⟩ := cut_e a t.Aids p1
  rw [search_e t.Aids (by omega) a hj hlo hhi, bindS]
  by_cases h0 : a = 0
  · subst h0
    have : filt (t.Aids.filter (fun x => x != 0) ++ []) 1 = t.Aids := filt_eq hv fun x h1 h2 => by simp; omega
    simp only [beq_self_eq_true, cond_true, cond_false, this]
    exact ⟨_, rfl, rfl, by simp only; omega⟩
  · rw [show (a == 0) = false by simpa using h0]
    simp only [cond_false]
    by_cases hm : t.Aids[j]? = some a
    · have hjl : j < t.Aids.length := (List.getElem?_eq_some_iff.1 hm).1
      have pw := List.pairwise_iff_getElem.1 p1
      have ej : t.Aids[j] = a := (List.getElem?_eq_some_iff.1 hm).2
      have hsub : (t.Aids.take j ++ t.Aids.drop (j + 1)).Sublist t.Aids := by
        rw [← List.eraseIdx_eq_take_drop_succ]; exact List.eraseIdx_sublist _ _
      have hs : Srt 0 (t.Aids.take j ++ t.Aids.drop (j + 1)) := pw_srt (p1.sublist hsub) fun x hx => p2 x (hsub.subset hx)
      have : filt (t.Aids.filter (fun x => x != a) ++ []) 1 = t.Aids.take j ++ t.Aids.drop (j + 1) := filt_eq hs fun x h1 h2 => by
        simp only [List.append_nil, List.mem_filter, bne_iff_ne, ne_eq, List.mem_append]
        constructor
        · rintro ⟨h, hx⟩
          obtain ⟨i, hi⟩ := List.mem_iff_getElem?.1 h
          by_cases hij : i < j
          · exact .inl (List.mem_iff_getElem?.2 ⟨i, by rw [List.getElem?_take, if_pos hij]; exact hi⟩)
          · have hne : i ≠ j := fun q => by subst q; rw [hi] at hm; exact hx (Option.some.inj hm)
            exact .inr (List.mem_iff_getElem?.2 ⟨i - (j + 1), by rw [List.getElem?_drop, show j + 1 + (i - (j + 1)) = i by omega]; exact hi⟩)
        · intro h
          have hx : x ∈ t.Aids := hsub.subset (List.mem_append.2 h)
          refine ⟨hx, fun q => ?_⟩
          subst q
          rcases h with h | h
          · obtain ⟨i, hi⟩ := List.mem_iff_getElem?.1 h
            rw [List.getElem?_take] at hi
            split at hi
            · rename_i hij
              have := hlo i x hi hij; omega
            · cases hi
          · obtain ⟨i, hi⟩ := List.mem_iff_getElem?.1 h
            rw [List.getElem?_drop] at hi
            have hil := (List.getElem?_eq_some_iff.1 hi).1
            have := pw j (j + 1 + i) hjl hil (by omega)
            rw [(List.getElem?_eq_some_iff.1 hi).2, ej] at this
            omega
      rw [decide_eq_true hm, this, cond_true]
      unfold slices_Delete_int_int
      rw [wrapN (by omega)]
      rw [show (decide (0 ≤ (j : Int)) && decide ((j : Int) ≤ ((j + 1 : Nat) : Int)) && decide (((j + 1 : Nat) : Int) ≤ (t.Aids.length : Int))) = true by simp; omega, chk_t rfl, bindS, bindS]
      exact ⟨_, by simp only [Int.toNat_natCast], rfl, by simp; omega⟩
    · have hnin : a ∉ t.Aids := fun h => hm ((mem_cut p1 hlo hhi).2 h)
      have : filt (t.Aids.filter (fun x => x != a) ++ []) 1 = t.Aids := filt_eq hv fun x h1 h2 => by
        simp only [List.append_nil, List.mem_filter, bne_iff_ne, ne_eq]
        exact ⟨fun h => h.1, fun h => ⟨h, fun q => hnin (q ▸ h)⟩⟩
      rw [decide_eq_false hm, this, cond_false]
      exact ⟨_, rfl, rfl, by simp only; omega⟩

theorem bump6 : ∀ (m i n : Nat) (L : List Int), i + m = L.length → L.length ≤ 1000 → m < n → hotspotlaw33_BitmapChanges_L6 n (L, (i : Int)) = some () := by
  intro m
  induction m with
  | zero =>
    intro i n L h hL hn
    obtain ⟨n, rfl⟩ : ∃ q, n = q + 1 := ⟨n - 1, by omega⟩
    rw [hotspotlaw33_BitmapChanges_L6, ge_dec (L := L.length) (i := i) (by omega)]; rfl
  | succ m ih =>
    intro i n L h hL hn
    obtain ⟨n, rfl⟩ : ∃ q, n = q + 1 := ⟨n - 1, by omega⟩
    have hi : i < L.length := by omega
    rw [hotspotlaw33_BitmapChanges_L6, lt_dec hi, cond_true, idxN, show L[i]? = some L[i] by simp [hi], bindS, wrapN (by omega)]
    exact ih (i + 1) n _ (by simp; omega) (by simpa using hL) (by omega)
theorem bump9 : ∀ (m i n : Nat) (L : List Int), i + m = L.length → L.length ≤ 1000 → m < n → hotspotlaw33_BitmapChanges_L9 n (L, (i : Int)) = some () := by
  intro m
  induction m with
  | zero =>
    intro i n L h hL hn
    obtain ⟨n, rfl⟩ : ∃ q, n = q + 1 := ⟨n - 1, by omega⟩
    rw [hotspotlaw33_BitmapChanges_L9, ge_dec (L := L.length) (i := i) (by omega)]; rfl
  | succ m ih =>
    intro i n L h hL hn
    obtain ⟨n, rfl⟩ : ∃ q, n = q + 1 := ⟨n - 1, by omega⟩
    have hi : i < L.length := by omega
    rw [hotspotlaw33_BitmapChanges_L9, lt_dec hi, cond_true, idxN, show L[i]? = some L[i] by simp [hi], bindS, wrapN (by omega)]
    exact ih (i + 1) n _ (by simp; omega) (by simpa using hL) (by omega)

theorem has_e (t : Traffic) (a : Int) (hL : t.Aids.length ≤ 300) : ∃ b, bitmap_Has t a = some b ∧ hotspotref33_Has t a = some b := by
  unfold bitmap_Has hotspotref33_Has
  rw [(lcheck_e t a (by omega)).1, valid_e t (by omega), bindS, bindS]
  by_cases hv : VT t
  · obtain ⟨p1, p2⟩ := srt_pw hv
    rw [if_pos hv, decide_eq_true hv]
    simp only [Bool.not_true, cond_false]
    rw [in_e t.Aids (by omega), contains_e t.Aids (by omega)]
    simp only [bindS]
    by_cases h0 : a = 0
    · subst h0
      rw [if_pos (by omega), bne_self_eq_false, beq_self_eq_true]
      cases t.Group
      · exact ⟨false, rfl, rfl⟩
      · exact ⟨true, rfl, rfl⟩
    · rw [show (a == 0) = false by simpa using h0]
      by_cases ha : 0 ≤ a ∧ a ≤ 255
      · rw [if_pos ha, bne_self_eq_false, decide_eq_true (by omega : 0 < a)]
        exact ⟨_, rfl, rfl⟩
      · rw [if_neg ha]
        have : a ∉ t.Aids := fun h => by have := p2 a h; omega
        rw [decide_eq_false this]
        exact ⟨false, rfl, rfl⟩
  · rw [if_neg hv, decide_eq_false hv]
    exact ⟨false, rfl, rfl⟩

theorem changes_p (t : Traffic) (a : Int) : hotspotlaw33_BitmapChanges t a = some true := by
  unfold hotspotlaw33_BitmapChanges
  by_cases hl : t.Aids.length ≤ 300
  · rw [decide_eq_false (by omega), cond_false, chk_d (by omega), bindS]
    have main : ∃ R S e, bitmap_Set t a = some (R, e) ∧ hotspotref33_Change t a true = some (R, e) ∧ bitmap_Clear t a = some (S, e) ∧ hotspotref33_Change t a false = some (S, e) ∧ R.Aids.length ≤ 301 ∧ S.Aids.length ≤ 301 := by
      by_cases hv : VT t
      · by_cases ha : 0 ≤ a ∧ a ≤ 255
        · obtain ⟨R, r1, r2, r3⟩ := set_e t a hl hv ha
          obtain ⟨S, s1, s2, s3⟩ := clear_e t a hl hv ha
          exact ⟨R, S, 0, r1, r2, s1, s2, r3, s3⟩
        · have c := lcheck_e t a (by omega)
          rw [if_pos hv, if_neg ha] at c
          unfold bitmap_Set hotspotref33_Change bitmap_Clear
          rw [c.1, c.2]
          exact ⟨_, _, 2, rfl, rfl, rfl, rfl, by simp [Traffic.z], by simp [Traffic.z]⟩
      · have c := lcheck_e t a (by omega)
        rw [if_neg hv] at c
        unfold bitmap_Set hotspotref33_Change bitmap_Clear
        rw [c.1, c.2]
        exact ⟨_, _, 8, rfl, rfl, rfl, rfl, by simp [Traffic.z], by simp [Traffic.z]⟩
    obtain ⟨R, S, e, r1, r2, s1, s2, r3, s3⟩ := main
    obtain ⟨b, b1, b2⟩ := has_e t a hl
    rw [r1, bindS, r2, bindS, s1, bindS, s2, bindS, same_e R (by omega), bindS]
    simp only [beq_self_eq_true, Bool.and_self, cond_true]
    rw [same_e S (by omega), bindS, bindS]
    simp only [cond_true, Bool.and_self]
    rw [b1, b2]
    simp only [bindS, beq_self_eq_true, cond_true]
    rw [check_e t (by omega), valid_e t (by omega)]
    simp only [bindS]
    have hq : ((if VT t then (0 : Int) else 8) == 0) == decide (VT t) := by
      by_cases hv : VT t
      · rw [if_pos hv, decide_eq_true hv]; rfl
      · rw [if_neg hv, decide_eq_false hv]; rfl
    have b6 := bump6 R.Aids.length 0 big R.Aids (by omega) (by omega) (big_lt (by omega))
    have b9 := bump9 S.Aids.length 0 big S.Aids (by omega) (by omega) (big_lt (by omega))
    simp only [Int.natCast_zero] at b6 b9
    rw [b6, bindS, b9, bindS, hq, cond_true, same_e t (by omega)]
    rfl
  · rw [decide_eq_true (by omega)]; rfl
end Go.AX.Z.TB

/-! (TBR) -/

set_option linter.unusedVariables false
set_option linter.unusedSimpArgs false
namespace Go.AX.Z.TB
open Go.AX

/-! ## Maps behave as sets -/

theorem alive_e : hotspotlaw33_alive = some true := rfl
theorem srt_len : ∀ (l : List Int) (q : Int), 0 ≤ q → q ≤ 255 → Srt q l → (l.length : Int) ≤ 255 - q := by
  intro l
  induction l with
  | nil => intro q h0 h1 _; simp; omega
  | cons y l ih => intro q h0 h1 hs; have := ih y (by have := hs.1.1; omega) hs.1.2 hs.2; have := hs.1.1; simp only [List.length_cons]; omega
theorem vt_len {t : Traffic} (h : VT t) : t.Aids.length ≤ 255 := by
  have := srt_len t.Aids 0 (by omega) (by omega) h
  omega
theorem filt_srt (m : List Int) : Srt 0 (filt m 1) := pw_srt (filt_pw m 1) fun x hx => by
  have := (filt_mem m 1 (by omega) x).1 hx
  omega

theorem set_x {t : Traffic} (hv : VT t) {a : Int} (ha : 0 ≤ a ∧ a ≤ 255) : ∃ R, bitmap_Set t a = some (R, 0) ∧ VT R ∧ (∀ x, x ∈ R.Aids ↔ x ∈ t.Aids ∨ (x = a ∧ 0 < a)) ∧ R.Group = (if a = 0 then true else t.Group) := by
  have hL := vt_len hv
  obtain ⟨R, r1, r2, _⟩ := set_e t a (by omega) hv ha
  rw [change_e t a true (by omega) hv ha] at r2
  cases r2
  obtain ⟨p1, p2⟩ := srt_pw hv
  refine ⟨_, r1, filt_srt _, fun x => ?_, ?_⟩
  · show x ∈ filt _ 1 ↔ _
    rw [filt_mem _ 1 (by omega)]
    simp only [cond_true, List.mem_append, List.mem_filter, List.mem_singleton, bne_iff_ne, ne_eq]
    constructor
    · rintro ⟨h | h, h1, h2⟩
      · exact .inl h.1
      · exact .inr ⟨h, by omega⟩
    · rintro (h | ⟨rfl, h⟩)
      · have := p2 x h
        by_cases hx : x = a
        · exact ⟨.inr hx, by omega, by omega⟩
        · exact ⟨.inl ⟨h, hx⟩, by omega, by omega⟩
      · exact ⟨.inr rfl, by omega, by omega⟩
  · show (bif a == 0 then true else t.Group) = _
    by_cases h : a = 0
    · subst h; rfl
    · rw [if_neg h, show (a == 0) = false by simpa using h]; rfl
theorem clear_x {t : Traffic} (hv : VT t) {a : Int} (ha : 0 ≤ a ∧ a ≤ 255) : ∃ R, bitmap_Clear t a = some (R, 0) ∧ VT R ∧ (∀ x, x ∈ R.Aids ↔ x ∈ t.Aids ∧ x ≠ a) ∧ R.Group = (if a = 0 then false else t.Group) := by
  have hL := vt_len hv
  obtain ⟨R, r1, r2, _⟩ := clear_e t a (by omega) hv ha
  rw [change_e t a false (by omega) hv ha] at r2
  cases r2
  obtain ⟨p1, p2⟩ := srt_pw hv
  refine ⟨_, r1, filt_srt _, fun x => ?_, ?_⟩
  · show x ∈ filt _ 1 ↔ _
    rw [filt_mem _ 1 (by omega)]
    simp only [cond_false, List.append_nil, List.mem_filter, bne_iff_ne, ne_eq]
    constructor
    · rintro ⟨h, h1, h2⟩; exact h
    · rintro ⟨h, hx⟩
      have := p2 x h
      exact ⟨⟨h, hx⟩, by omega, by omega⟩
  · show (bif a == 0 then false else t.Group) = _
    by_cases h : a = 0
    · subst h; rfl
    · rw [if_neg h, show (a == 0) = false by simpa using h]; rfl
theorem has_x {t : Traffic} (hv : VT t) {a : Int} (ha : 0 ≤ a ∧ a ≤ 255) : bitmap_Has t a = some (decide ((a = 0 ∧ t.Group = true) ∨ (0 < a ∧ a ∈ t.Aids))) := by
  have hL := vt_len hv
  unfold bitmap_Has
  rw [(lcheck_e t a (by omega)).1, if_pos hv, if_pos ha, bindS, bne_self_eq_false, cond_false, contains_e t.Aids (by omega)]
  by_cases h0 : a = 0
  · subst h0
    rw [beq_self_eq_true]
    cases t.Group <;> simp
  · rw [show (a == 0) = false by simpa using h0, decide_eq_true (by omega : 0 < a)]
    simp [h0, show 0 < a by omega]
theorem vt_eq {s t : Traffic} (hs : VT s) (ht : VT t) (hg : s.Group = t.Group) (h : ∀ x, x ∈ s.Aids ↔ x ∈ t.Aids) : s = t := by
  have := pw_ext (srt_pw hs).1 (srt_pw ht).1 h
  obtain ⟨a, b⟩ := s
  obtain ⟨c, d⟩ := t
  simp only at hg this
  rw [hg, this]

theorem sets_p (t : Traffic) (a b : Int) : hotspotlaw33_BitmapSets t a b = some true := by
  unfold hotspotlaw33_BitmapSets
  rw [alive_e, bindS]
  by_cases hl : t.Aids.length ≤ 300
  · rw [decide_eq_false (by omega)]
    simp only [Bool.not_true, Bool.or_self, cond_false]
    by_cases hv : VT t
    · by_cases ha : 0 ≤ a ∧ a ≤ 255
      · obtain ⟨X, x1, x2, x3, x4⟩ := set_x hv ha
        obtain ⟨Y, y1, y2, y3, y4⟩ := clear_x hv ha
        rw [x1, bindS, y1, bindS]
        simp only [bne_self_eq_false, Bool.or_self, Bool.false_or]
        by_cases hb : 0 ≤ b ∧ b ≤ 255
        · obtain ⟨XY, p1, p2, p3, p4⟩ := clear_x x2 hb
          obtain ⟨Z, q1, q2, q3, q4⟩ := clear_x hv hb
          obtain ⟨YX, r1, r2, r3, r4⟩ := set_x q2 ha
          rw [show (decide (b < 0) || decide (255 < b)) = false by simp only [Bool.or_eq_false_iff, decide_eq_false_iff_not]; omega, cond_false, p1, bindS, q1, bindS, r1, bindS]
          simp only [bne_self_eq_false, Bool.or_self, cond_false]
          have same : (bif (a == b) then some true else ((hotspotref33_SameMap XY YX).bind fun x29 => some x29)) = some true := by
            by_cases hab : a = b
            · rw [show (a == b) = true by simpa using hab]; rfl
            · rw [show (a == b) = false by simpa using hab, cond_false]
              have : XY = YX := vt_eq p2 r2 (by
                rw [p4, r4, x4, q4]
                by_cases h0 : a = 0
                · rw [if_pos h0, if_pos h0, if_neg (by omega)]
                · rw [if_neg h0, if_neg h0]) (fun x => by
                rw [p3, r3, x3, q3]
                constructor
                · rintro ⟨h | h, h2⟩
                  · exact .inl ⟨h, h2⟩
                  · exact .inr h
                · rintro (⟨h, h2⟩ | h)
                  · exact ⟨.inl h, h2⟩
                  · exact ⟨.inr h, by omega⟩)
              subst this
              rw [same_e XY (by have := vt_len p2; omega)]; rfl
          rw [same, bindS]
          simp only [cond_true]
          rw [has_x x2 ha, has_x y2 ha, bindS, bindS]
          have e1 : decide ((a = 0 ∧ X.Group = true) ∨ (0 < a ∧ a ∈ X.Aids)) = true := by
            rw [decide_eq_true_eq, x3, x4]
            by_cases h0 : a = 0
            · exact .inl ⟨h0, by rw [if_pos h0]⟩
            · exact .inr ⟨by omega, .inr ⟨rfl, by omega⟩⟩
          have e2 : decide ((a = 0 ∧ Y.Group = true) ∨ (0 < a ∧ a ∈ Y.Aids)) = false := by
            rw [decide_eq_false_iff_not, y3, y4]
            rintro (⟨h0, h⟩ | ⟨_, _, h⟩)
            · rw [if_pos h0] at h; cases h
            · exact h rfl
          rw [e1, e2]
          simp only [cond_true, bindS, Bool.not_false]
          have oth : (bif (a == b) then some true else ((bitmap_Has X b).bind fun x35 => ((bitmap_Has t b).bind fun x36 => ((bif (x35 == x36) then ((bitmap_Has Y b).bind fun x37 => ((bitmap_Has t b).bind fun x38 => some (x37 == x38))) else some false).bind fun x39 => some x39)))) = some true := by
            by_cases hab : a = b
            · rw [show (a == b) = true by simpa using hab]; rfl
            · rw [show (a == b) = false by simpa using hab, cond_false, has_x x2 hb, has_x hv hb, has_x y2 hb]
              have f1 : decide ((b = 0 ∧ X.Group = true) ∨ (0 < b ∧ b ∈ X.Aids)) = decide ((b = 0 ∧ t.Group = true) ∨ (0 < b ∧ b ∈ t.Aids)) := by
                rw [decide_eq_decide, x3, x4]
                by_cases h0 : b = 0
                · rw [if_neg (by omega : ¬ a = 0)]
                  constructor
                  · rintro (h | ⟨h, _⟩)
                    · exact .inl h
                    · omega
                  · rintro (h | ⟨h, _⟩)
                    · exact .inl h
                    · omega
                · constructor
                  · rintro (⟨h, _⟩ | ⟨h, h2 | h2⟩)
                    · omega
                    · exact .inr ⟨h, h2⟩
                    · omega
                  · rintro (⟨h, _⟩ | ⟨h, h2⟩)
                    · omega
                    · exact .inr ⟨h, .inl h2⟩
              have f2 : decide ((b = 0 ∧ Y.Group = true) ∨ (0 < b ∧ b ∈ Y.Aids)) = decide ((b = 0 ∧ t.Group = true) ∨ (0 < b ∧ b ∈ t.Aids)) := by
                rw [decide_eq_decide, y3, y4]
                by_cases h0 : b = 0
                · rw [if_neg (by omega : ¬ a = 0)]
                  constructor
                  · rintro (h | ⟨h, _⟩)
                    · exact .inl h
                    · omega
                  · rintro (h | ⟨h, _⟩)
                    · exact .inl h
                    · omega
                · constructor
                  · rintro (⟨h, _⟩ | ⟨h, h2, _⟩)
                    · omega
                    · exact .inr ⟨h, h2⟩
                  · rintro (⟨h, _⟩ | ⟨h, h2⟩)
                    · omega
                    · exact .inr ⟨h, h2, by omega⟩
              rw [f1, f2]
              simp only [bindS, beq_self_eq_true, cond_true]
          rw [oth]
          try simp only [bindS, Bool.and_self, cond_true]
          rw [check_e X (by have := vt_len x2; omega), if_pos x2, bindS, bindS]
          simp only [beq_self_eq_true, cond_true]
          rw [check_e Y (by have := vt_len y2; omega), if_pos y2]
          rfl
        · rw [show (decide (b < 0) || decide (255 < b)) = true by simp; omega]
          rfl
      · have c := lcheck_e t a (by omega)
        rw [if_pos hv, if_neg ha] at c
        have e1 : bitmap_Set t a = some (Traffic.z, 2) := by unfold bitmap_Set; rw [c.1]; rfl
        have e2 : bitmap_Clear t a = some (Traffic.z, 2) := by unfold bitmap_Clear; rw [c.1]; rfl
        rw [e1, e2]; rfl
    · have c := lcheck_e t a (by omega)
      rw [if_neg hv] at c
      have e1 : bitmap_Set t a = some (Traffic.z, 8) := by unfold bitmap_Set; rw [c.1]; rfl
      have e2 : bitmap_Clear t a = some (Traffic.z, 8) := by unfold bitmap_Clear; rw [c.1]; rfl
      rw [e1, e2]; rfl
  · rw [decide_eq_true (by omega)]; rfl
end Go.AX.Z.TB

/-! (TBY) -/

set_option linter.unusedVariables false
namespace Go.AX.Z.TB
open Go.AX Go.Proofs

/-! ## Arguments, read -/

theorem ud4 : K.P.underlying 4 = some (.bool) := by kernel_rfl

theorem ud3 : K.P.underlying 3 = some (.int .i64) := by kernel_rfl

theorem ud22 : K.P.underlying 22 = some (.slice 3) := by kernel_rfl

theorem rsl22 {B n : Nat} {x : AV} (h : Ty K.P B n 22 [x]) : ∃ l : (List Int), x = S_vi l ∧ l.length ≤ B ∧ ∀ z ∈ l, (Lit.int .i64 z).wf = true := by
  obtain ⟨vs, rfl, h1, h2⟩ := ty_slice_ints ud22 ud3 h
  exact ⟨vs, rfl, h1, h2⟩

def W_Traffic (B : Nat) (x : Traffic) : Prop := (x.Aids.length ≤ B ∧ ∀ z ∈ x.Aids, (Lit.int .i64 z).wf = true)

theorem rd24 {B n : Nat} {l : List AV} (h : Ty K.P B n 24 l) : ∃ x : Traffic, l = E_Traffic x ∧ W_Traffic B x := by
  obtain ⟨m, h⟩ := ty_struct Try.underlying24 h
  have h' : TyAll (Ty K.P B m) [4, 22] l := h
  obtain ⟨_, _, rfl, h0, _, _, rfl, h1, rfl⟩ := h'
  obtain ⟨v0, rfl⟩ := ty_bool ud4 h0
  obtain ⟨s1, rfl⟩ : ∃ x, _ = [x] := ty_single h1 (by rw [ud22]; intro _ hh; cases hh) (by rw [ud22]; intro _ _ hh; cases hh)
  obtain ⟨v1, rfl, w1⟩ := rsl22 h1
  exact ⟨⟨v0, v1⟩, rfl, w1⟩

end Go.AX.Z.TB

/-! (TBU) -/

/- How bulks bound what a reading holds. -/
namespace Go.Proofs.Ytkheccnpikfalaa.bulks
open Go.AX

theorem one_le {H : Type} (d : DataW H) : 1 ≤ Rows.uptoBulk d := by
  cases d with
  | lit l => cases l <;> simp [Rows.uptoBulk]
  | nil => simp [Rows.uptoBulk]
  | ptr d => simp [Rows.uptoBulk]
  | slice elems spare => simp [Rows.uptoBulk]
  | agg parts => simp [Rows.uptoBulk]
  | iface t d => simp [Rows.uptoBulk]
  | map entries => simp [Rows.uptoBulk]
  | held h => simp [Rows.uptoBulk]

theorem part_le {H : Type} {d : DataW H} {l : List (DataW H)} (h : d ∈ l) : Rows.uptoBulk d ≤ Rows.uptoBulkAll l := by
  induction l with
  | nil => cases h
  | cons x r ih =>
    simp only [Rows.uptoBulkAll]
    cases List.mem_cons.1 h with
    | inl e => subst e; omega
    | inr e => have := ih e; omega

theorem length_le {H : Type} (l : List (DataW H)) : l.length ≤ Rows.uptoBulkAll l := by
  induction l with
  | nil => simp [Rows.uptoBulkAll]
  | cons x r ih => have := one_le x; simp only [Rows.uptoBulkAll, List.length_cons]; omega

theorem bulk {H : Type} : Bulk (H := H) Rows.uptoBulk where
  ptr d := by simp [Rows.uptoBulk]
  elems es sp d h := by have := part_le h; simp only [Rows.uptoBulk]; omega
  len es sp := by have := length_le es; simp only [Rows.uptoBulk]; omega
  agg ds d h := by have := part_le h; simp only [Rows.uptoBulk]; omega
  str bs := by simp [Rows.uptoBulk]

theorem bound {H : Type} {l : List (DataW H)} (hk : Rows.uptoSmall H l = true) : Rows.uptoBulkAll l ≤ 1048576 := by
  have := of_decide_eq_true hk
  exact this

end Go.Proofs.Ytkheccnpikfalaa.bulks

/-! (TBTBitmapSets) -/

/- BitmapSets: the law returns true whatever its arguments. -/
namespace Go.Proofs.Ytkheccnpikfalaa.bitmapSets
open Go.ChangeShapes Go.WideShapes Go.ChangeAt Go.RowKit Go.AX Go.AX.Z Go.AX.Z.TB

theorem own : ownKnob Try.prog.godebug = none := by kernel_rfl
theorem laid : laidOutB K.P = true := by kernel_rfl
theorem par : parB K.P Try.f9.params.toList = true := by kernel_rfl

theorem law (B : Nat) (xs : List AV) (h : TyArgs K.P B Try.f9.params.toList xs) : SndP K 9 xs (.v (.bool true)) := by
  have h' : TyArgs K.P B [24, 3, 3] xs := h
  obtain ⟨_, _, rfl, h0, _, _, rfl, h1, _, _, rfl, h2, rfl⟩ := h'
  obtain ⟨_, _, rfl, qp0⟩ := tyV_ty Try.underlying24 h0
  obtain ⟨p0, rfl, wp0⟩ := rd24 qp0
  obtain ⟨p1, rfl, wp1⟩ := tyV_int ud3 h1
  obtain ⟨p2, rfl, wp2⟩ := tyV_int ud3 h2
  exact hotspotlaw33_BitmapSets_p p0 p1 p2 (sets_p p0 p1 p2)

set_option maxRecDepth 100000 in
theorem lifted (os : Os) (started : os.Started) (H : Type) (enc : TypeId × Value → H) :
    ReturnsInHanded {} Try.checked os 9 .any (Rows.bitmapSetsSpec.pre6 enc Try.prog Try.f9 Rows.bitmapSetsRow.domain false) (Rows.bitmapSetsSpec.post enc Try.prog Try.f9 false true false false) := by
  refine returnsInHanded_of_change (C := Try.checked) own started (by kernel_rfl) Try.func9
    (ChangeSpec.witness6 (enc := enc) (C := Try.checked) false ⟨#[], #[.agg #[.bool false, .slice none 0 0], .int .i64 0, .int .i64 0], []⟩ 8 (by kernel_rfl) (by kernel_rfl) (by kernel_rfl) (by kernel_rfl)) ?_
  intro W base args ds gs before hval hW hcnd _
  exact law_contract (C := K) (f := 9) ⟨Try.f9, Try.func9, rfl, by decide +kernel⟩ (fn := Try.f9) (tb := 4) (B := Rows.uptoBulkAll ds) (bk := Rows.uptoBulk) rfl laid par rfl Try.underlying4 (law _) rfl
    (fun ds hds => by match ds, hds with | [d1, d2, d3], _ => rfl) bulks.bulk hval hW (fun d hd => bulks.part_le hd)

theorem over : Rows.BitmapSetsSaid :=
  OpenClaim.holds_of_wide 9 Try.f9 rfl rfl rfl rfl rfl rfl rfl ⟨rfl, rfl, rfl, rfl, rfl⟩ rfl rfl rfl rfl rfl (by kernel_rfl) Try.func9 (by kernel_rfl)
    (of_decide_eq_true (by kernel_rfl)) (by unfold Func.isWrapper; first | (rw [if_pos (by decide +kernel)]; kernel_rfl) | (rw [if_neg (by decide +kernel)]; exact ⟨rfl, rfl⟩))
    (fun os started H enc _ => lifted os started H enc)

end Go.Proofs.Ytkheccnpikfalaa.bitmapSets
