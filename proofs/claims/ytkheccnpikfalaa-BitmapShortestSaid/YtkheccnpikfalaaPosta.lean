/- BitmapShortest: the law returns true whatever its arguments. -/
import Derived.Test.YtkheccnpikfalaaWalka
import Derived.Test.YtkheccnpikfalaaRows
import Derived.WalkKit
import Derived.ProofKit
import Derived.OpenShut
import Derived.JoinedCond
set_option linter.unusedVariables false
set_option linter.unusedSimpArgs false

/-! (TEP) -/

set_option linter.unusedVariables false
set_option linter.unusedSimpArgs false
namespace Go.AX.Z.TE
open Go.AX

/-! ## Rows of identifiers -/

/-- Rising numbers behind one, at most 255. -/
def Srt : Int → List Int → Prop
  | _, [] => True
  | p, x :: l => (p < x ∧ x ≤ 255) ∧ Srt x l
instance decSrt : ∀ (p : Int) (l : List Int), Decidable (Srt p l)
  | _, [] => .isTrue trivial
  | p, x :: l => @instDecidableAnd (p < x ∧ x ≤ 255) (Srt x l) inferInstance (decSrt x l)
def VT (t : Traffic) : Prop := Srt 0 t.Aids
instance (t : Traffic) : Decidable (VT t) := decSrt 0 t.Aids

theorem srt_pw : ∀ {l : List Int} {p : Int}, Srt p l → (l.Pairwise fun x y => x < y) ∧ ∀ x ∈ l, p < x ∧ x ≤ 255
  | [], _, _ => ⟨.nil, by simp⟩
  | x :: l, p, h => by
    obtain ⟨h1, h2⟩ := srt_pw h.2
    refine ⟨List.pairwise_cons.2 ⟨fun y hy => (h2 y hy).1, h1⟩, fun y hy => ?_⟩
    rcases List.mem_cons.1 hy with rfl | hy
    · exact h.1
    · have := h2 y hy; have := h.1; omega

theorem check_loop (t : Traffic) (hL : t.Aids.length < 4611686018427387904) : ∀ (l : List Int) (p : Int) (i n : Nat), t.Aids.drop i = l → l.length < n →
    ∃ o, bitmap_Check_L2 t n (p, (i : Int)) = some o ∧ (o = Ex.ret 8 ∨ o = Ex.go ()) ∧ (o = Ex.go () ↔ Srt p l) := by
  intro l
  induction l with
  | nil =>
    intro p i n h hn
    obtain ⟨n, rfl⟩ : ∃ m, n = m + 1 := ⟨n - 1, by simp at hn; omega⟩
    rw [bitmap_Check_L2, ge_dec (drop_n h)]
    exact ⟨_, rfl, .inr rfl, by simp [Srt]⟩
  | cons x l ih =>
    intro p i n h hn
    obtain ⟨n, rfl⟩ : ∃ m, n = m + 1 := ⟨n - 1, by simp at hn; omega⟩
    obtain ⟨h1, h2, h3⟩ := drop_c h
    simp only [List.length_cons] at hn
    rw [bitmap_Check_L2, lt_dec h3]
    simp only [cond_true, idxN, h1, bindS]
    by_cases hb : x ≤ p ∨ 255 < x
    · rw [show (decide (x ≤ p) || decide (255 < x)) = true by simpa using hb, cond_true]
      refine ⟨_, rfl, .inl rfl, ?_⟩
      constructor
      · intro q; cases q
      · intro q; have := q.1; omega
    · rw [show (decide (x ≤ p) || decide (255 < x)) = false by simp only [Bool.or_eq_false_iff, decide_eq_false_iff_not]; omega, cond_false, wrapN (by omega)]
      obtain ⟨o, e1, e2, e3⟩ := ih x (i + 1) n h2 (by omega)
      refine ⟨o, e1, e2, e3.trans ?_⟩
      constructor
      · intro q; exact ⟨by omega, q⟩
      · intro q; exact q.2

theorem valid_loop (t : Traffic) (hL : t.Aids.length < 4611686018427387904) : ∀ (l : List Int) (p : Int) (i n : Nat), t.Aids.drop i = l → l.length < n → 0 ≤ p → (i = 0 → p = 0) → (0 < i → t.Aids[i - 1]? = some p) →
    ∃ o, hotspotref33_Valid_L2 t n (i : Int) = some o ∧ (o = Ex.ret false ∨ o = Ex.go ()) ∧ (o = Ex.go () ↔ Srt p l) := by
  intro l
  induction l with
  | nil =>
    intro p i n h hn _ _ _
    obtain ⟨n, rfl⟩ : ∃ m, n = m + 1 := ⟨n - 1, by simp at hn; omega⟩
    rw [hotspotref33_Valid_L2, ge_dec (drop_n h)]
    exact ⟨_, rfl, .inr rfl, by simp [Srt]⟩
  | cons x l ih =>
    intro p i n h hn hp hp0 hp1
    obtain ⟨n, rfl⟩ : ∃ m, n = m + 1 := ⟨n - 1, by simp at hn; omega⟩
    obtain ⟨h1, h2, h3⟩ := drop_c h
    simp only [List.length_cons] at hn
    rw [hotspotref33_Valid_L2, lt_dec h3]
    simp only [cond_true, idxN, h1, bindS]
    have key : (bif decide (x < 1) || decide (255 < x) then some true else ((bif decide ((0 : Int) < (i : Int)) then ((idx t.Aids (IntKind.wrap .i64 ((i : Int) - 1))).bind fun x11 => some (decide (x ≤ x11))) else some false).bind fun x12 => some x12)) = some (decide (x ≤ p ∨ 255 < x)) := by
      by_cases hb : x < 1 ∨ 255 < x
      · rw [show (decide (x < 1) || decide (255 < x)) = true by simpa using hb, cond_true, decide_eq_true (by omega)]
      · rw [show (decide (x < 1) || decide (255 < x)) = false by simp only [Bool.or_eq_false_iff, decide_eq_false_iff_not]; omega, cond_false]
        by_cases hi : 0 < i
        · rw [decide_eq_true (by omega : (0 : Int) < (i : Int)), cond_true, wrapI (by omega) (by omega), show (i : Int) - 1 = ((i - 1 : Nat) : Int) by omega, idxN, hp1 hi, bindS, bindS]
          congr 1; exact decide_eq_decide.2 (by omega)
        · rw [decide_eq_false (by omega : ¬ (0 : Int) < (i : Int)), cond_false, bindS, decide_eq_false (by have := hp0 (by omega); omega)]
    rw [key, bindS]
    by_cases hb : x ≤ p ∨ 255 < x
    · rw [decide_eq_true hb, cond_true]
      refine ⟨_, rfl, .inl rfl, ?_⟩
      constructor
      · intro q; cases q
      · intro q; have := q.1; omega
    · rw [decide_eq_false hb, cond_false, wrapN (by omega)]
      obtain ⟨o, e1, e2, e3⟩ := ih x (i + 1) n h2 (by omega) (by omega) (by omega) (fun _ => h1)
      refine ⟨o, e1, e2, e3.trans ?_⟩
      constructor
      · intro q; exact ⟨by omega, q⟩
      · intro q; exact q.2

theorem check_e (t : Traffic) (hL : t.Aids.length ≤ 1000) : bitmap_Check t = some (if VT t then 0 else 8) := by
  unfold bitmap_Check
  obtain ⟨o, e1, e2, e3⟩ := check_loop t (by omega) t.Aids 0 0 big rfl (big_lt (by omega))
  simp only [Int.natCast_zero] at e1
  rw [e1, bindS]
  rcases e2 with rfl | rfl
  · rw [if_neg (show ¬ VT t from fun q => by cases e3.2 q)]; rfl
  · rw [if_pos (show VT t from e3.1 rfl)]; rfl
theorem valid_e (t : Traffic) (hL : t.Aids.length ≤ 1000) : hotspotref33_Valid t = some (decide (VT t)) := by
  unfold hotspotref33_Valid
  obtain ⟨o, e1, e2, e3⟩ := valid_loop t (by omega) t.Aids 0 0 big rfl (big_lt (by omega)) (Int.le_refl _) (fun _ => rfl) (fun h => by omega)
  simp only [Int.natCast_zero] at e1
  rw [e1, bindS]
  rcases e2 with rfl | rfl
  · rw [decide_eq_false (show ¬ VT t from fun q => by cases e3.2 q)]; rfl
  · rw [decide_eq_true (show VT t from e3.1 rfl)]; rfl

theorem in_loop (L : List Int) (hL : L.length ≤ 2000) (a : Int) : ∀ (l : List Int) (i n : Nat), L.drop i = l → l.length < n → hotspotref33_In_L2 L a n (i : Int) = some (if a ∈ l then Ex.ret true else Ex.go ()) := by
  intro l
  induction l with
  | nil =>
    intro i n h hn
    obtain ⟨n, rfl⟩ : ∃ m, n = m + 1 := ⟨n - 1, by simp at hn; omega⟩
    rw [hotspotref33_In_L2, ge_dec (drop_n h)]; simp
  | cons x l ih =>
    intro i n h hn
    obtain ⟨n, rfl⟩ : ∃ m, n = m + 1 := ⟨n - 1, by simp at hn; omega⟩
    obtain ⟨h1, h2, h3⟩ := drop_c h
    simp only [List.length_cons] at hn
    rw [hotspotref33_In_L2, lt_dec h3]
    simp only [cond_true, idxN, h1, bindS]
    by_cases hx : x = a
    · rw [show (x == a) = true by simpa using hx, cond_true, if_pos (by simp [hx])]
    · rw [show (x == a) = false by simpa using hx, cond_false, wrapN (by omega), ih (i + 1) n h2 (by omega)]
      have : a ∈ x :: l ↔ a ∈ l := by simp [Ne.symm hx]
      simp only [this]
theorem in_e (L : List Int) (hL : L.length ≤ 2000) (a : Int) : hotspotref33_In L a = some (decide (a ∈ L)) := by
  unfold hotspotref33_In
  have := in_loop L hL a L 0 big rfl (big_lt (by omega))
  simp only [Int.natCast_zero] at this
  rw [this, bindS]
  by_cases h : a ∈ L
  · rw [if_pos h, decide_eq_true h]; rfl
  · rw [if_neg h, decide_eq_false h]; rfl

end Go.AX.Z.TE

/-! (TEQ) -/

set_option linter.unusedVariables false
set_option linter.unusedSimpArgs false
namespace Go.AX.Z.TE
open Go.AX

/-! ## Map bytes -/

def c8 (b : Bool) (w : Int) : Int := bif b then w else 0
def val8 (b0 b1 b2 b3 b4 b5 b6 b7 : Bool) : Int := 0 + c8 b0 1 + c8 b1 2 + c8 b2 4 + c8 b3 8 + c8 b4 16 + c8 b5 32 + c8 b6 64 + c8 b7 128
theorem or_val : ∀ b0 b1 b2 b3 b4 b5 b6 b7 : Bool, ∀ j : Fin 8, bor .u8 (val8 b0 b1 b2 b3 b4 b5 b6 b7) (IntKind.wrap .u8 (1 * 2 ^ (min ((j.val : Int)).toNat 8))) =
    val8 (b0 || decide (j.val = 0)) (b1 || decide (j.val = 1)) (b2 || decide (j.val = 2)) (b3 || decide (j.val = 3)) (b4 || decide (j.val = 4)) (b5 || decide (j.val = 5)) (b6 || decide (j.val = 6)) (b7 || decide (j.val = 7)) := by decide +kernel
theorem val_b : ∀ b0 b1 b2 b3 b4 b5 b6 b7 : Bool, 0 ≤ val8 b0 b1 b2 b3 b4 b5 b6 b7 ∧ val8 b0 b1 b2 b3 b4 b5 b6 b7 ≤ 255 := by decide +kernel
theorem val_0 : ∀ b0 b1 b2 b3 b4 b5 b6 b7 : Bool, val8 b0 b1 b2 b3 b4 b5 b6 b7 = 0 ↔ (b0 || b1 || b2 || b3 || b4 || b5 || b6 || b7) = false := by decide +kernel
theorem low_e : ∀ x : Fin 256, band .i64 (x.val : Int) 7 = ((x.val % 8 : Nat) : Int) := by decide +kernel

/-- Map byte number i. -/
def mb (l : List Int) (i : Nat) : Int := val8 (decide (((8 * i + 0 : Nat) : Int) ∈ l)) (decide (((8 * i + 1 : Nat) : Int) ∈ l)) (decide (((8 * i + 2 : Nat) : Int) ∈ l)) (decide (((8 * i + 3 : Nat) : Int) ∈ l)) (decide (((8 * i + 4 : Nat) : Int) ∈ l)) (decide (((8 * i + 5 : Nat) : Int) ∈ l)) (decide (((8 * i + 6 : Nat) : Int) ∈ l)) (decide (((8 * i + 7 : Nat) : Int) ∈ l))
theorem mb_b (l : List Int) (i : Nat) : 0 ≤ mb l i ∧ mb l i ≤ 255 := val_b _ _ _ _ _ _ _ _
theorem mb_0 (l : List Int) (i : Nat) : mb l i ≠ 0 ↔ ∃ x ∈ l, 0 ≤ x ∧ x / 8 = (i : Int) := by
  unfold mb
  rw [Ne, val_0]
  constructor
  · intro h
    have h : (decide (((8 * i + 0 : Nat) : Int) ∈ l) || decide (((8 * i + 1 : Nat) : Int) ∈ l) || decide (((8 * i + 2 : Nat) : Int) ∈ l) || decide (((8 * i + 3 : Nat) : Int) ∈ l) || decide (((8 * i + 4 : Nat) : Int) ∈ l) || decide (((8 * i + 5 : Nat) : Int) ∈ l) || decide (((8 * i + 6 : Nat) : Int) ∈ l) || decide (((8 * i + 7 : Nat) : Int) ∈ l)) = true := Bool.of_not_eq_false h
    simp only [Bool.or_eq_true, decide_eq_true_eq] at h
    rcases h with ((((((h | h) | h) | h) | h) | h) | h) | h <;> exact ⟨_, h, by omega, by omega⟩
  · rintro ⟨x, hx, h0, h⟩ hf
    simp only [Bool.or_eq_false_iff, decide_eq_false_iff_not] at hf
    obtain ⟨⟨⟨⟨⟨⟨⟨f0, f1⟩, f2⟩, f3⟩, f4⟩, f5⟩, f6⟩, f7⟩ := hf
    have : x = ((8 * i + 0 : Nat) : Int) ∨ x = ((8 * i + 1 : Nat) : Int) ∨ x = ((8 * i + 2 : Nat) : Int) ∨ x = ((8 * i + 3 : Nat) : Int) ∨ x = ((8 * i + 4 : Nat) : Int) ∨ x = ((8 * i + 5 : Nat) : Int) ∨ x = ((8 * i + 6 : Nat) : Int) ∨ x = ((8 * i + 7 : Nat) : Int) := by omega
    rcases this with h | h | h | h | h | h | h | h <;> (rw [h] at hx; first | exact f0 hx | exact f1 hx | exact f2 hx | exact f3 hx | exact f4 hx | exact f5 hx | exact f6 hx | exact f7 hx)
theorem mb_snoc (p : List Int) (x : Nat) (hx : x < 256) : mb (p ++ [(x : Int)]) (x / 8) = bor .u8 (mb p (x / 8)) (IntKind.wrap .u8 (1 * 2 ^ (min (((x % 8 : Nat) : Int)).toNat 8))) := by
  have h := or_val (decide (((8 * (x / 8) + 0 : Nat) : Int) ∈ p)) (decide (((8 * (x / 8) + 1 : Nat) : Int) ∈ p)) (decide (((8 * (x / 8) + 2 : Nat) : Int) ∈ p)) (decide (((8 * (x / 8) + 3 : Nat) : Int) ∈ p)) (decide (((8 * (x / 8) + 4 : Nat) : Int) ∈ p)) (decide (((8 * (x / 8) + 5 : Nat) : Int) ∈ p)) (decide (((8 * (x / 8) + 6 : Nat) : Int) ∈ p)) (decide (((8 * (x / 8) + 7 : Nat) : Int) ∈ p)) ⟨x % 8, by omega⟩
  unfold mb
  rw [h]
  have key : ∀ k : Nat, k < 8 → decide (((8 * (x / 8) + k : Nat) : Int) ∈ p ++ [(x : Int)]) = (decide (((8 * (x / 8) + k : Nat) : Int) ∈ p) || decide (x % 8 = k)) := by
    intro k hk
    rw [Bool.eq_iff_iff]
    simp only [decide_eq_true_eq, Bool.or_eq_true, List.mem_append, List.mem_singleton]
    have : ((8 * (x / 8) + k : Nat) : Int) = (x : Int) ↔ x % 8 = k := by omega
    rw [this]
  rw [key 0 (by omega), key 1 (by omega), key 2 (by omega), key 3 (by omega), key 4 (by omega), key 5 (by omega), key 6 (by omega), key 7 (by omega)]
theorem mb_other (p : List Int) (x : Nat) (i : Nat) (h : i ≠ x / 8) : mb (p ++ [(x : Int)]) i = mb p i := by
  unfold mb
  have key : ∀ k : Nat, k < 8 → decide (((8 * i + k : Nat) : Int) ∈ p ++ [(x : Int)]) = decide (((8 * i + k : Nat) : Int) ∈ p) := by
    intro k hk
    rw [Bool.eq_iff_iff]
    simp only [decide_eq_true_eq, List.mem_append, List.mem_singleton]
    constructor
    · rintro (q | q)
      · exact q
      · omega
    · exact .inl
  rw [key 0 (by omega), key 1 (by omega), key 2 (by omega), key 3 (by omega), key 4 (by omega), key 5 (by omega), key 6 (by omega), key 7 (by omega)]

/-- The map bytes. -/
def M (l : List Int) : List Int := (List.range 32).map fun i => mb l i
theorem M_len (l : List Int) : (M l).length = 32 := by simp [M]
theorem M_get (l : List Int) {i : Nat} (h : i < 32) : (M l)[i]? = some (mb l i) := by simp [M, h]
theorem M_set (p : List Int) (x : Nat) (hx : x < 256) : (M p).set (x / 8) (mb (p ++ [(x : Int)]) (x / 8)) = M (p ++ [(x : Int)]) := by
  apply List.ext_getElem?
  intro i
  rw [List.getElem?_set]
  by_cases h : x / 8 = i
  · subst h
    rw [if_pos rfl, if_pos (by rw [M_len]; omega), M_get _ (by omega)]
  · rw [if_neg h]
    by_cases hi : i < 32
    · rw [M_get _ hi, M_get _ hi, mb_other p x i (fun q => h q.symm)]
    · rw [List.getElem?_eq_none (by rw [M_len]; omega), List.getElem?_eq_none (by rw [M_len]; omega)]
theorem M_nil : M [] = List.replicate 32 0 := by decide +kernel

theorem bytes_loop (L : List Int) (hL : L.length ≤ 1000) (hr : ∀ x ∈ L, 0 ≤ x ∧ x ≤ 255) : ∀ (l p : List Int) (i n : Nat), L.drop i = l → l.length < n → bitmap_bytes_L2 L n (M p, (i : Int)) = some (M (p ++ l)) := by
  intro l
  induction l with
  | nil =>
    intro p i n h hn
    obtain ⟨n, rfl⟩ : ∃ m, n = m + 1 := ⟨n - 1, by simp at hn; omega⟩
    rw [bitmap_bytes_L2, ge_dec (drop_n h)]; simp
  | cons x l ih =>
    intro p i n h hn
    obtain ⟨n, rfl⟩ : ∃ m, n = m + 1 := ⟨n - 1, by simp at hn; omega⟩
    obtain ⟨h1, h2, h3⟩ := drop_c h
    simp only [List.length_cons] at hn
    obtain ⟨r1, r2⟩ := hr x (List.mem_of_getElem? h1)
    obtain ⟨y, rfl⟩ : ∃ y : Nat, x = (y : Int) := ⟨x.toNat, by omega⟩
    rw [bitmap_bytes_L2, lt_dec h3]
    simp only [cond_true, idxN, h1, bindS]
    have e1 : ((y : Int)).fdiv (2 ^ (min 3 64)) = ((y / 8 : Nat) : Int) := by
      rw [show ((2 : Int) ^ (min 3 64)) = 8 from rfl, Int.fdiv_eq_ediv_of_nonneg _ (by decide)]; omega
    have e2 : band .i64 (y : Int) 7 = ((y % 8 : Nat) : Int) := low_e ⟨y, by omega⟩
    rw [e1, e2]
    have e3 : idxA 32 (M p) ((y / 8 : Nat) : Int) = some (mb p (y / 8)) := by
      unfold idxA
      rw [decide_eq_true (by omega : (0 : Int) ≤ ((y / 8 : Nat) : Int)), decide_eq_true (by omega : ((y / 8 : Nat) : Int) < 32), Bool.and_self, cond_true, Int.toNat_natCast, M_get _ (by omega)]
    rw [e3, bindS, chk_d (by omega), bindS, wrapN (by omega)]
    have e4 := mb_snoc p y (by omega)
    have e5 := M_set p y (by omega)
    rw [e4] at e5
    rw [show ((((y / 8 : Nat) : Int)).toNat) = y / 8 from Int.toNat_natCast _, e5, ih (p ++ [(y : Int)]) (i + 1) n h2 (by omega)]
    simp
theorem bytes_e (L : List Int) (hL : L.length ≤ 1000) (hr : ∀ x ∈ L, 0 ≤ x ∧ x ≤ 255) : bitmap_bytes L = some (M L) := by
  unfold bitmap_bytes
  have := bytes_loop L hL hr L [] 0 big rfl (big_lt (by omega))
  simp only [Int.natCast_zero, List.nil_append, M_nil] at this
  rw [this, bindS, chk_d (M_len L)]; rfl
theorem full_e (L : List Int) (hL : L.length ≤ 1000) (hr : ∀ x ∈ L, 0 ≤ x ∧ x ≤ 255) : bitmap_full L = some (M L) := by
  unfold bitmap_full
  rw [bytes_e L hL hr, bindS, chk_t (by simp [M_len])]; rfl

theorem mapByte_e (L : List Int) (hL : L.length ≤ 1000) (i : Nat) (hi : i < 100) : hotspotref33_mapByte L (i : Int) = some (mb L i) := by
  unfold hotspotref33_mapByte
  have st : ∀ (k m : Nat) (s w : Int), k < 8 → 0 ≤ s → s ≤ 100000 → 0 ≤ w → w ≤ 1000 → hotspotref33_mapByte_L2 L (i : Int) (m + 1) (s, w, (k : Int)) = hotspotref33_mapByte_L2 L (i : Int) m (s + c8 (decide (((8 * i + k : Nat) : Int) ∈ L)) w, 2 * w, ((k + 1 : Nat) : Int)) := by
    intro k m s w hk s0 s1 w0 w1
    rw [hotspotref33_mapByte_L2, decide_eq_true (by simp only; omega), cond_true]
    simp only
    rw [wrapI (i := 8 * (i : Int)) (by omega) (by omega), wrapI (by omega) (by omega), show 8 * (i : Int) + (k : Int) = ((8 * i + k : Nat) : Int) by omega, in_e L (by omega), bindS, wrapN (by omega), wrapI (i := w * 2) (by omega) (by omega), show w * 2 = 2 * w by omega]
    by_cases h : ((8 * i + k : Nat) : Int) ∈ L
    · rw [decide_eq_true h, cond_true, wrapI (by omega) (by omega)]; rfl
    · rw [decide_eq_false h, cond_false]
      show _ = hotspotref33_mapByte_L2 L (i : Int) m (s + 0, 2 * w, ((k + 1 : Nat) : Int))
      rw [Int.add_zero]
  have cb : ∀ (b : Bool) (w : Int), 0 ≤ w → 0 ≤ c8 b w ∧ c8 b w ≤ w := by
    intro b w hw; cases b
    · exact ⟨Int.le_refl _, hw⟩
    · exact ⟨hw, Int.le_refl _⟩
  rw [show big = (big - 9) + 9 from rfl]
  generalize big - 9 = n
  have b0 := cb (decide (((8 * i + 0 : Nat) : Int) ∈ L)) 1 (by omega)
  have b1 := cb (decide (((8 * i + 1 : Nat) : Int) ∈ L)) 2 (by omega)
  have b2 := cb (decide (((8 * i + 2 : Nat) : Int) ∈ L)) 4 (by omega)
  have b3 := cb (decide (((8 * i + 3 : Nat) : Int) ∈ L)) 8 (by omega)
  have b4 := cb (decide (((8 * i + 4 : Nat) : Int) ∈ L)) 16 (by omega)
  have b5 := cb (decide (((8 * i + 5 : Nat) : Int) ∈ L)) 32 (by omega)
  have b6 := cb (decide (((8 * i + 6 : Nat) : Int) ∈ L)) 64 (by omega)
  have b7 := cb (decide (((8 * i + 7 : Nat) : Int) ∈ L)) 128 (by omega)
  rw [show (0 : Int) = ((0 : Nat) : Int) from rfl, st 0 (n + 8) _ 1 (by omega) (by omega) (by omega) (by omega) (by omega), show (2 : Int) * 1 = 2 from rfl,
    st 1 (n + 7) _ 2 (by omega) (by omega) (by omega) (by omega) (by omega), show (2 : Int) * 2 = 4 from rfl,
    st 2 (n + 6) _ 4 (by omega) (by omega) (by omega) (by omega) (by omega), show (2 : Int) * 4 = 8 from rfl,
    st 3 (n + 5) _ 8 (by omega) (by omega) (by omega) (by omega) (by omega), show (2 : Int) * 8 = 16 from rfl,
    st 4 (n + 4) _ 16 (by omega) (by omega) (by omega) (by omega) (by omega), show (2 : Int) * 16 = 32 from rfl,
    st 5 (n + 3) _ 32 (by omega) (by omega) (by omega) (by omega) (by omega), show (2 : Int) * 32 = 64 from rfl,
    st 6 (n + 2) _ 64 (by omega) (by omega) (by omega) (by omega) (by omega), show (2 : Int) * 64 = 128 from rfl,
    st 7 (n + 1) _ 128 (by omega) (by omega) (by omega) (by omega) (by omega)]
  rw [hotspotref33_mapByte_L2]
  rfl
end Go.AX.Z.TE

/-! (TER) -/

set_option linter.unusedVariables false
set_option linter.unusedSimpArgs false
namespace Go.AX.Z.TE
open Go.AX

/-! ## Encodings -/

def w8 (x : Int) : Int := IntKind.wrap .u8 x
theorem w8_id {x : Int} (h : 0 ≤ x ∧ x ≤ 255) : w8 x = x := by
  unfold w8
  have : IntKind.wrap .u8 x = x % 256 := by simp [IntKind.wrap, IntKind.bits, IntKind.signed]
  omega

/-- What the reference lays down. -/
theorem out_loop (L : List Int) (hL : L.length ≤ 2000) : ∀ (l acc : List Int) (i n : Nat), L.drop i = l → l.length < n → acc.length ≤ i → hotspotref33_EncodeAs_L20 L n (acc, (i : Int)) = some (acc ++ l.map w8) := by
  intro l
  induction l with
  | nil =>
    intro acc i n h hn hc
    obtain ⟨n, rfl⟩ : ∃ m, n = m + 1 := ⟨n - 1, by simp at hn; omega⟩
    rw [hotspotref33_EncodeAs_L20, ge_dec (drop_n h)]; simp
  | cons x l ih =>
    intro acc i n h hn hc
    obtain ⟨n, rfl⟩ : ∃ m, n = m + 1 := ⟨n - 1, by simp at hn; omega⟩
    obtain ⟨h1, h2, h3⟩ := drop_c h
    simp only [List.length_cons] at hn
    rw [hotspotref33_EncodeAs_L20, lt_dec h3]
    simp only [cond_true, idxN, h1, bindS]
    rw [chk_d (by omega), bindS, wrapN (by omega), ih _ (i + 1) n h2 (by omega) (by simp; omega)]
    simp [w8]
theorem out_e (L : List Int) (hL : L.length ≤ 2000) : hotspotref33_EncodeAs_L20 L big ([], 0) = some (L.map w8) := by
  have := out_loop L hL L [] 0 big rfl (big_lt (by omega)) (by simp)
  simpa using this

/-- Full. -/
theorem rfull_loop (t : Traffic) (hL : t.Aids.length ≤ 1000) : ∀ (d i n : Nat) (acc : List Int), i + d = 32 → d < n → acc.length ≤ i + 1 → hotspotref33_EncodeAs_L4 t n (acc, (i : Int)) = some (acc ++ (M t.Aids).drop i) := by
  intro d
  induction d with
  | zero =>
    intro i n acc h hn hc
    obtain ⟨n, rfl⟩ : ∃ m, n = m + 1 := ⟨n - 1, by omega⟩
    rw [hotspotref33_EncodeAs_L4, decide_eq_false (by simp only; omega), cond_false, List.drop_of_length_le (by rw [M_len]; omega), List.append_nil]
  | succ d ih =>
    intro i n acc h hn hc
    obtain ⟨n, rfl⟩ : ∃ m, n = m + 1 := ⟨n - 1, by omega⟩
    rw [hotspotref33_EncodeAs_L4, decide_eq_true (by simp only; omega), cond_true]
    simp only
    rw [mapByte_e _ hL i (by omega), bindS, chk_d (by omega), bindS, wrapN (by omega), ih (i + 1) n _ (by omega) (by omega) (by simp; omega)]
    have hi : i < (M t.Aids).length := by rw [M_len]; omega
    rw [List.drop_eq_getElem_cons hi, show (M t.Aids)[i] = mb t.Aids i from (List.getElem?_eq_some_iff.1 (M_get _ (by omega))).2]
    simp

/-- Part: from the first byte that is not zero. -/
theorem from_loop (t : Traffic) (hL : t.Aids.length ≤ 1000) (m : Nat) (hm : m ≤ 31 → mb t.Aids m ≠ 0) (hlo : ∀ i, i < m → i < 32 → mb t.Aids i = 0) : ∀ (i n : Nat) (d : Int), i ≤ 32 → i < n →
    hotspotref33_EncodeAs_L7 t n (d, (i : Int) - 1) = some (if m < i then (m : Int) else d) := by
  intro i
  induction i with
  | zero =>
    intro n d h hn
    obtain ⟨n, rfl⟩ : ∃ q, n = q + 1 := ⟨n - 1, by omega⟩
    rw [hotspotref33_EncodeAs_L7, decide_eq_false (by simp only; omega), cond_false, if_neg (by omega)]
  | succ i ih =>
    intro n d h hn
    obtain ⟨n, rfl⟩ : ∃ q, n = q + 1 := ⟨n - 1, by omega⟩
    rw [hotspotref33_EncodeAs_L7, show ((i + 1 : Nat) : Int) - 1 = (i : Int) by omega, decide_eq_true (by simp only; omega), cond_true]
    simp only
    rw [mapByte_e _ hL i (by omega), bindS, wrapI (by omega) (by omega)]
    by_cases hz : mb t.Aids i = 0
    · rw [hz, bne_self_eq_false, cond_false, ih n d (by omega) (by omega)]
      by_cases h1 : m < i
      · rw [if_pos h1, if_pos (by omega)]
      · have : m ≠ i := fun q => by subst q; exact hm (by omega) hz
        rw [if_neg h1, if_neg (by omega)]
    · have h1 : ¬ i < m := fun q => hz (hlo i q (by omega))
      rw [show (mb t.Aids i != 0) = true by simpa using hz, cond_true, ih n _ (by omega) (by omega)]
      by_cases h2 : m < i
      · rw [if_pos h2, if_pos (by omega)]
      · rw [if_neg h2, if_pos (by omega)]; congr 1; omega
theorem to_loop (t : Traffic) (hL : t.Aids.length ≤ 1000) (m : Nat) (hm : 0 < m → mb t.Aids (m - 1) ≠ 0) (hm32 : m ≤ 32) (hhi : ∀ i, m ≤ i → i < 32 → mb t.Aids i = 0) : ∀ (k i n : Nat) (d : Int), i + k = 32 → k < n →
    hotspotref33_EncodeAs_L10 t n (d, (i : Int)) = some (if i < m then (m : Int) else d) := by
  intro k
  induction k with
  | zero =>
    intro i n d h hn
    obtain ⟨n, rfl⟩ : ∃ q, n = q + 1 := ⟨n - 1, by omega⟩
    rw [hotspotref33_EncodeAs_L10, decide_eq_false (by simp only; omega), cond_false, if_neg (by omega)]
  | succ k ih =>
    intro i n d h hn
    obtain ⟨n, rfl⟩ : ∃ q, n = q + 1 := ⟨n - 1, by omega⟩
    rw [hotspotref33_EncodeAs_L10, decide_eq_true (by simp only; omega), cond_true]
    simp only
    rw [mapByte_e _ hL i (by omega), bindS, wrapN (by omega)]
    by_cases hz : mb t.Aids i = 0
    · rw [hz, bne_self_eq_false, cond_false, ih (i + 1) n d (by omega) (by omega)]
      by_cases h1 : i + 1 < m
      · rw [if_pos h1, if_pos (by omega)]
      · have : m ≠ i + 1 := fun q => by
          have := hm (by omega)
          rw [q] at this
          exact this (by simpa using hz)
        rw [if_neg h1, if_neg (by omega)]
    · have h1 : i < m := Nat.lt_of_not_le fun q => hz (hhi i q (by omega))
      rw [show (mb t.Aids i != 0) = true by simpa using hz, cond_true, ih (i + 1) n _ (by omega) (by omega), if_pos h1]
      by_cases h2 : i + 1 < m
      · rw [if_pos h2]
      · rw [if_neg h2]; congr 1; omega
theorem rpart_loop (t : Traffic) (hL : t.Aids.length ≤ 1000) (m : Nat) (hm : m ≤ 32) : ∀ (d i n : Nat) (acc : List Int), i + d = m → d < n → acc.length ≤ i + 3 → hotspotref33_EncodeAs_L13 (m : Int) t n (acc, (i : Int)) = some (acc ++ ((M t.Aids).drop i).take (m - i)) := by
  intro d
  induction d with
  | zero =>
    intro i n acc h hn hc
    obtain ⟨n, rfl⟩ : ∃ q, n = q + 1 := ⟨n - 1, by omega⟩
    rw [hotspotref33_EncodeAs_L13, decide_eq_false (by simp only; omega), cond_false, show m - i = 0 by omega, List.take_zero, List.append_nil]
  | succ d ih =>
    intro i n acc h hn hc
    obtain ⟨n, rfl⟩ : ∃ q, n = q + 1 := ⟨n - 1, by omega⟩
    rw [hotspotref33_EncodeAs_L13, decide_eq_true (by simp only; omega), cond_true]
    simp only
    rw [mapByte_e _ hL i (by omega), bindS, chk_d (by omega), bindS, wrapN (by omega), ih (i + 1) n _ (by omega) (by omega) (by simp; omega)]
    have hi : i < (M t.Aids).length := by rw [M_len]; omega
    rw [List.drop_eq_getElem_cons hi, show (M t.Aids)[i] = mb t.Aids i from (List.getElem?_eq_some_iff.1 (M_get _ (by omega))).2, show m - i = (m - (i + 1)) + 1 by omega, List.take_succ_cons]
    simp

/-- Lists. -/
theorem list_loop (L : List Int) (hL : L.length ≤ 1000) : ∀ (l acc : List Int) (i n : Nat), L.drop i = l → l.length < n → acc.length ≤ i + 1 → bitmap_list_L2 L n (acc, (i : Int)) = some (acc ++ l.map w8) := by
  intro l
  induction l with
  | nil =>
    intro acc i n h hn hc
    obtain ⟨n, rfl⟩ : ∃ m, n = m + 1 := ⟨n - 1, by simp at hn; omega⟩
    rw [bitmap_list_L2, ge_dec (drop_n h)]; simp
  | cons x l ih =>
    intro acc i n h hn hc
    obtain ⟨n, rfl⟩ : ∃ m, n = m + 1 := ⟨n - 1, by simp at hn; omega⟩
    obtain ⟨h1, h2, h3⟩ := drop_c h
    simp only [List.length_cons] at hn
    rw [bitmap_list_L2, lt_dec h3]
    simp only [cond_true, idxN, h1, bindS]
    rw [chk_d (by omega), bindS, wrapN (by omega), ih _ (i + 1) n h2 (by omega) (by simp; omega)]
    simp [w8]
theorem list_e (L : List Int) (hL : L.length ≤ 1000) : bitmap_list L = some ([w8 (L.length : Int)] ++ L.map w8) := by
  unfold bitmap_list
  have := list_loop L hL L [w8 (L.length : Int)] 0 big rfl (big_lt (by omega)) (by simp)
  simp only [Int.natCast_zero] at this
  show (bitmap_list_L2 L big ([w8 (L.length : Int)], 0)).bind _ = _
  rw [this]; rfl

/-- The numbers from 'a' on, 'k' of them, that are not in a list. -/
def gaps (l : List Int) : Nat → Nat → List Int
  | _, 0 => []
  | a, k + 1 => (if (a : Int) ∈ l then [] else [(a : Int)]) ++ gaps l (a + 1) k
theorem gaps_len (l : List Int) : ∀ (k a : Nat), (gaps l a k).length ≤ k
  | 0, _ => Nat.le_refl _
  | k + 1, a => by
    have := gaps_len l k (a + 1)
    simp only [gaps, List.length_append]
    split <;> simp <;> omega
theorem gaps_add (l : List Int) : ∀ (j k a : Nat), gaps l a (j + k) = gaps l a j ++ gaps l (a + j) k
  | 0, k, a => by simp [gaps]
  | j + 1, k, a => by
    rw [show j + 1 + k = (j + k) + 1 by omega, gaps, gaps, gaps_add l j k (a + 1), List.append_assoc, show a + 1 + j = a + (j + 1) by omega]
theorem gaps_b (l : List Int) : ∀ (k a : Nat) x, x ∈ gaps l a k → (a : Int) ≤ x ∧ x < (a : Int) + k
  | 0, _, x, h => by simp [gaps] at h
  | k + 1, a, x, h => by
    rw [gaps, List.mem_append] at h
    rcases h with h | h
    · split at h
      · cases h
      · rw [List.mem_singleton] at h; omega
    · have := gaps_b l k (a + 1) x h; omega

theorem rgap_loop (t : Traffic) (hL : t.Aids.length ≤ 1000) (m : Nat) (hm : m ≤ 256) : ∀ (d i n : Nat) (acc : List Int), i + d = m → d < n → acc.length ≤ i → hotspotref33_EncodeAs_L17 (m : Int) t n (acc, (i : Int)) = some (acc ++ gaps t.Aids i d) := by
  intro d
  induction d with
  | zero =>
    intro i n acc h hn hc
    obtain ⟨n, rfl⟩ : ∃ q, n = q + 1 := ⟨n - 1, by omega⟩
    rw [hotspotref33_EncodeAs_L17, decide_eq_false (by simp only; omega), cond_false]; simp [gaps]
  | succ d ih =>
    intro i n acc h hn hc
    obtain ⟨n, rfl⟩ : ∃ q, n = q + 1 := ⟨n - 1, by omega⟩
    rw [hotspotref33_EncodeAs_L17, decide_eq_true (by simp only; omega), cond_true, gaps]
    simp only
    rw [in_e _ (by omega), bindS]
    by_cases hz : (i : Int) ∈ t.Aids
    · rw [decide_eq_true hz, Bool.not_true, cond_false, wrapN (by omega), ih (i + 1) n _ (by omega) (by omega) (by omega), if_pos hz]; simp
    · rw [decide_eq_false hz, Bool.not_false, cond_true, chk_d (by omega), bindS, wrapN (by omega), ih (i + 1) n _ (by omega) (by omega) (by simp; omega), if_neg hz]; simp

theorem hin_loop (l : List Int) (a : Nat) (ha : a ≤ 255) : ∀ (d i n : Nat) (acc : List Int), i + d = a → d < n → acc.length ≤ i + 2 → (∀ x : Nat, i ≤ x → x < a → (x : Int) ∉ l) → bitmap_holes_L6 (a : Int) n (acc, (i : Int)) = some (acc ++ gaps l i d) := by
  intro d
  induction d with
  | zero =>
    intro i n acc h hn hc hx
    obtain ⟨n, rfl⟩ : ∃ q, n = q + 1 := ⟨n - 1, by omega⟩
    rw [bitmap_holes_L6, decide_eq_false (by simp only; omega), cond_false]; simp [gaps]
  | succ d ih =>
    intro i n acc h hn hc hx
    obtain ⟨n, rfl⟩ : ∃ q, n = q + 1 := ⟨n - 1, by omega⟩
    rw [bitmap_holes_L6, decide_eq_true (by simp only; omega), cond_true, gaps, if_neg (hx i (Nat.le_refl _) (by omega))]
    simp only
    rw [chk_d (by omega), bindS, wrapN (by omega), show IntKind.wrap .u8 (i : Int) = (i : Int) from w8_id (by omega), ih (i + 1) n _ (by omega) (by omega) (by simp; omega) (fun x h1 h2 => hx x (by omega) h2)]; simp

theorem gaps_full (l : List Int) : ∀ (k a : Nat), (∀ x : Nat, a ≤ x → x < a + k → (x : Int) ∉ l) → (gaps l a k).length = k
  | 0, _, _ => rfl
  | k + 1, a, h => by
    rw [gaps, if_neg (h a (Nat.le_refl _) (by omega))]
    simp only [List.length_append, List.length_cons, List.length_nil]
    rw [gaps_full l k (a + 1) fun x h1 h2 => h x (by omega) (by omega)]
    omega
theorem holes_loop (L : List Int) (hv : Srt 0 L) : ∀ (l : List Int) (p i n : Nat) (c : Int), L.drop i = l → l.length < n → Srt (p : Int) l → p ≤ 255 → (p = 0 ∨ (p : Int) ∈ L) → (∀ x ∈ L, x ≤ (p : Int) ∨ x ∈ l) → (gaps L 1 (p - 1)).length + i = p → i ≤ L.length →
    ∃ q : Nat, (gaps L 1 (q - 1)).length + L.length = q ∧ q ≤ 255 ∧ (l.getLast? = none → q = p) ∧ (∀ x, l.getLast? = some x → x = (q : Int)) ∧ bitmap_holes_L2 L n ((p : Int) :: c :: gaps L 1 (p - 1), (i : Int)) = some ((q : Int) :: c :: gaps L 1 (q - 1)) := by
  intro l
  induction l with
  | nil =>
    intro p i n c h hn hs hp hpl hx hg0 hiL
    obtain ⟨n, rfl⟩ : ∃ m, n = m + 1 := ⟨n - 1, by simp at hn; omega⟩
    have hd := drop_n h
    rw [bitmap_holes_L2, ge_dec hd]
    exact ⟨p, by omega, hp, fun _ => rfl, fun x hx => by simp at hx, rfl⟩
  | cons x l ih =>
    intro p i n c h hn hs hp hpl hx hg0 hiL
    obtain ⟨n, rfl⟩ : ∃ m, n = m + 1 := ⟨n - 1, by simp at hn; omega⟩
    obtain ⟨h1, h2, h3⟩ := drop_c h
    simp only [List.length_cons] at hn
    obtain ⟨a, rfl⟩ : ∃ a : Nat, x = (a : Int) := ⟨x.toNat, by have := hs.1.1; omega⟩
    have hpa : p < a := by have := hs.1.1; omega
    have ha : a ≤ 255 := by have := hs.1.2; omega
    obtain ⟨s1, s2⟩ := srt_pw hs.2
    have hlen : L.length ≤ 1000 := by
      have := h3
      have hd : l.length ≤ 255 := by
        have : ∀ (l : List Int) (q : Int), 0 ≤ q → q ≤ 255 → Srt q l → (l.length : Int) ≤ 255 - q := by
          intro l
          induction l with
          | nil => intro q h0 h1 _; simp; omega
          | cons y l ih => intro q h0 h1 hs; have := ih y (by have := hs.1.1; omega) hs.1.2 hs.2; have := hs.1.1; simp only [List.length_cons]; omega
        have := this l (a : Int) (by omega) (by omega) hs.2
        omega
      have : ∀ (l : List Int) (q : Int), 0 ≤ q → q ≤ 255 → Srt q l → (l.length : Int) ≤ 255 - q := by
        intro l
        induction l with
        | nil => intro q h0 h1 _; simp; omega
        | cons y l ih => intro q h0 h1 hs; have := ih y (by have := hs.1.1; omega) hs.1.2 hs.2; have := hs.1.1; simp only [List.length_cons]; omega
      have := this L 0 (by omega) (by omega) hv
      omega
    rw [bitmap_holes_L2, lt_dec h3]
    simp only [cond_true, idxN, h1, bindS]
    have no : ∀ y : Nat, p + 1 ≤ y → y < a → (y : Int) ∉ L := by
      intro y hy1 hy2 hm
      rcases hx _ hm with q | q
      · omega
      · rcases List.mem_cons.1 q with q | q
        · omega
        · have := s2 _ q; omega
    have g1 := gaps_len L (p - 1) 1
    rw [idx0, List.getElem?_cons_zero, bindS, wrapI (i := (p : Int)) (by omega) (by omega), wrapN (by omega), hin_loop L a ha (a - (p + 1)) (p + 1) big _ (by omega) (big_lt (by omega)) (by simp; omega) no, bindS]
    have hg : (p : Int) :: c :: gaps L 1 (p - 1) ++ gaps L (p + 1) (a - (p + 1)) = (p : Int) :: c :: gaps L 1 (a - 1) := by
      simp only [List.cons_append]
      congr 2
      rcases Nat.eq_zero_or_pos p with h0 | h0
      · subst h0
        simp [gaps]
      · have e : a - 1 = (p - 1) + (1 + (a - (p + 1))) := by omega
        rw [e, gaps_add, gaps_add, show 1 + (p - 1) = p by omega]
        have hpm : (p : Int) ∈ L := by rcases hpl with q | q; exact absurd q (by omega); exact q
        rw [show gaps L p 1 = [] by simp [gaps, hpm]]
        simp
    rw [hg, idx0, List.getElem?_cons_zero, bindS, bindS, List.set_cons_zero, show IntKind.wrap .u8 ((a : Nat) : Int) = (a : Int) from w8_id (by omega), wrapN (by omega)]
    have hgl : (gaps L 1 (a - 1)).length + (i + 1) = a := by
      have := congrArg List.length hg
      simp only [List.cons_append, List.length_cons, List.length_append] at this
      rw [gaps_full L (a - (p + 1)) (p + 1) fun x h1 h2 => no x h1 (by omega)] at this
      omega
    obtain ⟨q, q0, q1, q2, q3, q4⟩ := ih a (i + 1) n c h2 (by omega) hs.2 ha (.inr (List.mem_of_getElem? h1)) (fun y hy => by
      rcases hx y hy with z | z
      · exact .inl (by omega)
      · rcases List.mem_cons.1 z with z | z
        · exact .inl (by omega)
        · exact .inr z) hgl (by omega)
    refine ⟨q, q0, q1, fun hl => by simp at hl, fun y hy => ?_, q4⟩
    cases hl : l.getLast? with
    | none =>
      have hl0 : l = [] := List.getLast?_eq_none_iff.1 hl
      have := q2 hl
      subst hl0
      simp at hy
      omega
    | some z =>
      have := q3 z hl
      rw [List.getLast?_cons, hl] at hy
      simp at hy
      omega
end Go.AX.Z.TE

/-! (TEA) -/

set_option linter.unusedVariables false
set_option linter.unusedSimpArgs false
namespace Go.AX.Z.TE
open Go.AX

theorem w8_map {l : List Int} (h : ∀ x ∈ l, 0 ≤ x ∧ x ≤ 255) : l.map w8 = l := by
  have : l.map w8 = l.map id := List.map_congr_left fun x hx => w8_id (h x hx)
  rw [this, List.map_id]
theorem M_b (l : List Int) : ∀ x ∈ M l, 0 ≤ x ∧ x ≤ 255 := by
  intro x hx
  obtain ⟨i, _, rfl⟩ := List.mem_map.1 hx
  exact mb_b l i
theorem srt_len : ∀ (l : List Int) (q : Int), 0 ≤ q → q ≤ 255 → Srt q l → (l.length : Int) ≤ 255 - q := by
  intro l
  induction l with
  | nil => intro q h0 h1 _; simp; omega
  | cons y l ih => intro q h0 h1 hs; have := ih y (by have := hs.1.1; omega) hs.1.2 hs.2; have := hs.1.1; simp only [List.length_cons]; omega

/-- The first byte. -/
def fb (g : Bool) (k : Int) : Int := bif g then k + 128 else k
theorem fb_c (g : Bool) (k : Nat) (hk : k < 4) : (bif g then some (bor .u8 (k : Int) 128) else some (k : Int)) = some (fb g (k : Int)) := by
  have : ∀ k : Fin 4, bor .u8 (k.val : Int) 128 = (k.val : Int) + 128 := by decide +kernel
  cases g
  · rfl
  · show some _ = some _
    rw [this ⟨k, hk⟩]; rfl
theorem fb_r (g : Bool) (k : Nat) (hk : k < 4) : (bif g then some (IntKind.wrap .i64 ((IntKind.wrap .i64 (k : Int)) + 128)) else some (IntKind.wrap .i64 (k : Int))) = some (fb g (k : Int)) := by
  cases g
  · show some _ = some _
    rw [wrapI (by omega) (by omega)]; rfl
  · show some _ = some _
    rw [wrapI (i := (k : Int)) (by omega) (by omega), wrapI (by omega) (by omega)]; rfl
theorem fb_b (g : Bool) (k : Nat) (hk : k < 4) : 0 ≤ fb g (k : Int) ∧ fb g (k : Int) ≤ 255 := by
  cases g
  · show 0 ≤ (k : Int) ∧ (k : Int) ≤ 255; omega
  · show 0 ≤ (k : Int) + 128 ∧ (k : Int) + 128 ≤ 255; omega

/-- The body of an encoding, and what the reference has for it. -/
theorem part_e (t : Traffic) (hv : VT t) (hL : t.Aids.length ≤ 300) : ∃ E, bitmap_part t.Aids = some E ∧ E.length ≤ 34 ∧ (t.Aids = [] → E.length = 2) ∧ (∀ x y, t.Aids[0]? = some x → t.Aids[t.Aids.length - 1]? = some y → (E.length : Int) = 2 + (y / 8 + 1 - x / 8) ∧ 0 < x ∧ x ≤ y ∧ y ≤ 255) ∧ ∃ a b : Int, hotspotref33_EncodeAs_L7 t big (0, 31) = some a ∧ hotspotref33_EncodeAs_L10 t big (0, 0) = some b ∧
    ∀ d15 : Int, ∃ O, hotspotref33_EncodeAs_L13 b t big (([d15] ++ [a, IntKind.wrap .i64 (b - a)]), a) = some O ∧ O.length ≤ 35 ∧ O.map w8 = w8 d15 :: E := by
  obtain ⟨p1, p2⟩ := srt_pw hv
  have hr : ∀ x ∈ t.Aids, 0 ≤ x ∧ x ≤ 255 := fun x hx => by have := p2 x hx; omega
  unfold bitmap_part
  by_cases h0 : t.Aids = []
  · have hz : ∀ i, mb t.Aids i = 0 := fun i => by
      rcases Decidable.em (mb t.Aids i = 0) with h | h
      · exact h
      · obtain ⟨x, hx, _⟩ := (mb_0 _ _).1 h
        rw [h0] at hx; cases hx
    rw [show ((t.Aids.length : Int) == 0) = true by rw [h0]; rfl, cond_true]
    have f := from_loop t (by omega) 32 (by omega) (fun i _ _ => hz i) 32 big 0 (by omega) (big_lt (by omega))
    have g := to_loop t (by omega) 0 (by omega) (by omega) (fun i _ _ => hz i) 32 0 big 0 (by omega) (big_lt (by omega))
    refine ⟨_, rfl, by simp, fun _ => rfl, fun x y hx => by rw [h0] at hx; simp at hx, 0, 0, f, g, fun d15 => ?_⟩
    have r := rpart_loop t (by omega) 0 (by omega) 0 0 big ([d15] ++ [0, IntKind.wrap .i64 (0 - 0)]) (by omega) (big_lt (by omega)) (by simp)
    refine ⟨_, r, by simp, ?_⟩
    simp; decide +kernel
  · obtain ⟨x, l, hl⟩ : ∃ x l, t.Aids = x :: l := by
      cases h : t.Aids with
      | nil => exact absurd h h0
      | cons x l => exact ⟨x, l, rfl⟩
    have hlen : 0 < t.Aids.length := by rw [hl]; simp
    have hx0 : t.Aids[0]? = some x := by rw [hl]; rfl
    have hylt : t.Aids.length - 1 < t.Aids.length := by omega
    obtain ⟨y, hy⟩ : ∃ y, t.Aids[t.Aids.length - 1]? = some y := ⟨_, List.getElem?_eq_getElem hylt⟩
    have hxm := List.mem_of_getElem? hx0
    have hym := List.mem_of_getElem? hy
    have bx := p2 x hxm
    have b_y := p2 y hym
    have pw := List.pairwise_iff_getElem.1 p1
    have hmin : ∀ z ∈ t.Aids, x ≤ z ∧ z ≤ y := by
      intro z hz
      obtain ⟨i, hi⟩ := List.mem_iff_getElem?.1 hz
      obtain ⟨hil, ei⟩ := List.getElem?_eq_some_iff.1 hi
      obtain ⟨h0l, e0⟩ := List.getElem?_eq_some_iff.1 hx0
      obtain ⟨hyl, ey⟩ := List.getElem?_eq_some_iff.1 hy
      constructor
      · rcases Nat.eq_zero_or_pos i with q | q
        · subst q; rw [hx0] at hi; cases hi; exact Int.le_refl _
        · have := pw 0 i h0l hil q; rw [e0, ei] at this; omega
      · rcases Nat.lt_or_ge i (t.Aids.length - 1) with q | q
        · have := pw i _ hil hyl q; rw [ei, ey] at this; omega
        · have : i = t.Aids.length - 1 := by omega
          subst this; rw [hy] at hi; cases hi; exact Int.le_refl _
    obtain ⟨X, rfl⟩ : ∃ X : Nat, x = (X : Int) := ⟨x.toNat, by omega⟩
    obtain ⟨Y, rfl⟩ : ∃ Y : Nat, y = (Y : Int) := ⟨y.toNat, by omega⟩
    have hXY := (hmin _ hym).1
    rw [show ((t.Aids.length : Int) == 0) = false by rw [beq_eq_false_iff_ne]; omega, cond_false, bytes_e _ (by omega) hr, bindS, chk_t (by simp [M_len]), bindS, idx0, hx0, bindS,
      show IntKind.wrap .i64 ((t.Aids.length : Int) - 1) = ((t.Aids.length - 1 : Nat) : Int) by rw [wrapI (by omega) (by omega)]; omega, idxN, hy, bindS]
    have e1 : ((X : Int)).fdiv (2 ^ (min 3 64)) = ((X / 8 : Nat) : Int) := by
      rw [show ((2 : Int) ^ (min 3 64)) = 8 from rfl, Int.fdiv_eq_ediv_of_nonneg _ (by decide)]; omega
    have e2 : ((Y : Int)).fdiv (2 ^ (min 3 64)) = ((Y / 8 : Nat) : Int) := by
      rw [show ((2 : Int) ^ (min 3 64)) = 8 from rfl, Int.fdiv_eq_ediv_of_nonneg _ (by decide)]; omega
    rw [e1, e2, wrapN (by omega), chk_t (by simp; omega), bindS, chk_d (by omega), bindS]
    have e3 : (((Y / 8 + 1 : Nat) : Int) - ((X / 8 : Nat) : Int)).toNat = Y / 8 + 1 - X / 8 := by omega
    rw [e3, wrapI (i := ((Y / 8 + 1 : Nat) : Int) - ((X / 8 : Nat) : Int)) (by omega) (by omega), Int.toNat_natCast]
    have f := from_loop t (by omega) (X / 8) (fun _ => (mb_0 _ _).2 ⟨_, hxm, by omega, by omega⟩) (fun i h1 h2 => by
      rcases Decidable.em (mb t.Aids i = 0) with h | h
      · exact h
      · obtain ⟨z, hz, z0, z1⟩ := (mb_0 _ _).1 h
        have := (hmin z hz).1; omega) 32 big 0 (by omega) (big_lt (by omega))
    rw [if_pos (by omega)] at f
    have g := to_loop t (by omega) (Y / 8 + 1) (fun _ => (mb_0 _ _).2 ⟨_, hym, by omega, by omega⟩) (by omega) (fun i h1 h2 => by
      rcases Decidable.em (mb t.Aids i = 0) with h | h
      · exact h
      · obtain ⟨z, hz, z0, z1⟩ := (mb_0 _ _).1 h
        have := (hmin z hz).2; omega) 32 0 big 0 (by omega) (big_lt (by omega))
    rw [if_pos (by omega)] at g
    refine ⟨_, rfl, by simp [M_len]; omega, fun q => absurd q h0, fun x' y' hx' hy' => ?_, _, _, f, g, fun d15 => ?_⟩
    · try rw [hx0] at hx'
      try rw [hy] at hy'
      cases hx'; cases hy'
      refine ⟨?_, by omega, hXY, by omega⟩
      simp only [List.length_append, List.length_cons, List.length_nil, List.length_take, List.length_drop, M_len]
      omega
    rw [wrapI (i := ((Y / 8 + 1 : Nat) : Int) - ((X / 8 : Nat) : Int)) (by omega) (by omega)]
    have r := rpart_loop t (by omega) (Y / 8 + 1) (by omega) (Y / 8 + 1 - X / 8) (X / 8) big ([d15] ++ [((X / 8 : Nat) : Int), ((Y / 8 + 1 : Nat) : Int) - ((X / 8 : Nat) : Int)]) (by omega) (big_lt (by omega)) (by simp)
    refine ⟨_, r, by simp [M_len]; omega, ?_⟩
    have hm : ∀ z ∈ List.take (Y / 8 + 1 - X / 8) (List.drop (X / 8) (M t.Aids)), 0 ≤ z ∧ z ≤ 255 := fun z hz => M_b _ z (List.mem_of_mem_drop (List.mem_of_mem_take hz))
    rw [List.map_append, w8_map hm]
    rfl

theorem holes_e (t : Traffic) (hv : VT t) (hL : t.Aids.length ≤ 300) : ∃ E, bitmap_holes t.Aids = some E ∧ E.length ≤ 300 ∧
    ∃ m : Int, (E.length : Int) = 2 + m - t.Aids.length ∧ (bif decide (0 < (t.Aids.length : Int)) then ((idx t.Aids (IntKind.wrap .i64 ((t.Aids.length : Int) - 1))).bind fun x33 => some x33) else some 0) = some m ∧
    ∃ G, hotspotref33_EncodeAs_L17 m t big ([], 1) = some G ∧ G.length ≤ 255 ∧ ∀ d15 : Int, (([d15] ++ [m, ((G.length : Nat) : Int)]) ++ G).map w8 = w8 d15 :: E := by
  unfold bitmap_holes
  obtain ⟨p1, p2⟩ := srt_pw hv
  obtain ⟨q, q0, q1, q2, q3, q4⟩ := holes_loop t.Aids hv t.Aids 0 0 big 0 rfl (big_lt (by omega)) hv (by omega) (.inl rfl) (fun x hx => .inr hx) (by simp [gaps]) (by omega)
  simp only [Int.natCast_zero, Nat.zero_sub, gaps] at q4
  have gl := gaps_len t.Aids (q - 1) 1
  rw [q4, bindS, show idx ((q : Int) :: 0 :: gaps t.Aids 1 (q - 1)) 1 = some 0 from rfl, bindS]
  simp only [List.length_cons, List.set_cons_succ, List.set_cons_zero]
  rw [wrapI (by omega) (by omega), show (((gaps t.Aids 1 (q - 1)).length + 1 + 1 : Nat) : Int) - 2 = (((gaps t.Aids 1 (q - 1)).length : Nat) : Int) by omega]
  refine ⟨_, rfl, by simp; omega, (q : Int), by simp only [List.length_cons]; omega, ?_, gaps t.Aids 1 (q - 1), ?_, by omega, fun d15 => ?_⟩
  · by_cases h0 : t.Aids = []
    · rw [show decide (0 < (t.Aids.length : Int)) = false by rw [h0]; rfl, cond_false, q2 (by rw [h0]; rfl)]; rfl
    · have hlen : 0 < t.Aids.length := List.length_pos_iff.2 h0
      rw [decide_eq_true (by omega), cond_true, show IntKind.wrap .i64 ((t.Aids.length : Int) - 1) = ((t.Aids.length - 1 : Nat) : Int) by rw [wrapI (by omega) (by omega)]; omega, idxN]
      have : t.Aids.getLast? = t.Aids[t.Aids.length - 1]? := List.getLast?_eq_getElem?
      rw [← this]
      cases hg : t.Aids.getLast? with
      | none => rw [List.getLast?_eq_none_iff] at hg; exact absurd hg h0
      | some z => rw [bindS, q3 z hg]
  · rcases Nat.eq_zero_or_pos q with h0 | h0
    · subst h0
      rfl
    · have := rgap_loop t (by omega) q (by omega) (q - 1) 1 big [] (by omega) (big_lt (by omega)) (by simp)
      simpa using this
  · have hb : ∀ x ∈ gaps t.Aids 1 (q - 1), 0 ≤ x ∧ x ≤ 255 := fun x hx => by have := gaps_b _ _ _ x hx; omega
    rw [List.map_append, w8_map hb]
    show w8 d15 :: w8 (q : Int) :: w8 _ :: _ = _
    rw [w8_id (x := (q : Int)) (by omega)]
    rfl

/-- The encodings are the reference's. -/
theorem enc_e (t : Traffic) (hv : VT t) (hL : t.Aids.length ≤ 300) (k : Nat) (hk : k < 4) : ∃ E, bitmap_EncodeAs t (k : Int) = some (E, 0) ∧ hotspotref33_EncodeAs t (k : Int) = some (E, 0) ∧ 0 < E.length ∧ E.length ≤ 1000 := by
  obtain ⟨p1, p2⟩ := srt_pw hv
  have hr : ∀ x ∈ t.Aids, 0 ≤ x ∧ x ≤ 255 := fun x hx => by have := p2 x hx; omega
  unfold bitmap_EncodeAs hotspotref33_EncodeAs
  rw [check_e t (by omega), if_pos hv, valid_e t (by omega), decide_eq_true hv, bindS, bindS, bne_self_eq_false, cond_false, Bool.not_true, cond_false, decide_eq_false (by omega), cond_false, cond_false, fb_c _ k hk, fb_r _ k hk, bindS, bindS]
  have hfb := fb_b t.Group k hk
  have henc : bitmap_encoders = some () := rfl
  rw [henc, bindS, chk_t (by simp; omega), bindS]
  generalize fb t.Group (k : Int) = d at hfb ⊢
  have hd : w8 d = d := w8_id hfb
  have h4 : k = 0 ∨ k = 1 ∨ k = 2 ∨ k = 3 := by omega
  rcases h4 with rfl | rfl | rfl | rfl
  · simp only [Int.natCast_zero, beq_self_eq_true, cond_true]
    have r := rfull_loop t (by omega) 32 0 big [d] (by omega) (big_lt (by omega)) (by simp)
    simp only [Int.natCast_zero, List.drop_zero] at r
    rw [full_e _ (by omega) hr, bindS, chk_d (by rw [M_len]; omega), bindS, r, bindS, bindS, out_e _ (by simp [M_len]), bindS]
    refine ⟨_, rfl, ?_, by simp, by simp [M_len]⟩
    rw [List.map_append, w8_map (M_b _)]
    simp [hd]
  · simp only [show ((((1 : Nat) : Int)) == 0) = false from rfl, show ((((1 : Nat) : Int)) == 1) = true from rfl, cond_true, cond_false]
    obtain ⟨E, e1, e2, _, _, a, b, ha, hb, ho⟩ := part_e t hv hL
    obtain ⟨O, o1, o2, o3⟩ := ho d
    rw [e1, bindS, chk_d (by omega), bindS, ha, bindS, hb, bindS, o1, bindS, bindS, out_e _ (by omega), bindS]
    refine ⟨_, rfl, ?_, by simp, by simp; omega⟩
    rw [o3, hd]; rfl
  · simp only [show ((((2 : Nat) : Int)) == 0) = false from rfl, show ((((2 : Nat) : Int)) == 1) = false from rfl, show ((((2 : Nat) : Int)) == 2) = true from rfl, cond_true, cond_false]
    rw [list_e _ (by omega), bindS, chk_d (by simp; omega), bindS, chk_d (by omega), bindS, bindS, out_e _ (by simp; omega), bindS]
    refine ⟨_, rfl, ?_, by simp, by simp; omega⟩
    simp [hd]
  · simp only [show ((((3 : Nat) : Int)) == 0) = false from rfl, show ((((3 : Nat) : Int)) == 1) = false from rfl, show ((((3 : Nat) : Int)) == 2) = false from rfl, show ((((3 : Nat) : Int)) == 3) = true from rfl, cond_true, cond_false]
    obtain ⟨E, e1, e2, m, _, hm, G, g1, g2, ho⟩ := holes_e t hv hL
    rw [e1, bindS, chk_d (by omega), bindS, hm, bindS, g1, bindS, chk_d (by omega), bindS, bindS, out_e _ (by simp; omega), bindS]
    refine ⟨_, rfl, ?_, by simp, by simp; omega⟩
    rw [ho d, hd]; rfl
/-- The encodings, byte for byte at their head, and their lengths. -/
theorem enc_x (t : Traffic) (hv : VT t) (hL : t.Aids.length ≤ 300) : ∃ E0 E1 E2 E3 : List Int, bitmap_EncodeAs t 0 = some (E0, 0) ∧ bitmap_EncodeAs t 1 = some (E1, 0) ∧ bitmap_EncodeAs t 2 = some (E2, 0) ∧ bitmap_EncodeAs t 3 = some (E3, 0) ∧
    E0[0]? = some (fb t.Group 0) ∧ E1[0]? = some (fb t.Group 1) ∧ E2[0]? = some (fb t.Group 2) ∧ E3[0]? = some (fb t.Group 3) ∧ E0.length = 33 ∧ E1.length ≤ 100 ∧ E2.length = 2 + t.Aids.length ∧ E3.length ≤ 400 ∧ 0 < E1.length ∧ 0 < E3.length ∧
    (t.Aids = [] → E1.length = 3 ∧ E3.length = 3) ∧ (∀ x y, t.Aids[0]? = some x → t.Aids[t.Aids.length - 1]? = some y → (E1.length : Int) = 3 + (y / 8 + 1 - x / 8) ∧ (E3.length : Int) = 3 + y - t.Aids.length ∧ 0 < x ∧ x ≤ y ∧ y ≤ 255) := by
  obtain ⟨p1, p2⟩ := srt_pw hv
  have hr : ∀ x ∈ t.Aids, 0 ≤ x ∧ x ≤ 255 := fun x hx => by have := p2 x hx; omega
  have start : ∀ (k : Nat) (hk : k < 4), bitmap_EncodeAs t (k : Int) = (bif ((k : Int) == 0) then ((bitmap_full t.Aids).bind fun x5 => ((chk (decide (1 + x5.length ≤ 140737488355328))).bind fun x6 => some (([fb t.Group (k : Int)] ++ x5), 0))) else bif ((k : Int) == 1) then ((bitmap_part t.Aids).bind fun x5 => ((chk (decide (1 + x5.length ≤ 140737488355328))).bind fun x6 => some (([fb t.Group (k : Int)] ++ x5), 0))) else bif ((k : Int) == 2) then ((bitmap_list t.Aids).bind fun x5 => ((chk (decide (1 + x5.length ≤ 140737488355328))).bind fun x6 => some (([fb t.Group (k : Int)] ++ x5), 0))) else ((bitmap_holes t.Aids).bind fun x5 => ((chk (decide (1 + x5.length ≤ 140737488355328))).bind fun x6 => some (([fb t.Group (k : Int)] ++ x5), 0)))) := by
    intro k hk
    unfold bitmap_EncodeAs
    have henc : bitmap_encoders = some () := rfl
    rw [check_e t (by omega), if_pos hv, bindS, bne_self_eq_false, cond_false, decide_eq_false (by omega), cond_false, fb_c _ k hk, bindS, henc, bindS, chk_t (by simp; omega), bindS]
  obtain ⟨E1, e1, l1, z1, s1, _⟩ := part_e t hv hL
  obtain ⟨E3, e3, l3, m, hm, hm2, _⟩ := holes_e t hv hL
  have s := start 0 (by omega)
  rw [show ((((0 : Nat) : Int)) == 0) = true from rfl, cond_true, full_e _ (by omega) hr, bindS, chk_d (by rw [M_len]; omega), bindS] at s
  have s' := start 1 (by omega)
  rw [show ((((1 : Nat) : Int)) == 0) = false from rfl, show ((((1 : Nat) : Int)) == 1) = true from rfl, cond_false, cond_true, e1, bindS, chk_d (by omega), bindS] at s'
  have s2 := start 2 (by omega)
  rw [show ((((2 : Nat) : Int)) == 0) = false from rfl, show ((((2 : Nat) : Int)) == 1) = false from rfl, show ((((2 : Nat) : Int)) == 2) = true from rfl, cond_false, cond_false, cond_true, list_e _ (by omega), bindS, chk_d (by simp; omega), bindS] at s2
  have s3 := start 3 (by omega)
  rw [show ((((3 : Nat) : Int)) == 0) = false from rfl, show ((((3 : Nat) : Int)) == 1) = false from rfl, show ((((3 : Nat) : Int)) == 2) = false from rfl, cond_false, cond_false, cond_false, e3, bindS, chk_d (by omega), bindS] at s3
  refine ⟨_, _, _, _, s, s', s2, s3, rfl, rfl, rfl, rfl, by simp [M_len], by simp; omega, by simp; omega, by simp; omega, by simp, by simp, fun h0 => ?_, fun x y hx hy => ?_⟩
  · have := z1 h0
    rw [h0] at hm2
    have hm0 : m = 0 := by simpa using hm2.symm
    rw [h0, hm0] at hm
    simp only [List.length_append, List.length_cons, List.length_nil] at hm ⊢
    omega
  · obtain ⟨a1, a2, a3, a4⟩ := s1 x y hx hy
    have hlen : 0 < t.Aids.length := by
      have := (List.getElem?_eq_some_iff.1 hx).1; omega
    rw [decide_eq_true (by omega), cond_true, show IntKind.wrap .i64 ((t.Aids.length : Int) - 1) = ((t.Aids.length - 1 : Nat) : Int) by rw [wrapI (by omega) (by omega)]; omega, idxN, hy, bindS] at hm2
    cases hm2
    simp only [List.length_append, List.length_cons, List.length_nil]
    refine ⟨by omega, by omega, a2, a3, a4⟩
end Go.AX.Z.TE

/-! (TEB) -/

set_option linter.unusedVariables false
set_option linter.unusedSimpArgs false
namespace Go.AX.Z.TE
open Go.AX

/-- The shorter of two, the first where they are as long. -/
def pick (a b : List Int) : List Int := bif decide (((b.length : Nat) : Int) < ((a.length : Nat) : Int)) then b else a
theorem pick_l (a b : List Int) : pick a b = a ∨ pick a b = b := by
  unfold pick; cases decide (((b.length : Nat) : Int) < ((a.length : Nat) : Int))
  · exact .inl rfl
  · exact .inr rfl
theorem nx8 (k : Nat) (hk : k < 200) : IntKind.wrap .u8 ((k : Int) + 1) = ((k + 1 : Nat) : Int) := by
  show w8 _ = _
  rw [w8_id (by omega)]; omega

theorem encode_e (t : Traffic) (hv : VT t) (hL : t.Aids.length ≤ 300) : ∃ E, bitmap_Encode t = some (E, 0) ∧ hotspotref33_Encode t = some (E, 0) ∧ E.length ≤ 1000 := by
  obtain ⟨E0, a0, b0, c0, d0⟩ := enc_e t hv hL 0 (by omega)
  obtain ⟨E1, a1, b1, c1, d1⟩ := enc_e t hv hL 1 (by omega)
  obtain ⟨E2, a2, b2, c2, d2⟩ := enc_e t hv hL 2 (by omega)
  obtain ⟨E3, a3, b3, c3, d3⟩ := enc_e t hv hL 3 (by omega)
  have st : ∀ (k n : Nat) (X E : List Int), k < 4 → 0 < X.length → bitmap_EncodeAs t (k : Int) = some (E, 0) → bitmap_Encode_L2 t (n + 1) (X, false, (k : Int)) = bitmap_Encode_L2 t n (pick X E, false, ((k + 1 : Nat) : Int)) := by
    intro k n X E hk hX hE
    rw [bitmap_Encode_L2, decide_eq_true (by simp only; omega), cond_true]
    simp only
    rw [hE, bindS, bne_self_eq_false, cond_false, cond_false, chk_d (by exact hX), bindS, nx8 k (by omega)]
    unfold pick
    cases decide (((E.length : Nat) : Int) < ((X.length : Nat) : Int)) <;> rfl
  have sr : ∀ (k n : Nat) (X E : List Int), k < 4 → hotspotref33_EncodeAs t (k : Int) = some (E, 0) → hotspotref33_Encode_L2 t (n + 1) (X, (k : Int)) = hotspotref33_Encode_L2 t n (pick X E, ((k + 1 : Nat) : Int)) := by
    intro k n X E hk hE
    rw [hotspotref33_Encode_L2, decide_eq_true (by simp only; omega), cond_true]
    simp only
    rw [hE, bindS, nx8 k (by omega)]
    unfold pick
    cases decide (((E.length : Nat) : Int) < ((X.length : Nat) : Int)) <;> rfl
  have pl : ∀ a b : List Int, 0 < a.length → 0 < b.length → 0 < (pick a b).length := fun a b ha hb => by rcases pick_l a b with h | h <;> rw [h] <;> assumption
  have pL : ∀ a b : List Int, a.length ≤ 1000 → b.length ≤ 1000 → (pick a b).length ≤ 1000 := fun a b ha hb => by rcases pick_l a b with h | h <;> rw [h] <;> assumption
  refine ⟨pick (pick (pick E0 E1) E2) E3, ?_, ?_, pL _ _ (pL _ _ (pL _ _ d0 d1) d2) d3⟩
  · unfold bitmap_Encode
    rw [show big = (big - 5) + 5 from rfl]
    generalize big - 5 = n
    have s0 : bitmap_Encode_L2 t (n + 5) ([], true, 0) = bitmap_Encode_L2 t (n + 4) (E0, false, ((1 : Nat) : Int)) := by
      rw [bitmap_Encode_L2, decide_eq_true (by simp only; omega), cond_true]
      simp only
      simp only [Int.natCast_zero] at a0
      rw [a0, bindS, bne_self_eq_false, cond_false, cond_true, show IntKind.wrap .u8 ((0 : Int) + 1) = ((1 : Nat) : Int) from nx8 0 (by omega)]
    rw [s0, st 1 (n + 3) E0 E1 (by omega) c0 a1, st 2 (n + 2) _ E2 (by omega) (pl _ _ c0 c1) a2, st 3 (n + 1) _ E3 (by omega) (pl _ _ (pl _ _ c0 c1) c2) a3, bitmap_Encode_L2, decide_eq_false (by simp only; omega), cond_false, bindS, Ex.k_go', cond_false]
  · unfold hotspotref33_Encode
    simp only [Int.natCast_zero] at b0
    rw [valid_e t (by omega), decide_eq_true hv, bindS, Bool.not_true, cond_false, b0, bindS]
    rw [show big = (big - 5) + 5 from rfl]
    generalize big - 5 = n
    simp only
    rw [show (1 : Int) = ((1 : Nat) : Int) from rfl, sr 1 (n + 4) E0 E1 (by omega) b1, sr 2 (n + 3) _ E2 (by omega) b2, sr 3 (n + 2) _ E3 (by omega) b3, hotspotref33_Encode_L2, decide_eq_false (by simp only; omega), cond_false, bindS]

theorem same_e (L : List Int) (hL : L.length ≤ 1000) : hotspotref33_Same L L = some true := by
  unfold hotspotref33_Same
  have key : ∀ (l : List Int) (i n : Nat), L.drop i = l → l.length < n → hotspotref33_Same_L2 L L n (i : Int) = some (Ex.go ()) := by
    intro l
    induction l with
    | nil =>
      intro i n h hn
      obtain ⟨n, rfl⟩ : ∃ m, n = m + 1 := ⟨n - 1, by simp at hn; omega⟩
      rw [hotspotref33_Same_L2, ge_dec (drop_n h)]; rfl
    | cons x l ih =>
      intro i n h hn
      obtain ⟨n, rfl⟩ : ∃ m, n = m + 1 := ⟨n - 1, by simp at hn; omega⟩
      obtain ⟨h1, h2, h3⟩ := drop_c h
      simp only [List.length_cons] at hn
      rw [hotspotref33_Same_L2, lt_dec h3]
      simp only [cond_true, idxN, h1, bindS, bne_self_eq_false, cond_false]
      rw [wrapN (by omega)]
      exact ih (i + 1) n h2 (by omega)
  have := key L 0 big rfl (big_lt (by omega))
  simp only [Int.natCast_zero] at this
  rw [this, bne_self_eq_false]; rfl

theorem encodes_p (t : Traffic) (k : Int) (h0 : 0 ≤ k) : hotspotlaw33_BitmapEncodes t k = some true := by
  unfold hotspotlaw33_BitmapEncodes
  by_cases hl : t.Aids.length ≤ 300
  · rw [decide_eq_false (by omega), cond_false]
    have main : ∃ A e, bitmap_EncodeAs t k = some (A, e) ∧ hotspotref33_EncodeAs t k = some (A, e) ∧ A.length ≤ 1000 := by
      by_cases hv : VT t
      · by_cases hk : k < 4
        · obtain ⟨K, rfl⟩ : ∃ K : Nat, k = (K : Int) := ⟨k.toNat, by omega⟩
          obtain ⟨E, e1, e2, e3, e4⟩ := enc_e t hv hl K (by omega)
          exact ⟨E, 0, e1, e2, e4⟩
        · refine ⟨[], 2, ?_, ?_, by simp⟩
          · unfold bitmap_EncodeAs
            rw [check_e t (by omega), if_pos hv, bindS, bne_self_eq_false, cond_false, decide_eq_true (by omega)]; rfl
          · unfold hotspotref33_EncodeAs
            rw [valid_e t (by omega), decide_eq_true hv, bindS, Bool.not_true, cond_false, decide_eq_true (by omega)]; rfl
      · refine ⟨[], 8, ?_, ?_, by simp⟩
        · unfold bitmap_EncodeAs
          rw [check_e t (by omega), if_neg hv]; rfl
        · unfold hotspotref33_EncodeAs
          rw [valid_e t (by omega), decide_eq_false hv]; rfl
    have mainE : ∃ A e, bitmap_Encode t = some (A, e) ∧ hotspotref33_Encode t = some (A, e) ∧ A.length ≤ 1000 := by
      by_cases hv : VT t
      · obtain ⟨E, e1, e2, e3⟩ := encode_e t hv hl
        exact ⟨E, 0, e1, e2, e3⟩
      · refine ⟨[], 8, ?_, ?_, by simp⟩
        · unfold bitmap_Encode
          rw [show big = (big - 1) + 1 from rfl, bitmap_Encode_L2]
          unfold bitmap_EncodeAs
          rw [check_e t (by omega), if_neg hv]; rfl
        · unfold hotspotref33_Encode
          rw [valid_e t (by omega), decide_eq_false hv]; rfl
    obtain ⟨A, e, a1, a2, a3⟩ := main
    obtain ⟨B, f, b1, b2, b3⟩ := mainE
    unfold bitmap_Size
    rw [a1, bindS, a2, bindS, b1, bindS, b2, bindS, bindS, bindS]
    simp only
    rw [same_e A a3, bindS, beq_self_eq_true, Bool.and_self, cond_true, same_e B b3, bindS, bindS]
    simp
  · rw [decide_eq_true (by omega)]; rfl
end Go.AX.Z.TE

/-! (TEL) -/

set_option linter.unusedVariables false
set_option linter.unusedSimpArgs false
namespace Go.AX.Z.TE
open Go.AX

theorem alive_e : hotspotlaw33_alive = some true := rfl

theorem lengths_p (t : Traffic) : hotspotlaw33_BitmapLengths t = some true := by
  unfold hotspotlaw33_BitmapLengths
  rw [alive_e, bindS]
  by_cases hl : t.Aids.length ≤ 300
  · rw [decide_eq_false (by omega), cond_false, check_e t (by omega), bindS, bindS]
    by_cases hv : VT t
    · rw [if_pos hv]
      simp only [bne_self_eq_false, Bool.not_true, Bool.or_self, cond_false]
      obtain ⟨E0, E1, E2, E3, a0, a1, a2, a3, b0, b1, b2, b3, l0, l1, l2, l3, g1, g3, hn, hs⟩ := enc_x t hv hl
      unfold bitmap_Size
      rw [a0, a1, a2, a3]
      simp only [bindS, beq_self_eq_true, Bool.true_and, l0, l2]
      by_cases h0 : t.Aids = []
      · obtain ⟨n1, n3⟩ := hn h0
        rw [h0, n1, n3]
        rfl
      · have hlen : 0 < t.Aids.length := List.length_pos_iff.2 h0
        have ex : t.Aids[0]? = some t.Aids[0] := by simp [hlen]
        have ey : t.Aids[t.Aids.length - 1]? = some t.Aids[t.Aids.length - 1] := by simp [show t.Aids.length - 1 < t.Aids.length by omega]
        obtain ⟨m1, m3, q1, q2, q3⟩ := hs _ _ ex ey
        rw [decide_eq_true (by omega), cond_true, idx0, ex, bindS, show IntKind.wrap .i64 ((t.Aids.length : Int) - 1) = ((t.Aids.length - 1 : Nat) : Int) by rw [wrapI (by omega) (by omega)]; omega, idxN, ey, bindS, bindS]
        simp only [cond_true]
        generalize t.Aids[0] = x at *
        generalize t.Aids[t.Aids.length - 1] = y at *
        rw [Int.tdiv_eq_ediv_of_nonneg (by omega), Int.tdiv_eq_ediv_of_nonneg (by omega)]
        simp only [wrapI (i := y / 8) (by omega) (by omega), wrapI (i := x / 8) (by omega) (by omega), wrapI (i := 3 + y / 8) (by omega) (by omega), wrapI (i := 3 + y / 8 - x / 8) (by omega) (by omega), wrapI (i := 3 + y / 8 - x / 8 + 1) (by omega) (by omega), wrapI (i := 2 + (t.Aids.length : Int)) (by omega) (by omega), wrapI (i := 3 + y) (by omega) (by omega), wrapI (i := 3 + y - (t.Aids.length : Int)) (by omega) (by omega)]
        rw [bindS]
        simp only [Option.some.injEq, Bool.and_eq_true, beq_iff_eq]
        omega
    · rw [if_neg hv]; rfl
  · rw [decide_eq_true (by omega)]; rfl

/-- The one that is picked. -/
theorem pick3 (E : Nat → List Int) : ∃ j, j < 4 ∧ pick (pick (pick (E 0) (E 1)) (E 2)) (E 3) = E j ∧ ∀ k : Nat, k < 4 → (E j).length ≤ (E k).length ∧ (k < j → (E j).length < (E k).length) := by
  have st : ∀ a b : List Int, (pick a b = a ∧ a.length ≤ b.length) ∨ (pick a b = b ∧ b.length < a.length) := by
    intro a b
    unfold pick
    by_cases h : b.length < a.length
    · rw [decide_eq_true (by omega)]; exact .inr ⟨rfl, h⟩
    · rw [decide_eq_false (by omega)]; exact .inl ⟨rfl, by omega⟩
  have c4 : ∀ {P : Nat → Prop}, P 0 → P 1 → P 2 → P 3 → ∀ k, k < 4 → P k := by
    intro P h0 h1 h2 h3 k hk
    match k, hk with
    | 0, _ => exact h0
    | 1, _ => exact h1
    | 2, _ => exact h2
    | 3, _ => exact h3
  rcases st (E 0) (E 1) with ⟨e1, q1⟩ | ⟨e1, q1⟩
  · rw [e1]
    rcases st (E 0) (E 2) with ⟨e2, q2⟩ | ⟨e2, q2⟩
    · rw [e2]
      rcases st (E 0) (E 3) with ⟨e3, q3⟩ | ⟨e3, q3⟩
      · rw [e3]; exact ⟨0, by omega, rfl, c4 ⟨by omega, fun _ => by omega⟩ ⟨by omega, fun _ => by omega⟩ ⟨by omega, fun _ => by omega⟩ ⟨by omega, fun _ => by omega⟩⟩
      · rw [e3]; exact ⟨3, by omega, rfl, c4 ⟨by omega, fun _ => by omega⟩ ⟨by omega, fun _ => by omega⟩ ⟨by omega, fun _ => by omega⟩ ⟨by omega, fun _ => by omega⟩⟩
    · rw [e2]
      rcases st (E 2) (E 3) with ⟨e3, q3⟩ | ⟨e3, q3⟩
      · rw [e3]; exact ⟨2, by omega, rfl, c4 ⟨by omega, fun _ => by omega⟩ ⟨by omega, fun _ => by omega⟩ ⟨by omega, fun _ => by omega⟩ ⟨by omega, fun _ => by omega⟩⟩
      · rw [e3]; exact ⟨3, by omega, rfl, c4 ⟨by omega, fun _ => by omega⟩ ⟨by omega, fun _ => by omega⟩ ⟨by omega, fun _ => by omega⟩ ⟨by omega, fun _ => by omega⟩⟩
  · rw [e1]
    rcases st (E 1) (E 2) with ⟨e2, q2⟩ | ⟨e2, q2⟩
    · rw [e2]
      rcases st (E 1) (E 3) with ⟨e3, q3⟩ | ⟨e3, q3⟩
      · rw [e3]; exact ⟨1, by omega, rfl, c4 ⟨by omega, fun _ => by omega⟩ ⟨by omega, fun _ => by omega⟩ ⟨by omega, fun _ => by omega⟩ ⟨by omega, fun _ => by omega⟩⟩
      · rw [e3]; exact ⟨3, by omega, rfl, c4 ⟨by omega, fun _ => by omega⟩ ⟨by omega, fun _ => by omega⟩ ⟨by omega, fun _ => by omega⟩ ⟨by omega, fun _ => by omega⟩⟩
    · rw [e2]
      rcases st (E 2) (E 3) with ⟨e3, q3⟩ | ⟨e3, q3⟩
      · rw [e3]; exact ⟨2, by omega, rfl, c4 ⟨by omega, fun _ => by omega⟩ ⟨by omega, fun _ => by omega⟩ ⟨by omega, fun _ => by omega⟩ ⟨by omega, fun _ => by omega⟩⟩
      · rw [e3]; exact ⟨3, by omega, rfl, c4 ⟨by omega, fun _ => by omega⟩ ⟨by omega, fun _ => by omega⟩ ⟨by omega, fun _ => by omega⟩ ⟨by omega, fun _ => by omega⟩⟩

/-- All four, by number. -/
theorem enc_f (t : Traffic) (hv : VT t) (hL : t.Aids.length ≤ 300) : ∃ E : Nat → List Int, (∀ k : Nat, k < 4 → bitmap_EncodeAs t (k : Int) = some (E k, 0) ∧ (E k)[0]? = some (fb t.Group (k : Int)) ∧ (E k).length ≤ 1000 ∧ 0 < (E k).length) ∧ (E 0).length = 33 := by
  obtain ⟨E0, E1, E2, E3, a0, a1, a2, a3, b0, b1, b2, b3, l0, l1, l2, l3, g1, g3, hn, hs⟩ := enc_x t hv hL
  refine ⟨fun k => match k with | 0 => E0 | 1 => E1 | 2 => E2 | _ => E3, fun k hk => ?_, l0⟩
  match k, hk with
  | 0, _ => exact ⟨a0, b0, by show E0.length ≤ 1000; omega, by show 0 < E0.length; omega⟩
  | 1, _ => exact ⟨a1, b1, by show E1.length ≤ 1000; omega, g1⟩
  | 2, _ => exact ⟨a2, b2, by show E2.length ≤ 1000; omega, by show 0 < E2.length; omega⟩
  | 3, _ => exact ⟨a3, b3, by show E3.length ≤ 1000; omega, g3⟩

theorem shortest_loop (t : Traffic) (E : Nat → List Int) (hE : ∀ k : Nat, k < 4 → bitmap_EncodeAs t (k : Int) = some (E k, 0) ∧ (E k)[0]? = some (fb t.Group (k : Int)) ∧ (E k).length ≤ 1000 ∧ 0 < (E k).length) {j : Nat} (hj : j < 4)
    (hm : ∀ k : Nat, k < 4 → (E j).length ≤ (E k).length ∧ (k < j → (E j).length < (E k).length)) (x : Int) (hx : x.tmod 128 = (j : Int)) : ∀ (d k n : Nat), k + d = 4 → d < n → hotspotlaw33_BitmapShortest_L2 t (E j, 0) x n (k : Int) = some (Ex.go ()) := by
  intro d
  induction d with
  | zero =>
    intro k n h hn
    obtain ⟨n, rfl⟩ : ∃ q, n = q + 1 := ⟨n - 1, by omega⟩
    rw [hotspotlaw33_BitmapShortest_L2, decide_eq_false (by omega)]; rfl
  | succ d ih =>
    intro k n h hn
    obtain ⟨n, rfl⟩ : ∃ q, n = q + 1 := ⟨n - 1, by omega⟩
    obtain ⟨e1, e2, e3, e4⟩ := hE k (by omega)
    obtain ⟨m1, m2⟩ := hm k (by omega)
    rw [hotspotlaw33_BitmapShortest_L2, decide_eq_true (by omega), cond_true]
    unfold bitmap_Size
    rw [e1]
    simp only [bindS, bne_self_eq_false, Bool.false_or, hx]
    rw [decide_eq_false (by omega : ¬ ((E k).length : Int) < ((E j).length : Int)), Bool.false_or]
    have c2 : ((((E k).length : Int) == ((E j).length : Int)) && decide ((k : Int) < (j : Int))) = false := by
      rw [Bool.and_eq_false_iff, beq_eq_false_iff_ne, decide_eq_false_iff_not]
      by_cases hkj : k < j
      · have := m2 hkj; exact .inl (by omega)
      · exact .inr (by omega)
    rw [c2, cond_false]
    have fin : (((bif ((k : Int) == (j : Int)) then ((hotspotref33_Same (E j) (E k)).bind fun x30 => some (!x30)) else some false).bind fun x31 => some x31)) = some false := by
      by_cases hkj : k = j
      · subst hkj
        rw [beq_self_eq_true, cond_true, same_e _ e3]; rfl
      · rw [show ((k : Int) == (j : Int)) = false by rw [beq_eq_false_iff_ne]; omega]; rfl
    rw [fin, bindS, cond_false, nx8 k (by omega)]
    exact ih (k + 1) n (by omega) (by omega)

theorem encode_x (t : Traffic) (hv : VT t) (hL : t.Aids.length ≤ 300) (E : Nat → List Int) (hE : ∀ k : Nat, k < 4 → bitmap_EncodeAs t (k : Int) = some (E k, 0) ∧ (E k)[0]? = some (fb t.Group (k : Int)) ∧ (E k).length ≤ 1000 ∧ 0 < (E k).length) :
    bitmap_Encode t = some (pick (pick (pick (E 0) (E 1)) (E 2)) (E 3), 0) := by
  obtain ⟨a0, _, _, c0⟩ := hE 0 (by omega)
  obtain ⟨a1, _, _, c1⟩ := hE 1 (by omega)
  obtain ⟨a2, _, _, c2⟩ := hE 2 (by omega)
  obtain ⟨a3, _, _, c3⟩ := hE 3 (by omega)
  have st : ∀ (k n : Nat) (X E : List Int), k < 4 → 0 < X.length → bitmap_EncodeAs t (k : Int) = some (E, 0) → bitmap_Encode_L2 t (n + 1) (X, false, (k : Int)) = bitmap_Encode_L2 t n (pick X E, false, ((k + 1 : Nat) : Int)) := by
    intro k n X E hk hX hE
    rw [bitmap_Encode_L2, decide_eq_true (by simp only; omega), cond_true]
    simp only
    rw [hE, bindS, bne_self_eq_false, cond_false, cond_false, chk_d (by exact hX), bindS, nx8 k (by omega)]
    unfold pick
    cases decide (((E.length : Nat) : Int) < ((X.length : Nat) : Int)) <;> rfl
  have pl : ∀ a b : List Int, 0 < a.length → 0 < b.length → 0 < (pick a b).length := fun a b ha hb => by rcases pick_l a b with h | h <;> rw [h] <;> assumption
  unfold bitmap_Encode
  rw [show big = (big - 5) + 5 from rfl]
  generalize big - 5 = n
  have s0 : bitmap_Encode_L2 t (n + 5) ([], true, 0) = bitmap_Encode_L2 t (n + 4) (E 0, false, ((1 : Nat) : Int)) := by
    rw [bitmap_Encode_L2, decide_eq_true (by simp only; omega), cond_true]
    simp only
    simp only [Int.natCast_zero] at a0
    rw [a0, bindS, bne_self_eq_false, cond_false, cond_true, show IntKind.wrap .u8 ((0 : Int) + 1) = ((1 : Nat) : Int) from nx8 0 (by omega)]
  rw [s0, st 1 (n + 3) (E 0) (E 1) (by omega) c0 a1, st 2 (n + 2) _ (E 2) (by omega) (pl _ _ c0 c1) a2, st 3 (n + 1) _ (E 3) (by omega) (pl _ _ (pl _ _ c0 c1) c2) a3, bitmap_Encode_L2, decide_eq_false (by simp only; omega), cond_false, bindS, Ex.k_go', cond_false]

theorem shortest_p (t : Traffic) : hotspotlaw33_BitmapShortest t = some true := by
  unfold hotspotlaw33_BitmapShortest
  rw [alive_e, bindS]
  by_cases hl : t.Aids.length ≤ 300
  · rw [decide_eq_false (by omega)]
    simp only [Bool.not_true, Bool.or_self, cond_false]
    by_cases hv : VT t
    · obtain ⟨E, hE, l0⟩ := enc_f t hv hl
      obtain ⟨j, hj, hp, hm⟩ := pick3 E
      obtain ⟨_, e2, e3, e4⟩ := hE j hj
      have l33 := (hm 0 (by omega)).1
      rw [encode_x t hv hl E hE, hp, bindS]
      simp only [bne_self_eq_false, cond_false]
      rw [decide_eq_false (by omega : ¬ ((E j).length : Int) < 1), decide_eq_false (by omega : ¬ (33 : Int) < ((E j).length : Int))]
      simp only [Bool.or_self, cond_false]
      have hx : (fb t.Group (j : Int)).tmod 128 = (j : Int) := by
        have : fb t.Group (j : Int) = (j : Int) ∨ fb t.Group (j : Int) = (j : Int) + 128 := by
          cases t.Group
          · exact .inl rfl
          · exact .inr rfl
        rw [Int.tmod_eq_emod_of_nonneg (by omega)]
        omega
      rw [idx0, e2, bindS]
      have := shortest_loop t E hE hj hm _ hx 4 0 big (by omega) (big_lt (by omega))
      simp only [Int.natCast_zero] at this
      rw [this, bindS, Ex.k_go', hx, decide_eq_true (by omega)]
      rfl
    · have : bitmap_Encode t = some ([], 8) := by
        unfold bitmap_Encode
        rw [show big = (big - 1) + 1 from rfl, bitmap_Encode_L2]
        unfold bitmap_EncodeAs
        rw [check_e t (by omega), if_neg hv]; rfl
      rw [this, bindS, check_e t (by omega), if_neg hv]
      rfl
  · rw [decide_eq_true (by omega)]; rfl
end Go.AX.Z.TE

/-! (TEY) -/

set_option linter.unusedVariables false
namespace Go.AX.Z.TE
open Go.AX Go.Proofs

/-! ## Arguments, read -/

theorem ud4 : K.P.underlying 4 = some (.bool) := by kernel_rfl

theorem ud3 : K.P.underlying 3 = some (.int .i64) := by kernel_rfl

theorem ud22 : K.P.underlying 22 = some (.slice 3) := by kernel_rfl

theorem rsl22 {B n : Nat} {x : AV} (h : Ty K.P B n 22 [x]) : ∃ l : (List Int), x = S_vi l ∧ l.length ≤ B ∧ ∀ z ∈ l, (Lit.int .i64 z).wf = true := by
  obtain ⟨vs, rfl, h1, h2⟩ := ty_slice_ints ud22 ud3 h
  exact ⟨vs, rfl, h1, h2⟩

def W_Traffic (B : Nat) (x : Traffic) : Prop := (x.Aids.length ≤ B ∧ ∀ z ∈ x.Aids, (Lit.int .i64 z).wf = true)

theorem rd24 {B n : Nat} {l : List AV} (h : Ty K.P B n 24 l) : ∃ x : Traffic, l = E_Traffic x ∧ W_Traffic B x := by
  obtain ⟨m, h⟩ := ty_struct Try.underlying24 h
  have h' : TyAll (Ty K.P B m) [4, 22] l := h
  obtain ⟨_, _, rfl, h0, _, _, rfl, h1, rfl⟩ := h'
  obtain ⟨v0, rfl⟩ := ty_bool ud4 h0
  obtain ⟨s1, rfl⟩ : ∃ x, _ = [x] := ty_single h1 (by rw [ud22]; intro _ hh; cases hh) (by rw [ud22]; intro _ _ hh; cases hh)
  obtain ⟨v1, rfl, w1⟩ := rsl22 h1
  exact ⟨⟨v0, v1⟩, rfl, w1⟩

end Go.AX.Z.TE

/-! (TEU) -/

/- How bulks bound what a reading holds. -/
namespace Go.Proofs.Ytkheccnpikfalaa.bulks
open Go.AX

theorem one_le {H : Type} (d : DataW H) : 1 ≤ Rows.uptoBulk d := by
  cases d with
  | lit l => cases l <;> simp [Rows.uptoBulk]
  | nil => simp [Rows.uptoBulk]
  | ptr d => simp [Rows.uptoBulk]
  | slice elems spare => simp [Rows.uptoBulk]
  | agg parts => simp [Rows.uptoBulk]
  | iface t d => simp [Rows.uptoBulk]
  | map entries => simp [Rows.uptoBulk]
  | held h => simp [Rows.uptoBulk]

theorem part_le {H : Type} {d : DataW H} {l : List (DataW H)} (h : d ∈ l) : Rows.uptoBulk d ≤ Rows.uptoBulkAll l := by
  induction l with
  | nil => cases h
  | cons x r ih =>
    simp only [Rows.uptoBulkAll]
    cases List.mem_cons.1 h with
    | inl e => subst e; omega
    | inr e => have := ih e; omega

theorem length_le {H : Type} (l : List (DataW H)) : l.length ≤ Rows.uptoBulkAll l := by
  induction l with
  | nil => simp [Rows.uptoBulkAll]
  | cons x r ih => have := one_le x; simp only [Rows.uptoBulkAll, List.length_cons]; omega

theorem bulk {H : Type} : Bulk (H := H) Rows.uptoBulk where
  ptr d := by simp [Rows.uptoBulk]
  elems es sp d h := by have := part_le h; simp only [Rows.uptoBulk]; omega
  len es sp := by have := length_le es; simp only [Rows.uptoBulk]; omega
  agg ds d h := by have := part_le h; simp only [Rows.uptoBulk]; omega
  str bs := by simp [Rows.uptoBulk]

theorem bound {H : Type} {l : List (DataW H)} (hk : Rows.uptoSmall H l = true) : Rows.uptoBulkAll l ≤ 1048576 := by
  have := of_decide_eq_true hk
  exact this

end Go.Proofs.Ytkheccnpikfalaa.bulks

/-! (TETBitmapShortest) -/

/- BitmapShortest: the law returns true whatever its arguments. -/
namespace Go.Proofs.Ytkheccnpikfalaa.bitmapShortest
open Go.ChangeShapes Go.WideShapes Go.ChangeAt Go.RowKit Go.AX Go.AX.Z Go.AX.Z.TE

theorem own : ownKnob Try.prog.godebug = none := by kernel_rfl
theorem laid : laidOutB K.P = true := by kernel_rfl
theorem par : parB K.P Try.f4.params.toList = true := by kernel_rfl

theorem law (B : Nat) (xs : List AV) (h : TyArgs K.P B Try.f4.params.toList xs) : SndP K 4 xs (.v (.bool true)) := by
  have h' : TyArgs K.P B [24] xs := h
  obtain ⟨_, _, rfl, h0, rfl⟩ := h'
  obtain ⟨_, _, rfl, qp0⟩ := tyV_ty Try.underlying24 h0
  obtain ⟨p0, rfl, wp0⟩ := rd24 qp0
  exact hotspotlaw33_BitmapShortest_p p0 (shortest_p p0)

set_option maxRecDepth 100000 in
theorem lifted (os : Os) (started : os.Started) (H : Type) (enc : TypeId × Value → H) :
    ReturnsInHanded {} Try.checked os 4 .any (Rows.bitmapShortestSpec.pre6 enc Try.prog Try.f4 Rows.bitmapShortestRow.domain false) (Rows.bitmapShortestSpec.post enc Try.prog Try.f4 false true false false) := by
  refine returnsInHanded_of_change (C := Try.checked) own started (by kernel_rfl) Try.func4
    (ChangeSpec.witness6 (enc := enc) (C := Try.checked) false ⟨#[], #[.agg #[.bool false, .slice none 0 0]], []⟩ 8 (by kernel_rfl) (by kernel_rfl) (by kernel_rfl) (by kernel_rfl)) ?_
  intro W base args ds gs before hval hW hcnd _
  exact law_contract (C := K) (f := 4) ⟨Try.f4, Try.func4, rfl, by decide +kernel⟩ (fn := Try.f4) (tb := 4) (B := Rows.uptoBulkAll ds) (bk := Rows.uptoBulk) rfl laid par rfl Try.underlying4 (law _) rfl
    (fun ds hds => by match ds, hds with | [d1], _ => rfl) bulks.bulk hval hW (fun d hd => bulks.part_le hd)

theorem over : Rows.BitmapShortestSaid :=
  OpenClaim.holds_of_wide 4 Try.f4 rfl rfl rfl rfl rfl rfl rfl ⟨rfl, rfl, rfl, rfl, rfl⟩ rfl rfl rfl rfl rfl (by kernel_rfl) Try.func4 (by kernel_rfl)
    (of_decide_eq_true (by kernel_rfl)) (by unfold Func.isWrapper; first | (rw [if_pos (by decide +kernel)]; kernel_rfl) | (rw [if_neg (by decide +kernel)]; exact ⟨rfl, rfl⟩))
    (fun os started H enc _ => lifted os started H enc)

end Go.Proofs.Ytkheccnpikfalaa.bitmapShortest
