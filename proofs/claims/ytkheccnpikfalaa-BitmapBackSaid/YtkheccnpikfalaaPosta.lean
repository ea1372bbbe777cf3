/- BitmapBack: the law returns true whatever its arguments. -/
import Derived.Test.YtkheccnpikfalaaWalka
import Derived.Test.YtkheccnpikfalaaRows
import Derived.WalkKit
import Derived.ProofKit
import Derived.OpenShut
import Derived.JoinedCond
set_option linter.unusedVariables false
set_option linter.unusedSimpArgs false

/-! (TDP) -/

set_option linter.unusedVariables false
set_option linter.unusedSimpArgs false
namespace Go.AX.Z.TD
open Go.AX

/-! ## Rows of identifiers -/

/-- Rising numbers behind one, at most 255. -/
def Srt : Int → List Int → Prop
  | _, [] => True
  | p, x :: l => (p < x ∧ x ≤ 255) ∧ Srt x l
instance decSrt : ∀ (p : Int) (l : List Int), Decidable (Srt p l)
  | _, [] => .isTrue trivial
  | p, x :: l => @instDecidableAnd (p < x ∧ x ≤ 255) (Srt x l) inferInstance (decSrt x l)
def VT (t : Traffic) : Prop := Srt 0 t.Aids
instance (t : Traffic) : Decidable (VT t) := decSrt 0 t.Aids

theorem srt_pw : ∀ {l : List Int} {p : Int}, Srt p l → (l.Pairwise fun x y => x < y) ∧ ∀ x ∈ l, p < x ∧ x ≤ 255
  | [], _, _ => ⟨.nil, by simp⟩
  | x :: l, p, h => by
    obtain ⟨h1, h2⟩ := srt_pw h.2
    refine ⟨List.pairwise_cons.2 ⟨fun y hy => (h2 y hy).1, h1⟩, fun y hy => ?_⟩
    rcases List.mem_cons.1 hy with rfl | hy
    · exact h.1
    · have := h2 y hy; have := h.1; omega

theorem check_loop (t : Traffic) (hL : t.Aids.length < 4611686018427387904) : ∀ (l : List Int) (p : Int) (i n : Nat), t.Aids.drop i = l → l.length < n →
    ∃ o, bitmap_Check_L2 t n (p, (i : Int)) = some o ∧ (o = Ex.ret 8 ∨ o = Ex.go ()) ∧ (o = Ex.go () ↔ Srt p l) := by
  intro l
  induction l with
  | nil =>
    intro p i n h hn
    obtain ⟨n, rfl⟩ : ∃ m, n = m + 1 := ⟨n - 1, by simp at hn; omega⟩
    rw [bitmap_Check_L2, ge_dec (drop_n h)]
    exact ⟨_, rfl, .inr rfl, by simp [Srt]⟩
  | cons x l ih =>
    intro p i n h hn
    obtain ⟨n, rfl⟩ : ∃ m, n = m + 1 := ⟨n - 1, by simp at hn; omega⟩
    obtain ⟨h1, h2, h3⟩ := drop_c h
    simp only [List.length_cons] at hn
    rw [bitmap_Check_L2, lt_dec h3]
    simp only [cond_true, idxN, h1, bindS]
    by_cases hb : x ≤ p ∨ 255 < x
    · rw [show (decide (x ≤ p) || decide (255 < x)) = true by simpa using hb, cond_true]
      refine ⟨_, rfl, .inl rfl, ?_⟩
      constructor
      · intro q; cases q
      · intro q; have := q.1; omega
    · rw [show (decide (x ≤ p) || decide (255 < x)) = false by simp only [Bool.or_eq_false_iff, decide_eq_false_iff_not]; omega, cond_false, wrapN (by omega)]
      obtain ⟨o, e1, e2, e3⟩ := ih x (i + 1) n h2 (by omega)
      refine ⟨o, e1, e2, e3.trans ?_⟩
      constructor
      · intro q; exact ⟨by omega, q⟩
      · intro q; exact q.2

theorem valid_loop (t : Traffic) (hL : t.Aids.length < 4611686018427387904) : ∀ (l : List Int) (p : Int) (i n : Nat), t.Aids.drop i = l → l.length < n → 0 ≤ p → (i = 0 → p = 0) → (0 < i → t.Aids[i - 1]? = some p) →
    ∃ o, hotspotref33_Valid_L2 t n (i : Int) = some o ∧ (o = Ex.ret false ∨ o = Ex.go ()) ∧ (o = Ex.go () ↔ Srt p l) := by
  intro l
  induction l with
  | nil =>
    intro p i n h hn _ _ _
    obtain ⟨n, rfl⟩ : ∃ m, n = m + 1 := ⟨n - 1, by simp at hn; omega⟩
    rw [hotspotref33_Valid_L2, ge_dec (drop_n h)]
    exact ⟨_, rfl, .inr rfl, by simp [Srt]⟩
  | cons x l ih =>
    intro p i n h hn hp hp0 hp1
    obtain ⟨n, rfl⟩ : ∃ m, n = m + 1 := ⟨n - 1, by simp at hn; omega⟩
    obtain ⟨h1, h2, h3⟩ := drop_c h
    simp only [List.length_cons] at hn
    rw [hotspotref33_Valid_L2, lt_dec h3]
    simp only [cond_true, idxN, h1, bindS]
    have key : (bif decide (x < 1) || decide (255 < x) then some true else ((bif decide ((0 : Int) < (i : Int)) then ((idx t.Aids (IntKind.wrap .i64 ((i : Int) - 1))).bind fun x11 => some (decide (x ≤ x11))) else some false).bind fun x12 => some x12)) = some (decide (x ≤ p ∨ 255 < x)) := by
      by_cases hb : x < 1 ∨ 255 < x
      · rw [show (decide (x < 1) || decide (255 < x)) = true by simpa using hb, cond_true, decide_eq_true (by omega)]
      · rw [show (decide (x < 1) || decide (255 < x)) = false by simp only [Bool.or_eq_false_iff, decide_eq_false_iff_not]; omega, cond_false]
        by_cases hi : 0 < i
        · rw [decide_eq_true (by omega : (0 : Int) < (i : Int)), cond_true, wrapI (by omega) (by omega), show (i : Int) - 1 = ((i - 1 : Nat) : Int) by omega, idxN, hp1 hi, bindS, bindS]
          congr 1; exact decide_eq_decide.2 (by omega)
        · rw [decide_eq_false (by omega : ¬ (0 : Int) < (i : Int)), cond_false, bindS, decide_eq_false (by have := hp0 (by omega); omega)]
    rw [key, bindS]
    by_cases hb : x ≤ p ∨ 255 < x
    · rw [decide_eq_true hb, cond_true]
      refine ⟨_, rfl, .inl rfl, ?_⟩
      constructor
      · intro q; cases q
      · intro q; have := q.1; omega
    · rw [decide_eq_false hb, cond_false, wrapN (by omega)]
      obtain ⟨o, e1, e2, e3⟩ := ih x (i + 1) n h2 (by omega) (by omega) (by omega) (fun _ => h1)
      refine ⟨o, e1, e2, e3.trans ?_⟩
      constructor
      · intro q; exact ⟨by omega, q⟩
      · intro q; exact q.2

theorem check_e (t : Traffic) (hL : t.Aids.length ≤ 1000) : bitmap_Check t = some (if VT t then 0 else 8) := by
  unfold bitmap_Check
  obtain ⟨o, e1, e2, e3⟩ := check_loop t (by omega) t.Aids 0 0 big rfl (big_lt (by omega))
  simp only [Int.natCast_zero] at e1
  rw [e1, bindS]
  rcases e2 with rfl | rfl
  · rw [if_neg (show ¬ VT t from fun q => by cases e3.2 q)]; rfl
  · rw [if_pos (show VT t from e3.1 rfl)]; rfl
theorem valid_e (t : Traffic) (hL : t.Aids.length ≤ 1000) : hotspotref33_Valid t = some (decide (VT t)) := by
  unfold hotspotref33_Valid
  obtain ⟨o, e1, e2, e3⟩ := valid_loop t (by omega) t.Aids 0 0 big rfl (big_lt (by omega)) (Int.le_refl _) (fun _ => rfl) (fun h => by omega)
  simp only [Int.natCast_zero] at e1
  rw [e1, bindS]
  rcases e2 with rfl | rfl
  · rw [decide_eq_false (show ¬ VT t from fun q => by cases e3.2 q)]; rfl
  · rw [decide_eq_true (show VT t from e3.1 rfl)]; rfl

theorem in_loop (L : List Int) (hL : L.length ≤ 2000) (a : Int) : ∀ (l : List Int) (i n : Nat), L.drop i = l → l.length < n → hotspotref33_In_L2 L a n (i : Int) = some (if a ∈ l then Ex.ret true else Ex.go ()) := by
  intro l
  induction l with
  | nil =>
    intro i n h hn
    obtain ⟨n, rfl⟩ : ∃ m, n = m + 1 := ⟨n - 1, by simp at hn; omega⟩
    rw [hotspotref33_In_L2, ge_dec (drop_n h)]; simp
  | cons x l ih =>
    intro i n h hn
    obtain ⟨n, rfl⟩ : ∃ m, n = m + 1 := ⟨n - 1, by simp at hn; omega⟩
    obtain ⟨h1, h2, h3⟩ := drop_c h
    simp only [List.length_cons] at hn
    rw [hotspotref33_In_L2, lt_dec h3]
    simp only [cond_true, idxN, h1, bindS]
    by_cases hx : x = a
    · rw [show (x == a) = true by simpa using hx, cond_true, if_pos (by simp [hx])]
    · rw [show (x == a) = false by simpa using hx, cond_false, wrapN (by omega), ih (i + 1) n h2 (by omega)]
      have : a ∈ x :: l ↔ a ∈ l := by simp [Ne.symm hx]
      simp only [this]
theorem in_e (L : List Int) (hL : L.length ≤ 2000) (a : Int) : hotspotref33_In L a = some (decide (a ∈ L)) := by
  unfold hotspotref33_In
  have := in_loop L hL a L 0 big rfl (big_lt (by omega))
  simp only [Int.natCast_zero] at this
  rw [this, bindS]
  by_cases h : a ∈ L
  · rw [if_pos h, decide_eq_true h]; rfl
  · rw [if_neg h, decide_eq_false h]; rfl

end Go.AX.Z.TD

/-! (TDQ) -/

set_option linter.unusedVariables false
set_option linter.unusedSimpArgs false
namespace Go.AX.Z.TD
open Go.AX

/-! ## Map bytes -/

def c8 (b : Bool) (w : Int) : Int := bif b then w else 0
def val8 (b0 b1 b2 b3 b4 b5 b6 b7 : Bool) : Int := 0 + c8 b0 1 + c8 b1 2 + c8 b2 4 + c8 b3 8 + c8 b4 16 + c8 b5 32 + c8 b6 64 + c8 b7 128
theorem or_val : ∀ b0 b1 b2 b3 b4 b5 b6 b7 : Bool, ∀ j : Fin 8, bor .u8 (val8 b0 b1 b2 b3 b4 b5 b6 b7) (IntKind.wrap .u8 (1 * 2 ^ (min ((j.val : Int)).toNat 8))) =
    val8 (b0 || decide (j.val = 0)) (b1 || decide (j.val = 1)) (b2 || decide (j.val = 2)) (b3 || decide (j.val = 3)) (b4 || decide (j.val = 4)) (b5 || decide (j.val = 5)) (b6 || decide (j.val = 6)) (b7 || decide (j.val = 7)) := by decide +kernel
theorem val_b : ∀ b0 b1 b2 b3 b4 b5 b6 b7 : Bool, 0 ≤ val8 b0 b1 b2 b3 b4 b5 b6 b7 ∧ val8 b0 b1 b2 b3 b4 b5 b6 b7 ≤ 255 := by decide +kernel
theorem val_0 : ∀ b0 b1 b2 b3 b4 b5 b6 b7 : Bool, val8 b0 b1 b2 b3 b4 b5 b6 b7 = 0 ↔ (b0 || b1 || b2 || b3 || b4 || b5 || b6 || b7) = false := by decide +kernel
theorem low_e : ∀ x : Fin 256, band .i64 (x.val : Int) 7 = ((x.val % 8 : Nat) : Int) := by decide +kernel

/-- Map byte number i. -/
def mb (l : List Int) (i : Nat) : Int := val8 (decide (((8 * i + 0 : Nat) : Int) ∈ l)) (decide (((8 * i + 1 : Nat) : Int) ∈ l)) (decide (((8 * i + 2 : Nat) : Int) ∈ l)) (decide (((8 * i + 3 : Nat) : Int) ∈ l)) (decide (((8 * i + 4 : Nat) : Int) ∈ l)) (decide (((8 * i + 5 : Nat) : Int) ∈ l)) (decide (((8 * i + 6 : Nat) : Int) ∈ l)) (decide (((8 * i + 7 : Nat) : Int) ∈ l))
theorem mb_b (l : List Int) (i : Nat) : 0 ≤ mb l i ∧ mb l i ≤ 255 := val_b _ _ _ _ _ _ _ _
theorem mb_0 (l : List Int) (i : Nat) : mb l i ≠ 0 ↔ ∃ x ∈ l, 0 ≤ x ∧ x / 8 = (i : Int) := by
  unfold mb
  rw [Ne, val_0]
  constructor
  · intro h
    have h : (decide (((8 * i + 0 : Nat) : Int) ∈ l) || decide (((8 * i + 1 : Nat) : Int) ∈ l) || decide (((8 * i + 2 : Nat) : Int) ∈ l) || decide (((8 * i + 3 : Nat) : Int) ∈ l) || decide (((8 * i + 4 : Nat) : Int) ∈ l) || decide (((8 * i + 5 : Nat) : Int) ∈ l) || decide (((8 * i + 6 : Nat) : Int) ∈ l) || decide (((8 * i + 7 : Nat) : Int) ∈ l)) = true := Bool.of_not_eq_false h
    simp only [Bool.or_eq_true, decide_eq_true_eq] at h
    rcases h with ((((((h | h) | h) | h) | h) | h) | h) | h <;> exact ⟨_, h, by omega, by omega⟩
  · rintro ⟨x, hx, h0, h⟩ hf
    simp only [Bool.or_eq_false_iff, decide_eq_false_iff_not] at hf
    obtain ⟨⟨⟨⟨⟨⟨⟨f0, f1⟩, f2⟩, f3⟩, f4⟩, f5⟩, f6⟩, f7⟩ := hf
    have : x = ((8 * i + 0 : Nat) : Int) ∨ x = ((8 * i + 1 : Nat) : Int) ∨ x = ((8 * i + 2 : Nat) : Int) ∨ x = ((8 * i + 3 : Nat) : Int) ∨ x = ((8 * i + 4 : Nat) : Int) ∨ x = ((8 * i + 5 : Nat) : Int) ∨ x = ((8 * i + 6 : Nat) : Int) ∨ x = ((8 * i + 7 : Nat) : Int) := by omega
    rcases this with h | h | h | h | h | h | h | h <;> (rw [h] at hx; first | exact f0 hx | exact f1 hx | exact f2 hx | exact f3 hx | exact f4 hx | exact f5 hx | exact f6 hx | exact f7 hx)
theorem mb_snoc (p : List Int) (x : Nat) (hx : x < 256) : mb (p ++ [(x : Int)]) (x / 8) = bor .u8 (mb p (x / 8)) (IntKind.wrap .u8 (1 * 2 ^ (min (((x % 8 : Nat) : Int)).toNat 8))) := by
  have h := or_val (decide (((8 * (x / 8) + 0 : Nat) : Int) ∈ p)) (decide (((8 * (x / 8) + 1 : Nat) : Int) ∈ p)) (decide (((8 * (x / 8) + 2 : Nat) : Int) ∈ p)) (decide (((8 * (x / 8) + 3 : Nat) : Int) ∈ p)) (decide (((8 * (x / 8) + 4 : Nat) : Int) ∈ p)) (decide (((8 * (x / 8) + 5 : Nat) : Int) ∈ p)) (decide (((8 * (x / 8) + 6 : Nat) : Int) ∈ p)) (decide (((8 * (x / 8) + 7 : Nat) : Int) ∈ p)) ⟨x % 8, by omega⟩
  unfold mb
  rw [h]
  have key : ∀ k : Nat, k < 8 → decide (((8 * (x / 8) + k : Nat) : Int) ∈ p ++ [(x : Int)]) = (decide (((8 * (x / 8) + k : Nat) : Int) ∈ p) || decide (x % 8 = k)) := by
    intro k hk
    rw [Bool.eq_iff_iff]
    simp only [decide_eq_true_eq, Bool.or_eq_true, List.mem_append, List.mem_singleton]
    have : ((8 * (x / 8) + k : Nat) : Int) = (x : Int) ↔ x % 8 = k := by omega
    rw [this]
  rw [key 0 (by omega), key 1 (by omega), key 2 (by omega), key 3 (by omega), key 4 (by omega), key 5 (by omega), key 6 (by omega), key 7 (by omega)]
theorem mb_other (p : List Int) (x : Nat) (i : Nat) (h : i ≠ x / 8) : mb (p ++ [(x : Int)]) i = mb p i := by
  unfold mb
  have key : ∀ k : Nat, k < 8 → decide (((8 * i + k : Nat) : Int) ∈ p ++ [(x : Int)]) = decide (((8 * i + k : Nat) : Int) ∈ p) := by
    intro k hk
    rw [Bool.eq_iff_iff]
    simp only [decide_eq_true_eq, List.mem_append, List.mem_singleton]
    constructor
    · rintro (q | q)
      · exact q
      · omega
    · exact .inl
  rw [key 0 (by omega), key 1 (by omega), key 2 (by omega), key 3 (by omega), key 4 (by omega), key 5 (by omega), key 6 (by omega), key 7 (by omega)]

/-- The map bytes. -/
def M (l : List Int) : List Int := (List.range 32).map fun i => mb l i
theorem M_len (l : List Int) : (M l).length = 32 := by simp [M]
theorem M_get (l : List Int) {i : Nat} (h : i < 32) : (M l)[i]? = some (mb l i) := by simp [M, h]
theorem M_set (p : List Int) (x : Nat) (hx : x < 256) : (M p).set (x / 8) (mb (p ++ [(x : Int)]) (x / 8)) = M (p ++ [(x : Int)]) := by
  apply List.ext_getElem?
  intro i
  rw [List.getElem?_set]
  by_cases h : x / 8 = i
  · subst h
    rw [if_pos rfl, if_pos (by rw [M_len]; omega), M_get _ (by omega)]
  · rw [if_neg h]
    by_cases hi : i < 32
    · rw [M_get _ hi, M_get _ hi, mb_other p x i (fun q => h q.symm)]
    · rw [List.getElem?_eq_none (by rw [M_len]; omega), List.getElem?_eq_none (by rw [M_len]; omega)]
theorem M_nil : M [] = List.replicate 32 0 := by decide +kernel

theorem bytes_loop (L : List Int) (hL : L.length ≤ 1000) (hr : ∀ x ∈ L, 0 ≤ x ∧ x ≤ 255) : ∀ (l p : List Int) (i n : Nat), L.drop i = l → l.length < n → bitmap_bytes_L2 L n (M p, (i : Int)) = some (M (p ++ l)) := by
  intro l
  induction l with
  | nil =>
    intro p i n h hn
    obtain ⟨n, rfl⟩ : ∃ m, n = m + 1 := ⟨n - 1, by simp at hn; omega⟩
    rw [bitmap_bytes_L2, ge_dec (drop_n h)]; simp
  | cons x l ih =>
    intro p i n h hn
    obtain ⟨n, rfl⟩ : ∃ m, n = m + 1 := ⟨n - 1, by simp at hn; omega⟩
    obtain ⟨h1, h2, h3⟩ := drop_c h
    simp only [List.length_cons] at hn
    obtain ⟨r1, r2⟩ := hr x (List.mem_of_getElem? h1)
    obtain ⟨y, rfl⟩ : ∃ y : Nat, x = (y : Int) := ⟨x.toNat, by omega⟩
    rw [bitmap_bytes_L2, lt_dec h3]
    simp only [cond_true, idxN, h1, bindS]
    have e1 : ((y : Int)).fdiv (2 ^ (min 3 64)) = ((y / 8 : Nat) : Int) := by
      rw [show ((2 : Int) ^ (min 3 64)) = 8 from rfl, Int.fdiv_eq_ediv_of_nonneg _ (by decide)]; omega
    have e2 : band .i64 (y : Int) 7 = ((y % 8 : Nat) : Int) := low_e ⟨y, by omega⟩
    rw [e1, e2]
    have e3 : idxA 32 (M p) ((y / 8 : Nat) : Int) = some (mb p (y / 8)) := by
      unfold idxA
      rw [decide_eq_true (by omega : (0 : Int) ≤ ((y / 8 : Nat) : Int)), decide_eq_true (by omega : ((y / 8 : Nat) : Int) < 32), Bool.and_self, cond_true, Int.toNat_natCast, M_get _ (by omega)]
    rw [e3, bindS, chk_d (by omega), bindS, wrapN (by omega)]
    have e4 := mb_snoc p y (by omega)
    have e5 := M_set p y (by omega)
    rw [e4] at e5
    rw [show ((((y / 8 : Nat) : Int)).toNat) = y / 8 from Int.toNat_natCast _, e5, ih (p ++ [(y : Int)]) (i + 1) n h2 (by omega)]
    simp
theorem bytes_e (L : List Int) (hL : L.length ≤ 1000) (hr : ∀ x ∈ L, 0 ≤ x ∧ x ≤ 255) : bitmap_bytes L = some (M L) := by
  unfold bitmap_bytes
  have := bytes_loop L hL hr L [] 0 big rfl (big_lt (by omega))
  simp only [Int.natCast_zero, List.nil_append, M_nil] at this
  rw [this, bindS, chk_d (M_len L)]; rfl
theorem full_e (L : List Int) (hL : L.length ≤ 1000) (hr : ∀ x ∈ L, 0 ≤ x ∧ x ≤ 255) : bitmap_full L = some (M L) := by
  unfold bitmap_full
  rw [bytes_e L hL hr, bindS, chk_t (by simp [M_len])]; rfl

theorem mapByte_e (L : List Int) (hL : L.length ≤ 1000) (i : Nat) (hi : i < 100) : hotspotref33_mapByte L (i : Int) = some (mb L i) := by
  unfold hotspotref33_mapByte
  have st : ∀ (k m : Nat) (s w : Int), k < 8 → 0 ≤ s → s ≤ 100000 → 0 ≤ w → w ≤ 1000 → hotspotref33_mapByte_L2 L (i : Int) (m + 1) (s, w, (k : Int)) = hotspotref33_mapByte_L2 L (i : Int) m (s + c8 (decide (((8 * i + k : Nat) : Int) ∈ L)) w, 2 * w, ((k + 1 : Nat) : Int)) := by
    intro k m s w hk s0 s1 w0 w1
    rw [hotspotref33_mapByte_L2, decide_eq_true (by simp only; omega), cond_true]
    simp only
    rw [wrapI (i := 8 * (i : Int)) (by omega) (by omega), wrapI (by omega) (by omega), show 8 * (i : Int) + (k : Int) = ((8 * i + k : Nat) : Int) by omega, in_e L (by omega), bindS, wrapN (by omega), wrapI (i := w * 2) (by omega) (by omega), show w * 2 = 2 * w by omega]
    by_cases h : ((8 * i + k : Nat) : Int) ∈ L
    · rw [decide_eq_true h, cond_true, wrapI (by omega) (by omega)]; rfl
    · rw [decide_eq_false h, cond_false]
      show _ = hotspotref33_mapByte_L2 L (i : Int) m (s + 0, 2 * w, ((k + 1 : Nat) : Int))
      rw [Int.add_zero]
  have cb : ∀ (b : Bool) (w : Int), 0 ≤ w → 0 ≤ c8 b w ∧ c8 b w ≤ w := by
    intro b w hw; cases b
    · exact ⟨Int.le_refl _, hw⟩
    · exact ⟨hw, Int.le_refl _⟩
  rw [show big = (big - 9) + 9 from rfl]
  generalize big - 9 = n
  have b0 := cb (decide (((8 * i + 0 : Nat) : Int) ∈ L)) 1 (by omega)
  have b1 := cb (decide (((8 * i + 1 : Nat) : Int) ∈ L)) 2 (by omega)
  have b2 := cb (decide (((8 * i + 2 : Nat) : Int) ∈ L)) 4 (by omega)
  have b3 := cb (decide (((8 * i + 3 : Nat) : Int) ∈ L)) 8 (by omega)
  have b4 := cb (decide (((8 * i + 4 : Nat) : Int) ∈ L)) 16 (by omega)
  have b5 := cb (decide (((8 * i + 5 : Nat) : Int) ∈ L)) 32 (by omega)
  have b6 := cb (decide (((8 * i + 6 : Nat) : Int) ∈ L)) 64 (by omega)
  have b7 := cb (decide (((8 * i + 7 : Nat) : Int) ∈ L)) 128 (by omega)
  rw [show (0 : Int) = ((0 : Nat) : Int) from rfl, st 0 (n + 8) _ 1 (by omega) (by omega) (by omega) (by omega) (by omega), show (2 : Int) * 1 = 2 from rfl,
    st 1 (n + 7) _ 2 (by omega) (by omega) (by omega) (by omega) (by omega), show (2 : Int) * 2 = 4 from rfl,
    st 2 (n + 6) _ 4 (by omega) (by omega) (by omega) (by omega) (by omega), show (2 : Int) * 4 = 8 from rfl,
    st 3 (n + 5) _ 8 (by omega) (by omega) (by omega) (by omega) (by omega), show (2 : Int) * 8 = 16 from rfl,
    st 4 (n + 4) _ 16 (by omega) (by omega) (by omega) (by omega) (by omega), show (2 : Int) * 16 = 32 from rfl,
    st 5 (n + 3) _ 32 (by omega) (by omega) (by omega) (by omega) (by omega), show (2 : Int) * 32 = 64 from rfl,
    st 6 (n + 2) _ 64 (by omega) (by omega) (by omega) (by omega) (by omega), show (2 : Int) * 64 = 128 from rfl,
    st 7 (n + 1) _ 128 (by omega) (by omega) (by omega) (by omega) (by omega)]
  rw [hotspotref33_mapByte_L2]
  rfl
end Go.AX.Z.TD

/-! (TDR) -/

set_option linter.unusedVariables false
set_option linter.unusedSimpArgs false
namespace Go.AX.Z.TD
open Go.AX

/-! ## Encodings -/

def w8 (x : Int) : Int := IntKind.wrap .u8 x
theorem w8_id {x : Int} (h : 0 ≤ x ∧ x ≤ 255) : w8 x = x := by
  unfold w8
  have : IntKind.wrap .u8 x = x % 256 := by simp [IntKind.wrap, IntKind.bits, IntKind.signed]
  omega

/-- What the reference lays down. -/
theorem out_loop (L : List Int) (hL : L.length ≤ 2000) : ∀ (l acc : List Int) (i n : Nat), L.drop i = l → l.length < n → acc.length ≤ i → hotspotref33_EncodeAs_L20 L n (acc, (i : Int)) = some (acc ++ l.map w8) := by
  intro l
  induction l with
  | nil =>
    intro acc i n h hn hc
    obtain ⟨n, rfl⟩ : ∃ m, n = m + 1 := ⟨n - 1, by simp at hn; omega⟩
    rw [hotspotref33_EncodeAs_L20, ge_dec (drop_n h)]; simp
  | cons x l ih =>
    intro acc i n h hn hc
    obtain ⟨n, rfl⟩ : ∃ m, n = m + 1 := ⟨n - 1, by simp at hn; omega⟩
    obtain ⟨h1, h2, h3⟩ := drop_c h
    simp only [List.length_cons] at hn
    rw [hotspotref33_EncodeAs_L20, lt_dec h3]
    simp only [cond_true, idxN, h1, bindS]
    rw [chk_d (by omega), bindS, wrapN (by omega), ih _ (i + 1) n h2 (by omega) (by simp; omega)]
    simp [w8]
theorem out_e (L : List Int) (hL : L.length ≤ 2000) : hotspotref33_EncodeAs_L20 L big ([], 0) = some (L.map w8) := by
  have := out_loop L hL L [] 0 big rfl (big_lt (by omega)) (by simp)
  simpa using this

/-- Full. -/
theorem rfull_loop (t : Traffic) (hL : t.Aids.length ≤ 1000) : ∀ (d i n : Nat) (acc : List Int), i + d = 32 → d < n → acc.length ≤ i + 1 → hotspotref33_EncodeAs_L4 t n (acc, (i : Int)) = some (acc ++ (M t.Aids).drop i) := by
  intro d
  induction d with
  | zero =>
    intro i n acc h hn hc
    obtain ⟨n, rfl⟩ : ∃ m, n = m + 1 := ⟨n - 1, by omega⟩
    rw [hotspotref33_EncodeAs_L4, decide_eq_false (by simp only; omega), cond_false, List.drop_of_length_le (by rw [M_len]; omega), List.append_nil]
  | succ d ih =>
    intro i n acc h hn hc
    obtain ⟨n, rfl⟩ : ∃ m, n = m + 1 := ⟨n - 1, by omega⟩
    rw [hotspotref33_EncodeAs_L4, decide_eq_true (by simp only; omega), cond_true]
    simp only
    rw [mapByte_e _ hL i (by omega), bindS, chk_d (by omega), bindS, wrapN (by omega), ih (i + 1) n _ (by omega) (by omega) (by simp; omega)]
    have hi : i < (M t.Aids).length := by rw [M_len]; omega
    rw [List.drop_eq_getElem_cons hi, show (M t.Aids)[i] = mb t.Aids i from (List.getElem?_eq_some_iff.1 (M_get _ (by omega))).2]
    simp

/-- Part: from the first byte that is not zero. -/
theorem from_loop (t : Traffic) (hL : t.Aids.length ≤ 1000) (m : Nat) (hm : m ≤ 31 → mb t.Aids m ≠ 0) (hlo : ∀ i, i < m → i < 32 → mb t.Aids i = 0) : ∀ (i n : Nat) (d : Int), i ≤ 32 → i < n →
    hotspotref33_EncodeAs_L7 t n (d, (i : Int) - 1) = some (if m < i then (m : Int) else d) := by
  intro i
  induction i with
  | zero =>
    intro n d h hn
    obtain ⟨n, rfl⟩ : ∃ q, n = q + 1 := ⟨n - 1, by omega⟩
    rw [hotspotref33_EncodeAs_L7, decide_eq_false (by simp only; omega), cond_false, if_neg (by omega)]
  | succ i ih =>
    intro n d h hn
    obtain ⟨n, rfl⟩ : ∃ q, n = q + 1 := ⟨n - 1, by omega⟩
    rw [hotspotref33_EncodeAs_L7, show ((i + 1 : Nat) : Int) - 1 = (i : Int) by omega, decide_eq_true (by simp only; omega), cond_true]
    simp only
    rw [mapByte_e _ hL i (by omega), bindS, wrapI (by omega) (by omega)]
    by_cases hz : mb t.Aids i = 0
    · rw [hz, bne_self_eq_false, cond_false, ih n d (by omega) (by omega)]
      by_cases h1 : m < i
      · rw [if_pos h1, if_pos (by omega)]
      · have : m ≠ i := fun q => by subst q; exact hm (by omega) hz
        rw [if_neg h1, if_neg (by omega)]
    · have h1 : ¬ i < m := fun q => hz (hlo i q (by omega))
      rw [show (mb t.Aids i != 0) = true by simpa using hz, cond_true, ih n _ (by omega) (by omega)]
      by_cases h2 : m < i
      · rw [if_pos h2, if_pos (by omega)]
      · rw [if_neg h2, if_pos (by omega)]; congr 1; omega
theorem to_loop (t : Traffic) (hL : t.Aids.length ≤ 1000) (m : Nat) (hm : 0 < m → mb t.Aids (m - 1) ≠ 0) (hm32 : m ≤ 32) (hhi : ∀ i, m ≤ i → i < 32 → mb t.Aids i = 0) : ∀ (k i n : Nat) (d : Int), i + k = 32 → k < n →
    hotspotref33_EncodeAs_L10 t n (d, (i : Int)) = some (if i < m then (m : Int) else d) := by
  intro k
  induction k with
  | zero =>
    intro i n d h hn
    obtain ⟨n, rfl⟩ : ∃ q, n = q + 1 := ⟨n - 1, by omega⟩
    rw [hotspotref33_EncodeAs_L10, decide_eq_false (by simp only; omega), cond_false, if_neg (by omega)]
  | succ k ih =>
    intro i n d h hn
    obtain ⟨n, rfl⟩ : ∃ q, n = q + 1 := ⟨n - 1, by omega⟩
    rw [hotspotref33_EncodeAs_L10, decide_eq_true (by simp only; omega), cond_true]
    simp only
    rw [mapByte_e _ hL i (by omega), bindS, wrapN (by omega)]
    by_cases hz : mb t.Aids i = 0
    · rw [hz, bne_self_eq_false, cond_false, ih (i + 1) n d (by omega) (by omega)]
      by_cases h1 : i + 1 < m
      · rw [if_pos h1, if_pos (by omega)]
      · have : m ≠ i + 1 := fun q => by
          have := hm (by omega)
          rw [q] at this
          exact this (by simpa using hz)
        rw [if_neg h1, if_neg (by omega)]
    · have h1 : i < m := Nat.lt_of_not_le fun q => hz (hhi i q (by omega))
      rw [show (mb t.Aids i != 0) = true by simpa using hz, cond_true, ih (i + 1) n _ (by omega) (by omega), if_pos h1]
      by_cases h2 : i + 1 < m
      · rw [if_pos h2]
      · rw [if_neg h2]; congr 1; omega
theorem rpart_loop (t : Traffic) (hL : t.Aids.length ≤ 1000) (m : Nat) (hm : m ≤ 32) : ∀ (d i n : Nat) (acc : List Int), i + d = m → d < n → acc.length ≤ i + 3 → hotspotref33_EncodeAs_L13 (m : Int) t n (acc, (i : Int)) = some (acc ++ ((M t.Aids).drop i).take (m - i)) := by
  intro d
  induction d with
  | zero =>
    intro i n acc h hn hc
    obtain ⟨n, rfl⟩ : ∃ q, n = q + 1 := ⟨n - 1, by omega⟩
    rw [hotspotref33_EncodeAs_L13, decide_eq_false (by simp only; omega), cond_false, show m - i = 0 by omega, List.take_zero, List.append_nil]
  | succ d ih =>
    intro i n acc h hn hc
    obtain ⟨n, rfl⟩ : ∃ q, n = q + 1 := ⟨n - 1, by omega⟩
    rw [hotspotref33_EncodeAs_L13, decide_eq_true (by simp only; omega), cond_true]
    simp only
    rw [mapByte_e _ hL i (by omega), bindS, chk_d (by omega), bindS, wrapN (by omega), ih (i + 1) n _ (by omega) (by omega) (by simp; omega)]
    have hi : i < (M t.Aids).length := by rw [M_len]; omega
    rw [List.drop_eq_getElem_cons hi, show (M t.Aids)[i] = mb t.Aids i from (List.getElem?_eq_some_iff.1 (M_get _ (by omega))).2, show m - i = (m - (i + 1)) + 1 by omega, List.take_succ_cons]
    simp

/-- Lists. -/
theorem list_loop (L : List Int) (hL : L.length ≤ 1000) : ∀ (l acc : List Int) (i n : Nat), L.drop i = l → l.length < n → acc.length ≤ i + 1 → bitmap_list_L2 L n (acc, (i : Int)) = some (acc ++ l.map w8) := by
  intro l
  induction l with
  | nil =>
    intro acc i n h hn hc
    obtain ⟨n, rfl⟩ : ∃ m, n = m + 1 := ⟨n - 1, by simp at hn; omega⟩
    rw [bitmap_list_L2, ge_dec (drop_n h)]; simp
  | cons x l ih =>
    intro acc i n h hn hc
    obtain ⟨n, rfl⟩ : ∃ m, n = m + 1 := ⟨n - 1, by simp at hn; omega⟩
    obtain ⟨h1, h2, h3⟩ := drop_c h
    simp only [List.length_cons] at hn
    rw [bitmap_list_L2, lt_dec h3]
    simp only [cond_true, idxN, h1, bindS]
    rw [chk_d (by omega), bindS, wrapN (by omega), ih _ (i + 1) n h2 (by omega) (by simp; omega)]
    simp [w8]
theorem list_e (L : List Int) (hL : L.length ≤ 1000) : bitmap_list L = some ([w8 (L.length : Int)] ++ L.map w8) := by
  unfold bitmap_list
  have := list_loop L hL L [w8 (L.length : Int)] 0 big rfl (big_lt (by omega)) (by simp)
  simp only [Int.natCast_zero] at this
  show (bitmap_list_L2 L big ([w8 (L.length : Int)], 0)).bind _ = _
  rw [this]; rfl

/-- The numbers from 'a' on, 'k' of them, that are not in a list. -/
def gaps (l : List Int) : Nat → Nat → List Int
  | _, 0 => []
  | a, k + 1 => (if (a : Int) ∈ l then [] else [(a : Int)]) ++ gaps l (a + 1) k
theorem gaps_len (l : List Int) : ∀ (k a : Nat), (gaps l a k).length ≤ k
  | 0, _ => Nat.le_refl _
  | k + 1, a => by
    have := gaps_len l k (a + 1)
    simp only [gaps, List.length_append]
    split <;> simp <;> omega
theorem gaps_add (l : List Int) : ∀ (j k a : Nat), gaps l a (j + k) = gaps l a j ++ gaps l (a + j) k
  | 0, k, a => by simp [gaps]
  | j + 1, k, a => by
    rw [show j + 1 + k = (j + k) + 1 by omega, gaps, gaps, gaps_add l j k (a + 1), List.append_assoc, show a + 1 + j = a + (j + 1) by omega]
theorem gaps_b (l : List Int) : ∀ (k a : Nat) x, x ∈ gaps l a k → (a : Int) ≤ x ∧ x < (a : Int) + k
  | 0, _, x, h => by simp [gaps] at h
  | k + 1, a, x, h => by
    rw [gaps, List.mem_append] at h
    rcases h with h | h
    · split at h
      · cases h
      · rw [List.mem_singleton] at h; omega
    · have := gaps_b l k (a + 1) x h; omega

theorem rgap_loop (t : Traffic) (hL : t.Aids.length ≤ 1000) (m : Nat) (hm : m ≤ 256) : ∀ (d i n : Nat) (acc : List Int), i + d = m → d < n → acc.length ≤ i → hotspotref33_EncodeAs_L17 (m : Int) t n (acc, (i : Int)) = some (acc ++ gaps t.Aids i d) := by
  intro d
  induction d with
  | zero =>
    intro i n acc h hn hc
    obtain ⟨n, rfl⟩ : ∃ q, n = q + 1 := ⟨n - 1, by omega⟩
    rw [hotspotref33_EncodeAs_L17, decide_eq_false (by simp only; omega), cond_false]; simp [gaps]
  | succ d ih =>
    intro i n acc h hn hc
    obtain ⟨n, rfl⟩ : ∃ q, n = q + 1 := ⟨n - 1, by omega⟩
    rw [hotspotref33_EncodeAs_L17, decide_eq_true (by simp only; omega), cond_true, gaps]
    simp only
    rw [in_e _ (by omega), bindS]
    by_cases hz : (i : Int) ∈ t.Aids
    · rw [decide_eq_true hz, Bool.not_true, cond_false, wrapN (by omega), ih (i + 1) n _ (by omega) (by omega) (by omega), if_pos hz]; simp
    · rw [decide_eq_false hz, Bool.not_false, cond_true, chk_d (by omega), bindS, wrapN (by omega), ih (i + 1) n _ (by omega) (by omega) (by simp; omega), if_neg hz]; simp

theorem hin_loop (l : List Int) (a : Nat) (ha : a ≤ 255) : ∀ (d i n : Nat) (acc : List Int), i + d = a → d < n → acc.length ≤ i + 2 → (∀ x : Nat, i ≤ x → x < a → (x : Int) ∉ l) → bitmap_holes_L6 (a : Int) n (acc, (i : Int)) = some (acc ++ gaps l i d) := by
  intro d
  induction d with
  | zero =>
    intro i n acc h hn hc hx
    obtain ⟨n, rfl⟩ : ∃ q, n = q + 1 := ⟨n - 1, by omega⟩
    rw [bitmap_holes_L6, decide_eq_false (by simp only; omega), cond_false]; simp [gaps]
  | succ d ih =>
    intro i n acc h hn hc hx
    obtain ⟨n, rfl⟩ : ∃ q, n = q + 1 := ⟨n - 1, by omega⟩
    rw [bitmap_holes_L6, decide_eq_true (by simp only; omega), cond_true, gaps, if_neg (hx i (Nat.le_refl _) (by omega))]
    simp only
    rw [chk_d (by omega), bindS, wrapN (by omega), show IntKind.wrap .u8 (i : Int) = (i : Int) from w8_id (by omega), ih (i + 1) n _ (by omega) (by omega) (by simp; omega) (fun x h1 h2 => hx x (by omega) h2)]; simp

theorem gaps_full (l : List Int) : ∀ (k a : Nat), (∀ x : Nat, a ≤ x → x < a + k → (x : Int) ∉ l) → (gaps l a k).length = k
  | 0, _, _ => rfl
  | k + 1, a, h => by
    rw [gaps, if_neg (h a (Nat.le_refl _) (by omega))]
    simp only [List.length_append, List.length_cons, List.length_nil]
    rw [gaps_full l k (a + 1) fun x h1 h2 => h x (by omega) (by omega)]
    omega
theorem holes_loop (L : List Int) (hv : Srt 0 L) : ∀ (l : List Int) (p i n : Nat) (c : Int), L.drop i = l → l.length < n → Srt (p : Int) l → p ≤ 255 → (p = 0 ∨ (p : Int) ∈ L) → (∀ x ∈ L, x ≤ (p : Int) ∨ x ∈ l) → (gaps L 1 (p - 1)).length + i = p → i ≤ L.length →
    ∃ q : Nat, (gaps L 1 (q - 1)).length + L.length = q ∧ q ≤ 255 ∧ (l.getLast? = none → q = p) ∧ (∀ x, l.getLast? = some x → x = (q : Int)) ∧ bitmap_holes_L2 L n ((p : Int) :: c :: gaps L 1 (p - 1), (i : Int)) = some ((q : Int) :: c :: gaps L 1 (q - 1)) := by
  intro l
  induction l with
  | nil =>
    intro p i n c h hn hs hp hpl hx hg0 hiL
    obtain ⟨n, rfl⟩ : ∃ m, n = m + 1 := ⟨n - 1, by simp at hn; omega⟩
    have hd := drop_n h
    rw [bitmap_holes_L2, ge_dec hd]
    exact ⟨p, by omega, hp, fun _ => rfl, fun x hx => by simp at hx, rfl⟩
  | cons x l ih =>
    intro p i n c h hn hs hp hpl hx hg0 hiL
    obtain ⟨n, rfl⟩ : ∃ m, n = m + 1 := ⟨n - 1, by simp at hn; omega⟩
    obtain ⟨h1, h2, h3⟩ := drop_c h
    simp only [List.length_cons] at hn
    obtain ⟨a, rfl⟩ : ∃ a : Nat, x = (a : Int) := ⟨x.toNat, by have := hs.1.1; omega⟩
    have hpa : p < a := by have := hs.1.1; omega
    have ha : a ≤ 255 := by have := hs.1.2; omega
    obtain ⟨s1, s2⟩ := srt_pw hs.2
    have hlen : L.length ≤ 1000 := by
      have := h3
      have hd : l.length ≤ 255 := by
        have : ∀ (l : List Int) (q : Int), 0 ≤ q → q ≤ 255 → Srt q l → (l.length : Int) ≤ 255 - q := by
          intro l
          induction l with
          | nil => intro q h0 h1 _; simp; omega
          | cons y l ih => intro q h0 h1 hs; have := ih y (by have := hs.1.1; omega) hs.1.2 hs.2; have := hs.1.1; simp only [List.length_cons]; omega
        have := this l (a : Int) (by omega) (by omega) hs.2
        omega
      have : ∀ (l : List Int) (q : Int), 0 ≤ q → q ≤ 255 → Srt q l → (l.length : Int) ≤ 255 - q := by
        intro l
        induction l with
        | nil => intro q h0 h1 _; simp; omega
        | cons y l ih => intro q h0 h1 hs; have := ih y (by have := hs.1.1; omega) hs.1.2 hs.2; have := hs.1.1; simp only [List.length_cons]; omega
      have := this L 0 (by omega) (by omega) hv
      omega
    rw [bitmap_holes_L2, lt_dec h3]
    simp only [cond_true, idxN, h1, bindS]
    have no : ∀ y : Nat, p + 1 ≤ y → y < a → (y : Int) ∉ L := by
      intro y hy1 hy2 hm
      rcases hx _ hm with q | q
      · omega
      · rcases List.mem_cons.1 q with q | q
        · omega
        · have := s2 _ q; omega
    have g1 := gaps_len L (p - 1) 1
    rw [idx0, List.getElem?_cons_zero, bindS, wrapI (i := (p : Int)) (by omega) (by omega), wrapN (by omega), hin_loop L a ha (a - (p + 1)) (p + 1) big _ (by omega) (big_lt (by omega)) (by simp; omega) no, bindS]
    have hg : (p : Int) :: c :: gaps L 1 (p - 1) ++ gaps L (p + 1) (a - (p + 1)) = (p : Int) :: c :: gaps L 1 (a - 1) := by
      simp only [List.cons_append]
      congr 2
      rcases Nat.eq_zero_or_pos p with h0 | h0
      · subst h0
        simp [gaps]
      · have e : a - 1 = (p - 1) + (1 + (a - (p + 1))) := by omega
        rw [e, gaps_add, gaps_add, show 1 + (p - 1) = p by omega]
        have hpm : (p : Int) ∈ L := by rcases hpl with q | q; exact absurd q (by omega); exact q
        rw [show gaps L p 1 = [] by simp [gaps, hpm]]
        simp
    rw [hg, idx0, List.getElem?_cons_zero, bindS, bindS, List.set_cons_zero, show IntKind.wrap .u8 ((a : Nat) : Int) = (a : Int) from w8_id (by omega), wrapN (by omega)]
    have hgl : (gaps L 1 (a - 1)).length + (i + 1) = a := by
      have := congrArg List.length hg
      simp only [List.cons_append, List.length_cons, List.length_append] at this
      rw [gaps_full L (a - (p + 1)) (p + 1) fun x h1 h2 => no x h1 (by omega)] at this
      omega
    obtain ⟨q, q0, q1, q2, q3, q4⟩ := ih a (i + 1) n c h2 (by omega) hs.2 ha (.inr (List.mem_of_getElem? h1)) (fun y hy => by
      rcases hx y hy with z | z
      · exact .inl (by omega)
      · rcases List.mem_cons.1 z with z | z
        · exact .inl (by omega)
        · exact .inr z) hgl (by omega)
    refine ⟨q, q0, q1, fun hl => by simp at hl, fun y hy => ?_, q4⟩
    cases hl : l.getLast? with
    | none =>
      have hl0 : l = [] := List.getLast?_eq_none_iff.1 hl
      have := q2 hl
      subst hl0
      simp at hy
      omega
    | some z =>
      have := q3 z hl
      rw [List.getLast?_cons, hl] at hy
      simp at hy
      omega
end Go.AX.Z.TD

/-! (TDA) -/

set_option linter.unusedVariables false
set_option linter.unusedSimpArgs false
namespace Go.AX.Z.TD
open Go.AX

theorem w8_map {l : List Int} (h : ∀ x ∈ l, 0 ≤ x ∧ x ≤ 255) : l.map w8 = l := by
  have : l.map w8 = l.map id := List.map_congr_left fun x hx => w8_id (h x hx)
  rw [this, List.map_id]
theorem M_b (l : List Int) : ∀ x ∈ M l, 0 ≤ x ∧ x ≤ 255 := by
  intro x hx
  obtain ⟨i, _, rfl⟩ := List.mem_map.1 hx
  exact mb_b l i
theorem srt_len : ∀ (l : List Int) (q : Int), 0 ≤ q → q ≤ 255 → Srt q l → (l.length : Int) ≤ 255 - q := by
  intro l
  induction l with
  | nil => intro q h0 h1 _; simp; omega
  | cons y l ih => intro q h0 h1 hs; have := ih y (by have := hs.1.1; omega) hs.1.2 hs.2; have := hs.1.1; simp only [List.length_cons]; omega

/-- The first byte. -/
def fb (g : Bool) (k : Int) : Int := bif g then k + 128 else k
theorem fb_c (g : Bool) (k : Nat) (hk : k < 4) : (bif g then some (bor .u8 (k : Int) 128) else some (k : Int)) = some (fb g (k : Int)) := by
  have : ∀ k : Fin 4, bor .u8 (k.val : Int) 128 = (k.val : Int) + 128 := by decide +kernel
  cases g
  · rfl
  · show some _ = some _
    rw [this ⟨k, hk⟩]; rfl
theorem fb_r (g : Bool) (k : Nat) (hk : k < 4) : (bif g then some (IntKind.wrap .i64 ((IntKind.wrap .i64 (k : Int)) + 128)) else some (IntKind.wrap .i64 (k : Int))) = some (fb g (k : Int)) := by
  cases g
  · show some _ = some _
    rw [wrapI (by omega) (by omega)]; rfl
  · show some _ = some _
    rw [wrapI (i := (k : Int)) (by omega) (by omega), wrapI (by omega) (by omega)]; rfl
theorem fb_b (g : Bool) (k : Nat) (hk : k < 4) : 0 ≤ fb g (k : Int) ∧ fb g (k : Int) ≤ 255 := by
  cases g
  · show 0 ≤ (k : Int) ∧ (k : Int) ≤ 255; omega
  · show 0 ≤ (k : Int) + 128 ∧ (k : Int) + 128 ≤ 255; omega

/-- The body of an encoding, and what the reference has for it. -/
theorem part_e (t : Traffic) (hv : VT t) (hL : t.Aids.length ≤ 300) : ∃ E, bitmap_part t.Aids = some E ∧ E.length ≤ 34 ∧ (t.Aids = [] → E.length = 2) ∧ (∀ x y, t.Aids[0]? = some x → t.Aids[t.Aids.length - 1]? = some y → (E.length : Int) = 2 + (y / 8 + 1 - x / 8) ∧ 0 < x ∧ x ≤ y ∧ y ≤ 255) ∧ ∃ a b : Int, hotspotref33_EncodeAs_L7 t big (0, 31) = some a ∧ hotspotref33_EncodeAs_L10 t big (0, 0) = some b ∧
    ∀ d15 : Int, ∃ O, hotspotref33_EncodeAs_L13 b t big (([d15] ++ [a, IntKind.wrap .i64 (b - a)]), a) = some O ∧ O.length ≤ 35 ∧ O.map w8 = w8 d15 :: E := by
  obtain ⟨p1, p2⟩ := srt_pw hv
  have hr : ∀ x ∈ t.Aids, 0 ≤ x ∧ x ≤ 255 := fun x hx => by have := p2 x hx; omega
  unfold bitmap_part
  by_cases h0 : t.Aids = []
  · have hz : ∀ i, mb t.Aids i = 0 := fun i => by
      rcases Decidable.em (mb t.Aids i = 0) with h | h
      · exact h
      · obtain ⟨x, hx, _⟩ := (mb_0 _ _).1 h
        rw [h0] at hx; cases hx
    rw [show ((t.Aids.length : Int) == 0) = true by rw [h0]; rfl, cond_true]
    have f := from_loop t (by omega) 32 (by omega) (fun i _ _ => hz i) 32 big 0 (by omega) (big_lt (by omega))
    have g := to_loop t (by omega) 0 (by omega) (by omega) (fun i _ _ => hz i) 32 0 big 0 (by omega) (big_lt (by omega))
    refine ⟨_, rfl, by simp, fun _ => rfl, fun x y hx => by rw [h0] at hx; simp at hx, 0, 0, f, g, fun d15 => ?_⟩
    have r := rpart_loop t (by omega) 0 (by omega) 0 0 big ([d15] ++ [0, IntKind.wrap .i64 (0 - 0)]) (by omega) (big_lt (by omega)) (by simp)
    refine ⟨_, r, by simp, ?_⟩
    simp; decide +kernel
  · obtain ⟨x, l, hl⟩ : ∃ x l, t.Aids = x :: l := by
      cases h : t.Aids with
      | nil => exact absurd h h0
      | cons x l => exact ⟨x, l, rfl⟩
    have hlen : 0 < t.Aids.length := by rw [hl]; simp
    have hx0 : t.Aids[0]? = some x := by rw [hl]; rfl
    have hylt : t.Aids.length - 1 < t.Aids.length := by omega
    obtain ⟨y, hy⟩ : ∃ y, t.Aids[t.Aids.length - 1]? = some y := ⟨_, List.getElem?_eq_getElem hylt⟩
    have hxm := List.mem_of_getElem? hx0
    have hym := List.mem_of_getElem? hy
    have bx := p2 x hxm
    have b_y := p2 y hym
    have pw := List.pairwise_iff_getElem.1 p1
    have hmin : ∀ z ∈ t.Aids, x ≤ z ∧ z ≤ y := by
      intro z hz
      obtain ⟨i, hi⟩ := List.mem_iff_getElem?.1 hz
      obtain ⟨hil, ei⟩ := List.getElem?_eq_some_iff.1 hi
      obtain ⟨h0l, e0⟩ := List.getElem?_eq_some_iff.1 hx0
      obtain ⟨hyl, ey⟩ := List.getElem?_eq_some_iff.1 hy
      constructor
      · rcases Nat.eq_zero_or_pos i with q | q
        · subst q; rw [hx0] at hi; cases hi; exact Int.le_refl _
        · have := pw 0 i h0l hil q; rw [e0, ei] at this; omega
      · rcases Nat.lt_or_ge i (t.Aids.length - 1) with q | q
        · have := pw i _ hil hyl q; rw [ei, ey] at this; omega
        · have : i = t.Aids.length - 1 := by omega
          subst this; rw [hy] at hi; cases hi; exact Int.le_refl _
    obtain ⟨X, rfl⟩ : ∃ X : Nat, x = (X : Int) := ⟨x.toNat, by omega⟩
    obtain ⟨Y, rfl⟩ : ∃ Y : Nat, y = (Y : Int) := ⟨y.toNat, by omega⟩
    have hXY := (hmin _ hym).1
    rw [show ((t.Aids.length : Int) == 0) = false by rw [beq_eq_false_iff_ne]; omega, cond_false, bytes_e _ (by omega) hr, bindS, chk_t (by simp [M_len]), bindS, idx0, hx0, bindS,
      show IntKind.wrap .i64 ((t.Aids.length : Int) - 1) = ((t.Aids.length - 1 : Nat) : Int) by rw [wrapI (by omega) (by omega)]; omega, idxN, hy, bindS]
    have e1 : ((X : Int)).fdiv (2 ^ (min 3 64)) = ((X / 8 : Nat) : Int) := by
      rw [show ((2 : Int) ^ (min 3 64)) = 8 from rfl, Int.fdiv_eq_ediv_of_nonneg _ (by decide)]; omega
    have e2 : ((Y : Int)).fdiv (2 ^ (min 3 64)) = ((Y / 8 : Nat) : Int) := by
      rw [show ((2 : Int) ^ (min 3 64)) = 8 from rfl, Int.fdiv_eq_ediv_of_nonneg _ (by decide)]; omega
    rw [e1, e2, wrapN (by omega), chk_t (by simp; omega), bindS, chk_d (by omega), bindS]
    have e3 : (((Y / 8 + 1 : Nat) : Int) - ((X / 8 : Nat) : Int)).toNat = Y / 8 + 1 - X / 8 := by omega
    rw [e3, wrapI (i := ((Y / 8 + 1 : Nat) : Int) - ((X / 8 : Nat) : Int)) (by omega) (by omega), Int.toNat_natCast]
    have f := from_loop t (by omega) (X / 8) (fun _ => (mb_0 _ _).2 ⟨_, hxm, by omega, by omega⟩) (fun i h1 h2 => by
      rcases Decidable.em (mb t.Aids i = 0) with h | h
      · exact h
      · obtain ⟨z, hz, z0, z1⟩ := (mb_0 _ _).1 h
        have := (hmin z hz).1; omega) 32 big 0 (by omega) (big_lt (by omega))
    rw [if_pos (by omega)] at f
    have g := to_loop t (by omega) (Y / 8 + 1) (fun _ => (mb_0 _ _).2 ⟨_, hym, by omega, by omega⟩) (by omega) (fun i h1 h2 => by
      rcases Decidable.em (mb t.Aids i = 0) with h | h
      · exact h
      · obtain ⟨z, hz, z0, z1⟩ := (mb_0 _ _).1 h
        have := (hmin z hz).2; omega) 32 0 big 0 (by omega) (big_lt (by omega))
    rw [if_pos (by omega)] at g
    refine ⟨_, rfl, by simp [M_len]; omega, fun q => absurd q h0, fun x' y' hx' hy' => ?_, _, _, f, g, fun d15 => ?_⟩
    · try rw [hx0] at hx'
      try rw [hy] at hy'
      cases hx'; cases hy'
      refine ⟨?_, by omega, hXY, by omega⟩
      simp only [List.length_append, List.length_cons, List.length_nil, List.length_take, List.length_drop, M_len]
      omega
    rw [wrapI (i := ((Y / 8 + 1 : Nat) : Int) - ((X / 8 : Nat) : Int)) (by omega) (by omega)]
    have r := rpart_loop t (by omega) (Y / 8 + 1) (by omega) (Y / 8 + 1 - X / 8) (X / 8) big ([d15] ++ [((X / 8 : Nat) : Int), ((Y / 8 + 1 : Nat) : Int) - ((X / 8 : Nat) : Int)]) (by omega) (big_lt (by omega)) (by simp)
    refine ⟨_, r, by simp [M_len]; omega, ?_⟩
    have hm : ∀ z ∈ List.take (Y / 8 + 1 - X / 8) (List.drop (X / 8) (M t.Aids)), 0 ≤ z ∧ z ≤ 255 := fun z hz => M_b _ z (List.mem_of_mem_drop (List.mem_of_mem_take hz))
    rw [List.map_append, w8_map hm]
    rfl

theorem holes_e (t : Traffic) (hv : VT t) (hL : t.Aids.length ≤ 300) : ∃ E, bitmap_holes t.Aids = some E ∧ E.length ≤ 300 ∧
    ∃ m : Int, (E.length : Int) = 2 + m - t.Aids.length ∧ (bif decide (0 < (t.Aids.length : Int)) then ((idx t.Aids (IntKind.wrap .i64 ((t.Aids.length : Int) - 1))).bind fun x33 => some x33) else some 0) = some m ∧
    ∃ G, hotspotref33_EncodeAs_L17 m t big ([], 1) = some G ∧ G.length ≤ 255 ∧ ∀ d15 : Int, (([d15] ++ [m, ((G.length : Nat) : Int)]) ++ G).map w8 = w8 d15 :: E := by
  unfold bitmap_holes
  obtain ⟨p1, p2⟩ := srt_pw hv
  obtain ⟨q, q0, q1, q2, q3, q4⟩ := holes_loop t.Aids hv t.Aids 0 0 big 0 rfl (big_lt (by omega)) hv (by omega) (.inl rfl) (fun x hx => .inr hx) (by simp [gaps]) (by omega)
  simp only [Int.natCast_zero, Nat.zero_sub, gaps] at q4
  have gl := gaps_len t.Aids (q - 1) 1
  rw [q4, bindS, show idx ((q : Int) :: 0 :: gaps t.Aids 1 (q - 1)) 1 = some 0 from rfl, bindS]
  simp only [List.length_cons, List.set_cons_succ, List.set_cons_zero]
  rw [wrapI (by omega) (by omega), show (((gaps t.Aids 1 (q - 1)).length + 1 + 1 : Nat) : Int) - 2 = (((gaps t.Aids 1 (q - 1)).length : Nat) : Int) by omega]
  refine ⟨_, rfl, by simp; omega, (q : Int), by simp only [List.length_cons]; omega, ?_, gaps t.Aids 1 (q - 1), ?_, by omega, fun d15 => ?_⟩
  · by_cases h0 : t.Aids = []
    · rw [show decide (0 < (t.Aids.length : Int)) = false by rw [h0]; rfl, cond_false, q2 (by rw [h0]; rfl)]; rfl
    · have hlen : 0 < t.Aids.length := List.length_pos_iff.2 h0
      rw [decide_eq_true (by omega), cond_true, show IntKind.wrap .i64 ((t.Aids.length : Int) - 1) = ((t.Aids.length - 1 : Nat) : Int) by rw [wrapI (by omega) (by omega)]; omega, idxN]
      have : t.Aids.getLast? = t.Aids[t.Aids.length - 1]? := List.getLast?_eq_getElem?
      rw [← this]
      cases hg : t.Aids.getLast? with
      | none => rw [List.getLast?_eq_none_iff] at hg; exact absurd hg h0
      | some z => rw [bindS, q3 z hg]
  · rcases Nat.eq_zero_or_pos q with h0 | h0
    · subst h0
      rfl
    · have := rgap_loop t (by omega) q (by omega) (q - 1) 1 big [] (by omega) (big_lt (by omega)) (by simp)
      simpa using this
  · have hb : ∀ x ∈ gaps t.Aids 1 (q - 1), 0 ≤ x ∧ x ≤ 255 := fun x hx => by have := gaps_b _ _ _ x hx; omega
    rw [List.map_append, w8_map hb]
    show w8 d15 :: w8 (q : Int) :: w8 _ :: _ = _
    rw [w8_id (x := (q : Int)) (by omega)]
    rfl

/-- The encodings are the reference's. -/
theorem enc_e (t : Traffic) (hv : VT t) (hL : t.Aids.length ≤ 300) (k : Nat) (hk : k < 4) : ∃ E, bitmap_EncodeAs t (k : Int) = some (E, 0) ∧ hotspotref33_EncodeAs t (k : Int) = some (E, 0) ∧ 0 < E.length ∧ E.length ≤ 1000 := by
  obtain ⟨p1, p2⟩ := srt_pw hv
  have hr : ∀ x ∈ t.Aids, 0 ≤ x ∧ x ≤ 255 := fun x hx => by have := p2 x hx; omega
  unfold bitmap_EncodeAs hotspotref33_EncodeAs
  rw [check_e t (by omega), if_pos hv, valid_e t (by omega), decide_eq_true hv, bindS, bindS, bne_self_eq_false, cond_false, Bool.not_true, cond_false, decide_eq_false (by omega), cond_false, cond_false, fb_c _ k hk, fb_r _ k hk, bindS, bindS]
  have hfb := fb_b t.Group k hk
  have henc : bitmap_encoders = some () := rfl
  rw [henc, bindS, chk_t (by simp; omega), bindS]
  generalize fb t.Group (k : Int) = d at hfb ⊢
  have hd : w8 d = d := w8_id hfb
  have h4 : k = 0 ∨ k = 1 ∨ k = 2 ∨ k = 3 := by omega
  rcases h4 with rfl | rfl | rfl | rfl
  · simp only [Int.natCast_zero, beq_self_eq_true, cond_true]
    have r := rfull_loop t (by omega) 32 0 big [d] (by omega) (big_lt (by omega)) (by simp)
    simp only [Int.natCast_zero, List.drop_zero] at r
    rw [full_e _ (by omega) hr, bindS, chk_d (by rw [M_len]; omega), bindS, r, bindS, bindS, out_e _ (by simp [M_len]), bindS]
    refine ⟨_, rfl, ?_, by simp, by simp [M_len]⟩
    rw [List.map_append, w8_map (M_b _)]
    simp [hd]
  · simp only [show ((((1 : Nat) : Int)) == 0) = false from rfl, show ((((1 : Nat) : Int)) == 1) = true from rfl, cond_true, cond_false]
    obtain ⟨E, e1, e2, _, _, a, b, ha, hb, ho⟩ := part_e t hv hL
    obtain ⟨O, o1, o2, o3⟩ := ho d
    rw [e1, bindS, chk_d (by omega), bindS, ha, bindS, hb, bindS, o1, bindS, bindS, out_e _ (by omega), bindS]
    refine ⟨_, rfl, ?_, by simp, by simp; omega⟩
    rw [o3, hd]; rfl
  · simp only [show ((((2 : Nat) : Int)) == 0) = false from rfl, show ((((2 : Nat) : Int)) == 1) = false from rfl, show ((((2 : Nat) : Int)) == 2) = true from rfl, cond_true, cond_false]
    rw [list_e _ (by omega), bindS, chk_d (by simp; omega), bindS, chk_d (by omega), bindS, bindS, out_e _ (by simp; omega), bindS]
    refine ⟨_, rfl, ?_, by simp, by simp; omega⟩
    simp [hd]
  · simp only [show ((((3 : Nat) : Int)) == 0) = false from rfl, show ((((3 : Nat) : Int)) == 1) = false from rfl, show ((((3 : Nat) : Int)) == 2) = false from rfl, show ((((3 : Nat) : Int)) == 3) = true from rfl, cond_true, cond_false]
    obtain ⟨E, e1, e2, m, _, hm, G, g1, g2, ho⟩ := holes_e t hv hL
    rw [e1, bindS, chk_d (by omega), bindS, hm, bindS, g1, bindS, chk_d (by omega), bindS, bindS, out_e _ (by simp; omega), bindS]
    refine ⟨_, rfl, ?_, by simp, by simp; omega⟩
    rw [ho d, hd]; rfl
/-- The encodings, byte for byte at their head, and their lengths. -/
theorem enc_x (t : Traffic) (hv : VT t) (hL : t.Aids.length ≤ 300) : ∃ E0 E1 E2 E3 : List Int, bitmap_EncodeAs t 0 = some (E0, 0) ∧ bitmap_EncodeAs t 1 = some (E1, 0) ∧ bitmap_EncodeAs t 2 = some (E2, 0) ∧ bitmap_EncodeAs t 3 = some (E3, 0) ∧
    E0[0]? = some (fb t.Group 0) ∧ E1[0]? = some (fb t.Group 1) ∧ E2[0]? = some (fb t.Group 2) ∧ E3[0]? = some (fb t.Group 3) ∧ E0.length = 33 ∧ E1.length ≤ 100 ∧ E2.length = 2 + t.Aids.length ∧ E3.length ≤ 400 ∧ 0 < E1.length ∧ 0 < E3.length ∧
    (t.Aids = [] → E1.length = 3 ∧ E3.length = 3) ∧ (∀ x y, t.Aids[0]? = some x → t.Aids[t.Aids.length - 1]? = some y → (E1.length : Int) = 3 + (y / 8 + 1 - x / 8) ∧ (E3.length : Int) = 3 + y - t.Aids.length ∧ 0 < x ∧ x ≤ y ∧ y ≤ 255) := by
  obtain ⟨p1, p2⟩ := srt_pw hv
  have hr : ∀ x ∈ t.Aids, 0 ≤ x ∧ x ≤ 255 := fun x hx => by have := p2 x hx; omega
  have start : ∀ (k : Nat) (hk : k < 4), bitmap_EncodeAs t (k : Int) = (bif ((k : Int) == 0) then ((bitmap_full t.Aids).bind fun x5 => ((chk (decide (1 + x5.length ≤ 140737488355328))).bind fun x6 => some (([fb t.Group (k : Int)] ++ x5), 0))) else bif ((k : Int) == 1) then ((bitmap_part t.Aids).bind fun x5 => ((chk (decide (1 + x5.length ≤ 140737488355328))).bind fun x6 => some (([fb t.Group (k : Int)] ++ x5), 0))) else bif ((k : Int) == 2) then ((bitmap_list t.Aids).bind fun x5 => ((chk (decide (1 + x5.length ≤ 140737488355328))).bind fun x6 => some (([fb t.Group (k : Int)] ++ x5), 0))) else ((bitmap_holes t.Aids).bind fun x5 => ((chk (decide (1 + x5.length ≤ 140737488355328))).bind fun x6 => some (([fb t.Group (k : Int)] ++ x5), 0)))) := by
    intro k hk
    unfold bitmap_EncodeAs
    have henc : bitmap_encoders = some () := rfl
    rw [check_e t (by omega), if_pos hv, bindS, bne_self_eq_false, cond_false, decide_eq_false (by omega), cond_false, fb_c _ k hk, bindS, henc, bindS, chk_t (by simp; omega), bindS]
  obtain ⟨E1, e1, l1, z1, s1, _⟩ := part_e t hv hL
  obtain ⟨E3, e3, l3, m, hm, hm2, _⟩ := holes_e t hv hL
  have s := start 0 (by omega)
  rw [show ((((0 : Nat) : Int)) == 0) = true from rfl, cond_true, full_e _ (by omega) hr, bindS, chk_d (by rw [M_len]; omega), bindS] at s
  have s' := start 1 (by omega)
  rw [show ((((1 : Nat) : Int)) == 0) = false from rfl, show ((((1 : Nat) : Int)) == 1) = true from rfl, cond_false, cond_true, e1, bindS, chk_d (by omega), bindS] at s'
  have s2 := start 2 (by omega)
  rw [show ((((2 : Nat) : Int)) == 0) = false from rfl, show ((((2 : Nat) : Int)) == 1) = false from rfl, show ((((2 : Nat) : Int)) == 2) = true from rfl, cond_false, cond_false, cond_true, list_e _ (by omega), bindS, chk_d (by simp; omega), bindS] at s2
  have s3 := start 3 (by omega)
  rw [show ((((3 : Nat) : Int)) == 0) = false from rfl, show ((((3 : Nat) : Int)) == 1) = false from rfl, show ((((3 : Nat) : Int)) == 2) = false from rfl, cond_false, cond_false, cond_false, e3, bindS, chk_d (by omega), bindS] at s3
  refine ⟨_, _, _, _, s, s', s2, s3, rfl, rfl, rfl, rfl, by simp [M_len], by simp; omega, by simp; omega, by simp; omega, by simp, by simp, fun h0 => ?_, fun x y hx hy => ?_⟩
  · have := z1 h0
    rw [h0] at hm2
    have hm0 : m = 0 := by simpa using hm2.symm
    rw [h0, hm0] at hm
    simp only [List.length_append, List.length_cons, List.length_nil] at hm ⊢
    omega
  · obtain ⟨a1, a2, a3, a4⟩ := s1 x y hx hy
    have hlen : 0 < t.Aids.length := by
      have := (List.getElem?_eq_some_iff.1 hx).1; omega
    rw [decide_eq_true (by omega), cond_true, show IntKind.wrap .i64 ((t.Aids.length : Int) - 1) = ((t.Aids.length - 1 : Nat) : Int) by rw [wrapI (by omega) (by omega)]; omega, idxN, hy, bindS] at hm2
    cases hm2
    simp only [List.length_append, List.length_cons, List.length_nil]
    refine ⟨by omega, by omega, a2, a3, a4⟩
end Go.AX.Z.TD

/-! (TDB) -/

set_option linter.unusedVariables false
set_option linter.unusedSimpArgs false
namespace Go.AX.Z.TD
open Go.AX

/-! ## Bits -/

def bt (x : Int) (j : Nat) : Bool := decide ((x / 2 ^ j) % 2 = 1)
theorem bitA_t : ∀ x : Fin 256, ∀ j : Fin 8, (band .u8 (((x.val : Nat) : Int).fdiv (2 ^ (min (((j.val : Nat) : Int)).toNat 8))) 1 == 1) = bt ((x.val : Nat) : Int) j.val := by decide +kernel
theorem bitA_e {x : Int} (h : 0 ≤ x ∧ x ≤ 255) {a : Nat} (ha : a < 256) : bitA x (a : Int) = bt x (a % 8) := by
  obtain ⟨X, rfl⟩ : ∃ X : Nat, x = (X : Int) := ⟨x.toNat, by omega⟩
  unfold bitA
  rw [low_e ⟨a, ha⟩]
  exact bitA_t ⟨X, by omega⟩ ⟨a % 8, by omega⟩
theorem val_bt : ∀ b0 b1 b2 b3 b4 b5 b6 b7 : Bool, bt (val8 b0 b1 b2 b3 b4 b5 b6 b7) 0 = b0 ∧ bt (val8 b0 b1 b2 b3 b4 b5 b6 b7) 1 = b1 ∧ bt (val8 b0 b1 b2 b3 b4 b5 b6 b7) 2 = b2 ∧ bt (val8 b0 b1 b2 b3 b4 b5 b6 b7) 3 = b3 ∧ bt (val8 b0 b1 b2 b3 b4 b5 b6 b7) 4 = b4 ∧ bt (val8 b0 b1 b2 b3 b4 b5 b6 b7) 5 = b5 ∧ bt (val8 b0 b1 b2 b3 b4 b5 b6 b7) 6 = b6 ∧ bt (val8 b0 b1 b2 b3 b4 b5 b6 b7) 7 = b7 := by decide +kernel
theorem mb_bt (l : List Int) (a : Nat) : bt (mb l (a / 8)) (a % 8) = decide ((a : Int) ∈ l) := by
  unfold mb
  have h8 : a % 8 = 0 ∨ a % 8 = 1 ∨ a % 8 = 2 ∨ a % 8 = 3 ∨ a % 8 = 4 ∨ a % 8 = 5 ∨ a % 8 = 6 ∨ a % 8 = 7 := by omega
  obtain ⟨v0, v1, v2, v3, v4, v5, v6, v7⟩ := val_bt (decide (((8 * (a / 8) + 0 : Nat) : Int) ∈ l)) (decide (((8 * (a / 8) + 1 : Nat) : Int) ∈ l)) (decide (((8 * (a / 8) + 2 : Nat) : Int) ∈ l)) (decide (((8 * (a / 8) + 3 : Nat) : Int) ∈ l)) (decide (((8 * (a / 8) + 4 : Nat) : Int) ∈ l)) (decide (((8 * (a / 8) + 5 : Nat) : Int) ∈ l)) (decide (((8 * (a / 8) + 6 : Nat) : Int) ∈ l)) (decide (((8 * (a / 8) + 7 : Nat) : Int) ∈ l))
  rcases h8 with h | h | h | h | h | h | h | h
  · rw [h, v0, show 8 * (a / 8) + 0 = a by omega]
  · rw [h, v1, show 8 * (a / 8) + 1 = a by omega]
  · rw [h, v2, show 8 * (a / 8) + 2 = a by omega]
  · rw [h, v3, show 8 * (a / 8) + 3 = a by omega]
  · rw [h, v4, show 8 * (a / 8) + 4 = a by omega]
  · rw [h, v5, show 8 * (a / 8) + 5 = a by omega]
  · rw [h, v6, show 8 * (a / 8) + 6 = a by omega]
  · rw [h, v7, show 8 * (a / 8) + 7 = a by omega]
theorem bt_0 (j : Nat) : bt 0 j = false := by simp [bt]
theorem div8 (a : Nat) : ((a : Int)).fdiv (2 ^ (min 3 64)) = ((a / 8 : Nat) : Int) := by
  rw [show ((2 : Int) ^ (min 3 64)) = 8 from rfl, Int.fdiv_eq_ediv_of_nonneg _ (by decide)]; omega
theorem idxA_e {m : List Int} {i : Nat} (hi : i < 32) : idxA 32 m (i : Int) = m[i]? := by
  unfold idxA
  rw [show (decide (0 ≤ (i : Int)) && decide ((i : Int) < 32)) = true by simp; omega, cond_true, Int.toNat_natCast]
theorem aidB_e {m : List Int} {a : Nat} (ha : a < 256) {x : Int} (hx : m[a / 8]? = some x) (hb : 0 ≤ x ∧ x ≤ 255) : aidB m a = bt x (a % 8) := by
  unfold aidB
  rw [div8, idxA_e (by omega), hx]
  exact bitA_e hb ha

/-- The numbers from 'a' on, 'k' of them, of which 'f' holds. -/
def fl (f : Nat → Bool) : Nat → Nat → List Int
  | _, 0 => []
  | a, k + 1 => (if f a then [(a : Int)] else []) ++ fl f (a + 1) k
theorem fl_range (f : Nat → Bool) : ∀ (k a : Nat), ((List.range' a k).filter f).map (fun (a : Nat) => (a : Int)) = fl f a k
  | 0, a => rfl
  | k + 1, a => by
    rw [List.range'_succ, List.filter_cons, fl, ← fl_range f k (a + 1)]
    by_cases h : f a <;> simp [h]
theorem fl_congr {f g : Nat → Bool} : ∀ (k a : Nat), (∀ x, a ≤ x → x < a + k → f x = g x) → fl f a k = fl g a k
  | 0, a, _ => rfl
  | k + 1, a, h => by
    rw [fl, fl, h a (Nat.le_refl _) (by omega), fl_congr k (a + 1) fun x h1 h2 => h x (by omega) (by omega)]
theorem fl_mem {f : Nat → Bool} {x : Int} : ∀ (k a : Nat), x ∈ fl f a k ↔ ∃ n : Nat, x = (n : Int) ∧ a ≤ n ∧ n < a + k ∧ f n = true
  | 0, a => by
    constructor
    · intro h; cases h
    · rintro ⟨n, _, h1, h2, _⟩; omega
  | k + 1, a => by
    rw [fl, List.mem_append, fl_mem k (a + 1)]
    constructor
    · rintro (h | ⟨n, h1, h2, h3, h4⟩)
      · by_cases hf : f a = true
        · rw [if_pos hf, List.mem_singleton] at h
          exact ⟨a, h, Nat.le_refl _, by omega, hf⟩
        · rw [if_neg hf] at h; cases h
      · exact ⟨n, h1, by omega, by omega, h4⟩
    · rintro ⟨n, h1, h2, h3, h4⟩
      by_cases hn : n = a
      · subst hn
        left; rw [if_pos h4, List.mem_singleton]; exact h1
      · exact .inr ⟨n, h1, by omega, by omega, h4⟩
theorem fl_len {f : Nat → Bool} : ∀ (k a : Nat), (fl f a k).length ≤ k
  | 0, a => Nat.le_refl _
  | k + 1, a => by
    have := fl_len (f := f) k (a + 1)
    rw [fl, List.length_append]
    split <;> simp <;> omega
theorem srt_mono : ∀ {l : List Int} {p q : Int}, q ≤ p → Srt p l → Srt q l
  | [], _, _, _, h => h
  | x :: l, p, q, hq, h => ⟨⟨by have := h.1.1; omega, h.1.2⟩, h.2⟩
theorem fl_srt {f : Nat → Bool} : ∀ (k a : Nat), a + k ≤ 256 → Srt ((a : Int) - 1) (fl f a k)
  | 0, a, _ => trivial
  | k + 1, a, h => by
    have ih := fl_srt (f := f) k (a + 1) (by omega)
    rw [fl]
    by_cases hf : f a = true
    · rw [if_pos hf]
      exact ⟨⟨by omega, by omega⟩, srt_mono (by omega) ih⟩
    · rw [if_neg hf]
      exact srt_mono (by omega) ih
theorem srt_ext : ∀ {l m : List Int} {p q : Int}, Srt p l → Srt q m → (∀ x, x ∈ l ↔ x ∈ m) → l = m
  | [], [], _, _, _, _, _ => rfl
  | [], y :: m, _, _, _, _, h => by have := (h y).2 (List.mem_cons_self ..); cases this
  | x :: l, [], _, _, _, _, h => by have := (h x).1 (List.mem_cons_self ..); cases this
  | x :: l, y :: m, p, q, h1, h2, h => by
    obtain ⟨_, s1⟩ := srt_pw h1.2
    obtain ⟨_, s2⟩ := srt_pw h2.2
    have hxy : x = y := by
      rcases List.mem_cons.1 ((h x).1 (List.mem_cons_self ..)) with e | e
      · exact e
      · rcases List.mem_cons.1 ((h y).2 (List.mem_cons_self ..)) with e' | e'
        · exact e'.symm
        · have := (s1 y e').1; have := (s2 x e).1; omega
    subst hxy
    rw [srt_ext h1.2 h2.2 fun z => ?_]
    have hz := h z
    simp only [List.mem_cons] at hz
    constructor
    · intro hm
      rcases hz.1 (.inr hm) with e | e
      · have := (s1 z hm).1; omega
      · exact e
    · intro hm
      rcases hz.2 (.inr hm) with e | e
      · have := (s2 z hm).1; omega
      · exact e
theorem fl_in {l : List Int} (hv : Srt 0 l) : fl (fun a => decide ((a : Int) ∈ l)) 1 255 = l := by
  refine srt_ext (fl_srt 255 1 (by omega)) hv fun x => ?_
  rw [fl_mem]
  obtain ⟨_, s⟩ := srt_pw hv
  constructor
  · rintro ⟨n, rfl, _, _, h⟩; simpa using h
  · intro h
    have := s x h
    refine ⟨x.toNat, by omega, by omega, by omega, ?_⟩
    have e : ((x.toNat : Nat) : Int) = x := by omega
    simpa [e] using h
theorem aidsL_e {d : List Int} {f : Nat → Bool} (h : ∀ a, a < 256 → aidB d a = f a) : aidsL d = fl f 0 256 := by
  unfold aidsL aidsN
  rw [List.range_eq_range', fl_range]
  exact fl_congr 256 0 fun x _ hx => h x (by omega)
theorem aidB_M (l : List Int) {a : Nat} (ha : a < 256) : aidB (M l) a = decide ((a : Int) ∈ l) := by
  rw [aidB_e ha (M_get l (by omega)) (mb_b _ _), mb_bt]

/-! ## Bytes -/
def By (b : List Int) : Prop := ∀ x ∈ b, 0 ≤ x ∧ x ≤ 255
theorem byte_t : ∀ x : Fin 256, bandn .u8 ((x.val : Nat) : Int) 128 = ((x.val % 128 : Nat) : Int) ∧ (band .u8 ((x.val : Nat) : Int) 128 != 0) = decide (128 ≤ ((x.val : Nat) : Int)) ∧ (IntKind.wrap .i64 ((x.val : Nat) : Int)).tmod 128 = ((x.val % 128 : Nat) : Int) ∧ IntKind.wrap .u8 ((x.val % 128 : Nat) : Int) = ((x.val % 128 : Nat) : Int) := by decide +kernel
theorem same_t : ∀ (A B l m : List Int) (i n : Nat), A.length ≤ 2000 → A.drop i = l → B.drop i = m → l.length = m.length → l.length < n → hotspotref33_Same_L2 A B n (i : Int) = some (if l = m then Ex.go () else Ex.ret false) := by
  intro A B l
  induction l with
  | nil =>
    intro m i n hA h h' hl hn
    obtain ⟨n, rfl⟩ : ∃ m, n = m + 1 := ⟨n - 1, by simp at hn; omega⟩
    have hm : m = [] := List.length_eq_zero_iff.1 hl.symm
    have hd := drop_n h
    rw [hotspotref33_Same_L2, ge_dec hd, if_pos hm.symm]; rfl
  | cons x l ih =>
    intro m i n hA h h' hl hn
    obtain ⟨n, rfl⟩ : ∃ m, n = m + 1 := ⟨n - 1, by simp at hn; omega⟩
    obtain ⟨h1, h2, h3⟩ := drop_c h
    cases m with
    | nil => simp at hl
    | cons y m =>
      obtain ⟨g1, g2, g3⟩ := drop_c h'
      rw [hotspotref33_Same_L2, lt_dec h3]
      simp only [cond_true, idxN, h1, g1, bindS]
      by_cases hxy : x = y
      · subst hxy
        rw [bne_self_eq_false, cond_false, wrapN (by omega), ih m (i + 1) n hA h2 g2 (by simpa using hl) (by simp at hn; omega)]
        congr 1
        by_cases hlm : l = m
        · rw [if_pos hlm, if_pos (by rw [hlm])]
        · rw [if_neg hlm, if_neg (fun h => hlm (by injection h))]
      · rw [show (x != y) = true by simpa using hxy, cond_true, if_neg (fun h => hxy (by injection h))]
theorem same_d (A B : List Int) (hA : A.length ≤ 2000) : hotspotref33_Same A B = some (decide (A = B)) := by
  unfold hotspotref33_Same
  by_cases hl : A.length = B.length
  · rw [show ((A.length : Int) != (B.length : Int)) = false by rw [hl, bne_self_eq_false], cond_false]
    have := same_t A B A B 0 big hA rfl rfl hl (big_lt (by omega))
    simp only [Int.natCast_zero] at this
    rw [this, bindS]
    by_cases h : A = B
    · rw [if_pos h, decide_eq_true h]; rfl
    · rw [if_neg h, decide_eq_false h]; rfl
  · rw [show ((A.length : Int) != (B.length : Int)) = true by simp; omega, cond_true, decide_eq_false (fun h => hl (by rw [h]))]
theorem equal_l : ∀ (n : Nat) (A B : List Int) (i : Int), slices_Equal_byte_byte_L2 A B n i = hotspotref33_Same_L2 A B n i
  | 0, A, B, i => rfl
  | n + 1, A, B, i => by
    rw [slices_Equal_byte_byte_L2, hotspotref33_Same_L2]
    simp only [equal_l n]
theorem equal_d (A B : List Int) (hA : A.length ≤ 2000) : slices_Equal_byte_byte A B = some (decide (A = B)) := by
  rw [← same_d A B hA]
  unfold slices_Equal_byte_byte hotspotref33_Same
  rw [equal_l]
end Go.AX.Z.TD

/-! (TDC) -/

set_option linter.unusedVariables false
set_option linter.unusedSimpArgs false
namespace Go.AX.Z.TD
open Go.AX

/-! ## What bytes name -/

def P (b : List Int) (k a : Nat) : Bool :=
  if k = 0 then bt (b.getD (1 + a / 8) 0) (a % 8)
  else if k = 1 then decide (b.getD 1 0 ≤ ((a / 8 : Nat) : Int)) && decide (3 + a / 8 - (b.getD 1 0).toNat < b.length) && bt (b.getD (3 + a / 8 - (b.getD 1 0).toNat) 0) (a % 8)
  else if k = 2 then decide ((a : Int) ∈ b.drop 2)
  else decide (1 ≤ a) && decide ((a : Int) ≤ b.getD 1 0) && !decide ((a : Int) ∈ b.drop 3)

/-- The length is what the first bytes say. -/
def LOk (b : List Int) (k : Nat) : Prop := By b ∧ b.length ≤ 600 ∧ (k = 0 → b.length = 33) ∧ ((k = 1 ∨ k = 3) → 3 ≤ b.length ∧ b.getD 2 0 = (b.length : Int) - 3) ∧ (k = 2 → 2 ≤ b.length ∧ b.getD 1 0 = (b.length : Int) - 2)

theorem putL_get {d x : List Int} {off i : Nat} (h : off + x.length ≤ d.length) : (putL d off x)[i]? = if i < off then d[i]? else if i < off + x.length then x[i - off]? else d[i]? := by
  unfold putL
  have e1 : (d.take off).length = off := by simp; omega
  rw [List.append_assoc, List.getElem?_append]
  rw [e1]
  by_cases h1 : i < off
  · rw [if_pos h1, if_pos h1, List.getElem?_take, if_pos h1]
  · rw [if_neg h1, if_neg h1, List.getElem?_append]
    by_cases h2 : i < off + x.length
    · rw [if_pos (by omega), if_pos h2]
    · rw [if_neg (by omega), if_neg h2, List.getElem?_drop]
      congr 1; omega
theorem getD_of {b : List Int} {i : Nat} {x : Int} (h : b[i]? = some x) : b.getD i 0 = x := by
  rw [List.getD_eq_getElem?_getD, h]; rfl
theorem get_of {b : List Int} {i : Nat} (h : i < b.length) : b[i]? = some (b.getD i 0) := by
  rw [List.getD_eq_getElem?_getD, List.getElem?_eq_getElem h]; rfl
theorem by_get {b : List Int} (hb : By b) (i : Nat) : 0 ≤ b.getD i 0 ∧ b.getD i 0 ≤ 255 := by
  rcases Nat.lt_or_ge i b.length with h | h
  · exact hb _ (List.mem_of_getElem? (get_of h))
  · rw [List.getD_eq_getElem?_getD, List.getElem?_eq_none h]
    exact ⟨by decide, by decide⟩
theorem div8' (a : Nat) : ((a : Int)).fdiv (2 ^ (min 3 8)) = ((a / 8 : Nat) : Int) := by
  rw [show ((2 : Int) ^ (min 3 8)) = 8 from rfl, Int.fdiv_eq_ediv_of_nonneg _ (by decide)]; omega
theorem low_u : ∀ x : Fin 256, band .u8 (x.val : Int) 7 = ((x.val % 8 : Nat) : Int) := by decide +kernel

theorem read3_loop (b : List Int) (hb : By b) (hL : b.length ≤ 600) : ∀ (l p : List Int) (i n : Nat), (b.drop 2).drop i = l → l.length < n → bitmap_read_L3 b n (M p, (i : Int)) = some (M (p ++ l)) := by
  intro l
  induction l with
  | nil =>
    intro p i n h hn
    obtain ⟨n, rfl⟩ : ∃ m, n = m + 1 := ⟨n - 1, by simp at hn; omega⟩
    have hd := drop_n h
    rw [bitmap_read_L3, ge_dec hd, List.append_nil]; rfl
  | cons x l ih =>
    intro p i n h hn
    obtain ⟨n, rfl⟩ : ∃ m, n = m + 1 := ⟨n - 1, by simp at hn; omega⟩
    obtain ⟨h1, h2, h3⟩ := drop_c h
    have hx := hb x (List.mem_of_mem_drop (List.mem_of_getElem? h1))
    obtain ⟨X, rfl⟩ : ∃ X : Nat, x = (X : Int) := ⟨x.toNat, by omega⟩
    have hX : X < 256 := by omega
    rw [bitmap_read_L3, lt_dec h3]
    simp only [cond_true, idxN, h1, bindS]
    rw [div8', idxA_e (by omega), M_get p (by omega), bindS, low_u ⟨X, hX⟩, chk_d (by omega), bindS, Int.toNat_natCast, ← mb_snoc p X hX, M_set p X hX, wrapN (by simp at h3; omega), ih (p ++ [(X : Int)]) (i + 1) n h2 (by simp at hn; omega)]
    simp

theorem contains_loop (L : List Int) (a : Int) (hL : L.length ≤ 600) : ∀ (l : List Int) (i n : Nat), L.drop i = l → l.length < n → ∃ o, slices_Index_byte_byte_L2 L a n (i : Int) = some o ∧ ((a ∈ l ∧ ∃ j : Nat, o = Ex.ret (j : Int)) ∨ (a ∉ l ∧ o = Ex.go ())) := by
  intro l
  induction l with
  | nil =>
    intro i n h hn
    obtain ⟨n, rfl⟩ : ∃ m, n = m + 1 := ⟨n - 1, by simp at hn; omega⟩
    have hd := drop_n h
    rw [slices_Index_byte_byte_L2, ge_dec hd]
    exact ⟨_, rfl, .inr ⟨by simp, rfl⟩⟩
  | cons x l ih =>
    intro i n h hn
    obtain ⟨n, rfl⟩ : ∃ m, n = m + 1 := ⟨n - 1, by simp at hn; omega⟩
    obtain ⟨h1, h2, h3⟩ := drop_c h
    rw [slices_Index_byte_byte_L2, lt_dec h3]
    simp only [cond_true, idxN, h1, bindS]
    by_cases hx : a = x
    · subst hx
      rw [beq_self_eq_true, cond_true]
      exact ⟨_, rfl, .inl ⟨List.mem_cons_self .., i, rfl⟩⟩
    · rw [show (a == x) = false by simpa using hx, cond_false, wrapN (by omega)]
      obtain ⟨o, ho, hc⟩ := ih (i + 1) n h2 (by simp at hn; omega)
      refine ⟨o, ho, ?_⟩
      rcases hc with ⟨hm, j, hj⟩ | ⟨hm, hj⟩
      · exact .inl ⟨List.mem_cons_of_mem _ hm, j, hj⟩
      · exact .inr ⟨by simp only [List.mem_cons, not_or]; exact ⟨hx, hm⟩, hj⟩
theorem contains_e (L : List Int) (a : Int) (hL : L.length ≤ 600) : slices_Contains_byte_byte L a = some (decide (a ∈ L)) := by
  unfold slices_Contains_byte_byte slices_Index_byte_byte
  obtain ⟨o, ho, hc⟩ := contains_loop L a hL L 0 big rfl (big_lt (by omega))
  simp only [Int.natCast_zero] at ho
  rw [ho, bindS]
  rcases hc with ⟨hm, j, rfl⟩ | ⟨hm, rfl⟩
  · rw [Ex.k_ret', bindS, decide_eq_true hm, decide_eq_true (by omega)]
  · rw [Ex.k_go', bindS, decide_eq_false hm]; rfl

theorem read6_loop (b : List Int) (hb : By b) (hL : b.length ≤ 600) (h3 : 3 ≤ b.length) (q : Nat) (hq : b.getD 1 0 = (q : Int)) : ∀ (d i n : Nat) (p : List Int), i + d = q + 1 → d < n → bitmap_read_L6 b n (M p, (i : Int)) = some (M (p ++ gaps (b.drop 3) i d)) := by
  have hq1 : b[1]? = some (q : Int) := by rw [get_of (by omega), hq]
  have hqb : q ≤ 255 := by have := by_get hb 1; omega
  intro d
  induction d with
  | zero =>
    intro i n p hi hn
    obtain ⟨n, rfl⟩ : ∃ m, n = m + 1 := ⟨n - 1, by omega⟩
    rw [bitmap_read_L6, show idx b 1 = b[1]? from idxN b 1, hq1, bindS, wrapI (by omega) (by omega), decide_eq_false (by simp; omega), cond_false]
    simp [gaps]
  | succ d ih =>
    intro i n p hi hn
    obtain ⟨n, rfl⟩ : ∃ m, n = m + 1 := ⟨n - 1, by omega⟩
    have hi8 : IntKind.wrap .u8 (i : Int) = (i : Int) := w8_id (x := (i : Int)) (by omega)
    rw [bitmap_read_L6, show idx b 1 = b[1]? from idxN b 1, hq1, bindS, wrapI (by omega) (by omega), decide_eq_true (by simp; omega), cond_true, chk_d (by omega), bindS]
    simp only [hi8]
    rw [contains_e _ _ (by simp; omega), bindS, gaps]
    by_cases hm : (i : Int) ∈ b.drop 3
    · rw [decide_eq_true hm, Bool.not_true, cond_false, if_pos hm, wrapN (by omega), ih (i + 1) n p (by omega) (by omega)]
      simp
    · rw [decide_eq_false hm, Bool.not_false, cond_true, if_neg hm, div8, idxA_e (by omega), M_get p (by omega), bindS, low_e ⟨i, by omega⟩, chk_d (by omega), bindS, Int.toNat_natCast, ← mb_snoc p i (by omega), M_set p i (by omega), wrapN (by omega), ih (i + 1) n (p ++ [(i : Int)]) (by omega) (by omega)]
      simp
theorem gaps_mem (l : List Int) : ∀ (k a : Nat) (x : Nat), (x : Int) ∈ gaps l a k ↔ a ≤ x ∧ x < a + k ∧ (x : Int) ∉ l
  | 0, a, x => by simp [gaps]; omega
  | k + 1, a, x => by
    rw [gaps, List.mem_append, gaps_mem l k (a + 1) x]
    constructor
    · rintro (h | ⟨h1, h2, h3⟩)
      · split at h
        · cases h
        · rename_i hn
          rw [List.mem_singleton] at h
          have e : x = a := by omega
          subst e
          exact ⟨Nat.le_refl _, by omega, hn⟩
      · exact ⟨by omega, by omega, h3⟩
    · rintro ⟨h1, h2, h3⟩
      by_cases e : x = a
      · subst e
        rw [if_neg h3]; exact .inl (List.mem_singleton.2 rfl)
      · exact .inr ⟨by omega, by omega, h3⟩

theorem read_ok {b : List Int} {k : Nat} (hk : k < 4) (h : LOk b k) {x : Int} (hx : b[0]? = some x) (hxk : x % 128 = (k : Int)) : bitmap_read b = some (fl (P b k) 0 256) := by
  obtain ⟨hb, hL, l0, l1, l2⟩ := h
  have hxb := hb x (List.mem_of_getElem? hx)
  obtain ⟨X, rfl⟩ : ∃ X : Nat, x = (X : Int) := ⟨x.toNat, by omega⟩
  have hbt := (byte_t ⟨X, by omega⟩).1
  have hX : X % 128 = k := by omega
  unfold bitmap_read
  rw [idx0, hx, bindS, show bandn .u8 ((X : Nat) : Int) 128 = (k : Int) by rw [← hX]; exact hbt]
  have fin : ∀ d : List Int, d.length = 32 → (∀ a, a < 256 → aidB d a = P b k a) → ((some d).bind fun d11 => ((chk (decide (d11.length = 32))).bind fun x30 => some (aidsL d11))) = some (fl (P b k) 0 256) := by
    intro d hd hf
    rw [bindS, chk_d hd, bindS, aidsL_e hf]
  have h4 : k = 0 ∨ k = 1 ∨ k = 2 ∨ k = 3 := by omega
  have hrep : (List.replicate 32 (0 : Int)).length = 32 := List.length_replicate
  rcases h4 with rfl | rfl | rfl | rfl
  · have hl := l0 rfl
    rw [show ((((0 : Nat) : Int)) == 0) = true from rfl, cond_true, chk_d (by simp), bindS, chk_d (by omega), bindS]
    have hlen : (List.take (min (List.drop 1 b).length 32) (List.drop 1 b)).length = 32 := by simp; omega
    have hget : ∀ i, i < 32 → (putL (List.replicate 32 0) 0 (List.take (min (List.drop 1 b).length 32) (List.drop 1 b)))[i]? = some (b.getD (1 + i) 0) := by
      intro i hi
      rw [putL_get (by rw [hlen, hrep]; omega), if_neg (by omega), hlen, if_pos (by omega), List.getElem?_take, if_pos (by simp; omega), List.getElem?_drop, Nat.sub_zero, get_of (by omega)]
    refine fin _ (by simp [putL]; omega) fun a ha => ?_
    rw [aidB_e ha (hget _ (by omega)) (by_get hb _)]; rfl
  · obtain ⟨hl, hl2⟩ := l1 (.inl rfl)
    obtain ⟨Y, hY⟩ : ∃ Y : Nat, b.getD 1 0 = (Y : Int) := ⟨(b.getD 1 0).toNat, by have := by_get hb 1; omega⟩
    have hYb : Y ≤ 255 := by have := by_get hb 1; omega
    have hget1 : b[1]? = some (Y : Int) := by rw [get_of (by omega), hY]
    rw [show ((((1 : Nat) : Int)) == 0) = false from rfl, show ((((1 : Nat) : Int)) == 1) = true from rfl, cond_true, cond_false, show idx b 1 = b[1]? from idxN b 1, hget1, bindS, wrapI (by omega) (by omega)]
    by_cases hY32 : Y < 32
    · rw [decide_eq_true (by omega), cond_true, chk_t (by simp; omega), bindS, chk_d (by omega), bindS, Int.toNat_natCast, show ((32 : Int) - (Y : Int)).toNat = 32 - Y by omega]
      have hlen : (List.take (min (List.drop 3 b).length (32 - Y)) (List.drop 3 b)).length = min (b.length - 3) (32 - Y) := by simp
      have hpl : (putL (List.replicate 32 0) Y (List.take (min (List.drop 3 b).length (32 - Y)) (List.drop 3 b))).length = 32 := by
        simp only [putL, List.length_append, hlen, List.length_take, List.length_drop, hrep]; omega
      refine fin _ hpl fun a ha => ?_
      have hg := putL_get (d := List.replicate 32 0) (off := Y) (x := List.take (min (List.drop 3 b).length (32 - Y)) (List.drop 3 b)) (i := a / 8) (by rw [hlen, hrep]; omega)
      rw [hlen] at hg
      have hz : (List.replicate 32 (0 : Int))[a / 8]? = some 0 := by rw [List.getElem?_replicate, if_pos (by omega)]
      have hP : P b 1 a = (decide (b.getD 1 0 ≤ ((a / 8 : Nat) : Int)) && decide (3 + a / 8 - (b.getD 1 0).toNat < b.length) && bt (b.getD (3 + a / 8 - (b.getD 1 0).toNat) 0) (a % 8)) := rfl
      rw [hP, hY, Int.toNat_natCast]
      by_cases h1 : a / 8 < Y
      · rw [if_pos h1, hz] at hg
        rw [aidB_e ha hg (by omega), bt_0, decide_eq_false (by omega)]; rfl
      · rw [if_neg h1] at hg
        by_cases h2 : a / 8 < Y + min (b.length - 3) (32 - Y)
        · rw [if_pos h2, List.getElem?_take, if_pos (by simp; omega), List.getElem?_drop, show 3 + (a / 8 - Y) = 3 + a / 8 - Y by omega, get_of (b := b) (i := 3 + a / 8 - Y) (by omega)] at hg
          rw [aidB_e ha hg (by_get hb _), decide_eq_true (by omega), decide_eq_true (by omega)]; rfl
        · rw [if_neg h2, hz] at hg
          rw [aidB_e ha hg (by omega), bt_0, decide_eq_false (p := 3 + a / 8 - Y < b.length) (by omega), Bool.and_false, Bool.false_and]
    · rw [decide_eq_false (by omega), cond_false]
      refine fin _ hrep fun a ha => ?_
      have hz : (List.replicate 32 (0 : Int))[a / 8]? = some 0 := by rw [List.getElem?_replicate, if_pos (by omega)]
      have hP : P b 1 a = (decide (b.getD 1 0 ≤ ((a / 8 : Nat) : Int)) && decide (3 + a / 8 - (b.getD 1 0).toNat < b.length) && bt (b.getD (3 + a / 8 - (b.getD 1 0).toNat) 0) (a % 8)) := rfl
      rw [aidB_e ha hz (by omega), bt_0, hP, hY, decide_eq_false (by omega)]; rfl
  · obtain ⟨hl, hl2⟩ := l2 rfl
    rw [show ((((2 : Nat) : Int)) == 0) = false from rfl, show ((((2 : Nat) : Int)) == 1) = false from rfl, show ((((2 : Nat) : Int)) == 2) = true from rfl, cond_true, cond_false, cond_false, chk_d (by omega), bindS]
    have := read3_loop b hb hL (b.drop 2) [] 0 big rfl (big_lt (by simp; omega))
    rw [M_nil] at this
    simp only [Int.natCast_zero, List.nil_append] at this
    rw [this, bindS]
    exact fin _ (M_len _) fun a ha => by rw [aidB_M _ ha]; rfl
  · obtain ⟨hl, hl2⟩ := l1 (.inr rfl)
    obtain ⟨Y, hY⟩ : ∃ Y : Nat, b.getD 1 0 = (Y : Int) := ⟨(b.getD 1 0).toNat, by have := by_get hb 1; omega⟩
    rw [show ((((3 : Nat) : Int)) == 0) = false from rfl, show ((((3 : Nat) : Int)) == 1) = false from rfl, show ((((3 : Nat) : Int)) == 2) = false from rfl, cond_false, cond_false, cond_false]
    have hYb : Y ≤ 255 := by have := by_get hb 1; omega
    have := read6_loop b hb hL hl Y hY Y 1 big [] (by omega) (big_lt (by omega))
    rw [M_nil] at this
    simp only [List.nil_append] at this
    rw [show ((1 : Nat) : Int) = 1 from rfl] at this
    rw [this, bindS]
    refine fin _ (M_len _) fun a ha => ?_
    have hP : P b 3 a = (decide (1 ≤ a) && decide ((a : Int) ≤ b.getD 1 0) && !decide ((a : Int) ∈ b.drop 3)) := rfl
    rw [aidB_M _ ha, hP, hY, Bool.eq_iff_iff]
    simp only [decide_eq_true_eq, Bool.and_eq_true, Bool.not_eq_true', decide_eq_false_iff_not, gaps_mem]
    constructor
    · rintro ⟨h1, h2, h3⟩; exact ⟨⟨h1, by omega⟩, h3⟩
    · rintro ⟨⟨h1, h2⟩, h3⟩; exact ⟨h1, by omega, h3⟩
end Go.AX.Z.TD

/-! (TDE) -/

set_option linter.unusedVariables false
set_option linter.unusedSimpArgs false
namespace Go.AX.Z.TD
open Go.AX

/-! ## The reference's reading -/

theorem named4_loop (a : Nat) (ha : a < 256) (x : Nat) (hx : x < 256) : ∀ (d i n : Nat), i + d = a % 8 → d < n → hotspotref33_named_L4 (a : Int) n (((x / 2 ^ i : Nat) : Int), (i : Int)) = some ((x / 2 ^ (a % 8) : Nat) : Int) := by
  have hm : ((a : Int)).tmod 8 = ((a % 8 : Nat) : Int) := by rw [Int.tmod_eq_emod_of_nonneg (by omega)]; omega
  intro d
  induction d with
  | zero =>
    intro i n hi hn
    obtain ⟨n, rfl⟩ : ∃ m, n = m + 1 := ⟨n - 1, by omega⟩
    rw [hotspotref33_named_L4, hm, decide_eq_false (by simp; omega), cond_false]
    rw [show i = a % 8 by omega]
  | succ d ih =>
    intro i n hi hn
    obtain ⟨n, rfl⟩ : ∃ m, n = m + 1 := ⟨n - 1, by omega⟩
    have e1 : (((x / 2 ^ i : Nat) : Int)).tdiv 2 = ((x / 2 ^ (i + 1) : Nat) : Int) := by
      rw [Nat.pow_succ, ← Nat.div_div_eq_div_mul]
      generalize x / 2 ^ i = Q
      rw [Int.tdiv_eq_ediv_of_nonneg (by omega)]; omega
    have hle' : x / 2 ^ (i + 1) ≤ x := Nat.div_le_self _ _
    have e2 : IntKind.wrap .i64 ((x / 2 ^ (i + 1) : Nat) : Int) = ((x / 2 ^ (i + 1) : Nat) : Int) := by
      generalize x / 2 ^ (i + 1) = Q at hle' ⊢
      exact wrapI (by omega) (by omega)
    rw [hotspotref33_named_L4, hm, decide_eq_true (by simp; omega), cond_true]
    simp only
    rw [e1, e2, wrapN (by omega), ih (i + 1) n (by omega) (by omega)]
theorem named7_loop (b : List Int) (hb : By b) (hL : b.length ≤ 600) (a : Int) : ∀ (l : List Int) (i n : Nat) (f : Bool), b.drop i = l → l.length < n → hotspotref33_named_L7 b a n (f, (i : Int)) = some (f || decide (a ∈ l)) := by
  intro l
  induction l with
  | nil =>
    intro i n f h hn
    obtain ⟨n, rfl⟩ : ∃ m, n = m + 1 := ⟨n - 1, by simp at hn; omega⟩
    have hd := drop_n h
    rw [hotspotref33_named_L7, ge_dec hd]; simp
  | cons x l ih =>
    intro i n f h hn
    obtain ⟨n, rfl⟩ : ∃ m, n = m + 1 := ⟨n - 1, by simp at hn; omega⟩
    obtain ⟨h1, h2, h3⟩ := drop_c h
    have hx := hb x (List.mem_of_getElem? h1)
    have hn' : l.length < n := by simp at hn; omega
    rw [hotspotref33_named_L7, lt_dec h3]
    simp only [cond_true, idxN, h1, bindS]
    rw [wrapI (by omega) (by omega), wrapN (by omega)]
    cases f with
    | true => rw [cond_true, bindS, ih (i + 1) n true h2 hn']; simp
    | false =>
      rw [cond_false, bindS, ih (i + 1) n _ h2 hn']
      congr 1
      rw [Bool.false_or, Bool.eq_iff_iff]
      simp only [Bool.or_eq_true, beq_iff_eq, decide_eq_true_eq, List.mem_cons]
      rw [eq_comm]

theorem bt_tmod (x : Nat) (hx : x < 256) (j : Nat) : ((((x / 2 ^ j : Nat) : Int)).tmod 2 == 1) = bt (x : Int) j := by
  unfold bt
  have e : ((x : Int) / 2 ^ j) = ((x / 2 ^ j : Nat) : Int) := by
    rw [Int.natCast_ediv]; simp
  rw [e]
  generalize x / 2 ^ j = Q
  rw [Int.tmod_eq_emod_of_nonneg (by omega), Bool.eq_iff_iff]
  simp

theorem named_e {b : List Int} {k : Nat} (hk : k < 4) (h : LOk b k) {a : Nat} (ha1 : 1 ≤ a) (ha : a < 256) : hotspotref33_named b (k : Int) (a : Int) = some (P b k a) := by
  obtain ⟨hb, hL, l0, l1, l2⟩ := h
  have ht : ((a : Int)).tdiv 8 = ((a / 8 : Nat) : Int) := by rw [Int.tdiv_eq_ediv_of_nonneg (by omega)]; omega
  unfold hotspotref33_named
  have n4 : ∀ x : Nat, x < 256 → hotspotref33_named_L4 (a : Int) big ((x : Int), 0) = some ((x / 2 ^ (a % 8) : Nat) : Int) := by
    intro x hx
    have := named4_loop a ha x hx (a % 8) 0 big (by omega) (big_lt (by omega))
    simpa using this
  have h4 : k = 0 ∨ k = 1 ∨ k = 2 ∨ k = 3 := by omega
  rcases h4 with rfl | rfl | rfl | rfl
  · have hl := l0 rfl
    obtain ⟨x, hx⟩ : ∃ x : Nat, b.getD (1 + a / 8) 0 = (x : Int) := ⟨(b.getD (1 + a / 8) 0).toNat, by have := by_get hb (1 + a / 8); omega⟩
    have hxb : x < 256 := by have := by_get hb (1 + a / 8); omega
    have hg : b[1 + a / 8]? = some (x : Int) := by rw [get_of (by omega), hx]
    rw [show decide ((((0 : Nat) : Int)) < 2) = true from rfl, cond_true, show ((((0 : Nat) : Int)) == 1) = false from rfl, cond_false, bindS]
    simp only [ht]
    rw [wrapI (i := ((a / 8 : Nat) : Int)) (by omega) (by omega), show (1 : Int) + ((a / 8 : Nat) : Int) = ((1 + a / 8 : Nat) : Int) by omega, wrapI (by omega) (by omega), decide_eq_false (by omega), decide_eq_false (by omega), Bool.or_self, cond_false, idxN, hg, bindS, wrapI (by omega) (by omega), n4 x hxb, bindS, bindS, Ex.k_ret']
    congr 1
    rw [bt_tmod x hxb]
    show _ = bt (b.getD (1 + a / 8) 0) (a % 8)
    rw [hx]
  · obtain ⟨hl, hl2⟩ := l1 (.inl rfl)
    obtain ⟨Y, hY⟩ : ∃ Y : Nat, b.getD 1 0 = (Y : Int) := ⟨(b.getD 1 0).toNat, by have := by_get hb 1; omega⟩
    have hYb : Y ≤ 255 := by have := by_get hb 1; omega
    have hget1 : b[1]? = some (Y : Int) := by rw [get_of (by omega), hY]
    have hP : P b 1 a = (decide (b.getD 1 0 ≤ ((a / 8 : Nat) : Int)) && decide (3 + a / 8 - (b.getD 1 0).toNat < b.length) && bt (b.getD (3 + a / 8 - (b.getD 1 0).toNat) 0) (a % 8)) := rfl
    rw [hP, hY, Int.toNat_natCast]
    rw [show decide ((((1 : Nat) : Int)) < 2) = true from rfl, cond_true, show ((((1 : Nat) : Int)) == 1) = true from rfl, cond_true, show idx b 1 = b[1]? from idxN b 1, hget1, bindS, bindS]
    simp only [ht]
    rw [wrapI (i := ((a / 8 : Nat) : Int)) (by omega) (by omega), wrapI (i := (Y : Int)) (by omega) (by omega), wrapI (i := ((a / 8 : Nat) : Int) - (Y : Int)) (by omega) (by omega), wrapI (by omega) (by omega)]
    by_cases h1 : Y ≤ a / 8
    · by_cases h2 : 3 + a / 8 - Y < b.length
      · obtain ⟨x, hx⟩ : ∃ x : Nat, b.getD (3 + a / 8 - Y) 0 = (x : Int) := ⟨(b.getD (3 + a / 8 - Y) 0).toNat, by have := by_get hb (3 + a / 8 - Y); omega⟩
        have hxb : x < 256 := by have := by_get hb (3 + a / 8 - Y); omega
        have hg : b[3 + a / 8 - Y]? = some (x : Int) := by rw [get_of h2, hx]
        rw [show (3 : Int) + (((a / 8 : Nat) : Int) - (Y : Int)) = ((3 + a / 8 - Y : Nat) : Int) by omega, decide_eq_false (by omega), decide_eq_false (by omega), Bool.or_self, cond_false, idxN, hg, bindS, wrapI (by omega) (by omega), n4 x hxb, bindS, bindS, Ex.k_ret', bt_tmod x hxb, decide_eq_true (by omega), decide_eq_true h2, hx]; rfl
      · rw [show (decide ((((a / 8 : Nat) : Int) - (Y : Int)) < 0) || decide ((b.length : Int) ≤ 3 + (((a / 8 : Nat) : Int) - (Y : Int)))) = true by simp; omega, cond_true, bindS, Ex.k_ret', decide_eq_false h2, Bool.and_false, Bool.false_and]
    · rw [show (decide ((((a / 8 : Nat) : Int) - (Y : Int)) < 0) || decide ((b.length : Int) ≤ 3 + (((a / 8 : Nat) : Int) - (Y : Int)))) = true by simp; omega, cond_true, bindS, Ex.k_ret', decide_eq_false (by omega)]; rfl
  · obtain ⟨hl, hl2⟩ := l2 rfl
    rw [show decide ((((2 : Nat) : Int)) < 2) = false from rfl, cond_false, bindS, Ex.k_go', named7_loop b hb hL a (b.drop 2) 2 big false rfl (big_lt (by simp; omega)), bindS, show ((((2 : Nat) : Int)) == 2) = true from rfl, cond_true]
    rfl
  · obtain ⟨hl, hl2⟩ := l1 (.inr rfl)
    have hg : b[1]? = some (b.getD 1 0) := get_of (by omega)
    have hgb := by_get hb 1
    rw [show decide ((((3 : Nat) : Int)) < 2) = false from rfl, cond_false, bindS, Ex.k_go', named7_loop b hb hL a (b.drop 3) 3 big false rfl (big_lt (by simp; omega)), bindS, show ((((3 : Nat) : Int)) == 2) = false from rfl, cond_false, show idx b 1 = b[1]? from idxN b 1, hg, bindS, wrapI (by omega) (by omega)]
    have hP : P b 3 a = (decide (1 ≤ a) && decide ((a : Int) ≤ b.getD 1 0) && !decide ((a : Int) ∈ b.drop 3)) := rfl
    rw [hP, decide_eq_true ha1, Bool.true_and, Bool.false_or]

theorem rdec_loop {b : List Int} {k : Nat} (hk : k < 4) (h : LOk b k) {x : Int} (hxk : (IntKind.wrap .i64 x).tmod 128 = (k : Int)) : ∀ (d i n : Nat) (acc : List Int), i + d = 256 → 1 ≤ i → d < n → acc.length ≤ i → hotspotref33_Decode_L2 b x n (acc, (i : Int)) = some (acc ++ fl (P b k) i d) := by
  intro d
  induction d with
  | zero =>
    intro i n acc hi h1 hn ha
    obtain ⟨n, rfl⟩ : ∃ m, n = m + 1 := ⟨n - 1, by omega⟩
    rw [hotspotref33_Decode_L2, decide_eq_false (by simp; omega), cond_false]
    simp [fl]
  | succ d ih =>
    intro i n acc hi h1 hn ha
    obtain ⟨n, rfl⟩ : ∃ m, n = m + 1 := ⟨n - 1, by omega⟩
    rw [hotspotref33_Decode_L2, decide_eq_true (by simp; omega), cond_true]
    simp only
    rw [hxk, named_e hk h h1 (by omega), bindS, fl, wrapN (by omega)]
    by_cases hp : P b k i = true
    · rw [hp, cond_true, chk_d (by omega), bindS, ih (i + 1) n _ (by omega) (by omega) (by omega) (by simp; omega), if_pos rfl]
      simp
    · rw [Bool.not_eq_true] at hp
      rw [hp, cond_false, ih (i + 1) n _ (by omega) (by omega) (by omega) (by omega)]
      simp
theorem rdec_e {b : List Int} {k : Nat} (hk : k < 4) (h : LOk b k) {x : Int} (hxk : (IntKind.wrap .i64 x).tmod 128 = (k : Int)) : hotspotref33_Decode_L2 b x big ([], 1) = some (fl (P b k) 1 255) := by
  have := rdec_loop hk h hxk 255 1 big [] (by omega) (by omega) (big_lt (by omega)) (by simp)
  simpa using this
end Go.AX.Z.TD

/-! (TDG) -/

set_option linter.unusedVariables false
set_option linter.unusedSimpArgs false
namespace Go.AX.Z.TD
open Go.AX

/-! ## The encodings, byte for byte -/

theorem mb_z {l : List Int} {i : Nat} (h : ∀ x ∈ l, 0 ≤ x → x / 8 ≠ (i : Int)) : mb l i = 0 := by
  rcases Decidable.em (mb l i = 0) with e | e
  · exact e
  · obtain ⟨x, hx, h0, h1⟩ := (mb_0 _ _).1 e
    exact absurd h1 (h x hx h0)

theorem part_s (l : List Int) (hv : Srt 0 l) (hL : l.length ≤ 300) : ∃ X n : Nat, bitmap_part l = some ((X : Int) :: (n : Int) :: ((M l).drop X).take n) ∧ X + n ≤ 32 ∧ ∀ i, i < 32 → (i < X ∨ X + n ≤ i) → mb l i = 0 := by
  obtain ⟨p1, p2⟩ := srt_pw hv
  have hr : ∀ x ∈ l, 0 ≤ x ∧ x ≤ 255 := fun x hx => by have := p2 x hx; omega
  unfold bitmap_part
  by_cases h0 : l = []
  · subst h0
    exact ⟨0, 0, rfl, by omega, fun i _ _ => mb_z fun x hx => by cases hx⟩
  · obtain ⟨x, l', hl⟩ : ∃ x l', l = x :: l' := by
      cases h : l with
      | nil => exact absurd h h0
      | cons x l' => exact ⟨x, l', rfl⟩
    have hlen : 0 < l.length := by rw [hl]; simp
    have hx0 : l[0]? = some x := by rw [hl]; rfl
    have hylt : l.length - 1 < l.length := by omega
    obtain ⟨y, hy⟩ : ∃ y, l[l.length - 1]? = some y := ⟨_, List.getElem?_eq_getElem hylt⟩
    have hxm := List.mem_of_getElem? hx0
    have hym := List.mem_of_getElem? hy
    have bx := p2 x hxm
    have b_y := p2 y hym
    have pw := List.pairwise_iff_getElem.1 p1
    have hmin : ∀ z ∈ l, x ≤ z ∧ z ≤ y := by
      intro z hz
      obtain ⟨i, hi⟩ := List.mem_iff_getElem?.1 hz
      obtain ⟨hil, ei⟩ := List.getElem?_eq_some_iff.1 hi
      obtain ⟨h0l, e0⟩ := List.getElem?_eq_some_iff.1 hx0
      obtain ⟨hyl, ey⟩ := List.getElem?_eq_some_iff.1 hy
      constructor
      · rcases Nat.eq_zero_or_pos i with q | q
        · subst q; rw [hx0] at hi; cases hi; exact Int.le_refl _
        · have := pw 0 i h0l hil q; rw [e0, ei] at this; omega
      · rcases Nat.lt_or_ge i (l.length - 1) with q | q
        · have := pw i _ hil hyl q; rw [ei, ey] at this; omega
        · have : i = l.length - 1 := by omega
          subst this; rw [hy] at hi; cases hi; exact Int.le_refl _
    obtain ⟨X, rfl⟩ : ∃ X : Nat, x = (X : Int) := ⟨x.toNat, by omega⟩
    obtain ⟨Y, rfl⟩ : ∃ Y : Nat, y = (Y : Int) := ⟨y.toNat, by omega⟩
    have hXY := (hmin _ hym).1
    rw [show ((l.length : Int) == 0) = false by rw [beq_eq_false_iff_ne]; omega, cond_false, bytes_e _ (by omega) hr, bindS, chk_t (by simp [M_len]), bindS, idx0, hx0, bindS,
      show IntKind.wrap .i64 ((l.length : Int) - 1) = ((l.length - 1 : Nat) : Int) by rw [wrapI (by omega) (by omega)]; omega, idxN, hy, bindS]
    rw [div8, div8, wrapN (by omega), chk_t (by simp; omega), bindS, chk_d (by omega), bindS]
    have e3 : (((Y / 8 + 1 : Nat) : Int) - ((X / 8 : Nat) : Int)).toNat = Y / 8 + 1 - X / 8 := by omega
    rw [e3, wrapI (i := ((Y / 8 + 1 : Nat) : Int) - ((X / 8 : Nat) : Int)) (by omega) (by omega), Int.toNat_natCast, show ((Y / 8 + 1 : Nat) : Int) - ((X / 8 : Nat) : Int) = ((Y / 8 + 1 - X / 8 : Nat) : Int) by omega]
    have u1 : IntKind.wrap .u8 ((X / 8 : Nat) : Int) = ((X / 8 : Nat) : Int) := w8_id (x := ((X / 8 : Nat) : Int)) (by omega)
    have u2 : IntKind.wrap .u8 ((Y / 8 + 1 - X / 8 : Nat) : Int) = ((Y / 8 + 1 - X / 8 : Nat) : Int) := w8_id (x := ((Y / 8 + 1 - X / 8 : Nat) : Int)) (by omega)
    rw [u1, u2]
    refine ⟨X / 8, Y / 8 + 1 - X / 8, rfl, by omega, fun i hi hc => mb_z fun z hz z0 z1 => ?_⟩
    have := hmin z hz
    omega

theorem holes_s (l : List Int) (hv : Srt 0 l) (hL : l.length ≤ 300) : ∃ q : Nat, bitmap_holes l = some ((q : Int) :: (((gaps l 1 (q - 1)).length : Nat) : Int) :: gaps l 1 (q - 1)) ∧ q ≤ 255 ∧ (∀ x ∈ l, x ≤ (q : Int)) ∧ (q = 0 ∨ (q : Int) ∈ l) := by
  unfold bitmap_holes
  obtain ⟨p1, p2⟩ := srt_pw hv
  obtain ⟨q, q0, q1, q2, q3, q4⟩ := holes_loop l hv l 0 0 big 0 rfl (big_lt (by omega)) hv (by omega) (.inl rfl) (fun x hx => .inr hx) (by simp [gaps]) (by omega)
  simp only [Int.natCast_zero, Nat.zero_sub, gaps] at q4
  have gl := gaps_len l (q - 1) 1
  rw [q4, bindS, show idx ((q : Int) :: 0 :: gaps l 1 (q - 1)) 1 = some 0 from rfl, bindS]
  simp only [List.length_cons, List.set_cons_succ, List.set_cons_zero]
  rw [wrapI (by omega) (by omega), show (((gaps l 1 (q - 1)).length + 1 + 1 : Nat) : Int) - 2 = (((gaps l 1 (q - 1)).length : Nat) : Int) by omega]
  have u : IntKind.wrap .u8 (((gaps l 1 (q - 1)).length : Nat) : Int) = (((gaps l 1 (q - 1)).length : Nat) : Int) := w8_id (x := (((gaps l 1 (q - 1)).length : Nat) : Int)) (by omega)
  rw [u]
  refine ⟨q, rfl, q1, ?_, ?_⟩
  · intro x hx
    obtain ⟨i, hi⟩ := List.mem_iff_getElem?.1 hx
    obtain ⟨hil, ei⟩ := List.getElem?_eq_some_iff.1 hi
    have hg : l.getLast? = l[l.length - 1]? := List.getLast?_eq_getElem?
    have hy := List.getElem?_eq_getElem (l := l) (i := l.length - 1) (by omega)
    have hq := q3 _ (hg.trans hy)
    have pw := List.pairwise_iff_getElem.1 p1
    rcases Nat.lt_or_ge i (l.length - 1) with h | h
    · have := pw i (l.length - 1) hil (by omega) h; rw [ei] at this; omega
    · have e : i = l.length - 1 := by omega
      subst e
      omega
  · cases hg : l.getLast? with
    | none => exact .inl (q2 hg)
    | some z => right; rw [← q3 z hg]; exact List.mem_of_getLast? hg

theorem start_e (t : Traffic) (hv : VT t) (hL : t.Aids.length ≤ 300) (k : Nat) (hk : k < 4) : bitmap_EncodeAs t (k : Int) = (bif ((k : Int) == 0) then ((bitmap_full t.Aids).bind fun x5 => ((chk (decide (1 + x5.length ≤ 140737488355328))).bind fun x6 => some (([fb t.Group (k : Int)] ++ x5), 0))) else bif ((k : Int) == 1) then ((bitmap_part t.Aids).bind fun x5 => ((chk (decide (1 + x5.length ≤ 140737488355328))).bind fun x6 => some (([fb t.Group (k : Int)] ++ x5), 0))) else bif ((k : Int) == 2) then ((bitmap_list t.Aids).bind fun x5 => ((chk (decide (1 + x5.length ≤ 140737488355328))).bind fun x6 => some (([fb t.Group (k : Int)] ++ x5), 0))) else ((bitmap_holes t.Aids).bind fun x5 => ((chk (decide (1 + x5.length ≤ 140737488355328))).bind fun x6 => some (([fb t.Group (k : Int)] ++ x5), 0)))) := by
  unfold bitmap_EncodeAs
  have henc : bitmap_encoders = some () := rfl
  rw [check_e t (by omega), if_pos hv, bindS, bne_self_eq_false, cond_false, decide_eq_false (by omega), cond_false, fb_c _ k hk, bindS, henc, bindS, chk_t (by simp; omega), bindS]

/-- An encoding: its head, its length, and what it names. -/
theorem enc_s (t : Traffic) (hv : VT t) (hL : t.Aids.length ≤ 300) (k : Nat) (hk : k < 4) : ∃ E, bitmap_EncodeAs t (k : Int) = some (E, 0) ∧ hotspotref33_EncodeAs t (k : Int) = some (E, 0) ∧ E[0]? = some (fb t.Group (k : Int)) ∧ LOk E k ∧ ∀ a, a < 256 → P E k a = decide ((a : Int) ∈ t.Aids) := by
  obtain ⟨p1, p2⟩ := srt_pw hv
  have hr : ∀ x ∈ t.Aids, 0 ≤ x ∧ x ≤ 255 := fun x hx => by have := p2 x hx; omega
  have hfb := fb_b t.Group k hk
  have hll := srt_len t.Aids 0 (by omega) (by omega) hv
  have h4 : k = 0 ∨ k = 1 ∨ k = 2 ∨ k = 3 := by omega
  have fin : ∀ E, bitmap_EncodeAs t (k : Int) = some (E, 0) → E[0]? = some (fb t.Group (k : Int)) → LOk E k → (∀ a, a < 256 → P E k a = decide ((a : Int) ∈ t.Aids)) → ∃ E, bitmap_EncodeAs t (k : Int) = some (E, 0) ∧ hotspotref33_EncodeAs t (k : Int) = some (E, 0) ∧ E[0]? = some (fb t.Group (k : Int)) ∧ LOk E k ∧ ∀ a, a < 256 → P E k a = decide ((a : Int) ∈ t.Aids) := by
    intro E h1 h2 h3 h4
    obtain ⟨E', e1, e2, _⟩ := enc_e t hv hL k hk
    rw [h1] at e1; cases e1
    exact ⟨E, h1, e2, h2, h3, h4⟩
  have s := start_e t hv hL k hk
  rcases h4 with rfl | rfl | rfl | rfl
  · rw [show ((((0 : Nat) : Int)) == 0) = true from rfl, cond_true, full_e _ (by omega) hr, bindS, chk_d (by rw [M_len]; omega), bindS] at s
    refine fin _ s rfl ⟨?_, by simp [M_len], fun _ => by simp [M_len], fun h => by omega, fun h => by omega⟩ fun a ha => ?_
    · intro x hx
      rcases List.mem_cons.1 hx with rfl | hx
      · exact hfb
      · exact M_b _ x hx
    · show bt ((fb t.Group ((0 : Nat) : Int) :: M t.Aids).getD (1 + a / 8) 0) (a % 8) = _
      rw [Nat.add_comm 1, List.getD_cons_succ, getD_of (M_get t.Aids (by omega)), mb_bt]
  · obtain ⟨X, n, e1, hXn, hz⟩ := part_s t.Aids hv hL
    have hlen : (List.take n (List.drop X (M t.Aids))).length = n := by simp [M_len]; omega
    rw [show ((((1 : Nat) : Int)) == 0) = false from rfl, show ((((1 : Nat) : Int)) == 1) = true from rfl, cond_false, cond_true, e1, bindS, chk_d (by simp only [List.length_cons, hlen]; omega), bindS] at s
    refine fin _ s rfl ⟨?_, by simp only [List.cons_append, List.nil_append, List.length_cons, hlen]; omega, fun h => by omega, fun _ => ⟨by simp, ?_⟩, fun h => by omega⟩ fun a ha => ?_
    · intro x hx
      simp only [List.cons_append, List.nil_append, List.mem_cons] at hx
      rcases hx with rfl | rfl | rfl | hx
      · exact hfb
      · omega
      · omega
      · exact M_b _ x (List.mem_of_mem_drop (List.mem_of_mem_take hx))
    · simp only [List.cons_append, List.nil_append, List.length_cons, hlen]
      show (n : Int) = _
      omega
    · have hP : P ([fb t.Group ((1 : Nat) : Int)] ++ (X : Int) :: (n : Int) :: List.take n (List.drop X (M t.Aids))) 1 a = (decide ((X : Int) ≤ ((a / 8 : Nat) : Int)) && decide (3 + a / 8 - ((X : Int)).toNat < (fb t.Group ((1 : Nat) : Int) :: (X : Int) :: (n : Int) :: List.take n (List.drop X (M t.Aids))).length) && bt ((fb t.Group ((1 : Nat) : Int) :: (X : Int) :: (n : Int) :: List.take n (List.drop X (M t.Aids))).getD (3 + a / 8 - ((X : Int)).toNat) 0) (a % 8)) := rfl
      rw [hP, Int.toNat_natCast]
      simp only [List.length_cons, hlen]
      by_cases h1 : X ≤ a / 8
      · by_cases h2 : a / 8 < X + n
        · rw [decide_eq_true (by omega), decide_eq_true (by omega), Bool.true_and, Bool.true_and, show 3 + a / 8 - X = (a / 8 - X) + 1 + 1 + 1 by omega, List.getD_cons_succ, List.getD_cons_succ, List.getD_cons_succ]
          have hg : (List.take n (List.drop X (M t.Aids)))[a / 8 - X]? = some (mb t.Aids (a / 8)) := by
            rw [List.getElem?_take, if_pos (by omega), List.getElem?_drop, show X + (a / 8 - X) = a / 8 by omega, M_get _ (by omega)]
          rw [getD_of hg, mb_bt]
        · rw [decide_eq_false (p := 3 + a / 8 - X < n + 1 + 1 + 1) (by omega), Bool.and_false, Bool.false_and, ← mb_bt, hz _ (by omega) (.inr (by omega)), bt_0]
      · rw [decide_eq_false (p := (X : Int) ≤ ((a / 8 : Nat) : Int)) (by omega), Bool.false_and, Bool.false_and, ← mb_bt, hz _ (by omega) (.inl (by omega)), bt_0]
  · rw [show ((((2 : Nat) : Int)) == 0) = false from rfl, show ((((2 : Nat) : Int)) == 1) = false from rfl, show ((((2 : Nat) : Int)) == 2) = true from rfl, cond_false, cond_false, cond_true, list_e _ (by omega), bindS, chk_d (by simp; omega), bindS, w8_map hr, w8_id (by omega)] at s
    refine fin _ s rfl ⟨?_, by simp; omega, fun h => by omega, fun h => by omega, fun _ => ⟨by simp, ?_⟩⟩ fun a ha => rfl
    · intro x hx
      simp only [List.cons_append, List.nil_append, List.mem_cons] at hx
      rcases hx with rfl | rfl | hx
      · exact hfb
      · omega
      · exact hr x hx
    · simp only [List.cons_append, List.nil_append, List.length_cons]
      show (t.Aids.length : Int) = _
      omega
  · obtain ⟨q, e3, hq, hle, hqm⟩ := holes_s t.Aids hv hL
    have gl := gaps_len t.Aids (q - 1) 1
    rw [show ((((3 : Nat) : Int)) == 0) = false from rfl, show ((((3 : Nat) : Int)) == 1) = false from rfl, show ((((3 : Nat) : Int)) == 2) = false from rfl, cond_false, cond_false, cond_false, e3, bindS, chk_d (by simp only [List.length_cons]; omega), bindS] at s
    refine fin _ s rfl ⟨?_, by simp only [List.cons_append, List.nil_append, List.length_cons]; omega, fun h => by omega, fun _ => ⟨by simp, ?_⟩, fun h => by omega⟩ fun a ha => ?_
    · intro x hx
      simp only [List.cons_append, List.nil_append, List.mem_cons] at hx
      rcases hx with rfl | rfl | rfl | hx
      · exact hfb
      · omega
      · omega
      · have := gaps_b _ _ _ x hx; omega
    · simp only [List.cons_append, List.nil_append, List.length_cons]
      show (((gaps t.Aids 1 (q - 1)).length : Nat) : Int) = _
      omega
    · show (decide (1 ≤ a) && decide ((a : Int) ≤ (q : Int)) && !decide ((a : Int) ∈ gaps t.Aids 1 (q - 1))) = _
      rw [Bool.eq_iff_iff]
      simp only [decide_eq_true_eq, Bool.and_eq_true, Bool.not_eq_true', decide_eq_false_iff_not, gaps_mem]
      constructor
      · rintro ⟨⟨h1, h2⟩, h3⟩
        rcases Decidable.em ((a : Int) ∈ t.Aids) with hm | hm
        · exact hm
        · exfalso
          have haq : ¬ a < 1 + (q - 1) := fun h => h3 ⟨h1, h, hm⟩
          have e : a = q := by omega
          subst e
          rcases hqm with h | h
          · omega
          · exact hm h
      · intro hm
        have := p2 _ hm
        have := hle _ hm
        exact ⟨⟨by omega, by omega⟩, fun h => h.2.2 hm⟩
end Go.AX.Z.TD

/-! (TDH) -/

set_option linter.unusedVariables false
set_option linter.unusedSimpArgs false
namespace Go.AX.Z.TD
open Go.AX

/-! ## Decoding -/

theorem need_e {b : List Int} (hb : By b) (hL : b.length ≤ 600) {X k : Nat} (hx : b[0]? = some (X : Int)) (hX : X % 128 = k) (hk : k < 4) :
    ∃ n m : Int, bitmap_need b = some n ∧ hotspotref33_length b (k : Int) = some m ∧ ((m = n ∧ 0 ≤ n) ∨ (m = -1 ∧ (b.length : Int) < n)) ∧ (n = (b.length : Int) → LOk b k) := by
  have hxb := hb _ (List.mem_of_getElem? hx)
  have hbt := (byte_t ⟨X, by omega⟩).1
  simp only [hX] at hbt
  unfold bitmap_need hotspotref33_length
  rw [idx0, hx, bindS, hbt, chk_t (by simp; omega), bindS]
  have h4 : k = 0 ∨ k = 1 ∨ k = 2 ∨ k = 3 := by omega
  have e1 : idx b (IntKind.wrap .i64 1) = b[1]? := idxN b 1
  have e2 : idx b (IntKind.wrap .i64 2) = b[2]? := idxN b 2
  have e1' : idx b 1 = b[1]? := idxN b 1
  have e2' : idx b 2 = b[2]? := idxN b 2
  have g1 := by_get hb 1
  have g2 := by_get hb 2
  rcases h4 with rfl | rfl | rfl | rfl
  · simp only [show ((((0 : Nat) : Int)) == 0) = true from rfl, cond_true, Bool.or_true]
    exact ⟨33, 33, rfl, rfl, .inl ⟨rfl, by decide⟩, fun h => ⟨hb, hL, fun _ => by omega, fun h => by omega, fun h => by omega⟩⟩
  · simp only [show ((((1 : Nat) : Int)) == 0) = false from rfl, show ((((1 : Nat) : Int)) == 1) = true from rfl, show ((((1 : Nat) : Int)) == 2) = false from rfl, cond_true, cond_false, Bool.or_false]
    by_cases h : b.length < 3
    · rw [decide_eq_true (by omega), cond_true, cond_true]
      exact ⟨3, -1, rfl, rfl, .inr ⟨rfl, by omega⟩, fun h => by omega⟩
    · rw [decide_eq_false (by omega), cond_false, cond_false, e2, e2', get_of (by omega), bindS, wrapI (i := b.getD 2 0) (by omega) (by omega), wrapI (by omega) (by omega)]
      exact ⟨_, _, rfl, rfl, .inl ⟨rfl, by omega⟩, fun h => ⟨hb, hL, fun h => by omega, fun _ => ⟨by omega, by omega⟩, fun h => by omega⟩⟩
  · simp only [show ((((2 : Nat) : Int)) == 0) = false from rfl, show ((((2 : Nat) : Int)) == 1) = false from rfl, show ((((2 : Nat) : Int)) == 2) = true from rfl, cond_true, cond_false, Bool.or_false]
    by_cases h : b.length < 2
    · rw [decide_eq_true (by omega), cond_true, cond_true]
      exact ⟨2, -1, rfl, rfl, .inr ⟨rfl, by omega⟩, fun h => by omega⟩
    · rw [decide_eq_false (by omega), cond_false, cond_false, e1, e1', get_of (by omega), bindS, wrapI (i := b.getD 1 0) (by omega) (by omega), wrapI (by omega) (by omega)]
      exact ⟨_, _, rfl, rfl, .inl ⟨rfl, by omega⟩, fun h => ⟨hb, hL, fun h => by omega, fun h => by omega, fun _ => ⟨by omega, by omega⟩⟩⟩
  · simp only [show ((((3 : Nat) : Int)) == 0) = false from rfl, show ((((3 : Nat) : Int)) == 1) = false from rfl, show ((((3 : Nat) : Int)) == 2) = false from rfl, cond_true, cond_false, Bool.or_false]
    by_cases h : b.length < 3
    · rw [decide_eq_true (by omega), cond_true, cond_true]
      exact ⟨3, -1, rfl, rfl, .inr ⟨rfl, by omega⟩, fun h => by omega⟩
    · rw [decide_eq_false (by omega), cond_false, cond_false, e2, e2', get_of (by omega), bindS, wrapI (i := b.getD 2 0) (by omega) (by omega), wrapI (by omega) (by omega)]
      exact ⟨_, _, rfl, rfl, .inl ⟨rfl, by omega⟩, fun h => ⟨hb, hL, fun h => by omega, fun _ => ⟨by omega, by omega⟩, fun h => by omega⟩⟩

theorem fl_0 (f : Nat → Bool) : fl f 0 256 = (if f 0 then [(0 : Int)] else []) ++ fl f 1 255 := fl.eq_2 f 0 255
theorem fl_v (f : Nat → Bool) : Srt 0 (fl f 1 255) := by
  have := fl_srt (f := f) 255 1 (by omega)
  simpa using this

/-- A map that names 0 has no encoding. -/
theorem enc_bad (t : Traffic) (hv : ¬ VT t) (hL : t.Aids.length ≤ 300) (k : Int) : bitmap_EncodeAs t k = some ([], 8) := by
  unfold bitmap_EncodeAs
  rw [check_e t (by omega), if_neg hv, bindS, show ((8 : Int) != 0) = true from rfl, cond_true]

/-- What bytes of the right length decode to. -/
theorem dec_tail {b : List Int} {X k : Nat} (hx : b[0]? = some (X : Int)) (hX : X % 128 = k) (hk : k < 4) (h : LOk b k) :
    ∃ r : Traffic × Int, bitmap_Decode b = some r ∧ hotspotref33_Decode b = some r ∧
      ((r = (Traffic.z, 12) ∧ ∀ t : Traffic, VT t → t.Aids.length ≤ 300 → bitmap_EncodeAs t (k : Int) = some (b, 0) → fb t.Group (k : Int) = (X : Int) → False) ∨
        (r.2 = 0 ∧ VT r.1 ∧ r.1.Aids = fl (P b k) 1 255 ∧ P b k 0 = false ∧ r.1.Group = decide (128 ≤ (X : Int)) ∧ bitmap_EncodeAs r.1 (k : Int) = some (b, 0))) := by
  obtain ⟨hb, hL, l0, l1, l2⟩ := h
  have h : LOk b k := ⟨hb, hL, l0, l1, l2⟩
  have hxb := hb _ (List.mem_of_getElem? hx)
  obtain ⟨b1, b2, b3, b4⟩ := byte_t ⟨X, by omega⟩
  simp only [hX] at b1 b2 b3 b4
  have hlen0 : ¬ b.length = 0 := by intro q; rw [List.length_eq_zero_iff.1 q] at hx; cases hx
  have hl := fl_len (f := P b k) 255 1
  have hv : VT { Traffic.z with Aids := fl (P b k) 1 255, Group := decide (128 ≤ (X : Int)) } := fl_v _
  obtain ⟨E, e1, e2, e3, e4, e5⟩ := enc_s { Traffic.z with Aids := fl (P b k) 1 255, Group := decide (128 ≤ (X : Int)) } hv (by simp only; omega) k hk
  obtain ⟨n, m, n1, m1, nm, nl⟩ := need_e hb hL hx hX hk
  have hn : n = (b.length : Int) := by
    have h4 : k = 0 ∨ k = 1 ∨ k = 2 ∨ k = 3 := by omega
    unfold bitmap_need at n1
    rw [idx0, hx, bindS, b1, chk_t (by simp; omega), bindS] at n1
    have q1 : idx b (IntKind.wrap .i64 1) = b[1]? := idxN b 1
    have q2 : idx b (IntKind.wrap .i64 2) = b[2]? := idxN b 2
    have g1 := by_get hb 1
    have g2 := by_get hb 2
    rcases h4 with rfl | rfl | rfl | rfl
    · simp only [show ((((0 : Nat) : Int)) == 0) = true from rfl, cond_true, Bool.or_true] at n1
      cases n1; rw [l0 rfl]; rfl
    · obtain ⟨a1, a2⟩ := l1 (.inl rfl)
      simp only [show ((((1 : Nat) : Int)) == 0) = false from rfl, show ((((1 : Nat) : Int)) == 1) = true from rfl, cond_true, cond_false, Bool.or_false] at n1
      rw [decide_eq_false (by omega), cond_false, q2, get_of (by omega), bindS, wrapI (i := b.getD 2 0) (by omega) (by omega), wrapI (by omega) (by omega)] at n1
      cases n1; omega
    · obtain ⟨a1, a2⟩ := l2 rfl
      simp only [show ((((2 : Nat) : Int)) == 0) = false from rfl, show ((((2 : Nat) : Int)) == 1) = false from rfl, show ((((2 : Nat) : Int)) == 2) = true from rfl, cond_true, cond_false, Bool.or_false] at n1
      rw [decide_eq_false (by omega), cond_false, q1, get_of (by omega), bindS, wrapI (i := b.getD 1 0) (by omega) (by omega), wrapI (by omega) (by omega)] at n1
      cases n1; omega
    · obtain ⟨a1, a2⟩ := l1 (.inr rfl)
      simp only [show ((((3 : Nat) : Int)) == 0) = false from rfl, show ((((3 : Nat) : Int)) == 1) = false from rfl, show ((((3 : Nat) : Int)) == 2) = false from rfl, cond_true, cond_false, Bool.or_false] at n1
      rw [decide_eq_false (by omega), cond_false, q2, get_of (by omega), bindS, wrapI (i := b.getD 2 0) (by omega) (by omega), wrapI (by omega) (by omega)] at n1
      cases n1; omega
  subst hn
  obtain ⟨rfl, _⟩ : m = (b.length : Int) ∧ 0 ≤ (b.length : Int) := by
    rcases nm with h | ⟨_, h⟩
    · exact h
    · omega
  have D : bitmap_Decode b = ((bitmap_EncodeAs { Traffic.z with Aids := fl (P b k) 0 256, Group := decide (128 ≤ (X : Int)) } (k : Int)).bind fun x5 =>
          ((bif (x5.2 != 0) then some true else ((slices_Equal_byte_byte b x5.1).bind fun x6 => some (!x6))).bind fun x7 =>
          bif x7 then some (Traffic.z, 12) else some ({ Traffic.z with Aids := fl (P b k) 0 256, Group := decide (128 ≤ (X : Int)) }, 0))) := by
    unfold bitmap_Decode
    rw [show ((b.length : Int) == 0) = false by rw [beq_eq_false_iff_ne]; omega, cond_false, idx0, hx, bindS, b1, decide_eq_false (by omega), cond_false, n1, bindS, decide_eq_false (by omega), cond_false, cond_false,
      read_ok hk h hx (by omega), bindS, b2]
  have R : hotspotref33_Decode b = ((hotspotref33_Same b E).bind fun x17 => bif (!x17) then some (Traffic.z, 12) else some ({ Traffic.z with Aids := fl (P b k) 1 255, Group := decide (128 ≤ (X : Int)) }, 0)) := by
    unfold hotspotref33_Decode
    rw [show ((b.length : Int) == 0) = false by rw [beq_eq_false_iff_ne]; omega, cond_false, idx0, hx, bindS, b3, decide_eq_false (by omega), cond_false, m1, bindS, decide_eq_false (by omega), decide_eq_false (by omega), Bool.or_self, cond_false, cond_false,
      rdec_e hk h b3, bindS, bindS, b4, e2, bindS]
  rw [D, R, same_d b E (by omega), bindS]
  by_cases h0 : P b k 0 = true
  · rw [fl_0, h0, if_pos rfl, enc_bad _ (fun q => by have := q.1.1; omega) (by simp only [List.length_append, List.length_singleton]; omega), bindS, show (((8 : Int)) != 0) = true from rfl, cond_true, bindS, cond_true]
    have hne : b ≠ E := by
      intro q; subst q
      have := e5 0 (by omega)
      rw [h0] at this
      have := of_decide_eq_true this.symm
      rw [fl_mem] at this
      obtain ⟨n, q1, q2, _⟩ := this
      omega
    rw [decide_eq_false hne, Bool.not_false, cond_true]
    refine ⟨_, rfl, rfl, .inl ⟨rfl, fun t ht hL' he hf => ?_⟩⟩
    obtain ⟨E', f1, f2, f3, f4, f5⟩ := enc_s t ht hL' k hk
    rw [he] at f1; cases f1
    have := f5 0 (by omega)
    rw [h0] at this
    have hm := of_decide_eq_true this.symm
    have := (srt_pw ht).2 _ hm
    omega
  · rw [Bool.not_eq_true] at h0
    rw [fl_0, h0, if_neg (by decide), List.nil_append, e1, bindS, bne_self_eq_false, cond_false, equal_d b E (by omega), bindS, bindS]
    by_cases hE : b = E
    · subst hE
      rw [decide_eq_true rfl, Bool.not_true, cond_false]
      exact ⟨_, rfl, rfl, .inr ⟨rfl, hv, rfl, rfl, rfl, e1⟩⟩
    · rw [decide_eq_false hE, Bool.not_false, cond_true]
      refine ⟨_, rfl, rfl, .inl ⟨rfl, fun t ht hL' he hf => ?_⟩⟩
      obtain ⟨E', f1, f2, f3, f4, f5⟩ := enc_s t ht hL' k hk
      rw [he] at f1; cases f1
      have hA : fl (P b k) 1 255 = t.Aids := by
        rw [← fl_in ht]
        exact fl_congr _ _ fun x _ hx => f5 x (by omega)
      have hG : decide (128 ≤ (X : Int)) = t.Group := by
        rw [← hf]
        cases t.Group
        · exact decide_eq_false (by show ¬ (128 : Int) ≤ (k : Int); omega)
        · exact decide_eq_true (by show (128 : Int) ≤ (k : Int) + 128; omega)
      have : ({ Traffic.z with Aids := fl (P b k) 1 255, Group := decide (128 ≤ (X : Int)) } : Traffic) = t := by rw [hA, hG]
      rw [this, he] at e1
      cases e1
      exact hE rfl

theorem dec_e (b : List Int) (hb : By b) (hL : b.length ≤ 600) : ∃ r : Traffic × Int, bitmap_Decode b = some r ∧ hotspotref33_Decode b = some r ∧ (r.2 ≠ 0 → r.1 = Traffic.z) ∧
    (r.2 = 0 → VT r.1 ∧ r.1.Aids.length ≤ 300 ∧ ∃ X : Nat, b[0]? = some (X : Int) ∧ X % 128 < 4 ∧ bitmap_EncodeAs r.1 ((X % 128 : Nat) : Int) = some (b, 0)) := by
  by_cases h0 : b = []
  · subst h0
    exact ⟨(Traffic.z, 10), rfl, rfl, fun _ => rfl, fun h => by cases h⟩
  obtain ⟨x, hx⟩ : ∃ x, b[0]? = some x := by
    cases b with
    | nil => exact absurd rfl h0
    | cons x l => exact ⟨x, rfl⟩
  have hlen0 : ¬ b.length = 0 := by intro q; exact h0 (List.length_eq_zero_iff.1 q)
  have hxb := hb _ (List.mem_of_getElem? hx)
  obtain ⟨X, rfl⟩ : ∃ X : Nat, x = (X : Int) := ⟨x.toNat, by omega⟩
  obtain ⟨b1, b2, b3, b4⟩ := byte_t ⟨X, by omega⟩
  simp only at b1 b2 b3 b4
  rcases (Decidable.em (X % 128 < 4)).symm with hk | hk
  · have D : bitmap_Decode b = some (Traffic.z, 12) := by
      unfold bitmap_Decode
      rw [show ((b.length : Int) == 0) = false by rw [beq_eq_false_iff_ne]; omega, cond_false, idx0, hx, bindS, b1, decide_eq_true (by omega), cond_true]
    have R : hotspotref33_Decode b = some (Traffic.z, 12) := by
      unfold hotspotref33_Decode
      rw [show ((b.length : Int) == 0) = false by rw [beq_eq_false_iff_ne]; omega, cond_false, idx0, hx, bindS, b3, decide_eq_true (by omega), cond_true]
    exact ⟨_, D, R, fun _ => rfl, fun h => by cases h⟩
  obtain ⟨n, m, n1, m1, nm, nl⟩ := need_e hb hL hx rfl hk
  by_cases hlt : (b.length : Int) < n
  · have D : bitmap_Decode b = some (Traffic.z, 10) := by
      unfold bitmap_Decode
      rw [show ((b.length : Int) == 0) = false by rw [beq_eq_false_iff_ne]; omega, cond_false, idx0, hx, bindS, b1, decide_eq_false (by omega), cond_false, n1, bindS, decide_eq_true hlt, cond_true]
    have R : hotspotref33_Decode b = some (Traffic.z, 10) := by
      unfold hotspotref33_Decode
      rw [show ((b.length : Int) == 0) = false by rw [beq_eq_false_iff_ne]; omega, cond_false, idx0, hx, bindS, b3, decide_eq_false (by omega), cond_false, m1, bindS, show (decide (m < 0) || decide ((b.length : Int) < m)) = true by simp; omega, cond_true]
    exact ⟨_, D, R, fun _ => rfl, fun h => by cases h⟩
  obtain ⟨rfl, _⟩ : m = n ∧ 0 ≤ n := by
    rcases nm with h | ⟨_, h⟩
    · exact h
    · omega
  by_cases hgt : m < (b.length : Int)
  · have D : bitmap_Decode b = some (Traffic.z, 11) := by
      unfold bitmap_Decode
      rw [show ((b.length : Int) == 0) = false by rw [beq_eq_false_iff_ne]; omega, cond_false, idx0, hx, bindS, b1, decide_eq_false (by omega), cond_false, n1, bindS, decide_eq_false hlt, cond_false, decide_eq_true hgt, cond_true]
    have R : hotspotref33_Decode b = some (Traffic.z, 11) := by
      unfold hotspotref33_Decode
      rw [show ((b.length : Int) == 0) = false by rw [beq_eq_false_iff_ne]; omega, cond_false, idx0, hx, bindS, b3, decide_eq_false (by omega), cond_false, m1, bindS, show (decide (m < 0) || decide ((b.length : Int) < m)) = false by simp; omega, cond_false, decide_eq_true hgt, cond_true]
    exact ⟨_, D, R, fun _ => rfl, fun h => by cases h⟩
  have hLO := nl (by omega)
  obtain ⟨r, r1, r2, r3⟩ := dec_tail hx rfl hk hLO
  refine ⟨r, r1, r2, ?_, ?_⟩
  · intro h
    rcases r3 with ⟨rfl, _⟩ | ⟨h', _⟩
    · rfl
    · exact absurd h' h
  · intro h
    rcases r3 with ⟨rfl, _⟩ | ⟨_, h1, h2, h3, h4, h5⟩
    · cases h
    · refine ⟨h1, ?_, X, hx, hk, h5⟩
      have := fl_len (f := P b (X % 128)) 255 1
      rw [h2]; omega
end Go.AX.Z.TD

/-! (TDJ) -/

set_option linter.unusedVariables false
set_option linter.unusedSimpArgs false
namespace Go.AX.Z.TD
open Go.AX

/-! ## The statements -/

theorem map_same (t u : Traffic) (hL : t.Aids.length ≤ 1000) (h : t = u) : hotspotref33_SameMap t u = some true := by
  subst h
  unfold hotspotref33_SameMap
  rw [show (!(t.Group == t.Group)) = false by simp, bne_self_eq_false, Bool.or_self, cond_false]
  have key : ∀ (l : List Int) (i n : Nat), t.Aids.drop i = l → l.length < n → hotspotref33_SameMap_L2 t t n (i : Int) = some (Ex.go ()) := by
    intro l
    induction l with
    | nil =>
      intro i n h hn
      obtain ⟨n, rfl⟩ : ∃ m, n = m + 1 := ⟨n - 1, by simp at hn; omega⟩
      rw [hotspotref33_SameMap_L2, ge_dec (drop_n h)]; rfl
    | cons x l ih =>
      intro i n h hn
      obtain ⟨n, rfl⟩ : ∃ m, n = m + 1 := ⟨n - 1, by simp at hn; omega⟩
      obtain ⟨h1, h2, h3⟩ := drop_c h
      simp only [List.length_cons] at hn
      rw [hotspotref33_SameMap_L2, lt_dec h3]
      simp only [cond_true, idxN, h1, bindS]
      rw [bne_self_eq_false, cond_false, wrapN (by omega), ih (i + 1) n h2 (by omega)]
  have := key t.Aids 0 big rfl (big_lt (by omega))
  simp only [Int.natCast_zero] at this
  rw [this, bindS]; rfl

theorem decodes (b : List Int) (hb : By b) : hotspotlaw33_BitmapDecodes b = some true := by
  unfold hotspotlaw33_BitmapDecodes
  rcases (Decidable.em (b.length ≤ 600)).symm with hL | hL
  · rw [decide_eq_true (by omega), cond_true]
  rw [decide_eq_false (by omega), cond_false, chk_d (by omega), bindS]
  obtain ⟨r, r1, r2, r3, r4⟩ := dec_e b hb hL
  have hl : r.1.Aids.length ≤ 1000 := by
    by_cases h : r.2 = 0
    · have := (r4 h).2.1; omega
    · rw [r3 h]; decide
  rw [r1, bindS, r2, bindS, map_same _ _ hl rfl, bindS, beq_self_eq_true, Bool.true_and, cond_true, same_d b b (by omega), bindS, decide_eq_true rfl, bindS]

theorem enc_ok {t : Traffic} {a : Int} (ha : 0 ≤ a) (hL : t.Aids.length ≤ 300) {c : List Int × Int} (h : bitmap_EncodeAs t a = some c) (h0 : c.2 = 0) : VT t ∧ ∃ k : Nat, a = (k : Int) ∧ k < 4 := by
  by_cases hv : VT t
  · refine ⟨hv, a.toNat, by omega, ?_⟩
    rcases Nat.lt_or_ge a.toNat 4 with h1 | h1
    · exact h1
    · exfalso
      unfold bitmap_EncodeAs at h
      rw [check_e t (by omega), if_pos hv, bindS, bne_self_eq_false, cond_false, decide_eq_true (by omega), cond_true] at h
      cases h; cases h0
  · rw [enc_bad t hv hL] at h
    cases h; cases h0

theorem back (t : Traffic) (a : Int) (b : List Int) (ha : 0 ≤ a ∧ a ≤ 255) (hb : By b) : hotspotlaw33_BitmapBack t a b = some true := by
  unfold hotspotlaw33_BitmapBack
  rw [show hotspotlaw33_alive = some true from rfl, bindS]
  rcases (Decidable.em (t.Aids.length ≤ 300 ∧ b.length ≤ 600)).symm with hg | hg
  · rw [show ((decide (300 < (t.Aids.length : Int)) || decide (600 < (b.length : Int))) || !true) = true by simp; omega, cond_true]
  obtain ⟨hL, hL2⟩ := hg
  rw [show ((decide (300 < (t.Aids.length : Int)) || decide (600 < (b.length : Int))) || !true) = false by simp; omega, cond_false]
  obtain ⟨c, hc⟩ : ∃ c, bitmap_EncodeAs t a = some c := by
    by_cases hv : VT t
    · by_cases hk : a.toNat < 4
      · obtain ⟨E, e, _⟩ := enc_s t hv hL a.toNat hk
        rw [show ((a.toNat : Nat) : Int) = a by omega] at e
        exact ⟨_, e⟩
      · unfold bitmap_EncodeAs
        rw [check_e t (by omega), if_pos hv, bindS, bne_self_eq_false, cond_false, decide_eq_true (by omega), cond_true]
        exact ⟨_, rfl⟩
    · exact ⟨_, enc_bad t hv hL a⟩
  rw [hc, bindS]
  have part1 : (bif (c.2 == 0) then
        ((bitmap_Decode c.1).bind fun x11 =>
        ((bif (x11.2 != 0) then some true else ((hotspotref33_SameMap t x11.1).bind fun x12 => some (!x12))).bind fun x13 =>
        bif x13 then some (Ex.ret false) else some (Ex.go ())))
      else some (Ex.go ())) = some (Ex.go () : Ex Bool Unit) := by
    by_cases h0 : c.2 = 0
    · obtain ⟨hv, k, rfl, hk⟩ := enc_ok ha.1 hL hc h0
      obtain ⟨E, e1, e2, e3, e4, e5⟩ := enc_s t hv hL k hk
      rw [hc] at e1; cases e1
      rw [show (((E, (0 : Int)) : List Int × Int).2 == 0) = true from rfl, cond_true]
      obtain ⟨X, hX, hXk⟩ : ∃ X : Nat, fb t.Group (k : Int) = (X : Int) ∧ X % 128 = k := by
        cases t.Group
        · exact ⟨k, rfl, by omega⟩
        · exact ⟨k + 128, by show (k : Int) + 128 = _; omega, by omega⟩
      obtain ⟨r, r1, _, r3⟩ := dec_tail (by rw [e3, hX]) hXk hk e4
      rcases r3 with ⟨_, r3⟩ | ⟨r3, r4, r5, r6, r7, r8⟩
      · exact (r3 t hv hL hc hX).elim
      · have hrt : t = r.1 := by
          have hA : r.1.Aids = t.Aids := by
            rw [r5]
            exact (fl_congr _ _ fun x _ hx => e5 x (by omega)).trans (fl_in hv)
          have hG : r.1.Group = t.Group := by
            rw [r7, ← hX]
            cases t.Group
            · exact decide_eq_false (by show ¬ (128 : Int) ≤ (k : Int); omega)
            · exact decide_eq_true (by show (128 : Int) ≤ (k : Int) + 128; omega)
          obtain ⟨g, l⟩ := t
          obtain ⟨⟨g', l'⟩, e⟩ := r
          simp only at hA hG ⊢
          rw [hA, hG]
        rw [r1, bindS, r3, bne_self_eq_false, cond_false, map_same t r.1 (by omega) hrt, bindS, bindS]; rfl
    · rw [show (c.2 == 0) = false by simpa using h0, cond_false]
  rw [part1, bindS, Ex.k_go']
  obtain ⟨r, r1, r2, r3, r4⟩ := dec_e b hb hL2
  rw [r1, bindS]
  by_cases h0 : r.2 = 0
  · obtain ⟨q1, q2, X, q3, q4, q5⟩ := r4 h0
    have hlen0 : ¬ b.length = 0 := by intro q; rw [List.length_eq_zero_iff.1 q] at q3; cases q3
    have hX : ((X : Int)).tmod 128 = ((X % 128 : Nat) : Int) := by rw [Int.tmod_eq_emod_of_nonneg (by omega)]; omega
    rw [h0, bne_self_eq_false, cond_false, show ((b.length : Int) == 0) = false by rw [beq_eq_false_iff_ne]; omega, cond_false, idx0, q3, bindS, hX, q5, bindS, show (true && ((b, (0 : Int)).2 == 0)) = true from rfl, cond_true, same_d b b (by omega), bindS, decide_eq_true rfl, bindS, cond_true,
      check_e r.1 (by omega), if_pos q1, bindS, bindS]; rfl
  · rw [show (r.2 != 0) = true by simpa using h0, cond_true, r3 h0]; rfl

theorem u8_wf {x : Int} (h : (Lit.int .u8 x).wf = true) : 0 ≤ x ∧ x < 256 := by
  simp only [Lit.wf, Bool.and_eq_true, decide_eq_true_eq] at h
  have h1 : IntKind.u8.min = 0 := rfl
  have h2 : IntKind.u8.max = 255 := rfl
  omega
theorem u8_wf' {x : Int} (h : (Lit.int .u8 x).wf = true) : 0 ≤ x ∧ x ≤ 255 := by have := u8_wf h; omega
theorem decodesW {P : Prop} (b : List Int) (w : P ∧ ∀ z ∈ b, (Lit.int .u8 z).wf = true) : hotspotlaw33_BitmapDecodes b = some true := decodes b fun x hx => u8_wf' (w.2 x hx)
theorem backW {P Q : Prop} (t : Traffic) (a : Int) (b : List Int) (_ : Q) (wa : (Lit.int .u8 a).wf = true) (w : P ∧ ∀ z ∈ b, (Lit.int .u8 z).wf = true) : hotspotlaw33_BitmapBack t a b = some true := back t a b (u8_wf' wa) fun x hx => u8_wf' (w.2 x hx)
end Go.AX.Z.TD

/-! (TDY) -/

set_option linter.unusedVariables false
namespace Go.AX.Z.TD
open Go.AX Go.Proofs

/-! ## Arguments, read -/

theorem ud5 : K.P.underlying 5 = some (.int .u8) := by kernel_rfl

theorem ud25 : K.P.underlying 25 = some (.slice 5) := by kernel_rfl

theorem rsl25 {B n : Nat} {x : AV} (h : Ty K.P B n 25 [x]) : ∃ l : (List Int), x = S_vu l ∧ l.length ≤ B ∧ ∀ z ∈ l, (Lit.int .u8 z).wf = true := by
  obtain ⟨vs, rfl, h1, h2⟩ := ty_slice_ints ud25 ud5 h
  exact ⟨vs, rfl, h1, h2⟩

theorem ud4 : K.P.underlying 4 = some (.bool) := by kernel_rfl

theorem ud3 : K.P.underlying 3 = some (.int .i64) := by kernel_rfl

theorem ud22 : K.P.underlying 22 = some (.slice 3) := by kernel_rfl

theorem rsl22 {B n : Nat} {x : AV} (h : Ty K.P B n 22 [x]) : ∃ l : (List Int), x = S_vi l ∧ l.length ≤ B ∧ ∀ z ∈ l, (Lit.int .i64 z).wf = true := by
  obtain ⟨vs, rfl, h1, h2⟩ := ty_slice_ints ud22 ud3 h
  exact ⟨vs, rfl, h1, h2⟩

def W_Traffic (B : Nat) (x : Traffic) : Prop := (x.Aids.length ≤ B ∧ ∀ z ∈ x.Aids, (Lit.int .i64 z).wf = true)

theorem rd24 {B n : Nat} {l : List AV} (h : Ty K.P B n 24 l) : ∃ x : Traffic, l = E_Traffic x ∧ W_Traffic B x := by
  obtain ⟨m, h⟩ := ty_struct Try.underlying24 h
  have h' : TyAll (Ty K.P B m) [4, 22] l := h
  obtain ⟨_, _, rfl, h0, _, _, rfl, h1, rfl⟩ := h'
  obtain ⟨v0, rfl⟩ := ty_bool ud4 h0
  obtain ⟨s1, rfl⟩ : ∃ x, _ = [x] := ty_single h1 (by rw [ud22]; intro _ hh; cases hh) (by rw [ud22]; intro _ _ hh; cases hh)
  obtain ⟨v1, rfl, w1⟩ := rsl22 h1
  exact ⟨⟨v0, v1⟩, rfl, w1⟩

end Go.AX.Z.TD

/-! (TDU) -/

/- How bulks bound what a reading holds. -/
namespace Go.Proofs.Ytkheccnpikfalaa.bulks
open Go.AX

theorem one_le {H : Type} (d : DataW H) : 1 ≤ Rows.uptoBulk d := by
  cases d with
  | lit l => cases l <;> simp [Rows.uptoBulk]
  | nil => simp [Rows.uptoBulk]
  | ptr d => simp [Rows.uptoBulk]
  | slice elems spare => simp [Rows.uptoBulk]
  | agg parts => simp [Rows.uptoBulk]
  | iface t d => simp [Rows.uptoBulk]
  | map entries => simp [Rows.uptoBulk]
  | held h => simp [Rows.uptoBulk]

theorem part_le {H : Type} {d : DataW H} {l : List (DataW H)} (h : d ∈ l) : Rows.uptoBulk d ≤ Rows.uptoBulkAll l := by
  induction l with
  | nil => cases h
  | cons x r ih =>
    simp only [Rows.uptoBulkAll]
    cases List.mem_cons.1 h with
    | inl e => subst e; omega
    | inr e => have := ih e; omega

theorem length_le {H : Type} (l : List (DataW H)) : l.length ≤ Rows.uptoBulkAll l := by
  induction l with
  | nil => simp [Rows.uptoBulkAll]
  | cons x r ih => have := one_le x; simp only [Rows.uptoBulkAll, List.length_cons]; omega

theorem bulk {H : Type} : Bulk (H := H) Rows.uptoBulk where
  ptr d := by simp [Rows.uptoBulk]
  elems es sp d h := by have := part_le h; simp only [Rows.uptoBulk]; omega
  len es sp := by have := length_le es; simp only [Rows.uptoBulk]; omega
  agg ds d h := by have := part_le h; simp only [Rows.uptoBulk]; omega
  str bs := by simp [Rows.uptoBulk]

theorem bound {H : Type} {l : List (DataW H)} (hk : Rows.uptoSmall H l = true) : Rows.uptoBulkAll l ≤ 1048576 := by
  have := of_decide_eq_true hk
  exact this

end Go.Proofs.Ytkheccnpikfalaa.bulks

/-! (TDTBitmapBack) -/

/- BitmapBack: the law returns true whatever its arguments. -/
namespace Go.Proofs.Ytkheccnpikfalaa.bitmapBack
open Go.ChangeShapes Go.WideShapes Go.ChangeAt Go.RowKit Go.AX Go.AX.Z Go.AX.Z.TD

theorem own : ownKnob Try.prog.godebug = none := by kernel_rfl
theorem laid : laidOutB K.P = true := by kernel_rfl
theorem par : parB K.P Try.f7.params.toList = true := by kernel_rfl

theorem law (B : Nat) (xs : List AV) (h : TyArgs K.P B Try.f7.params.toList xs) : SndP K 7 xs (.v (.bool true)) := by
  have h' : TyArgs K.P B [24, 5, 25] xs := h
  obtain ⟨_, _, rfl, h0, _, _, rfl, h1, _, _, rfl, h2, rfl⟩ := h'
  obtain ⟨_, _, rfl, qp0⟩ := tyV_ty Try.underlying24 h0
  obtain ⟨p0, rfl, wp0⟩ := rd24 qp0
  obtain ⟨p1, rfl, wp1⟩ := tyV_int ud5 h1
  obtain ⟨_, qp2⟩ := tyV_one ud25 h2
  obtain ⟨p2, rfl, wp2⟩ := rsl25 qp2
  exact hotspotlaw33_BitmapBack_p p0 p1 p2 (backW p0 p1 p2 wp0 wp1 wp2)

set_option maxRecDepth 100000 in
theorem lifted (os : Os) (started : os.Started) (H : Type) (enc : TypeId × Value → H) :
    ReturnsInHanded {} Try.checked os 7 .any (Rows.bitmapBackSpec.pre6 enc Try.prog Try.f7 Rows.bitmapBackRow.domain false) (Rows.bitmapBackSpec.post enc Try.prog Try.f7 false true false false) := by
  refine returnsInHanded_of_change (C := Try.checked) own started (by kernel_rfl) Try.func7
    (ChangeSpec.witness6 (enc := enc) (C := Try.checked) false ⟨#[], #[.agg #[.bool false, .slice none 0 0], .int .u8 0, .slice none 0 0], []⟩ 8 (by kernel_rfl) (by kernel_rfl) (by kernel_rfl) (by kernel_rfl)) ?_
  intro W base args ds gs before hval hW hcnd _
  exact law_contract (C := K) (f := 7) ⟨Try.f7, Try.func7, rfl, by decide +kernel⟩ (fn := Try.f7) (tb := 4) (B := Rows.uptoBulkAll ds) (bk := Rows.uptoBulk) rfl laid par rfl Try.underlying4 (law _) rfl
    (fun ds hds => by match ds, hds with | [d1, d2, d3], _ => rfl) bulks.bulk hval hW (fun d hd => bulks.part_le hd)

theorem over : Rows.BitmapBackSaid :=
  OpenClaim.holds_of_wide 7 Try.f7 rfl rfl rfl rfl rfl rfl rfl ⟨rfl, rfl, rfl, rfl, rfl⟩ rfl rfl rfl rfl rfl (by kernel_rfl) Try.func7 (by kernel_rfl)
    (of_decide_eq_true (by kernel_rfl)) (by unfold Func.isWrapper; first | (rw [if_pos (by decide +kernel)]; kernel_rfl) | (rw [if_neg (by decide +kernel)]; exact ⟨rfl, rfl⟩))
    (fun os started H enc _ => lifted os started H enc)

end Go.Proofs.Ytkheccnpikfalaa.bitmapBack
