/- A part of the proof: AxZd. -/
import Derived.Test.YtjijidmbpfjioaaAxZc
namespace Go.AX

/-! ## Arithmetic -/

theorem e8_ne (b : Bool) : ((bif b then (0 : Int) else 8) != 0) = !b := by cases b <;> rfl
theorem e8_eq (b : Bool) : ((bif b then (0 : Int) else 8) == 0) = b := by cases b <;> rfl
attribute [go_sem] e8_ne e8_eq


theorem wrapU {x : Int} : IntKind.wrap .u64 x = x % 18446744073709551616 := by
  simp [IntKind.wrap, IntKind.signed, IntKind.bits]
theorem wrapB {x : Int} : IntKind.wrap .u8 x = x % 256 := by
  simp [IntKind.wrap, IntKind.signed, IntKind.bits]

theorem and_low (x : Int) (h0 : 0 ≤ x) (h1 : x < 18446744073709551616) : ((BitVec.ofInt 64 x &&& BitVec.ofInt 64 4095).toNat : Int) = x % 4096 := by
  have e : (BitVec.ofInt 64 4095).toNat = 2 ^ 12 - 1 := by decide
  rw [BitVec.toNat_and, e, Nat.and_two_pow_sub_one_eq_mod, BitVec.toNat_ofInt]
  have : (x % ((2 ^ 64 : Nat) : Int)).toNat = x.toNat := by
    rw [Int.emod_eq_of_lt h0 (by simpa using h1)]
  rw [this]
  omega

/-- The distance from a to b on the circle of 4096. -/
def dist (a b : Int) : Int := (b - a) % 4096

theorem dist_bits (a b : Int) : IntKind.wrap .i64 (IntKind.wrap .u64 ((BitVec.ofInt 64 (IntKind.wrap .u64 (IntKind.wrap .u64 b - IntKind.wrap .u64 a)) &&& BitVec.ofInt 64 4095).toNat : Int)) = dist a b := by
  rw [wrapU (x := b), wrapU (x := a), wrapU (x := _ - _), and_low _ (by omega) (by omega), wrapU, wrap64 (by omega) (by omega)]
  unfold dist
  omega

theorem add_bits (a b : Int) : IntKind.wrap .i64 (IntKind.wrap .u64 ((BitVec.ofInt 64 (IntKind.wrap .u64 (IntKind.wrap .u64 a + IntKind.wrap .u64 b)) &&& BitVec.ofInt 64 4095).toNat : Int)) = (a + b) % 4096 := by
  rw [wrapU (x := b), wrapU (x := a), wrapU (x := _ + _), and_low _ (by omega) (by omega), wrapU, wrap64 (by omega) (by omega)]
  omega

theorem tmod_neg {a n : Int} (h : a ≤ 0) : a.tmod n = -((-a) % n) := by
  have e : a = -(-a) := by omega
  rw [e, Int.neg_tmod, Int.tmod_eq_emod_of_nonneg (show (0 : Int) ≤ -a by omega), ← e]

/-- Go's remainder by 4096, brought above 0. -/
theorem tmod_4096 (a : Int) : (a.tmod 4096 < 0 → IntKind.wrap .i64 (a.tmod 4096 + 4096) = a % 4096) ∧ (¬ a.tmod 4096 < 0 → a.tmod 4096 = a % 4096) := by
  rcases Int.le_total 0 a with h | h
  · rw [Int.tmod_eq_emod_of_nonneg h]
    exact ⟨fun h => by omega, fun _ => rfl⟩
  · rw [tmod_neg h]
    refine ⟨fun h => ?_, fun h => by omega⟩
    rw [wrap64 (by omega) (by omega)]
    omega

end Go.AX
namespace Go.AX

/-! ## Rows of equal width, parts of them -/

theorem flat_get0 {α : Type} {f : α → List AV} {sz : Nat} (hf : ∀ a, (f a).length = sz) (l : List α) (i : Nat) (a : α) (h : l[i]? = some a) (ho : 0 < sz) : (l.flatMap f)[i * sz]? = (f a)[0]? := by
  have := flat_get hf l i a 0 h ho
  rwa [Nat.add_zero] at this

theorem flat_part {α : Type} {f : α → List AV} {sz : Nat} (hf : ∀ a, (f a).length = sz) : ∀ (l : List α) (i : Nat) (a : α) (o n : Nat), l[i]? = some a → o + n ≤ sz → ((l.flatMap f).drop (i * sz + o)).take n = ((f a).drop o).take n := by
  intro l i a o n h ho
  have h1 := flat_sub hf l i a h
  rw [← List.drop_drop, ← h1, List.drop_take, List.take_take]
  congr 1
  omega

theorem flat_set {α : Type} {f : α → List AV} {sz : Nat} (hf : ∀ a, (f a).length = sz) : ∀ (l : List α) (i : Nat) (a b : α) (o : Nat) (x : AV), l[i]? = some a → o < sz → (f a).set o x = f b → (l.flatMap f).set (i * sz + o) x = (l.set i b).flatMap f
  | [], i, a, b, o, x, h, _, _ => by simp at h
  | c :: l, 0, a, b, o, x, h, ho, hs => by
    simp at h; subst h
    simp only [Nat.zero_mul, Nat.zero_add, List.flatMap_cons, List.set_cons_zero]
    rw [List.set_append_left _ _ (by rw [hf]; exact ho), hs]
  | c :: l, i + 1, a, b, o, x, h, ho, hs => by
    simp at h
    have ih := flat_set hf l i a b o x h ho hs
    simp only [List.flatMap_cons, List.set_cons_succ]
    rw [List.set_append_right _ _ (by rw [hf, Nat.add_mul]; omega), hf, show (i + 1) * sz + o - sz = i * sz + o by rw [Nat.add_mul]; omega, ih]

end Go.AX
namespace Go.AX
theorem wf_u8 {i : Int} (h : (Lit.int .u8 i).wf = true) : 0 ≤ i ∧ i < 256 := by
  simp [Lit.wf, IntKind.min, IntKind.max, IntKind.signed, IntKind.bits] at h; omega
theorem wf_i64 {i : Int} (h : (Lit.int .i64 i).wf = true) : -9223372036854775808 ≤ i ∧ i ≤ 9223372036854775807 := by
  simp [Lit.wf, IntKind.min, IntKind.max, IntKind.signed, IntKind.bits] at h; omega
theorem wf_u64 {i : Int} (h : (Lit.int .u64 i).wf = true) : 0 ≤ i ∧ i < 18446744073709551616 := by
  simp [Lit.wf, IntKind.min, IntKind.max, IntKind.signed, IntKind.bits] at h; omega

/-- The cells of n ints, one each. -/
theorem ty_ints {P : Program} {B k : Nat} {e : TypeId} {q : IntKind} (hu : P.underlying e = some (.int q)) : ∀ (ls : List (List AV)), (∀ c ∈ ls, Ty P B k e c) → ∃ vs : List Int, ls.flatten = vs.map (fun v => .v (.int q v)) ∧ vs.length = ls.length ∧ ∀ v ∈ vs, (Lit.int q v).wf = true
  | [], _ => ⟨[], rfl, rfl, fun v h => by cases h⟩
  | c :: ls, h => by
    obtain ⟨i, rfl, hw⟩ := ty_int hu (h c (by simp))
    obtain ⟨vs, h1, h2, h3⟩ := ty_ints hu ls fun d hd => h d (by simp [hd])
    refine ⟨i :: vs, by simp [h1], by simp [h2], fun v hv => ?_⟩
    rcases List.mem_cons.1 hv with rfl | hv
    · exact hw
    · exact h3 v hv

/-- A slice of ints. -/
theorem ty_slice_ints {P : Program} {B n : Nat} {t e : TypeId} {q : IntKind} {x : AV} (hs : P.underlying t = some (.slice e)) (hu : P.underlying e = some (.int q)) (h : Ty P B n t [x]) : ∃ vs : List Int, x = .imm (vs.map fun v => .v (.int q v)) vs.length ∧ vs.length ≤ B ∧ ∀ v ∈ vs, (Lit.int q v).wf = true := by
  obtain ⟨m, ls, h1, h2, h3⟩ := ty_slice hs h
  obtain ⟨vs, g1, g2, g3⟩ := ty_ints hu ls h3
  simp only [List.cons.injEq, and_true] at h1
  exact ⟨vs, by rw [h1, g1, g2], by rw [g2]; exact h2, g3⟩

/-- A slice of rows. -/
theorem ty_slice_rows {P : Program} {B n : Nat} {t e : TypeId} {x : AV} {α : Type} {f : α → List AV} (W : α → Prop) (hs : P.underlying t = some (.slice e)) (hR : ∀ (m : Nat) c, Ty P B m e c → ∃ a, c = f a ∧ W a) (h : Ty P B n t [x]) :
    ∃ l : List α, x = .imm (l.flatMap f) l.length ∧ l.length ≤ B ∧ ∀ a ∈ l, W a := by
  obtain ⟨m, ls, h1, h2, h3⟩ := ty_slice hs h
  obtain ⟨as, rfl, g2⟩ := map_of_all W (hR m) ls h3
  simp only [List.cons.injEq, and_true] at h1
  exact ⟨as, by rw [h1, List.flatMap_def, List.length_map], by simpa using h2, g2⟩
end Go.AX
namespace Go.AX
theorem tyV_ty {P : Program} {B : Nat} {t : TypeId} {x : AV} {fs : Array Field} (hu : P.underlying t = some (.struct fs)) (h : TyV P B t x) : ∃ n l, x = .agg l ∧ Ty P B n t l := by
  obtain ⟨n, l, h1, h2⟩ := h
  simp only [hu] at h2
  exact ⟨n, l, h2, h1⟩
theorem tyV_arr {P : Program} {B m : Nat} {t e : TypeId} {x : AV} (hu : P.underlying t = some (.array m e)) (h : TyV P B t x) : ∃ n l, x = .agg l ∧ Ty P B n t l := by
  obtain ⟨n, l, h1, h2⟩ := h
  simp only [hu] at h2
  exact ⟨n, l, h2, h1⟩
theorem tyV_one {P : Program} {B : Nat} {t e : TypeId} {x : AV} (hu : P.underlying t = some (.slice e)) (h : TyV P B t x) : ∃ n, Ty P B n t [x] := by
  obtain ⟨n, l, h1, h2⟩ := h
  simp only [hu] at h2
  subst h2
  exact ⟨n, h1⟩
end Go.AX
