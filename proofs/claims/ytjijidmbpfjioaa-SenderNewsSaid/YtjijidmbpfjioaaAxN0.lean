/- A part of the proof: AxN0. -/
namespace Go.AX

/-! ## Steps that may come in several orders (plain combinatorics) -/

section
variable {S : Type} (step : Nat → S → S) (Does : Nat → S → Prop) (ord : Nat → Nat → Bool)

def foldD (D : Nat → Bool) (l : List Nat) (s : S) : S := l.foldl (fun s i => if D i then step i s else s) s

theorem foldD_append (D : Nat → Bool) (l l' : List Nat) (s : S) : foldD step D (l ++ l') s = foldD step D l' (foldD step D l s) := by simp [foldD]

theorem foldD_cons (D : Nat → Bool) (i : Nat) (l : List Nat) (s : S) : foldD step D (i :: l) s = foldD step D l (if D i then step i s else s) := rfl

def unord (i j : Nat) : Prop := ord i j = false ∧ ord j i = false

variable (hcomm : ∀ i j s, i ≠ j → unord ord i j → step i (step j s) = step j (step i s))
variable (hframe : ∀ i j s, i ≠ j → unord ord i j → (Does i s ↔ Does i (step j s)))

include hcomm in
theorem step_fold (D : Nat → Bool) (i : Nat) : ∀ (l : List Nat) (s : S), (∀ j ∈ l, D j = true → i ≠ j ∧ unord ord i j) → step i (foldD step D l s) = foldD step D l (step i s)
  | [], s, _ => rfl
  | j :: l, s, h => by
    rw [foldD_cons, foldD_cons, step_fold D i l _ fun k hk => h k (List.mem_cons_of_mem _ hk)]
    by_cases hj : D j = true
    · simp only [hj, if_true]
      obtain ⟨h1, h2⟩ := h j (List.mem_cons_self ..) hj
      rw [hcomm i j s h1 h2]
    · simp only [hj]; rfl

include hframe in
theorem does_fold (D : Nat → Bool) (i : Nat) : ∀ (l : List Nat) (s : S), (∀ j ∈ l, D j = true → i ≠ j ∧ unord ord i j) → (Does i s ↔ Does i (foldD step D l s))
  | [], s, _ => Iff.rfl
  | j :: l, s, h => by
    rw [foldD_cons]
    refine Iff.trans ?_ (does_fold D i l _ fun k hk => h k (List.mem_cons_of_mem _ hk))
    by_cases hj : D j = true
    · simp only [hj, if_true]
      obtain ⟨h1, h2⟩ := h j (List.mem_cons_self ..) hj
      exact hframe i j s h1 h2
    · simp [hj]

include hcomm in
/-- What is not in D goes behind what is. -/
theorem fold_split (D : Nat → Bool) : ∀ (l : List Nat) (s : S), l.Pairwise (fun k m => D k = false → D m = true → k ≠ m ∧ unord ord k m) →
    foldD step (fun _ => true) l s = foldD step (fun i => !D i) l (foldD step D l s)
  | [], s, _ => rfl
  | i :: l, s, h => by
    rw [List.pairwise_cons] at h
    obtain ⟨h1, h2⟩ := h
    rw [foldD_cons, foldD_cons, foldD_cons]
    simp only [if_true]
    rw [fold_split D l _ h2]
    by_cases hi : D i = true
    · simp [hi]
    · have hi' : D i = false := by simpa using hi
      simp only [hi', Bool.not_false, if_true, Bool.false_eq_true, if_false]
      rw [step_fold step ord hcomm D i l s fun j hj hDj => h1 j hj hi' hDj]

variable (n : Nat) (s0 : S) (hlt : ∀ i j, ord i j = true → i < j)
variable (hcan : ∀ i, i < n → Does i (foldD step (fun _ => true) (List.range i) s0))

theorem range_split {i n : Nat} (h : i < n) : List.range n = List.range i ++ i :: (List.range (n - i - 1)).map (· + (i + 1)) := by
  have : n = i + (1 + (n - i - 1)) := by omega
  conv => lhs; rw [this, List.range_add, List.range_add]
  simp only [List.range_one, List.map_cons, Nat.add_zero, List.map_map, List.singleton_append]
  congr 2
  apply List.map_congr_left
  intro a _
  simp; omega

include hcomm hframe hlt hcan in
theorem any_order (D : Nat → Bool) (i : Nat) (hi : i < n) (hDi : D i = false) (hdown : ∀ k j, j < n → ord k j = true → D j = true → D k = true) (hpre : ∀ k, ord k i = true → D k = true) :
    Does i (foldD step D (List.range n) s0) ∧ step i (foldD step D (List.range n) s0) = foldD step (fun j => D j || j == i) (List.range n) s0 := by
  have hgt : ∀ j ∈ (List.range (n - i - 1)).map (· + (i + 1)), i < j ∧ j < n := by
    intro j hj
    obtain ⟨k, hk, rfl⟩ := List.mem_map.1 hj
    rw [List.mem_range] at hk
    omega
  have hup : ∀ j ∈ (List.range (n - i - 1)).map (· + (i + 1)), D j = true → i ≠ j ∧ unord ord i j := by
    intro j hj hDj
    obtain ⟨h1, h2⟩ := hgt j hj
    refine ⟨by omega, ?_, ?_⟩
    · cases ho : ord i j with
      | false => rfl
      | true => rw [hdown i j h2 ho hDj] at hDi; cases hDi
    · cases ho : ord j i with
      | false => rfl
      | true => have := hlt j i ho; omega
  have h0 := hcan i hi
  rw [fold_split step ord hcomm D] at h0
  · rw [← does_fold step Does ord hframe] at h0
    · rw [range_split hi, foldD_append, foldD_cons]
      simp only [hDi, Bool.false_eq_true, if_false]
      refine ⟨(does_fold step Does ord hframe D i _ _ hup).1 h0, ?_⟩
      rw [step_fold step ord hcomm D i _ _ hup, foldD_append, foldD_cons]
      simp only [beq_self_eq_true, Bool.or_true, if_true]
      have e1 : foldD step (fun j => D j || j == i) (List.range i) s0 = foldD step D (List.range i) s0 := by
        have : ∀ (l : List Nat) (s : S), (∀ j ∈ l, j ≠ i) → foldD step (fun j => D j || j == i) l s = foldD step D l s := by
          intro l
          induction l with
          | nil => intro s _; rfl
          | cons j l ih =>
            intro s h
            rw [foldD_cons, foldD_cons, ih _ fun k hk => h k (List.mem_cons_of_mem _ hk)]
            have : (j == i) = false := by simpa using h j (List.mem_cons_self ..)
            simp [this]
        exact this _ _ fun j hj => by rw [List.mem_range] at hj; omega
      rw [e1]
      have : ∀ (l : List Nat) (s : S), (∀ j ∈ l, j ≠ i) → foldD step (fun j => D j || j == i) l s = foldD step D l s := by
        intro l
        induction l with
        | nil => intro s _; rfl
        | cons j l ih =>
          intro s h
          rw [foldD_cons, foldD_cons, ih _ fun k hk => h k (List.mem_cons_of_mem _ hk)]
          have : (j == i) = false := by simpa using h j (List.mem_cons_self ..)
          simp [this]
      rw [this _ _ fun j hj => by have := (hgt j hj).1; omega]
    · intro j hj hDj
      rw [List.mem_range] at hj
      simp only [Bool.not_eq_true'] at hDj
      refine ⟨by omega, ?_, ?_⟩
      · cases ho : ord i j with
        | false => rfl
        | true => have := hlt i j ho; omega
      · cases ho : ord j i with
        | false => rfl
        | true => rw [hpre j ho] at hDj; cases hDj
  · have : (List.range i).Pairwise (fun a b => a < b ∧ b < i) := by
      rw [List.pairwise_iff_getElem]
      intro a b ha hb hab
      simp at ha hb ⊢
      exact ⟨hab, hb⟩
    refine this.imp fun {k m} hkm hk hm => ?_
    refine ⟨by omega, ?_, ?_⟩
    · cases ho : ord k m with
      | false => rfl
      | true => rw [hdown k m (by omega) ho hm] at hk; cases hk
    · cases ho : ord m k with
      | false => rfl
      | true => have := hlt m k ho; omega

end
end Go.AX
