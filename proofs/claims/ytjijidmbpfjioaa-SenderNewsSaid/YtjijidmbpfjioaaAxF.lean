/- A part of the proof: AxF. -/
import Derived.Test.YtjijidmbpfjioaaAxE
namespace Go.AX

section
variable {C : Ctx} {ρ : Rho} {V : View} {s : AS} {w : World}

/-- A list of values, cell by cell. -/
structure RelV (ρ : Rho) (V : View) (cs : List AV) (ys : List Value) : Prop where
  len : ys.length = cs.length
  rel : ∀ (i : Nat) x y, cs[i]? = some x → ys[i]? = some y → Rel ρ V x y
  sto : ∀ y ∈ ys, sto y = true

theorem RelV.relC {cs : List AV} {ys : List Value} (h : RelV ρ V cs ys) : RelC ρ V cs ys.toArray 0 :=
  ⟨by simp [h.len], fun i x y hx hy => h.rel i x y hx (by simpa using hy), fun i y _ hy => h.sto y (List.mem_of_getElem? (by simpa using hy))⟩

theorem RelC.relV {cs : List AV} {c : Array Value} {o : Nat} (h : RelC ρ V cs c o) : RelV ρ V cs (rowOf c o cs.length) := by
  obtain ⟨h1, h2, h3⟩ := relC_row h rfl
  refine ⟨by simpa using h2, fun i x y hx hy => h1.rel i x y hx (by simpa using hy), h3⟩

theorem RelV.append {cs ds : List AV} {ys zs : List Value} (h : RelV ρ V cs ys) (h' : RelV ρ V ds zs) : RelV ρ V (cs ++ ds) (ys ++ zs) := by
  refine ⟨by simp [h.len, h'.len], fun i x y hx hy => ?_, fun y hy => ?_⟩
  · rw [List.getElem?_append] at hx hy
    rw [h.len] at hy
    split at hx
    · rename_i hc; rw [if_pos hc] at hy; exact h.rel _ _ _ hx hy
    · rename_i hc; rw [if_neg hc] at hy; exact h'.rel _ _ _ hx hy
  · rcases List.mem_append.1 hy with h1 | h1
    · exact h.sto y h1
    · exact h'.sto y h1

theorem RelV.nil : RelV ρ V [] [] := ⟨rfl, fun i x y hx _ => by simp at hx, fun y hy => by simp at hy⟩

theorem RelV.take {cs : List AV} {ys : List Value} (h : RelV ρ V cs ys) (n : Nat) : RelV ρ V (cs.take n) (ys.take n) := by
  refine ⟨by simp [h.len], fun i x y hx hy => ?_, fun y hy => h.sto y (List.mem_of_mem_take hy)⟩
  rw [List.getElem?_take] at hx hy
  split at hx
  · rename_i hc; rw [if_pos hc] at hy; exact h.rel _ _ _ hx hy
  · cases hx

theorem RelV.drop {cs : List AV} {ys : List Value} (h : RelV ρ V cs ys) (n : Nat) : RelV ρ V (cs.drop n) (ys.drop n) := by
  refine ⟨by simp [h.len], fun i x y hx hy => ?_, fun y hy => h.sto y (List.mem_of_mem_drop hy)⟩
  rw [List.getElem?_drop] at hx hy
  exact h.rel _ _ _ hx hy

theorem RelV.of_cells {x : AV} {y : Value} {cs : List AV} (h : Rel ρ V x y) (hc : cellsOf x = some cs) : RelV ρ V cs y.cells.toList := by
  obtain ⟨h1, h2⟩ := cells_rel h hc
  refine ⟨by simpa using h1, fun i a b ha hb => h2.rel i a b ha (by simpa using hb), fun b hb => ?_⟩
  obtain ⟨i, hi⟩ := List.getElem?_of_mem hb
  exact h2.sto i b (by have := (List.getElem?_eq_some_iff.1 hi).1; simp at this; omega) (by simpa using hi)

theorem relV_v {ys : List Value} (h : ∀ y ∈ ys, sto y = true) : RelV ρ V (ys.map .v) ys :=
  ⟨by simp, fun i x y hx hy => by simp [hy] at hx; subst hx; exact .v _, h⟩

theorem rep_length (zs : List AV) : ∀ n, (rep n zs).length = n * zs.length
  | 0 => by simp [rep]
  | n + 1 => by simp [rep, rep_length zs n, Nat.succ_mul, Nat.add_comm]

def repV : Nat → List Value → List Value
  | 0, _ => []
  | n + 1, zs => zs ++ repV n zs

theorem RelV.rep {zs : List AV} {ys : List Value} (h : RelV ρ V zs ys) : ∀ n, RelV ρ V (AX.rep n zs) (repV n ys)
  | 0 => .nil
  | n + 1 => h.append (RelV.rep h n)

theorem repV_eq (z : Array Value) (n : Nat) : (Array.range (n * z.size)).map (z[· % z.size]!) = (repV n z.toList).toArray := by
  apply Array.ext'
  simp only [Array.toList_map, Array.toList_range]
  induction n with
  | zero => simp [repV]
  | succ n ih =>
    rw [repV, ← ih]
    apply List.ext_getElem?
    intro i
    rw [List.getElem?_append]
    simp only [List.getElem?_map, Array.length_toList]
    by_cases h : i < z.size
    · rw [if_pos h]
      have h1 : i < (n + 1) * z.size := by
        have : z.size ≤ (n + 1) * z.size := Nat.le_mul_of_pos_left _ (by omega)
        omega
      simp [h1, Nat.mod_eq_of_lt h, h]
    · rw [if_neg h]
      have e : (i - z.size) % z.size = i % z.size := by rw [← Nat.mod_eq_sub_mod (by omega)]
      by_cases h1 : i < (n + 1) * z.size
      · have h2 : i - z.size < n * z.size := by rw [Nat.succ_mul] at h1; omega
        simp [h1, h2, e]
      · have h2 : ¬ i - z.size < n * z.size := by rw [Nat.succ_mul] at h1; omega
        simp [h1, h2]

/-! The parts of a literal -/

theorem foldl_set (cs : Array Value) : ∀ (off : Nat) (vs : List Value) (k : Nat), off + k + vs.length ≤ cs.size →
    ((vs.zipIdx k).foldl (fun cs (c, j) => cs.setIfInBounds (off + j) c) cs).toList = cs.toList.take (off + k) ++ vs ++ cs.toList.drop (off + k + vs.length)
  | off, [], k, _ => by simp
  | off, v :: vs, k, h => by
    simp only [List.zipIdx_cons, List.foldl_cons]
    have ih := foldl_set (cs.setIfInBounds (off + k) v) off vs (k + 1) (by simp at h ⊢; omega)
    rw [ih]
    have e := list_seg_step cs.toList (off + k) v vs (by simp at h ⊢; omega)
    simpa [Array.toList_setIfInBounds, Nat.add_assoc] using e

theorem fill_sound {place : Nat → Option (Nat × Nat)} : ∀ (parts : List (Nat × AV)) (vals : List (Nat × Value)) (cells : List AV) (ys : Array Value) (r : List AV),
    vals.map (·.1) = parts.map (·.1) → (∀ (i : Nat) p q, parts[i]? = some p → vals[i]? = some q → Rel ρ V p.2 q.2) → RelV ρ V cells ys.toList → fillA place cells parts = some r →
    ∃ zs, Instr.fill place ys vals = some zs ∧ RelV ρ V r zs.toList
  | [], [], cells, ys, r, _, _, hr, h => by simp only [fillA, Option.some.injEq] at h; subst h; exact ⟨ys, rfl, hr⟩
  | [], _ :: _, _, _, _, hm, _, _, _ => by simp at hm
  | _ :: _, [], _, _, _, hm, _, _, _ => by simp at hm
  | (i, x) :: parts, (j, y) :: vals, cells, ys, r, hm, hrel, hr, h => by
    simp only [List.map_cons, List.cons.injEq] at hm
    obtain ⟨hij, hm⟩ := hm
    subst hij
    have hxy : Rel ρ V x y := hrel 0 (_, x) (_, y) rfl rfl
    simp only [fillA] at h
    cases hp : place j with
    | none => simp [hp] at h
    | some os =>
      obtain ⟨off, size⟩ := os
      cases hc : cellsOf x with
      | none => simp [hp, hc] at h
      | some cs =>
        simp only [hp, hc] at h
        split at h
        · rename_i hcond
          obtain ⟨hsz, hle⟩ := hcond
          have hv := RelV.of_cells hxy hc
          have hvl : y.cells.size = cs.length := by simpa using hv.len
          have hyl : ys.size = cells.length := by simpa using hr.len
          have hput := relC_put (base := 0) (off := off) (cs := cs) (ys := y.cells.toList) (c := ys) (cells := cells) (ρ := ρ) (V := V) hr.relC hle (by simpa using hv.len) hv.rel hv.sto
          have hfold := foldl_set ys off y.cells.toList 0 (by simp; omega)
          simp only [Nat.add_zero] at hfold
          have hzip : y.cells.zipIdx.foldl (fun cs (c, j) => cs.setIfInBounds (off + j) c) ys = (ys.toList.take off ++ y.cells.toList ++ ys.toList.drop (off + y.cells.toList.length)).toArray := by
            apply Array.ext'
            simp only
            rw [← hfold, ← Array.foldl_toList]
            simp [Array.toList_zipIdx]
          have hnew : RelV ρ V (putAt cells off cs) (ys.toList.take off ++ y.cells.toList ++ ys.toList.drop (off + y.cells.toList.length)).toArray.toList := by
            obtain ⟨h1, h2⟩ := hput
            simp only [Nat.zero_add] at h1 h2
            refine ⟨?_, fun i a b ha hb => h1.rel i a b ha (by simpa using hb), fun b hb => ?_⟩
            · rw [Array.length_toList, h2, putAt_length, hyl]
            · obtain ⟨i, hi⟩ := List.getElem?_of_mem hb
              refine h1.sto i b ?_ (by simpa using hi)
              have := (List.getElem?_eq_some_iff.1 hi).1
              rw [Array.length_toList, h2] at this
              rw [putAt_length]; omega
          obtain ⟨zs, hz1, hz2⟩ := fill_sound parts vals _ _ r hm (fun k p q hp hq => hrel (k + 1) p q (by simpa using hp) (by simpa using hq)) hnew h
          refine ⟨zs, ?_, hz2⟩
          simp only [Instr.fill, hp]
          rw [if_neg]
          · rw [hzip]; exact hz1
          · simp only [Bool.or_eq_true, decide_eq_true_eq, ne_eq, not_or]
            omega
        · cases h

end
end Go.AX
