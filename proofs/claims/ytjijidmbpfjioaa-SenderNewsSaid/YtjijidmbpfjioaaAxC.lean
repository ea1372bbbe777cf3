/- A part of the proof: AxC. -/
import Derived.Test.YtjijidmbpfjioaaAxB
namespace Go.AX

/-! ## What an action does to the invariant -/

structure Did (ρ : Rho) (V : View) (objs : Nat → Ob) (nx : Nat) (w : World) (fr : Nat) (e : Eff) (y : Value) (ρ' : Rho) (w' : World) : Prop where
  rel : Rel ρ' V e.val y
  inv : Inv ρ' V ⟨doAct fr e.act objs, nx⟩ w'
  rho : ∀ id loc, ρ id = some loc → ρ' id = some loc
  oth : ∀ id, id ≠ fr → ρ' id = ρ id
  size : w.heap.size ≤ w'.heap.size
  keep : ∀ b, b < w.heap.size → ¬ Own ρ ⟨objs, nx⟩ b → w'.heap[b]? = w.heap[b]?
  own : ∀ b, Own ρ' ⟨doAct fr e.act objs, nx⟩ b → Own ρ ⟨objs, nx⟩ b ∨ w.heap.size ≤ b
  mem : Mem w w'

theorem Did.pure {ρ : Rho} {V : View} {objs : Nat → Ob} {nx : Nat} {w : World} {fr : Nat} {x : AV} {y : Value} (h : Inv ρ V ⟨objs, nx⟩ w) (hr : Rel ρ V x y) :
    Did ρ V objs nx w fr ⟨x, .none⟩ y ρ w :=
  ⟨hr, h, fun _ _ h => h, fun _ _ => rfl, Nat.le_refl _, fun _ _ _ => rfl, fun _ h => .inl h, Mem.refl _⟩

/-- The heap is the old one, but for draws and the like. -/
theorem Inv.heap {ρ : Rho} {V : View} {s : HS} {w w' : World} (h : Inv ρ V s w) (hh : w'.heap = w.heap) : Inv ρ V s w' :=
  ⟨by rw [hh]; exact h.view, h.fresh, by rw [hh]; exact h.live, h.froz, h.inj⟩

theorem Did.heap {ρ : Rho} {V : View} {objs : Nat → Ob} {nx : Nat} {w : World} {fr : Nat} {e : Eff} {y : Value} {ρ' : Rho} {w' w'' : World} (h : Did ρ V objs nx w fr e y ρ' w') (hh : w''.heap = w'.heap) (h1 : w''.os = w'.os) (h2 : w''.output = w'.output) :
    Did ρ V objs nx w fr e y ρ' w'' :=
  ⟨h.rel, h.inv.heap hh, h.rho, h.oth, by rw [hh]; exact h.size, by rw [hh]; exact h.keep, h.own, h.mem.trans (Mem.of_heap h1 h2 hh)⟩

theorem Did.heap0 {ρ : Rho} {V : View} {objs : Nat → Ob} {nx : Nat} {w₀ w : World} {fr : Nat} {e : Eff} {y : Value} {ρ' : Rho} {w' : World} (h : Did ρ V objs nx w fr e y ρ' w') (hh : w.heap = w₀.heap) (h1 : w.os = w₀.os) (h2 : w.output = w₀.output) :
    Did ρ V objs nx w₀ fr e y ρ' w' :=
  ⟨h.rel, h.inv, h.rho, h.oth, by rw [← hh]; exact h.size, by rw [← hh]; exact h.keep, by rw [← hh]; exact h.own, (Mem.of_heap h1 h2 hh).trans h.mem⟩

theorem heap_push_lt {w : World} {o : Obj} {b : Nat} (h : b < w.heap.size) : (w.heap.push o)[b]? = w.heap[b]? := by
  rw [Array.getElem?_push]; split
  · omega
  · rfl

theorem mem_push (w : World) (c : Array Value) (T : TypeId) : Mem w { w with heap := w.heap.push (.cells c T) } := by
  refine ⟨rfl, rfl, fun a => ?_⟩
  by_cases h : a.block = w.heap.size
  · have : w.heap[a.block]? = none := by rw [h]; simp
    simp [World.frozen?, h]
  · simp only [World.frozen?, Array.getElem?_push, if_neg h]

theorem mem_setRow (w : World) (b : Nat) (row : Array Value) : Mem w (w.setRow b row) := by
  refine ⟨rfl, rfl, fun a => ?_⟩
  by_cases h : a.block = b
  · cases hb : w.heap[b]? with
    | none => simp [World.frozen?, World.setRow, Array.getElem?_modify, h, hb]
    | some o => cases o <;> simp [World.frozen?, World.setRow, Array.getElem?_modify, h, hb]
  · simp only [World.frozen?]
    rw [setRow_other _ _ _ _ h]

theorem lt_of_heap {w : World} {b : Nat} {o : Obj} (h : w.heap[b]? = some o) : b < w.heap.size := (Array.getElem?_eq_some_iff.1 h).1

theorem Inv.own_lt {ρ : Rho} {V : View} {s : HS} {w : World} (h : Inv ρ V s w) {b : Nat} (ho : Own ρ s b) : b < w.heap.size := by
  obtain ⟨id, cells, loc, h1, h2, rfl⟩ := ho
  obtain ⟨c, T, h3, _⟩ := h.live id cells loc h1 h2
  exact lt_of_heap h3

theorem Inv.view_lt {ρ : Rho} {V : View} {s : HS} {w : World} (h : Inv ρ V s w) {b : Nat} {c : Array Value} (hv : V b = some c) : b < w.heap.size := by
  obtain ⟨T, fz, h3⟩ := h.view b c hv
  exact lt_of_heap h3

/-- A new block for a new object; 'kill': an object that is given up. -/
theorem Did.alloc {ρ : Rho} {V : View} {objs objs' : Nat → Ob} {nx : Nat} {w : World} {fr : Nat} {e : Eff} {y : Value} {cells : List AV} {c : Array Value} {T : TypeId}
    (h : Inv ρ V ⟨objs, nx⟩ w) (hfr : ρ fr = none) (hlt : fr < nx)
    (ho : ∀ id, objs' id = objs id ∨ objs' id = .dead) (he : doAct fr e.act objs = upd objs' fr (.live cells))
    (hc : RelC ρ V cells c 0) (hr : ∀ ρ', (∀ id loc, ρ id = some loc → ρ' id = some loc) → ρ' fr = some ⟨w.heap.size, 0, c.size⟩ → Rel ρ' V e.val y) :
    Did ρ V objs nx w fr e y (upd ρ fr (some ⟨w.heap.size, 0, c.size⟩)) { w with heap := w.heap.push (.cells c T) } := by
  have hρ : ∀ id loc, ρ id = some loc → upd ρ fr (some ⟨w.heap.size, 0, c.size⟩) id = some loc := by
    intro id loc hid
    have : id ≠ fr := fun hh => by rw [hh, hfr] at hid; cases hid
    rw [upd_ne _ _ this]; exact hid
  have back : ∀ id cs, id ≠ fr → upd objs' fr (.live cells) id = .live cs → objs id = .live cs := by
    intro id cs hne hh
    rw [upd_ne _ _ hne] at hh
    rcases ho id with h1 | h1
    · rw [← h1]; exact hh
    · rw [h1] at hh; cases hh
  refine ⟨hr _ hρ (upd_eq _ _ _), ?_, hρ, fun id hid => upd_ne _ _ hid, by simp, fun b hb _ => heap_push_lt hb, ?_, mem_push _ _ _⟩
  · refine ⟨fun b c' hv => ?_, fun id hid => ?_, fun id cs loc hl hρid => ?_, fun id cs loc hl hρid => ?_, ?_⟩
    · obtain ⟨T', fz, hb⟩ := h.view b c' hv
      exact ⟨T', fz, by simp only; rw [heap_push_lt (lt_of_heap hb)]; exact hb⟩
    · have hid' : nx ≤ id := hid
      rw [upd_ne _ _ (by omega : id ≠ fr)]; exact h.fresh id hid
    · simp only [he] at hl
      by_cases hid : id = fr
      · subst hid
        rw [upd_eq] at hl hρid
        cases hl; cases hρid
        refine ⟨c, T, by simp, rfl, hc.mono hρ fun _ _ hv => hv, ?_⟩
        cases hv : V w.heap.size with
        | none => rfl
        | some c' => have := h.view_lt hv; omega
      · have hl' := back id cs hid hl
        rw [upd_ne _ _ hid] at hρid
        obtain ⟨c', T', h1, h2, h3, h4⟩ := h.live id cs loc hl' hρid
        exact ⟨c', T', by simp only; rw [heap_push_lt (lt_of_heap h1)]; exact h1, h2, h3.mono hρ fun _ _ hv => hv, h4⟩
    · simp only [he] at hl
      by_cases hid : id = fr
      · subst hid; rw [upd_eq] at hl; cases hl
      · rw [upd_ne _ _ hid] at hl hρid
        rcases ho id with h1 | h1
        · rw [h1] at hl
          obtain ⟨c', h5, h6, h7⟩ := h.froz id cs loc hl hρid
          exact ⟨c', h5, h6.mono hρ fun _ _ hv => hv, h7⟩
        · rw [h1] at hl; cases hl
    · intro i j li lj ci cj hi hj hρi hρj hb
      simp only [he] at hi hj
      by_cases hif : i = fr <;> by_cases hjf : j = fr
      · omega
      · subst hif
        rw [upd_eq] at hρi; cases hρi
        rw [upd_ne _ _ hjf] at hρj
        obtain ⟨c', T', h1, _⟩ := h.live j cj lj (back j cj hjf hj) hρj
        have := lt_of_heap h1
        simp at hb; omega
      · subst hjf
        rw [upd_eq] at hρj; cases hρj
        rw [upd_ne _ _ hif] at hρi
        obtain ⟨c', T', h1, _⟩ := h.live i ci li (back i ci hif hi) hρi
        have := lt_of_heap h1
        simp at hb; omega
      · rw [upd_ne _ _ hif] at hρi
        rw [upd_ne _ _ hjf] at hρj
        exact h.inj i j li lj ci cj (back i ci hif hi) (back j cj hjf hj) hρi hρj hb
  · rintro b ⟨id, cs, loc, hl, hρid, rfl⟩
    simp only [he] at hl
    by_cases hid : id = fr
    · subst hid; rw [upd_eq] at hρid; cases hρid; exact .inr (Nat.le_refl _)
    · rw [upd_ne _ _ hid] at hρid
      exact .inl ⟨id, cs, loc, back id cs hid hl, hρid, rfl⟩

theorem putAt_length (cells : List AV) (off : Nat) (cs : List AV) : (putAt cells off cs).length = cells.length := by
  unfold putAt
  split
  · simp
  · split
    · simp; omega
    · rfl

theorem putAt_get' (cells : List AV) (off : Nat) (cs : List AV) (i : Nat) :
    (putAt cells off cs)[i]? = if off ≤ i ∧ i < off + cs.length ∧ off + cs.length ≤ cells.length then cs[i - off]? else cells[i]? := by
  unfold putAt
  split
  · rename_i x
    rw [List.getElem?_set]
    by_cases hi : off = i
    · subst hi
      by_cases hl : off < cells.length
      · simp [hl]; intro; omega
      · simp [hl]; omega
    · rw [if_neg hi, if_neg]
      simp; omega
  · split
    · rename_i h
      rw [List.getElem?_append, List.getElem?_append]
      simp only [List.length_append, List.length_take, List.getElem?_drop, List.getElem?_take]
      have hm : min off cells.length = off := by omega
      rw [hm]
      by_cases h1 : i < off + cs.length
      · simp only [h1, h, if_true, and_true]
        by_cases h2 : i < off
        · simp only [h2, if_true]; rw [if_neg (by omega)]
        · simp only [h2, if_false]; rw [if_pos (by omega)]
      · simp only [h1, if_false, and_false, false_and]
        congr 1; omega
    · rename_i h
      rw [if_neg (by omega)]

theorem putAt_get (cells : List AV) (off : Nat) (cs : List AV) (h : off + cs.length ≤ cells.length) (i : Nat) :
    (putAt cells off cs)[i]? = if off ≤ i ∧ i < off + cs.length then cs[i - off]? else cells[i]? := by
  rw [putAt_get']
  simp only [h, and_true]

theorem putAt_comm (cells : List AV) (o1 o2 : Nat) (c1 c2 : List AV) (h : o1 + c1.length ≤ o2 ∨ o2 + c2.length ≤ o1) :
    putAt (putAt cells o1 c1) o2 c2 = putAt (putAt cells o2 c2) o1 c1 := by
  apply List.ext_getElem?
  intro i
  rw [putAt_get', putAt_get', putAt_get', putAt_get', putAt_length, putAt_length]
  by_cases a : o2 ≤ i ∧ i < o2 + c2.length ∧ o2 + c2.length ≤ cells.length
  · rw [if_pos a, if_neg (by omega), if_pos a]
  · rw [if_neg a]
    by_cases b : o1 ≤ i ∧ i < o1 + c1.length ∧ o1 + c1.length ≤ cells.length
    · rw [if_pos b, if_pos b]
    · rw [if_neg b, if_neg b, if_neg a]

/-- Cells of a block that an object owns are written. -/
theorem Inv.wr {ρ : Rho} {V : View} {objs objs' : Nat → Ob} {nx : Nat} {w : World} {id : Nat} {cells cells' : List AV} {loc : Loc} {row : Array Value}
    (h : Inv ρ V ⟨objs, nx⟩ w) (hl : objs id = .live cells) (hρ : ρ id = some loc) (ho : ∀ j, j ≠ id → objs' j = objs j) (hl' : objs' id = .live cells')
    (hs : row.size = loc.N) (hr : RelC ρ V cells' row loc.base) : Inv ρ V ⟨objs', nx⟩ (w.setRow loc.b row) := by
  obtain ⟨c, T, h1, h2, h3, h4⟩ := h.live id cells loc hl hρ
  refine ⟨fun b c' hv => ?_, h.fresh, fun j cs lj hj hρj => ?_, fun j cs lj hj hρj => ?_, ?_⟩
  · obtain ⟨T', fz, hb⟩ := h.view b c' hv
    have : b ≠ loc.b := fun hh => by rw [hh, h4] at hv; cases hv
    exact ⟨T', fz, by rw [setRow_other _ _ _ _ this]; exact hb⟩
  · by_cases hji : j = id
    · subst hji
      rw [hρ] at hρj; cases hρj
      simp only [hl'] at hj; cases hj
      exact ⟨row, T, setRow_heap w loc.b c row T (0, 0) h1, hs, hr, h4⟩
    · simp only [ho j hji] at hj
      obtain ⟨c', T', g1, g2, g3, g4⟩ := h.live j cs lj hj hρj
      have hb : lj.b ≠ loc.b := fun hh => hji (h.inj j id lj loc cs cells hj hl hρj hρ hh)
      exact ⟨c', T', by rw [setRow_other _ _ _ _ hb]; exact g1, g2, g3, g4⟩
  · by_cases hji : j = id
    · subst hji; simp only [hl'] at hj; cases hj
    · simp only [ho j hji] at hj
      exact h.froz j cs lj hj hρj
  · intro i j li lj ci cj hi hj
    have key : ∀ k ck, objs' k = .live ck → ∃ ck', objs k = .live ck' := by
      intro k ck hk
      by_cases hki : k = id
      · subst hki; exact ⟨_, hl⟩
      · exact ⟨ck, by rw [← ho k hki]; exact hk⟩
    obtain ⟨ci', hi'⟩ := key i ci hi
    obtain ⟨cj', hj'⟩ := key j cj hj
    exact h.inj i j li lj ci' cj' hi' hj'

theorem own_of_live {ρ : Rho} {objs : Nat → Ob} {nx id : Nat} {cells : List AV} {loc : Loc} (hl : objs id = .live cells) (hρ : ρ id = some loc) : Own ρ ⟨objs, nx⟩ loc.b :=
  ⟨id, cells, loc, hl, hρ, rfl⟩

/-- A row of cells put into another one. -/
theorem relC_put {ρ : Rho} {V : View} {cells cs : List AV} {c : Array Value} {base off : Nat} {ys : List Value} (h : RelC ρ V cells c base) (hl : off + cs.length ≤ cells.length)
    (hy : ys.length = cs.length) (hr : ∀ (i : Nat) x y, cs[i]? = some x → ys[i]? = some y → Rel ρ V x y) (hst : ∀ y ∈ ys, sto y = true) :
    RelC ρ V (putAt cells off cs) (c.toList.take (base + off) ++ ys ++ c.toList.drop (base + off + ys.length)).toArray base ∧
      (c.toList.take (base + off) ++ ys ++ c.toList.drop (base + off + ys.length)).toArray.size = c.size := by
  have hle := h.le
  have hsz : (c.toList.take (base + off) ++ ys ++ c.toList.drop (base + off + ys.length)).toArray.size = c.size := by simp; omega
  have hget : ∀ i, (c.toList.take (base + off) ++ ys ++ c.toList.drop (base + off + ys.length)).toArray[base + i]? = if off ≤ i ∧ i < off + cs.length then ys[i - off]? else c[base + i]? := by
    intro i
    simp only [List.getElem?_toArray]
    rw [List.getElem?_append, List.getElem?_append]
    simp only [List.length_append, List.length_take, List.getElem?_drop, List.getElem?_take, Array.length_toList, Array.getElem?_toList]
    have hm : min (base + off) c.size = base + off := by omega
    rw [hm, hy]
    by_cases h1 : i < off + cs.length
    · rw [if_pos (by omega : base + i < base + off + cs.length)]
      by_cases h2 : i < off
      · rw [if_pos (by omega), if_pos (by omega), if_neg (by omega)]
      · rw [if_neg (by omega), if_pos (by omega)]
        congr 1; omega
    · rw [if_neg (by omega), if_neg (by omega)]
      congr 1; omega
  refine ⟨⟨by rw [hsz, putAt_length]; exact hle, fun i x y hx hyy => ?_, fun i y hi hyy => ?_⟩, hsz⟩
  · rw [putAt_get _ _ _ hl] at hx
    rw [hget] at hyy
    split at hx
    · rename_i hc; rw [if_pos hc] at hyy; exact hr _ _ _ hx hyy
    · rename_i hc; rw [if_neg hc] at hyy; exact h.rel i x y hx hyy
  · rw [putAt_length] at hi
    rw [hget] at hyy
    split at hyy
    · exact hst _ (List.mem_of_getElem? hyy)
    · exact h.sto i y hi hyy

end Go.AX
