/- A part of the proof: AxA. -/
import Derived.Orders
namespace Go.AX

/-! Abstract values: what is known of a Go value, without block numbers, capacities or draws. -/

inductive AV where
  | v (x : Value)
  | unk
  | agg (cs : List AV)
  | tup (vs : List AV)
  | imm (cells : List AV) (len : Nat)
  | iptr (cells : List AV) (off : Nat)
  | ref (id off len sz : Nat)
  | ptr (id off : Nat)
  | clo (f : Nat) (first caps : List AV)
  deriving Inhabited

structure Loc where
  b : Nat
  base : Nat
  N : Nat

abbrev Rho := Nat → Option Loc
abbrev View := Nat → Option (Array Value)

def sto : Value → Bool
  | .agg _ => false
  | .tuple _ => false
  | _ => true

inductive Rel (ρ : Rho) (V : View) : AV → Value → Prop
  | v (x : Value) : Rel ρ V (.v x) x
  | unk (y : Value) : Rel ρ V .unk y
  | agg (cs : List AV) (ys : Array Value) (h : ys.size = cs.length) (H : ∀ (i : Nat) x y, cs[i]? = some x → ys[i]? = some y → Rel ρ V x y)
      (S : ∀ (i : Nat) y, ys[i]? = some y → sto y = true) : Rel ρ V (.agg cs) (.agg ys)
  | tup (cs : List AV) (ys : Array Value) (h : ys.size = cs.length) (H : ∀ (i : Nat) x y, cs[i]? = some x → ys[i]? = some y → Rel ρ V x y) : Rel ρ V (.tup cs) (.tuple ys)
  | imm (cells : List AV) (len b o cap : Nat) (c : Array Value) (hV : V b = some c) (hb : o + cells.length ≤ c.size)
      (H : ∀ (i : Nat) x y, cells[i]? = some x → c[o + i]? = some y → Rel ρ V x y)
      (S : ∀ (i : Nat) y, i < cells.length → c[o + i]? = some y → sto y = true) (hlc : len ≤ cap) : Rel ρ V (.imm cells len) (.slice (some ⟨b, o, none⟩) len cap)
  | imm0 (a : Option Addr) (cap : Nat) : Rel ρ V (.imm [] 0) (.slice a 0 cap)
  | iptr (cells : List AV) (off b o : Nat) (c : Array Value) (hV : V b = some c) (hb : o + cells.length ≤ c.size)
      (H : ∀ (i : Nat) x y, cells[i]? = some x → c[o + i]? = some y → Rel ρ V x y)
      (S : ∀ (i : Nat) y, i < cells.length → c[o + i]? = some y → sto y = true) : Rel ρ V (.iptr cells off) (.pointer (some ⟨b, o + off, none⟩))
  | ref (id off len sz cap : Nat) (loc : Loc) (h : ρ id = some loc) (hc : loc.base + off + cap * sz ≤ loc.N) (hl : len ≤ cap) :
      Rel ρ V (.ref id off len sz) (.slice (some ⟨loc.b, loc.base + off, none⟩) len cap)
  | refE (id off sz : Nat) (a : Option Addr) : Rel ρ V (.ref id off 0 sz) (.slice a 0 0)
  | ptr (id off : Nat) (loc : Loc) (h : ρ id = some loc) : Rel ρ V (.ptr id off) (.pointer (some ⟨loc.b, loc.base + off, none⟩))
  | clo (f : Nat) (first caps : List AV) (xs ys : Array Value) (h1 : xs.size = first.length) (h2 : ys.size = caps.length)
      (H1 : ∀ (i : Nat) x y, first[i]? = some x → xs[i]? = some y → Rel ρ V x y) (H2 : ∀ (i : Nat) x y, caps[i]? = some x → ys[i]? = some y → Rel ρ V x y) :
      Rel ρ V (.clo f first caps) (.func (.func f) xs ys)

theorem Rel.mono {ρ ρ' : Rho} {V V' : View} (hρ : ∀ id loc, ρ id = some loc → ρ' id = some loc) (hV : ∀ b c, V b = some c → V' b = some c)
    {x : AV} {y : Value} (h : Rel ρ V x y) : Rel ρ' V' x y := by
  induction h with
  | v x => exact .v x
  | unk y => exact .unk y
  | agg cs ys h _ S ih => exact .agg cs ys h ih S
  | tup cs ys h _ ih => exact .tup cs ys h ih
  | imm cells len b o cap c hv hb _ S hlc ih => exact .imm cells len b o cap c (hV _ _ hv) hb ih S hlc
  | imm0 a cap => exact .imm0 a cap
  | iptr cells off b o c hv hb _ S ih => exact .iptr cells off b o c (hV _ _ hv) hb ih S
  | ref id off len sz cap loc h hc hl => exact .ref id off len sz cap loc (hρ _ _ h) hc hl
  | refE id off sz a => exact .refE id off sz a
  | ptr id off loc h => exact .ptr id off loc (hρ _ _ h)
  | clo f first caps xs ys h1 h2 _ _ ih1 ih2 => exact .clo f first caps xs ys h1 h2 ih1 ih2

/-- The cells of 'c' from 'o' on are as 'cells' says. -/
structure RelC (ρ : Rho) (V : View) (cells : List AV) (c : Array Value) (o : Nat) : Prop where
  le : o + cells.length ≤ c.size
  rel : ∀ (i : Nat) x y, cells[i]? = some x → c[o + i]? = some y → Rel ρ V x y
  sto : ∀ (i : Nat) y, i < cells.length → c[o + i]? = some y → sto y = true

theorem RelC.mono {ρ ρ' : Rho} {V V' : View} (hρ : ∀ id loc, ρ id = some loc → ρ' id = some loc) (hV : ∀ b c, V b = some c → V' b = some c)
    {cells : List AV} {c : Array Value} {o : Nat} (h : RelC ρ V cells c o) : RelC ρ' V' cells c o :=
  ⟨h.le, fun i x y hx hy => (h.rel i x y hx hy).mono hρ hV, h.sto⟩

/-- Each cell exists. -/
theorem RelC.get {ρ : Rho} {V : View} {cells : List AV} {c : Array Value} {o : Nat} (h : RelC ρ V cells c o) {i : Nat} {x : AV} (hx : cells[i]? = some x) :
    ∃ y, c[o + i]? = some y ∧ Rel ρ V x y ∧ AX.sto y = true := by
  have hi : i < cells.length := by
    rcases Nat.lt_or_ge i cells.length with h' | h'
    · exact h'
    · simp [List.getElem?_eq_none h'] at hx
  have hlt : o + i < c.size := by have := h.le; omega
  exact ⟨c[o + i], by simp [hlt], h.rel i x _ hx (by simp [hlt]), h.sto i _ hi (by simp [hlt])⟩

theorem RelC.sub {ρ : Rho} {V : View} {cells : List AV} {c : Array Value} {o : Nat} (h : RelC ρ V cells c o) (k n : Nat) (hk : k + n ≤ cells.length) :
    RelC ρ V ((cells.drop k).take n) c (o + k) := by
  have hle := h.le
  refine ⟨by simp; omega, fun i x y hx hy => ?_, fun i y hi hy => ?_⟩
  · rw [List.getElem?_take] at hx
    split at hx
    · rw [List.getElem?_drop] at hx
      exact h.rel (k + i) x y hx (by rw [← Nat.add_assoc]; exact hy)
    · cases hx
  · simp at hi
    exact h.sto (k + i) y (by omega) (by rw [← Nat.add_assoc]; exact hy)

theorem RelC.nil {ρ : Rho} {V : View} {c : Array Value} {o : Nat} (h : o ≤ c.size) : RelC ρ V [] c o :=
  ⟨by simpa using h, fun i x y hx _ => by simp at hx, fun i y hi _ => by simp at hi⟩

theorem Rel.agg_iff {ρ : Rho} {V : View} {cs : List AV} {y : Value} : Rel ρ V (.agg cs) y ↔ ∃ ys, y = .agg ys ∧ ys.size = cs.length ∧ RelC ρ V cs ys 0 := by
  constructor
  · intro h
    cases h with
    | agg _ ys h H S => exact ⟨ys, rfl, h, ⟨by omega, fun i x y hx hy => H i x y hx (by simpa using hy), fun i y _ hy => S i y (by simpa using hy)⟩⟩
  · rintro ⟨ys, rfl, h, H⟩
    refine .agg cs ys h (fun i x y hx hy => H.rel i x y hx (by simpa using hy)) fun i y hy => H.sto i y ?_ (by simpa using hy)
    rw [← h]
    rcases Nat.lt_or_ge i ys.size with h' | h'
    · exact h'
    · simp [Array.getElem?_eq_none h'] at hy

theorem Rel.imm_of {ρ : Rho} {V : View} {cells : List AV} {c : Array Value} {b o : Nat} (len cap : Nat) (hlc : len ≤ cap) (hV : V b = some c) (h : RelC ρ V cells c o) :
    Rel ρ V (.imm cells len) (.slice (some ⟨b, o, none⟩) len cap) := .imm cells len b o cap c hV h.le h.rel h.sto hlc

theorem Rel.iptr_of {ρ : Rho} {V : View} {cells : List AV} {c : Array Value} {b o : Nat} (off : Nat) (hV : V b = some c) (h : RelC ρ V cells c o) :
    Rel ρ V (.iptr cells off) (.pointer (some ⟨b, o + off, none⟩)) := .iptr cells off b o c hV h.le h.rel h.sto

/-! What a value lays into memory -/

def scal : AV → Bool
  | .v x => sto x
  | .unk => false
  | .agg _ => false
  | .tup _ => false
  | _ => true

def cellsOf : AV → Option (List AV)
  | .agg cs => some cs
  | x => if scal x then some [x] else none

theorem Rel.sto {ρ : Rho} {V : View} {x : AV} {y : Value} (h : Rel ρ V x y) (hs : scal x = true) : AX.sto y = true := by
  cases h <;> first | exact hs | rfl | (simp [scal] at hs)

theorem Value.cells_of_sto {y : Value} (h : sto y = true) : y.cells = #[y] := by
  cases y <;> first | rfl | (simp [sto] at h)

theorem cells_rel {ρ : Rho} {V : View} {x : AV} {y : Value} {cs : List AV} (h : Rel ρ V x y) (hc : cellsOf x = some cs) :
    y.cells.size = cs.length ∧ RelC ρ V cs y.cells 0 := by
  unfold cellsOf at hc
  split at hc
  · cases hc
    obtain ⟨ys, rfl, h1, h2⟩ := Rel.agg_iff.1 h
    exact ⟨h1, h2⟩
  · split at hc
    · rename_i hs
      cases hc
      have hst := h.sto hs
      rw [Value.cells_of_sto hst]
      refine ⟨rfl, ⟨by simp, fun i x' y' hx hy => ?_, fun i y' hi hy => ?_⟩⟩
      · cases i with
        | zero => simp at hx hy; subst hx; subst hy; exact h
        | succ i => simp at hx
      · simp at hi; subst hi; simp at hy; subst hy; exact hst
    · cases hc

/-! States -/

inductive Ob where
  | dead
  | live (cells : List AV)
  | froz (cells : List AV)
  deriving Inhabited

structure HS where
  objs : Nat → Ob
  next : Nat

structure AS extends HS where
  tmps : Nat → AV

def upd {α : Type} (f : Nat → α) (k : Nat) (x : α) : Nat → α := fun j => if j = k then x else f j

@[simp] theorem upd_eq {α : Type} (f : Nat → α) (k : Nat) (x : α) : upd f k x k = x := by simp [upd]
theorem upd_ne {α : Type} (f : Nat → α) {k j : Nat} (x : α) (h : j ≠ k) : upd f k x j = f j := by simp [upd, h]
theorem upd_comm {α : Type} (f : Nat → α) {k j : Nat} (x y : α) (h : j ≠ k) : upd (upd f k x) j y = upd (upd f j y) k x := by
  funext i
  unfold upd
  split <;> split <;> first | rfl | (subst_vars; exact absurd rfl h)

structure Inv (ρ : Rho) (V : View) (s : HS) (w : World) : Prop where
  view : ∀ b c, V b = some c → ∃ T fz, w.heap[b]? = some (.cells c T fz)
  fresh : ∀ id, s.next ≤ id → ρ id = none
  live : ∀ id cells loc, s.objs id = .live cells → ρ id = some loc →
    ∃ c T, w.heap[loc.b]? = some (.cells c T (0, 0)) ∧ c.size = loc.N ∧ RelC ρ V cells c loc.base ∧ V loc.b = none
  froz : ∀ id cells loc, s.objs id = .froz cells → ρ id = some loc → ∃ c, V loc.b = some c ∧ RelC ρ V cells c loc.base ∧ c.size = loc.N
  inj : ∀ i j li lj ci cj, s.objs i = .live ci → s.objs j = .live cj → ρ i = some li → ρ j = some lj → li.b = lj.b → i = j

/-- The system, what was printed and what is frozen are the same. -/
structure Mem (w w' : World) : Prop where
  os : w'.os = w.os
  out : w'.output = w.output
  frz : ∀ a, w'.frozen? a = w.frozen? a

theorem Mem.refl (w : World) : Mem w w := ⟨rfl, rfl, fun _ => rfl⟩
theorem Mem.trans {w w₁ w₂ : World} (h : Mem w w₁) (h' : Mem w₁ w₂) : Mem w w₂ :=
  ⟨h'.os.trans h.os, h'.out.trans h.out, fun a => (h'.frz a).trans (h.frz a)⟩

theorem Mem.of_heap {w w' : World} (h1 : w'.os = w.os) (h2 : w'.output = w.output) (h3 : w'.heap = w.heap) : Mem w w' :=
  ⟨h1, h2, fun a => by simp only [World.frozen?, h3]⟩

/-- Block 'b' belongs to a live object. -/
def Own (ρ : Rho) (s : HS) (b : Nat) : Prop := ∃ id cells loc, s.objs id = .live cells ∧ ρ id = some loc ∧ loc.b = b

/-- What became of the world and of the names between two states. -/
structure Grew (ρ : Rho) (V : View) (s : HS) (w : World) (ρ' : Rho) (V' : View) (s' : HS) (w' : World) : Prop where
  rho : ∀ id loc, ρ id = some loc → ρ' id = some loc
  old : ∀ id, id < s.next → ρ' id = ρ id
  next : s.next ≤ s'.next
  view : ∀ b c, V b = some c → V' b = some c
  size : w.heap.size ≤ w'.heap.size
  keep : ∀ b, b < w.heap.size → ¬ Own ρ s b → w'.heap[b]? = w.heap[b]?
  own : ∀ b, Own ρ' s' b → Own ρ s b ∨ w.heap.size ≤ b
  vnew : ∀ b c, V' b = some c → V b = some c ∨ Own ρ s b ∨ w.heap.size ≤ b
  mem : Mem w w'

theorem Grew.refl (ρ : Rho) (V : View) (s : HS) (w : World) : Grew ρ V s w ρ V s w :=
  ⟨fun _ _ h => h, fun _ _ => rfl, Nat.le_refl _, fun _ _ h => h, Nat.le_refl _, fun _ _ _ => rfl, fun _ h => .inl h, fun _ _ h => .inl h, Mem.refl _⟩

theorem Grew.trans {ρ ρ₁ ρ₂ : Rho} {V V₁ V₂ : View} {s s₁ s₂ : HS} {w w₁ w₂ : World} (h : Grew ρ V s w ρ₁ V₁ s₁ w₁) (h' : Grew ρ₁ V₁ s₁ w₁ ρ₂ V₂ s₂ w₂) :
    Grew ρ V s w ρ₂ V₂ s₂ w₂ where
  rho id loc hr := h'.rho _ _ (h.rho _ _ hr)
  old id hid := by rw [h'.old id (Nat.lt_of_lt_of_le hid h.next), h.old id hid]
  next := Nat.le_trans h.next h'.next
  view b c hv := h'.view _ _ (h.view _ _ hv)
  size := Nat.le_trans h.size h'.size
  keep b hb hn := by
    rw [h'.keep b (Nat.lt_of_lt_of_le hb h.size) fun ho => ?_, h.keep b hb hn]
    rcases h.own b ho with h1 | h1
    · exact hn h1
    · omega
  own b ho := by
    rcases h'.own b ho with h1 | h1
    · exact h.own b h1
    · exact .inr (Nat.le_trans h.size h1)
  vnew b c hv := by
    rcases h'.vnew b c hv with h1 | h1 | h1
    · exact h.vnew b c h1
    · exact .inr (h.own b h1)
    · exact .inr (.inr (Nat.le_trans h.size h1))
  mem := h.mem.trans h'.mem

end Go.AX
