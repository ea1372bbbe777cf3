/- A part of the proof: an abstract reading of the model, proved sound. -/
import Derived.Orders
import Derived.Laws.CopyRow
import Derived.Laws.AppendOwn
import Derived.Laws.Slices
import Derived.Laws.Small
import Derived.Laws.Rows
import Derived.DataReads
import Derived.Laws.Cover3
import Derived.Laws.MakeOwn
import Derived.Laws.BytesString
import Derived.RangeFuncRecord
import Derived.RangeFuncCalls
import Derived.Lib.ConvBytes
set_option linter.unusedVariables false
set_option linter.unusedSimpArgs false

/-! (AxA) -/

namespace Go.AX

inductive AV where
 | v (x : Value)
 | unk
 | agg (cs : List AV)
 | tup (vs : List AV)
 | imm (cells : List AV) (len : Nat)
 | iptr (cells : List AV) (off : Nat)
 | ref (id off len sz : Nat)
 | ptr (id off : Nat)
 | refc (id off len sz cap : Nat)
 | clo (f : Nat) (first caps : List AV)
 deriving Inhabited

structure Loc where
 b : Nat
 base : Nat
 N : Nat

abbrev Rho := Nat → Option Loc
abbrev bw := Nat → Option (Array Value)

def sto : Value → Bool
 | .agg _ => false
 | .tuple _ => false
 | _ => true

inductive Rel (ρ : Rho) (V : bw) : AV → Value → Prop
 | v (x : Value) : Rel ρ V (.v x) x
 | unk (y : Value) : Rel ρ V .unk y
 | agg (cs : List AV) (ys : Array Value) (h : ys.size = cs.length) (H : ∀ (i : Nat) x y, cs[i]? = some x → ys[i]? = some y → Rel ρ V x y)
   (S : ∀ (i : Nat) y, ys[i]? = some y → sto y = true) : Rel ρ V (.agg cs) (.agg ys)
 | tup (cs : List AV) (ys : Array Value) (h : ys.size = cs.length) (H : ∀ (i : Nat) x y, cs[i]? = some x → ys[i]? = some y → Rel ρ V x y) : Rel ρ V (.tup cs) (.tuple ys)
 | imm (cells : List AV) (len b o cap : Nat) (c : Array Value) (hV : V b = some c) (hb : o + cells.length ≤ c.size)
   (H : ∀ (i : Nat) x y, cells[i]? = some x → c[o + i]? = some y → Rel ρ V x y)
   (S : ∀ (i : Nat) y, i < cells.length → c[o + i]? = some y → sto y = true) (hlc : len ≤ cap) : Rel ρ V (.imm cells len) (.slice (some ⟨b, o, none⟩) len cap)
 | imm0 (a : Option Addr) (cap : Nat) : Rel ρ V (.imm [] 0) (.slice a 0 cap)
 | iptr (cells : List AV) (off b o : Nat) (c : Array Value) (hV : V b = some c) (hb : o + cells.length ≤ c.size)
   (H : ∀ (i : Nat) x y, cells[i]? = some x → c[o + i]? = some y → Rel ρ V x y)
   (S : ∀ (i : Nat) y, i < cells.length → c[o + i]? = some y → sto y = true) : Rel ρ V (.iptr cells off) (.pointer (some ⟨b, o + off, none⟩))
 | ref (id off len sz cap : Nat) (loc : Loc) (h : ρ id = some loc) (hc : loc.base + off + cap * sz ≤ loc.N) (hl : len ≤ cap) :
   Rel ρ V (.ref id off len sz) (.slice (some ⟨loc.b, loc.base + off, none⟩) len cap)
 | refE (id off sz : Nat) (a : Option Addr) : Rel ρ V (.ref id off 0 sz) (.slice a 0 0)
 | ptr (id off : Nat) (loc : Loc) (h : ρ id = some loc) : Rel ρ V (.ptr id off) (.pointer (some ⟨loc.b, loc.base + off, none⟩))
 | refc (id off len sz cap : Nat) (loc : Loc) (h : ρ id = some loc) (hc : loc.base + off + cap * sz ≤ loc.N) (hl : len ≤ cap) :
   Rel ρ V (.refc id off len sz cap) (.slice (some ⟨loc.b, loc.base + off, none⟩) len cap)
 | clo (f : Nat) (first caps : List AV) (xs ys : Array Value) (h1 : xs.size = first.length) (h2 : ys.size = caps.length)
   (H1 : ∀ (i : Nat) x y, first[i]? = some x → xs[i]? = some y → Rel ρ V x y) (H2 : ∀ (i : Nat) x y, caps[i]? = some x → ys[i]? = some y → Rel ρ V x y) :
   Rel ρ V (.clo f first caps) (.func (.func f) xs ys)

theorem Rel.mono {ρ ρ' : Rho} {V V' : bw} (hρ : ∀ id loc, ρ id = some loc → ρ' id = some loc) (hV : ∀ b c, V b = some c → V' b = some c)
  {x : AV} {y : Value} (h : Rel ρ V x y) : Rel ρ' V' x y := by
 induction h with
 | v x => exact .v x
 | unk y => exact .unk y
 | agg cs ys h _ S ih => exact .agg cs ys h ih S
 | tup cs ys h _ ih => exact .tup cs ys h ih
 | imm cells len b o cap c hv hb _ S hlc ih => exact .imm cells len b o cap c (hV _ _ hv) hb ih S hlc
 | imm0 a cap => exact .imm0 a cap
 | iptr cells off b o c hv hb _ S ih => exact .iptr cells off b o c (hV _ _ hv) hb ih S
 | ref id off len sz cap loc h hc hl => exact .ref id off len sz cap loc (hρ _ _ h) hc hl
 | refE id off sz a => exact .refE id off sz a
 | ptr id off loc h => exact .ptr id off loc (hρ _ _ h)
 | refc id off len sz cap loc h hc hl => exact .refc id off len sz cap loc (hρ _ _ h) hc hl
 | clo f first caps xs ys h1 h2 _ _ ih1 ih2 => exact .clo f first caps xs ys h1 h2 ih1 ih2

structure RelC (ρ : Rho) (V : bw) (cells : List AV) (c : Array Value) (o : Nat) : Prop where
 le : o + cells.length ≤ c.size
 rel : ∀ (i : Nat) x y, cells[i]? = some x → c[o + i]? = some y → Rel ρ V x y
 sto : ∀ (i : Nat) y, i < cells.length → c[o + i]? = some y → sto y = true

theorem RelC.mono {ρ ρ' : Rho} {V V' : bw} (hρ : ∀ id loc, ρ id = some loc → ρ' id = some loc) (hV : ∀ b c, V b = some c → V' b = some c)
  {cells : List AV} {c : Array Value} {o : Nat} (h : RelC ρ V cells c o) : RelC ρ' V' cells c o :=
 ⟨h.le, fun i x y hx hy => (h.rel i x y hx hy).mono hρ hV, h.sto⟩

theorem RelC.get {ρ : Rho} {V : bw} {cells : List AV} {c : Array Value} {o : Nat} (h : RelC ρ V cells c o) {i : Nat} {x : AV} (hx : cells[i]? = some x) :
  ∃ y, c[o + i]? = some y ∧ Rel ρ V x y ∧ AX.sto y = true := by
 have hi : i < cells.length := by
  rcases Nat.lt_or_ge i cells.length with h' | h'
  ·
   exact h'
  ·
   simp [List.getElem?_eq_none h'] at hx
 have hlt : o + i < c.size := by have := h.le; omega
 exact ⟨c[o + i], by simp [hlt], h.rel i x _ hx (by simp [hlt]), h.sto i _ hi (by simp [hlt])⟩

theorem RelC.sub {ρ : Rho} {V : bw} {cells : List AV} {c : Array Value} {o : Nat} (h : RelC ρ V cells c o) (k n : Nat) (hk : k + n ≤ cells.length) :
  RelC ρ V ((cells.drop k).take n) c (o + k) := by
 have hle := h.le
 refine ⟨by simp; omega, fun i x y hx hy => ?_, fun i y hi hy => ?_⟩
 ·
  rw [List.getElem?_take] at hx
  split at hx
  ·
   rw [List.getElem?_drop] at hx
   exact h.rel (k + i) x y hx (by rw [← Nat.add_assoc]; exact hy)
  ·
   cases hx
 ·
  simp at hi
  exact h.sto (k + i) y (by omega) (by rw [← Nat.add_assoc]; exact hy)

theorem RelC.nil {ρ : Rho} {V : bw} {c : Array Value} {o : Nat} (h : o ≤ c.size) : RelC ρ V [] c o :=
 ⟨by simpa using h, fun i x y hx _ => by simp at hx, fun i y hi _ => by simp at hi⟩

theorem Rel.agg_iff {ρ : Rho} {V : bw} {cs : List AV} {y : Value} : Rel ρ V (.agg cs) y ↔ ∃ ys, y = .agg ys ∧ ys.size = cs.length ∧ RelC ρ V cs ys 0 := by
 constructor
 ·
  intro h
  cases h with
  | agg _ ys h H S => exact ⟨ys, rfl, h, ⟨by omega, fun i x y hx hy => H i x y hx (by simpa using hy), fun i y _ hy => S i y (by simpa using hy)⟩⟩
 ·
  rintro ⟨ys, rfl, h, H⟩
  refine .agg cs ys h (fun i x y hx hy => H.rel i x y hx (by simpa using hy)) fun i y hy => H.sto i y ?_ (by simpa using hy)
  rw [← h]
  rcases Nat.lt_or_ge i ys.size with h' | h'
  ·
   exact h'
  ·
   simp [Array.getElem?_eq_none h'] at hy

theorem Rel.imm_of {ρ : Rho} {V : bw} {cells : List AV} {c : Array Value} {b o : Nat} (len cap : Nat) (hlc : len ≤ cap) (hV : V b = some c) (h : RelC ρ V cells c o) :
  Rel ρ V (.imm cells len) (.slice (some ⟨b, o, none⟩) len cap) := .imm cells len b o cap c hV h.le h.rel h.sto hlc

theorem Rel.iptr_of {ρ : Rho} {V : bw} {cells : List AV} {c : Array Value} {b o : Nat} (off : Nat) (hV : V b = some c) (h : RelC ρ V cells c o) :
  Rel ρ V (.iptr cells off) (.pointer (some ⟨b, o + off, none⟩)) := .iptr cells off b o c hV h.le h.rel h.sto

def FD : AV → Bool
 | .v x => sto x
 | .unk => false
 | .agg _ => false
 | .tup _ => false
 | _ => true

def cellsOf : AV → Option (List AV)
 | .agg cs => some cs
 | x => if FD x then some [x] else none

theorem Rel.sto {ρ : Rho} {V : bw} {x : AV} {y : Value} (h : Rel ρ V x y) (hs : FD x = true) : AX.sto y = true := by
 cases h <;> first | exact hs | rfl | (simp [FD] at hs)

theorem Value.cells_of_sto {y : Value} (h : sto y = true) : y.cells = #[y] := by
 cases y <;> first | rfl | (simp [sto] at h)

theorem xL {ρ : Rho} {V : bw} {x : AV} {y : Value} {cs : List AV} (h : Rel ρ V x y) (hc : cellsOf x = some cs) :
  y.cells.size = cs.length ∧ RelC ρ V cs y.cells 0 := by
 unfold cellsOf at hc
 split at hc
 ·
  cases hc
  obtain ⟨ys, rfl, h1, h2⟩ := Rel.agg_iff.1 h
  exact ⟨h1, h2⟩
 ·
  split at hc
  ·
   rename_i hs
   cases hc
   have hst := h.sto hs
   rw [Value.cells_of_sto hst]
   refine ⟨rfl, ⟨by simp, fun i x' y' hx hy => ?_, fun i y' hi hy => ?_⟩⟩
   ·
    cases i with
    | zero => simp at hx hy; subst hx; subst hy; exact h
    | succ i => simp at hx
   ·
    simp at hi; subst hi; simp at hy; subst hy; exact hst
  ·
   cases hc

inductive Ob where
 | dead
 | live (cells : List AV)
 | froz (cells : List AV)
 deriving Inhabited

structure HS where
 objs : Nat → Ob
 next : Nat

structure AS extends HS where
 tmps : Nat → AV

def upd {α : Type} (f : Nat → α) (k : Nat) (x : α) : Nat → α := fun j => if j = k then x else f j

@[simp] theorem cB {α : Type} (f : Nat → α) (k : Nat) (x : α) : upd f k x k = x := by simp [upd]
theorem ba {α : Type} (f : Nat → α) {k j : Nat} (x : α) (h : j ≠ k) : upd f k x j = f j := by simp [upd, h]
theorem C0 {α : Type} (f : Nat → α) {k j : Nat} (x y : α) (h : j ≠ k) : upd (upd f k x) j y = upd (upd f j y) k x := by
 funext i
 unfold upd
 split <;> split <;> first | rfl | (subst_vars; exact absurd rfl h)

structure Inv (ρ : Rho) (V : bw) (s : HS) (w : World) : Prop where
 view : ∀ b c, V b = some c → ∃ T fz, w.heap[b]? = some (.cells c T fz)
 fresh : ∀ id, s.next ≤ id → ρ id = none
 live : ∀ id cells loc, s.objs id = .live cells → ρ id = some loc →
  ∃ c T, w.heap[loc.b]? = some (.cells c T (0, 0)) ∧ c.size = loc.N ∧ RelC ρ V cells c loc.base ∧ V loc.b = none
 froz : ∀ id cells loc, s.objs id = .froz cells → ρ id = some loc → ∃ c, V loc.b = some c ∧ RelC ρ V cells c loc.base ∧ c.size = loc.N
 inj : ∀ i j li lj ci cj, s.objs i = .live ci → s.objs j = .live cj → ρ i = some li → ρ j = some lj → li.b = lj.b → i = j

structure Mem (w w' : World) : Prop where
 os : w'.os = w.os
 out : w'.output = w.output
 size : w.heap.size ≤ w'.heap.size
 frz : ∀ a, a.block < w.heap.size → w'.frozen? a = w.frozen? a

theorem Mem.refl (w : World) : Mem w w := ⟨rfl, rfl, Nat.le_refl _, fun _ _ => rfl⟩
theorem Mem.trans {w w₁ w₂ : World} (h : Mem w w₁) (h' : Mem w₁ w₂) : Mem w w₂ :=
 ⟨h'.os.trans h.os, h'.out.trans h.out, Nat.le_trans h.size h'.size, fun a ha => (h'.frz a (Nat.lt_of_lt_of_le ha h.size)).trans (h.frz a ha)⟩

theorem Mem.of_heap {w w' : World} (h1 : w'.os = w.os) (h2 : w'.output = w.output) (h3 : w'.heap = w.heap) : Mem w w' :=
 ⟨h1, h2, by rw [h3]; exact Nat.le_refl _, fun a _ => by simp only [World.frozen?, h3]⟩

def Own (ρ : Rho) (s : HS) (b : Nat) : Prop := ∃ id cells loc, s.objs id = .live cells ∧ ρ id = some loc ∧ loc.b = b

structure Grew (ρ : Rho) (V : bw) (s : HS) (w : World) (ρ' : Rho) (V' : bw) (s' : HS) (w' : World) : Prop where
 rho : ∀ id loc, ρ id = some loc → ρ' id = some loc
 old : ∀ id, id < s.next → ρ' id = ρ id
 next : s.next ≤ s'.next
 view : ∀ b c, V b = some c → V' b = some c
 size : w.heap.size ≤ w'.heap.size
 keep : ∀ b, b < w.heap.size → ¬ Own ρ s b → w'.heap[b]? = w.heap[b]?
 own : ∀ b, Own ρ' s' b → Own ρ s b ∨ w.heap.size ≤ b
 vnew : ∀ b c, V' b = some c → V b = some c ∨ Own ρ s b ∨ w.heap.size ≤ b
 mem : Mem w w'

theorem Grew.refl (ρ : Rho) (V : bw) (s : HS) (w : World) : Grew ρ V s w ρ V s w :=
 ⟨fun _ _ h => h, fun _ _ => rfl, Nat.le_refl _, fun _ _ h => h, Nat.le_refl _, fun _ _ _ => rfl, fun _ h => .inl h, fun _ _ h => .inl h, Mem.refl _⟩

theorem Grew.trans {ρ ρ₁ ρ₂ : Rho} {V V₁ V₂ : bw} {s s₁ s₂ : HS} {w w₁ w₂ : World} (h : Grew ρ V s w ρ₁ V₁ s₁ w₁) (h' : Grew ρ₁ V₁ s₁ w₁ ρ₂ V₂ s₂ w₂) :
  Grew ρ V s w ρ₂ V₂ s₂ w₂ where
 rho id loc hr := h'.rho _ _ (h.rho _ _ hr)
 old id hid := by rw [h'.old id (Nat.lt_of_lt_of_le hid h.next), h.old id hid]
 next := Nat.le_trans h.next h'.next
 view b c hv := h'.view _ _ (h.view _ _ hv)
 size := Nat.le_trans h.size h'.size
 keep b hb hn := by
  rw [h'.keep b (Nat.lt_of_lt_of_le hb h.size) fun ho => ?_, h.keep b hb hn]
  rcases h.own b ho with h1 | h1
  ·
   exact hn h1
  ·
   omega
 own b ho := by
  rcases h'.own b ho with h1 | h1
  ·
   exact h.own b h1
  ·
   exact .inr (Nat.le_trans h.size h1)
 vnew b c hv := by
  rcases h'.vnew b c hv with h1 | h1 | h1
  ·
   exact h.vnew b c h1
  ·
   exact .inr (h.own b h1)
  ·
   exact .inr (.inr (Nat.le_trans h.size h1))
 mem := h.mem.trans h'.mem

end Go.AX

/-! (AxB) -/

namespace Go.AX

structure Ctx where
 P : Program
 gt : Nat → Option (List Value)
 eqk : TypeId → Option (List (Option IntKind))

def cA (P : Program) (t : TypeId) : Option Nat := (P.info? t).map (·.size)
def qQ (P : Program) (t : TypeId) : Option Nat := (P.info? t).map (·.bytes)
def zer (P : Program) (t : TypeId) : Option (List AV) := (P.info? t).bind fun i => i.zero.bind fun z => if z.cells.all sto then some (z.cells.toList.map .v) else none
def agB (P : Program) (t : TypeId) : Option Bool := (P.underlying t).map fun | .struct _ => true | .array _ _ => true | _ => false
def elS (P : Program) (t : TypeId) : Option TypeId := (P.underlying t).bind fun | .slice e => some e | _ => none
def arE (P : Program) (t : TypeId) : Option (Nat × TypeId) := (P.underlying t).bind fun | .array n e => some (n, e) | _ => none
def flE (P : Program) (t : TypeId) (f : Nat) : Option (Nat × TypeId) := (P.underlying t).bind fun | .struct fs => (fs[f]?).map (fun x => (x.offset, x.type)) | _ => none
def sS (P : Program) (t : TypeId) : Option (List (Nat × Nat)) := (P.underlying t).bind fun | .struct fs => fs.toList.mapM (fun f => (cA P f.type).map fun n => (f.offset, n)) | _ => none
def inK (P : Program) (t : TypeId) : Option IntKind := (P.underlying t).bind fun | .int k => some k | _ => none
def Fs (P : Program) (t : TypeId) : Bool := match P.underlying t with | some .bool => true | _ => false

def cst : Value → AV
 | .agg cs => if cs.all sto then .agg (cs.toList.map .v) else .v (.agg cs)
 | x => .v x

def ev (C : Ctx) (s : AS) : Operand → AV
 | .tmp t => s.tmps t
 | .const x => cst x
 | .global g => match C.gt g with
  | some cs => .iptr (cs.map .v) 0
  | none => .unk
 | .func f => .clo f [] []

inductive HAct where
 | none
 | new (cells : List AV)
 | wr (id off : Nat) (cs : List AV)
 | app (old : Option Nat) (cells : List AV)
 | set (id : Nat) (cells : List AV)

structure Eff where
 val : AV
 act : HAct

def cC (cells : List AV) (off : Nat) (cs : List AV) : List AV :=
 match cs with
 | [x] => cells.set off x
 | _ => if off + cs.length ≤ cells.length then cells.take off ++ cs ++ cells.drop (off + cs.length) else cells

def kx (objs : Nat → Ob) : Option Nat → Nat → Ob
 | Option.none => objs
 | some old => upd objs old .dead

theorem sy (objs : Nat → Ob) (old : Option Nat) (id : Nat) : kx objs old id = objs id ∨ kx objs old id = .dead := by
 cases old with
 | none => exact .inl rfl
 | some o =>
  by_cases hid : id = o
  ·
   subst hid; exact .inr (cB _ _ _)
  ·
   exact .inl (ba _ _ hid)

def dc (fr : Nat) (act : HAct) (objs : Nat → Ob) : Nat → Ob :=
 match act with
 | .none => objs
 | .new cells => upd objs fr (.live cells)
 | .wr id off cs => match objs id with
  | .live cells => upd objs id (.live (cC cells off cs))
  | _ => objs
 | .app old cells => upd (kx objs old) fr (.live cells)
 | .set id cells => match objs id with
  | .live _ => upd objs id (.live cells)
  | _ => objs

def put (s : AS) (dst : Option Nat) (x : AV) : AS := { s with tmps := match dst with | some d => upd s.tmps d x | none => s.tmps }

def AS.apply (s : AS) (dst : Option Nat) (fr : Nat) (e : Eff) : AS :=
 { objs := dc fr e.act s.objs, next := s.next, tmps := match dst with | some d => upd s.tmps d e.val | none => s.tmps }

def iop (op : BinOp) (k : IntKind) (a : Int) (k' : IntKind) (b : Int) : Option Value :=
 match op with
 | .shl => if b < 0 then none else some (.int k (k.wrap (a * 2 ^ (min b.toNat k.bits))))
 | .shr => if b < 0 then none else some (.int k (a.fdiv (2 ^ (min b.toNat k.bits))))
 | .add => if k = k' then some (.int k (k.wrap (a + b))) else none
 | .sub => if k = k' then some (.int k (k.wrap (a - b))) else none
 | .mul => if k = k' then some (.int k (k.wrap (a * b))) else none
 | .quo => if k = k' then if b = 0 then none else some (.int k (k.wrap (a.tdiv b))) else none
 | .rem => if k = k' then if b = 0 then none else some (.int k (a.tmod b)) else none
 | .and => if k = k' then some (.int k (k.wrap ((BitVec.ofInt k.bits a &&& BitVec.ofInt k.bits b).toNat))) else none
 | .or => if k = k' then some (.int k (k.wrap ((BitVec.ofInt k.bits a ||| BitVec.ofInt k.bits b).toNat))) else none
 | .xor => if k = k' then some (.int k (k.wrap ((BitVec.ofInt k.bits a ^^^ BitVec.ofInt k.bits b).toNat))) else none
 | .andNot => if k = k' then some (.int k (k.wrap ((BitVec.ofInt k.bits a &&& ~~~ BitVec.ofInt k.bits b).toNat))) else none
 | .eql => if k = k' then some (.bool (a == b)) else none
 | .neq => if k = k' then some (.bool (a != b)) else none
 | .lss => if k = k' then some (.bool (decide (a < b))) else none
 | .leq => if k = k' then some (.bool (decide (a ≤ b))) else none
 | .gtr => if k = k' then some (.bool (decide (a > b))) else none
 | .geq => if k = k' then some (.bool (decide (a ≥ b))) else none

theorem CL {P : Program} {op : BinOp} {k k' : IntKind} {a b : Int} {r : Value} (h : iop op k a k' b = some r) (t : TypeId) (w : World) :
  (binOp op t (.int k a) (.int k' b)).run P w = .ok r w := by
 unfold iop at h
 cases op <;> simp only at h
 case shl => split at h <;> cases h; rename_i hb; simp [binOp, Op.shift, hb]
 case shr => split at h <;> cases h; rename_i hb; simp [binOp, Op.shift, hb]
 case quo =>
  by_cases hk : k = k'
  ·
   by_cases hb : b = 0
   ·
    simp [hk, hb] at h
   ·
    simp [hk, hb] at h; subst h; subst hk; simp [binOp, Op.intDiv, hb]
  ·
   simp [hk] at h
 case rem =>
  by_cases hk : k = k'
  ·
   by_cases hb : b = 0
   ·
    simp [hk, hb] at h
   ·
    simp [hk, hb] at h; subst h; subst hk; simp [binOp, Op.intDiv, hb]
  ·
   simp [hk] at h
 all_goals (split at h <;> cases h; rename_i hk; subst hk; simp [binOp, Op.intArith, Op.intBits, Op.intCmp])

def eqv : AV → AV → Bool
 | .v (.int _ a), .v (.int _ b) => a == b
 | .v (.bool a), .v (.bool b) => a == b
 | _, _ => false

def pY : List AV → List AV → Bool
 | x :: xs, y :: ys => eqv x y && pY xs ys
 | [], [] => true
 | _, _ => false

def oy : Option IntKind → AV → Bool
 | some k, .v (.int k' _) => k == k'
 | none, .v (.bool _) => true
 | _, _ => false

def eT : List (Option IntKind) → List AV → Bool
 | k :: ks, x :: xs => oy k x && eT ks xs
 | [], [] => true
 | _, _ => false

def oB : AV → Value
 | .v x => x
 | _ => undef

def FZ (C : Ctx) : Prop := ∀ t ks, C.eqk t = some ks → C.P.eqGuardType C.P.depth t = false ∧
 ∀ xs ys : List AV, eT ks xs = true → eT ks ys = true → ∀ w,
  (Op.equal t (.agg (xs.map oB).toArray) (.agg (ys.map oB).toArray)).run C.P w = .ok (pY xs ys) w

theorem tU {ρ : Rho} {V : bw} : ∀ {ks : List (Option IntKind)} {xs : List AV}, eT ks xs = true → ∀ {ys : Array Value}, ys.size = xs.length → RelC ρ V xs ys 0 → ys = (xs.map oB).toArray
 | ks, xs, hk, ys, hs, hr => by
  have key : ∀ (ks : List (Option IntKind)) (xs : List AV), eT ks xs = true → ∀ (i : Nat) x, xs[i]? = some x → ∃ v, x = .v v := by
   intro ks
   induction ks with
   | nil => intro xs h i x hx; cases xs with
    | nil => simp at hx
    | cons y ys => simp [eT] at h
   | cons k ks ih =>
    intro xs h i x hx
    cases xs with
    | nil => simp at hx
    | cons y ys =>
     simp only [eT, Bool.and_eq_true] at h
     cases i with
     | zero =>
      simp at hx; subst hx
      have h1 := h.1
      unfold oy at h1
      split at h1 <;> first | exact ⟨_, rfl⟩ | cases h1
     | succ i => simp at hx; exact ih ys h.2 i x hx
  apply Array.ext'
  simp only
  apply List.ext_getElem?
  intro i
  rw [List.getElem?_map]
  cases hx : xs[i]? with
  | none =>
   have : ys.toList.length ≤ i := by
    have := List.getElem?_eq_none_iff.1 hx
    simp; omega
   simp [List.getElem?_eq_none this]
  | some x =>
   obtain ⟨y, hy, hrel, _⟩ := hr.get hx
   obtain ⟨v, rfl⟩ := key ks xs hk i x hx
   cases hrel
   simp only [Nat.zero_add] at hy
   simp [hy, oB]

end Go.AX

/-! (AxC) -/

namespace Go.AX

structure Did (ρ : Rho) (V : bw) (objs : Nat → Ob) (nx : Nat) (w : World) (fr : Nat) (e : Eff) (y : Value) (ρ' : Rho) (w' : World) : Prop where
 rel : Rel ρ' V e.val y
 inv : Inv ρ' V ⟨dc fr e.act objs, nx⟩ w'
 rho : ∀ id loc, ρ id = some loc → ρ' id = some loc
 oth : ∀ id, id ≠ fr → ρ' id = ρ id
 size : w.heap.size ≤ w'.heap.size
 keep : ∀ b, b < w.heap.size → ¬ Own ρ ⟨objs, nx⟩ b → w'.heap[b]? = w.heap[b]?
 own : ∀ b, Own ρ' ⟨dc fr e.act objs, nx⟩ b → Own ρ ⟨objs, nx⟩ b ∨ w.heap.size ≤ b
 mem : Mem w w'

theorem Did.pure {ρ : Rho} {V : bw} {objs : Nat → Ob} {nx : Nat} {w : World} {fr : Nat} {x : AV} {y : Value} (h : Inv ρ V ⟨objs, nx⟩ w) (hr : Rel ρ V x y) :
  Did ρ V objs nx w fr ⟨x, .none⟩ y ρ w :=
 ⟨hr, h, fun _ _ h => h, fun _ _ => rfl, Nat.le_refl _, fun _ _ _ => rfl, fun _ h => .inl h, Mem.refl _⟩

theorem Inv.heap {ρ : Rho} {V : bw} {s : HS} {w w' : World} (h : Inv ρ V s w) (hh : w'.heap = w.heap) : Inv ρ V s w' :=
 ⟨by rw [hh]; exact h.view, h.fresh, by rw [hh]; exact h.live, h.froz, h.inj⟩

theorem Did.heap {ρ : Rho} {V : bw} {objs : Nat → Ob} {nx : Nat} {w : World} {fr : Nat} {e : Eff} {y : Value} {ρ' : Rho} {w' w'' : World} (h : Did ρ V objs nx w fr e y ρ' w') (hh : w''.heap = w'.heap) (h1 : w''.os = w'.os) (h2 : w''.output = w'.output) :
  Did ρ V objs nx w fr e y ρ' w'' :=
 ⟨h.rel, h.inv.heap hh, h.rho, h.oth, by rw [hh]; exact h.size, by rw [hh]; exact h.keep, h.own, h.mem.trans (Mem.of_heap h1 h2 hh)⟩

theorem mU {w : World} {o : Obj} {b : Nat} (h : b < w.heap.size) : (w.heap.push o)[b]? = w.heap[b]? := by
 rw [Array.getElem?_push]; split
 ·
  omega
 ·
  rfl

theorem Eu (w : World) (c : Array Value) (T : TypeId) : Mem w { w with heap := w.heap.push (.cells c T) } := by
 refine ⟨rfl, rfl, by simp, fun a _ => ?_⟩
 by_cases h : a.block = w.heap.size
 ·
  have : w.heap[a.block]? = none := by rw [h]; simp
  simp [World.frozen?, h]
 ·
  simp only [World.frozen?, Array.getElem?_push, if_neg h]

theorem qO (w : World) (b : Nat) (row : Array Value) : Mem w (w.setRow b row) := by
 refine ⟨rfl, rfl, by simp [World.setRow], fun a _ => ?_⟩
 by_cases h : a.block = b
 ·
  cases hb : w.heap[b]? with
  | none => simp [World.frozen?, World.setRow, Array.getElem?_modify, h, hb]
  | some o => cases o <;> simp [World.frozen?, World.setRow, Array.getElem?_modify, h, hb]
 ·
  simp only [World.frozen?]
  rw [setRow_other _ _ _ _ h]

theorem fJ {w : World} {b : Nat} {o : Obj} (h : w.heap[b]? = some o) : b < w.heap.size := (Array.getElem?_eq_some_iff.1 h).1

theorem Inv.view_lt {ρ : Rho} {V : bw} {s : HS} {w : World} (h : Inv ρ V s w) {b : Nat} {c : Array Value} (hv : V b = some c) : b < w.heap.size := by
 obtain ⟨T, fz, h3⟩ := h.view b c hv
 exact fJ h3

theorem Did.alloc {ρ : Rho} {V : bw} {objs objs' : Nat → Ob} {nx : Nat} {w : World} {fr : Nat} {e : Eff} {y : Value} {cells : List AV} {c : Array Value} {T : TypeId}
  (h : Inv ρ V ⟨objs, nx⟩ w) (hfr : ρ fr = none) (hlt : fr < nx)
  (ho : ∀ id, objs' id = objs id ∨ objs' id = .dead) (he : dc fr e.act objs = upd objs' fr (.live cells))
  (hc : RelC ρ V cells c 0) (hr : ∀ ρ', (∀ id loc, ρ id = some loc → ρ' id = some loc) → ρ' fr = some ⟨w.heap.size, 0, c.size⟩ → Rel ρ' V e.val y) :
  Did ρ V objs nx w fr e y (upd ρ fr (some ⟨w.heap.size, 0, c.size⟩)) { w with heap := w.heap.push (.cells c T) } := by
 have hρ : ∀ id loc, ρ id = some loc → upd ρ fr (some ⟨w.heap.size, 0, c.size⟩) id = some loc := by
  intro id loc hid
  have : id ≠ fr := fun hh => by rw [hh, hfr] at hid; cases hid
  rw [ba _ _ this]; exact hid
 have back : ∀ id cs, id ≠ fr → upd objs' fr (.live cells) id = .live cs → objs id = .live cs := by
  intro id cs hne hh
  rw [ba _ _ hne] at hh
  rcases ho id with h1 | h1
  ·
   rw [← h1]; exact hh
  ·
   rw [h1] at hh; cases hh
 refine ⟨hr _ hρ (cB _ _ _), ?_, hρ, fun id hid => ba _ _ hid, by simp, fun b hb _ => mU hb, ?_, Eu _ _ _⟩
 ·
  refine ⟨fun b c' hv => ?_, fun id hid => ?_, fun id cs loc hl hρid => ?_, fun id cs loc hl hρid => ?_, ?_⟩
  ·
   obtain ⟨T', fz, hb⟩ := h.view b c' hv
   exact ⟨T', fz, by simp only; rw [mU (fJ hb)]; exact hb⟩
  ·
   have hid' : nx ≤ id := hid
   rw [ba _ _ (by omega : id ≠ fr)]; exact h.fresh id hid
  ·
   simp only [he] at hl
   by_cases hid : id = fr
   ·
    subst hid
    rw [cB] at hl hρid
    cases hl; cases hρid
    refine ⟨c, T, by simp, rfl, hc.mono hρ fun _ _ hv => hv, ?_⟩
    cases hv : V w.heap.size with
    | none => rfl
    | some c' => have := h.view_lt hv; omega
   ·
    have hl' := back id cs hid hl
    rw [ba _ _ hid] at hρid
    obtain ⟨c', T', h1, h2, h3, h4⟩ := h.live id cs loc hl' hρid
    exact ⟨c', T', by simp only; rw [mU (fJ h1)]; exact h1, h2, h3.mono hρ fun _ _ hv => hv, h4⟩
  ·
   simp only [he] at hl
   by_cases hid : id = fr
   ·
    subst hid; rw [cB] at hl; cases hl
   ·
    rw [ba _ _ hid] at hl hρid
    rcases ho id with h1 | h1
    ·
     rw [h1] at hl
     obtain ⟨c', h5, h6, h7⟩ := h.froz id cs loc hl hρid
     exact ⟨c', h5, h6.mono hρ fun _ _ hv => hv, h7⟩
    ·
     rw [h1] at hl; cases hl
  ·
   intro i j li lj ci cj hi hj hρi hρj hb
   simp only [he] at hi hj
   by_cases hif : i = fr <;> by_cases hjf : j = fr
   ·
    omega
   ·
    subst hif
    rw [cB] at hρi; cases hρi
    rw [ba _ _ hjf] at hρj
    obtain ⟨c', T', h1, _⟩ := h.live j cj lj (back j cj hjf hj) hρj
    have := fJ h1
    simp at hb; omega
   ·
    subst hjf
    rw [cB] at hρj; cases hρj
    rw [ba _ _ hif] at hρi
    obtain ⟨c', T', h1, _⟩ := h.live i ci li (back i ci hif hi) hρi
    have := fJ h1
    simp at hb; omega
   ·
    rw [ba _ _ hif] at hρi
    rw [ba _ _ hjf] at hρj
    exact h.inj i j li lj ci cj (back i ci hif hi) (back j cj hjf hj) hρi hρj hb
 ·
  rintro b ⟨id, cs, loc, hl, hρid, rfl⟩
  simp only [he] at hl
  by_cases hid : id = fr
  ·
   subst hid; rw [cB] at hρid; cases hρid; exact .inr (Nat.le_refl _)
  ·
   rw [ba _ _ hid] at hρid
   exact .inl ⟨id, cs, loc, back id cs hid hl, hρid, rfl⟩

theorem eF (cells : List AV) (off : Nat) (cs : List AV) : (cC cells off cs).length = cells.length := by
 unfold cC
 split
 ·
  simp
 ·
  split
  ·
   simp; omega
  ·
   rfl

theorem jI (cells : List AV) (off : Nat) (cs : List AV) (i : Nat) :
  (cC cells off cs)[i]? = if off ≤ i ∧ i < off + cs.length ∧ off + cs.length ≤ cells.length then cs[i - off]? else cells[i]? := by
 unfold cC
 split
 ·
  rename_i x
  rw [List.getElem?_set]
  by_cases hi : off = i
  ·
   subst hi
   by_cases hl : off < cells.length
   ·
    simp [hl]; intro; omega
   ·
    simp [hl]; omega
  ·
   rw [if_neg hi, if_neg]
   simp; omega
 ·
  split
  ·
   rename_i h
   rw [List.getElem?_append, List.getElem?_append]
   simp only [List.length_append, List.length_take, List.getElem?_drop, List.getElem?_take]
   have hm : min off cells.length = off := by omega
   rw [hm]
   by_cases h1 : i < off + cs.length
   ·
    simp only [h1, h, if_true, and_true]
    by_cases h2 : i < off
    ·
     simp only [h2, if_true]; rw [if_neg (by omega)]
    ·
     simp only [h2, if_false]; rw [if_pos (by omega)]
   ·
    simp only [h1, if_false, and_false, false_and]
    congr 1; omega
  ·
   rename_i h
   rw [if_neg (by omega)]

theorem CI (cells : List AV) (off : Nat) (cs : List AV) (h : off + cs.length ≤ cells.length) (i : Nat) :
  (cC cells off cs)[i]? = if off ≤ i ∧ i < off + cs.length then cs[i - off]? else cells[i]? := by
 rw [jI]
 simp only [h, and_true]

theorem Bd (cells : List AV) (o1 o2 : Nat) (c1 c2 : List AV) (h : o1 + c1.length ≤ o2 ∨ o2 + c2.length ≤ o1) :
  cC (cC cells o1 c1) o2 c2 = cC (cC cells o2 c2) o1 c1 := by
 apply List.ext_getElem?
 intro i
 rw [jI, jI, jI, jI, eF, eF]
 by_cases a : o2 ≤ i ∧ i < o2 + c2.length ∧ o2 + c2.length ≤ cells.length
 ·
  rw [if_pos a, if_neg (by omega), if_pos a]
 ·
  rw [if_neg a]
  by_cases b : o1 ≤ i ∧ i < o1 + c1.length ∧ o1 + c1.length ≤ cells.length
  ·
   rw [if_pos b, if_pos b]
  ·
   rw [if_neg b, if_neg b, if_neg a]

theorem Inv.wr {ρ : Rho} {V : bw} {objs objs' : Nat → Ob} {nx : Nat} {w : World} {id : Nat} {cells cells' : List AV} {loc : Loc} {row : Array Value}
  (h : Inv ρ V ⟨objs, nx⟩ w) (hl : objs id = .live cells) (hρ : ρ id = some loc) (ho : ∀ j, j ≠ id → objs' j = objs j) (hl' : objs' id = .live cells')
  (hs : row.size = loc.N) (hr : RelC ρ V cells' row loc.base) : Inv ρ V ⟨objs', nx⟩ (w.setRow loc.b row) := by
 obtain ⟨c, T, h1, h2, h3, h4⟩ := h.live id cells loc hl hρ
 refine ⟨fun b c' hv => ?_, h.fresh, fun j cs lj hj hρj => ?_, fun j cs lj hj hρj => ?_, ?_⟩
 ·
  obtain ⟨T', fz, hb⟩ := h.view b c' hv
  have : b ≠ loc.b := fun hh => by rw [hh, h4] at hv; cases hv
  exact ⟨T', fz, by rw [setRow_other _ _ _ _ this]; exact hb⟩
 ·
  by_cases hji : j = id
  ·
   subst hji
   rw [hρ] at hρj; cases hρj
   simp only [hl'] at hj; cases hj
   exact ⟨row, T, setRow_heap w loc.b c row T (0, 0) h1, hs, hr, h4⟩
  ·
   simp only [ho j hji] at hj
   obtain ⟨c', T', g1, g2, g3, g4⟩ := h.live j cs lj hj hρj
   have hb : lj.b ≠ loc.b := fun hh => hji (h.inj j id lj loc cs cells hj hl hρj hρ hh)
   exact ⟨c', T', by rw [setRow_other _ _ _ _ hb]; exact g1, g2, g3, g4⟩
 ·
  by_cases hji : j = id
  ·
   subst hji; simp only [hl'] at hj; cases hj
  ·
   simp only [ho j hji] at hj
   exact h.froz j cs lj hj hρj
 ·
  intro i j li lj ci cj hi hj
  have key : ∀ k ck, objs' k = .live ck → ∃ ck', objs k = .live ck' := by
   intro k ck hk
   by_cases hki : k = id
   ·
    subst hki; exact ⟨_, hl⟩
   ·
    exact ⟨ck, by rw [← ho k hki]; exact hk⟩
  obtain ⟨ci', hi'⟩ := key i ci hi
  obtain ⟨cj', hj'⟩ := key j cj hj
  exact h.inj i j li lj ci' cj' hi' hj'

theorem ox {ρ : Rho} {objs : Nat → Ob} {nx id : Nat} {cells : List AV} {loc : Loc} (hl : objs id = .live cells) (hρ : ρ id = some loc) : Own ρ ⟨objs, nx⟩ loc.b :=
 ⟨id, cells, loc, hl, hρ, rfl⟩

theorem Aj {ρ : Rho} {V : bw} {cells cs : List AV} {c : Array Value} {base off : Nat} {ys : List Value} (h : RelC ρ V cells c base) (hl : off + cs.length ≤ cells.length)
  (hy : ys.length = cs.length) (hr : ∀ (i : Nat) x y, cs[i]? = some x → ys[i]? = some y → Rel ρ V x y) (hst : ∀ y ∈ ys, sto y = true) :
  RelC ρ V (cC cells off cs) (c.toList.take (base + off) ++ ys ++ c.toList.drop (base + off + ys.length)).toArray base ∧
   (c.toList.take (base + off) ++ ys ++ c.toList.drop (base + off + ys.length)).toArray.size = c.size := by
 have hle := h.le
 have hsz : (c.toList.take (base + off) ++ ys ++ c.toList.drop (base + off + ys.length)).toArray.size = c.size := by simp; omega
 have hget : ∀ i, (c.toList.take (base + off) ++ ys ++ c.toList.drop (base + off + ys.length)).toArray[base + i]? = if off ≤ i ∧ i < off + cs.length then ys[i - off]? else c[base + i]? := by
  intro i
  simp only [List.getElem?_toArray]
  rw [List.getElem?_append, List.getElem?_append]
  simp only [List.length_append, List.length_take, List.getElem?_drop, List.getElem?_take, Array.length_toList, Array.getElem?_toList]
  have hm : min (base + off) c.size = base + off := by omega
  rw [hm, hy]
  by_cases h1 : i < off + cs.length
  ·
   rw [if_pos (by omega : base + i < base + off + cs.length)]
   by_cases h2 : i < off
   ·
    rw [if_pos (by omega), if_pos (by omega), if_neg (by omega)]
   ·
    rw [if_neg (by omega), if_pos (by omega)]
    congr 1; omega
  ·
   rw [if_neg (by omega), if_neg (by omega)]
   congr 1; omega
 refine ⟨⟨by rw [hsz, eF]; exact hle, fun i x y hx hyy => ?_, fun i y hi hyy => ?_⟩, hsz⟩
 ·
  rw [CI _ _ _ hl] at hx
  rw [hget] at hyy
  split at hx
  ·
   rename_i hc; rw [if_pos hc] at hyy; exact hr _ _ _ hx hyy
  ·
   rename_i hc; rw [if_neg hc] at hyy; exact h.rel i x y hx hyy
 ·
  rw [eF] at hi
  rw [hget] at hyy
  split at hyy
  ·
   exact hst _ (List.mem_of_getElem? hyy)
  ·
   exact h.sto i y hi hyy

end Go.AX

/-! (AxD) -/

namespace Go.AX

def lR (s : AS) : AV → Option (List AV × Nat)
 | .ptr id off => match s.objs id with
  | .live cells => some (cells, off)
  | .froz cells => some (cells, off)
  | .dead => none
 | .iptr cells off => some (cells, off)
 | _ => none

def cg (cells : List AV) (off n : Nat) : Option (List AV) := if off + n ≤ cells.length then some ((cells.drop off).take n) else none

def lq (P : Program) (t : TypeId) (cells : List AV) (off : Nat) : Option AV :=
 match agB P t with
 | some true => match cA P t with
  | some n => (cg cells off n).map .agg
  | none => none
 | some false => cells[off]?
 | none => none

def fG : AV → Option Int
 | .v (.int _ n) => some n
 | _ => none

def rep : Nat → List AV → List AV
 | 0, _ => []
 | n + 1, zs => zs ++ rep n zs

def mD (place : Nat → Option (Nat × Nat)) (cells : List AV) : List (Nat × AV) → Option (List AV)
 | [] => some cells
 | (i, x) :: rest => match place i, cellsOf x with
  | some (off, size), some cs => if cs.length = size ∧ off + cs.length ≤ cells.length then mD place (cC cells off cs) rest else none
  | _, _ => none

def kS : Value → Bool
 | .slice none 0 0 => true
 | _ => false

def emS : Value → Bool
 | .slice _ 0 _ => true
 | _ => false

def me (s : AS) (sz : Nat) : AV → Option (List AV × Nat)
 | .v x => if emS x then some ([], 0) else none
 | .imm cells k => if cells.length = k * sz then some (cells, k) else none
 | .ref id off k sz' => if sz' = sz then match s.objs id with
   | .live cells => (cg cells off (k * sz)).map fun c => (c, k)
   | .froz cells => (cg cells off (k * sz)).map fun c => (c, k)
   | .dead => none
  else none
 | .refc id off k sz' _ => if sz' = sz then match s.objs id with
   | .live cells => (cg cells off (k * sz)).map fun c => (c, k)
   | .froz cells => (cg cells off (k * sz)).map fun c => (c, k)
   | .dead => none
  else none
 | _ => none

def FM : AV → Option Bool
 | .v (.slice a _ _) => some a.isNone
 | .imm _ (_ + 1) => some false
 | .ref _ _ (_ + 1) _ => some false
 | _ => none

def LL : AV → Option Bool
 | .v (.pointer none) => some true
 | .ptr _ _ => some false
 | .iptr _ _ => some false
 | _ => none

def eqB (C : Ctx) (t : TypeId) (x y : AV) : Option Bool :=
 match x, y with
 | .v (.bool a), .v (.bool b) => if Fs C.P t then some (a == b) else none
 | .agg xs, .agg ys => match C.eqk t with
  | some ks => if eT ks xs && eT ks ys then some (pY xs ys) else none
  | none => none
 | x, .v (.slice none 0 0) => if (elS C.P t).isSome then FM x else none
 | _, _ => none

def ue (l : List Int) : ByteArray := l.foldl (fun r n => r.push (UInt8.ofNat n.toNat)) ByteArray.empty

def mM : List AV → Option (List Int)
 | [] => some []
 | .v (.int .u8 n) :: l => (mM l).map (n :: ·)
 | _ => none

def IZ (P : Program) (a b : TypeId) : Bool := match P.underlying a, P.underlying b with
 | some (.slice e), some .string => (match P.underlying e with | some (.int .u8) => true | _ => false)
 | _, _ => false

def BC (C : Ctx) (s : AS) (a b : TypeId) (x : AV) : Option AV :=
 bif IZ C.P a b then match me s 1 x with
  | some p => (mM p.1).map fun l => .v (.string (ue l))
  | none => none
 else none

def sbE (P : Program) (a b : TypeId) (x : AV) : Option AV :=
 match x with
 | .v (.string s) => match P.underlying a, P.underlying b with
  | some _, some (.slice e) => (match P.underlying e with
   | some (.int .u8) => some (.imm (s.data.toList.map fun c => .v (.int .u8 c.toNat)) s.size)
   | _ => none)
  | _, _ => none
 | _ => none

def Fp (C : Ctx) (op : BinOp) (t : TypeId) (x y : AV) : Option AV :=
 match x, y with
 | .v (.int k a), .v (.int k' b) => (iop op k a k' b).map .v
 | .v (.string a), .v (.string b) => match op with
  | .eql => some (.v (.bool (a.toList == b.toList)))
  | .neq => some (.v (.bool (!(a.toList == b.toList))))
  | _ => none
 | x, y => match op with
  | .eql => (eqB C t x y).map fun b => .v (.bool b)
  | .neq => (eqB C t x y).map fun b => .v (.bool (!b))
  | _ => none

def F7s (op : UnOp) (x : AV) : Option AV :=
 match op, x with
 | .not, .v (.bool b) => some (.v (.bool (!b)))
 | .neg, .v (.int k n) => some (.v (.int k (k.wrap (0 - n))))
 | .xor, .v (.int k n) => some (.v (.int k (k.wrap ((BitVec.ofInt k.bits (if k.signed then -1 else k.max) ^^^ BitVec.ofInt k.bits n).toNat))))
 | _, _ => none

def ne (P : Program) (t : TypeId) (x i : AV) : Option AV :=
 match fG i with
 | some n => if 0 ≤ n then match P.underlying t with
  | some (.array len e) => match cA P e with
   | some sz => if n < (len : Int) then match x with
    | .ptr id off => some (.ptr id (off + n.toNat * sz))
    | .iptr cells off => some (.iptr cells (off + n.toNat * sz))
    | _ => none
    else none
   | none => none
  | some (.slice e) => match cA P e with
   | some sz => match x with
    | .ref id off len sz' => if n < (len : Int) ∧ sz' = sz then some (.ptr id (off + n.toNat * sz)) else none
    | .imm cells len => if n < (len : Int) then some (.iptr cells (n.toNat * sz)) else none
    | _ => none
   | none => none
  | _ => none
  else none
 | none => none

def zm : Option AV → Option Int
 | none => some 0
 | some x => fG x

def vV (n : Nat) : Option AV → Option Int
 | none => some n
 | some x => fG x

def uM (P : Program) (s : AS) (t : TypeId) (x : AV) (lo hi : Option AV) : Option AV :=
 match P.underlying t with
 | some (.array n e) => match cA P e, zm lo, vV n hi with
  | some sz, some l, some h => if 0 ≤ l ∧ l ≤ h ∧ h ≤ (n : Int) then match x with
    | .ptr id off => match s.objs id with
     | .live cells => if off + n * sz ≤ cells.length then some (.ref id (off + l.toNat * sz) (h - l).toNat sz) else none
     | _ => none
    | .iptr cells off => if off + n * sz ≤ cells.length then some (.imm ((cells.drop (off + l.toNat * sz)).take ((h - l).toNat * sz)) (h - l).toNat) else none
    | _ => none
   else none
  | _, _, _ => none
 | some (.slice e) => match cA P e with
  | some sz => match x with
   | .ref id off len sz' => match zm lo, vV len hi with
    | some l, some h => if 0 ≤ l ∧ l ≤ h ∧ h ≤ (len : Int) ∧ sz' = sz then some (.ref id (off + l.toNat * sz) (h - l).toNat sz) else none
    | _, _ => none
   | .imm cells len => match zm lo, vV len hi with
    | some l, some h => if 0 ≤ l ∧ l ≤ h ∧ h ≤ (len : Int) ∧ cells.length = len * sz then some (.imm ((cells.drop (l.toNat * sz)).take ((h - l).toNat * sz)) (h - l).toNat) else none
    | _, _ => none
   | .refc id off len sz' cap => match zm lo, vV len hi with
    | some l, some h => if 0 ≤ l ∧ l ≤ h ∧ h ≤ (cap : Int) ∧ sz' = sz then (if l < (cap : Int) then some (.refc id (off + l.toNat * sz) (h - l).toNat sz (cap - l.toNat)) else some (.ref id off 0 sz)) else none
    | _, _ => none
   | .v x => if kS x then match zm lo, vV 0 hi with
    | some l, some h => if l = 0 ∧ h = 0 then some (.v (.slice none 0 0)) else none
    | _, _ => none
    else none
   | _ => none
  | none => none
 | _ => none

def uD (P : Program) (t : TypeId) (x l h m : AV) : Option AV :=
 match P.underlying t with
 | some (.slice e) => match cA P e, x, fG l, fG h, fG m with
  | some _, .refc _ _ _ _ cap, some l, some h, some m => if 0 ≤ l ∧ l ≤ h ∧ h ≤ m ∧ m ≤ (cap : Int) then some .unk else none
  | some _, .ref _ _ len _, some l, some h, some m => if 0 ≤ l ∧ l ≤ h ∧ h ≤ m ∧ m ≤ (len : Int) then some .unk else none
  | _, _, _, _, _ => none
 | _ => none

def uC (P : Program) (t : TypeId) (x h m : AV) : Option AV :=
 match P.underlying t with
 | some (.slice e) => match cA P e, x, fG h, fG m with
  | some sz, .ref id off len sz', some h, some m => if 0 ≤ h ∧ h ≤ m ∧ m ≤ (len : Int) ∧ sz' = sz then some (.ref id off h.toNat sz) else none
  | _, _, _, _ => none
 | _ => none

def uJ (P : Program) (s : AS) (fr : Nat) (e u : TypeId) (x y : AV) : Option Eff :=
 match P.underlying u, cA P e, qQ P e, zer P e with
 | some (.int _), some sz, some by', some zs => match y with
  | .v (.int _ n) => match x with
   | .refc id off len sz' cap => match s.objs id with
    | .live cells => if zs.length = sz ∧ sz' = sz ∧ 0 < sz ∧ off + len * sz ≤ cells.length ∧ 0 < n ∧ n < 9223372036854775808 ∧ (cap : Int) < (len : Int) + n ∧ 0 < by' ∧ ((len : Int) + n) * by' ≤ 140737488355328 then some ⟨.ref fr 0 (len + n.toNat) sz, .new ((cells.drop off).take (len * sz) ++ rep n.toNat zs)⟩ else none
    | _ => none
   | .ref id off len sz' => match s.objs id with
    | .live cells => if zs.length = sz ∧ sz' = sz ∧ 0 < sz ∧ off + len * sz = cells.length ∧ 0 < n ∧ n < 9223372036854775808 ∧ 0 < by' ∧ ((len : Int) + n) * by' ≤ 140737488355328 then some ⟨.ref fr 0 (len + n.toNat) sz, .app (some id) (cells.drop off ++ rep n.toNat zs)⟩ else none
    | _ => none
   | .v x => if kS x then if zs.length = sz ∧ 0 < sz ∧ 0 < n ∧ n < 9223372036854775808 ∧ 0 < by' ∧ n * by' ≤ 140737488355328 then some ⟨.ref fr 0 n.toNat sz, .new (rep n.toNat zs)⟩ else none else none
   | _ => none
  | _ => none
 | _, _, _, _ => none

def DW (P : Program) (s : AS) (fr : Nat) (t u : TypeId) (x y : AV) : Option Eff :=
 match elS P t, elS P u with
 | some e, some _ => match cA P e, qQ P e, zer P e with
  | some sz, some by', some zs => if zs.length = sz then match me s sz y with
   | some (xs, k) => match x with
    | .v x => if kS x then if 0 < by' ∧ k * by' ≤ 140737488355328 then some ⟨.ref fr 0 k sz, .app none xs⟩ else none else none
    | .ref id off len sz' => match s.objs id with
     | .live cells => if sz' = sz ∧ off + len * sz = cells.length ∧ 0 < by' ∧ (len + k) * by' ≤ 140737488355328 then some ⟨.ref fr 0 (len + k) sz, .app (some id) (cells.drop off ++ xs)⟩ else none
     | _ => none
    | .refc id off len sz' cap => match s.objs id with
     | .live cells => if sz' = sz ∧ off + len * sz ≤ cells.length ∧ len + k ≤ cap then some ⟨.refc id off (len + k) sz cap, .set id (cells.take (off + len * sz) ++ xs ++ cells.drop (off + len * sz + k * sz))⟩ else none
     | _ => none
    | _ => none
   | none => none
   else none
  | _, _, _ => none
 | some e, none => uJ P s fr e u x y
 | _, _ => none

def uP (s : AS) (sz : Nat) (x y : AV) : Option Eff :=
 match x, y with
 | .refc id off len sz' _, .refc id2 off2 k sz2 _ => match s.objs id, s.objs id2 with
  | .live cells, .live cells2 => if sz' = sz ∧ sz2 = sz ∧ off ≤ cells.length then (cg cells2 off2 (min k len * sz)).map fun xs => ⟨.v (.int .i64 (min k len : Nat)), .set id (cells.take off ++ xs ++ cells.drop (off + min k len * sz))⟩ else none
  | _, _ => none
 | _, _ => none

def zL (P : Program) (s : AS) (t : TypeId) (x y : AV) : Option Eff :=
 match elS P t with
 | some e => match cA P e with
  | some sz => match me s sz y with
   | some (xs, k) => match x with
    | .ref id off len sz' => match s.objs id with
     | .live cells => if sz' = sz ∧ off + (min k len) * sz ≤ cells.length then some ⟨.v (.int .i64 (min k len : Nat)), .wr id off (xs.take (min k len * sz))⟩ else none
     | _ => none
    | .refc id off len sz' _ => match s.objs id with
     | .live cells => if sz' = sz ∧ off ≤ cells.length then some ⟨.v (.int .i64 (min k len : Nat)), .set id (cells.take off ++ xs.take (min k len * sz) ++ cells.drop (off + min k len * sz))⟩ else none
     | _ => none
    | _ => none
   | none => uP s sz x y
  | none => none
 | none => none

def we (P : Program) (s : AS) (t : TypeId) (x : AV) : Option Eff :=
 match elS P t with
 | some e => match cA P e, zer P e with
  | some sz, some zs => match x with
    | .ref id off len sz' => match s.objs id with
     | .live cells => if zs.length = sz ∧ sz' = sz ∧ off + len * sz ≤ cells.length then some ⟨.tup [], .wr id off (rep len zs)⟩ else none
     | _ => none
    | .refc id off len sz' _ => match s.objs id with
     | .live cells => if zs.length = sz ∧ sz' = sz ∧ off ≤ cells.length then some ⟨.tup [], .set id (cells.take off ++ rep len zs ++ cells.drop (off + len * sz))⟩ else none
     | _ => none
    | _ => none
  | _, _ => none
 | none => none

def Fm (P : Program) (t : TypeId) (x : AV) : Option AV :=
 match P.underlying t with
 | some (.array n _) => some (.v (.int .i64 n))
 | some (.slice _) => match x with
  | .ref _ _ n _ => some (.v (.int .i64 n))
  | .refc _ _ n _ _ => some (.v (.int .i64 n))
  | .imm _ n => some (.v (.int .i64 n))
  | .v (.slice none n 0) => some (.v (.int .i64 n))
  | _ => none
 | some .string => match x with
  | .v (.string b) => some (.v (.int .i64 b.size))
  | _ => none
 | _ => none

def GJ (P : Program) (t : TypeId) (x : AV) : Option AV :=
 match P.underlying t with
 | some (.slice _) => match x with
  | .refc _ _ _ _ c => some (.v (.int .i64 c))
  | .v x => if kS x then some (.v (.int .i64 0)) else none
  | _ => none
 | _ => none

def GE : AV → AV → Option AV
 | .v (.int k x), .v (.int _ y) => some (.v (.int k (if y < x then y else x)))
 | _, _ => none
def Gr : AV → AV → Option AV
 | .v (.int k x), .v (.int _ y) => some (.v (.int k (if y > x then y else x)))
 | _, _ => none

def mF (P : Program) (s : AS) (fr : Nat) (b : Builtin) (ts : Array TypeId) (args : List AV) : Option Eff :=
 match b, ts.toList, args with
 | .len, [t], [x] => (Fm P t x).map (⟨·, .none⟩)
 | .min, _, [x, y] => (GE x y).map (⟨·, .none⟩)
 | .max, _, [x, y] => (Gr x y).map (⟨·, .none⟩)
 | .append, [t, u], [x, y] => DW P s fr t u x y
 | .copy, [t, _], [x, y] => zL P s t x y
 | .clear, [t], [x] => we P s t x
 | .cap, [t], [x] => (GJ P t x).map (⟨·, .none⟩)
 | _, _, _ => none

def Dm (P : Program) (t : TypeId) (b : ByteArray) (n : Int) : Option AV :=
 match P.underlying t with
 | some .string => if 0 ≤ n then (b[n.toNat]?).map fun c => .v (.int .u8 c.toNat) else none
 | _ => none

def yG (x : AV) (o : Nat) : Option AV :=
 match x with
 | .ptr id off => some (.ptr id (off + o))
 | .iptr cells off => some (.iptr cells (off + o))
 | _ => none

def ce (C : Ctx) (s : AS) (fr : Nat) (op : Op) : Option Eff :=
 match op with
 | .move x => some ⟨ev C s x, .none⟩
 | .assign x => some ⟨ev C s x, .none⟩
 | .pick c a b => match ev C s c with
  | .v (.bool t) => some ⟨bif t then ev C s a else ev C s b, .none⟩
  | _ => none
 | .alloc t => (zer C.P t).map fun cs => ⟨.ptr fr 0, .new cs⟩
 | .box _ x => (cellsOf (ev C s x)).map fun cs => ⟨.ptr fr 0, .new cs⟩
 | .build t parts => match zer C.P t with
  | some zs => match sS C.P t with
   | some pl => (mD (fun i => pl[i]?) zs (parts.toList.map fun p => (p.1, ev C s p.2))).map fun cs => ⟨.agg cs, .none⟩
   | none => match arE C.P t with
    | some (_, e) => match cA C.P e with
     | some sz => (mD (fun i => some (i * sz, sz)) zs (parts.toList.map fun p => (p.1, ev C s p.2))).map fun cs => ⟨.agg cs, .none⟩
     | none => none
    | none => none
  | none => none
 | .buildSlice t n parts => match elS C.P t with
  | some e => match cA C.P e, zer C.P e with
   | some sz, some zs => if zs.length = sz ∧ n * sz ≤ 16777216 then
     (mD (fun i => some (i * sz, sz)) (rep n zs) (parts.toList.map fun p => (p.1, ev C s p.2))).map fun cs => ⟨.ref fr 0 n sz, .new cs⟩
    else none
   | _, _ => none
  | none => none
 | .load t a => match lR s (ev C s a) with
  | some (cells, off) => (lq C.P t cells off).map (⟨·, .none⟩)
  | none => none
 | .store t a x => match ev C s a, cellsOf (ev C s x), cA C.P t with
  | .ptr id off, some cs, some n => match s.objs id with
   | .live cells => if cs.length = n ∧ off + n ≤ cells.length then some ⟨.v undef, .wr id off cs⟩ else none
   | _ => none
  | _, _, _ => none
 | .nilCheck x => match ev C s x with
  | .ptr id off => some ⟨.ptr id off, .none⟩
  | .iptr cells off => some ⟨.iptr cells off, .none⟩
  | .clo f a b => some ⟨.clo f a b, .none⟩
  | _ => none
 | .binOp op t x y _ => (Fp C op t (ev C s x) (ev C s y)).map (⟨·, .none⟩)
 | .unOp op _ x => (F7s op (ev C s x)).map (⟨·, .none⟩)
 | .convert a b x => match inK C.P b with
  | some k => match C.P.underlying a, ev C s x with
   | some _, .v (.int _ n) => some ⟨.v (.int k (k.wrap n)), .none⟩
   | _, _ => none
  | none => match sbE C.P a b (ev C s x) with
   | some v => some ⟨v, .none⟩
   | none => (BC C s a b (ev C s x)).map (⟨·, .none⟩)
 | .makeFunc fn first caps => match fn with
  | .func f => some ⟨.clo f (first.toList.map (ev C s)) (caps.toList.map (ev C s)), .none⟩
  | _ => none
 | .makeSlice t l c => match elS C.P t, fG (ev C s l), fG (ev C s c) with
  | some e, some l, some c => match cA C.P e, qQ C.P e, zer C.P e with
   | some sz, some by', some zs => if zs.length = sz ∧ 0 ≤ l ∧ l ≤ c ∧ c < 9223372036854775808 ∧ by' * c ≤ 281474976710656 then some ⟨.ref fr 0 l.toNat sz, .new (rep l.toNat zs)⟩ else none
   | _, _, _ => none
  | _, _, _ => none
 | .slice t x lo hi mx => match mx with
  | none => (uM C.P s t (ev C s x) (lo.map (ev C s)) (hi.map (ev C s))).map (⟨·, .none⟩)
  | some m => match lo, hi with
   | some l, some h => (uD C.P t (ev C s x) (ev C s l) (ev C s h) (ev C s m)).map (⟨·, .none⟩)
   | none, some h => (uC C.P t (ev C s x) (ev C s h) (ev C s m)).map (⟨·, .none⟩)
   | _, _ => none
 | .fieldAddr t x f => match flE C.P t f with
  | some (o, ft) => match cA C.P ft with
   | some (_ + 1) => (yG (ev C s x) o).map (⟨·, .none⟩)
   | _ => none
  | none => none
 | .field t x f => match flE C.P t f, ev C s x with
  | some (o, ft), .agg cs => (lq C.P ft cs o).map (⟨·, .none⟩)
  | _, _ => none
 | .indexAddr t x i => (ne C.P t (ev C s x) (ev C s i)).map (⟨·, .none⟩)
 | .index t x i => match arE C.P t, ev C s x, fG (ev C s i) with
  | some (len, e), .agg cs, some n => if 0 ≤ n ∧ n < (len : Int) then match cA C.P e with
   | some sz => (lq C.P e cs (n.toNat * sz)).map (⟨·, .none⟩)
   | none => none
   else none
  | none, .v (.string b), some n => (Dm C.P t b n).map (⟨·, .none⟩)
  | _, _, _ => none
 | .extract x i => match ev C s x with
  | .tup vs => (vs[i]?).map (⟨·, .none⟩)
  | _ => none
 | .call c => match c.callee with
  | .builtin b => mF C.P s fr b c.argTypes (c.args.toList.map (ev C s))
  | _ => none
 | _ => none

end Go.AX

/-! (AxE) -/

namespace Go.AX

def mB (C : Ctx) (V : bw) : Prop := ∀ g cs, C.gt g = some cs → ∃ c, V g = some c ∧ RelC (fun _ => none) (fun _ => none) (cs.map .v) c 0

theorem FO (ρ : Rho) (V : bw) (x : Value) : Rel ρ V (cst x) x := by
 unfold cst
 split
 ·
  rename_i cs
  split
  ·
   rename_i h
   refine .agg _ cs (by simp) (fun i x y hx hy => ?_) fun i y hy => ?_
   ·
    simp [hy] at hx; subst hx; exact .v _
   ·
    exact Array.all_eq_true_iff_forall_mem.1 h y (Array.mem_of_getElem? hy)
  ·
   exact .v _
 ·
  exact .v _

theorem jD {C : Ctx} {ρ : Rho} {V : bw} {s : AS} {a : Act} (hT : ∀ t, Rel ρ V (s.tmps t) (a.tmps.getD t undef)) (hG : mB C V) (x : Operand) : Rel ρ V (ev C s x) (a.eval x) := by
 cases x with
 | tmp t => exact hT t
 | const v => exact FO ρ V v
 | global g =>
  simp only [ev, Act.eval]
  cases h : C.gt g with
  | none => exact .unk _
  | some cs =>
   obtain ⟨c, hv, hc⟩ := hG g cs h
   exact Rel.iptr_of (o := 0) 0 hv (hc.mono (fun _ _ h => by cases h) fun _ _ h => by cases h)
 | func f => exact .clo f [] [] #[] #[] rfl rfl (fun i x y hx _ => by simp at hx) (fun i x y hx _ => by simp at hx)

theorem fU (b o n : Nat) : (⟨b, o, none⟩ : Addr).add n = ⟨b, o + n, none⟩ := by unfold Addr.add; split <;> simp_all

theorem B3 {w : World} {b : Nat} {c : Array Value} {T : TypeId} {fz : Nat × Nat} (h : w.heap[b]? = some (.cells c T fz)) (i : Nat) : w.cell? ⟨b, i, none⟩ = c[i]? := by
 simp [World.cell?, h]

theorem cp {P : Program} {t n : Nat} (h : cA P t = some n) (w : World) : (sizeOf t).run P w = .ok n w := by
 unfold cA at h
 cases hi : P.info? t with
 | none => simp [hi] at h
 | some i => simp [hi] at h; simp [sizeOf, typeInfo, hi, h]

theorem gq {P : Program} {t : Nat} {zs : List AV} (h : zer P t = some zs) (w : World) : ∃ z : Value, (zeroValue t).run P w = .ok z w ∧ zs = z.cells.toList.map .v ∧ (∀ y ∈ z.cells.toList, sto y = true) ∧ (P.info? t).bind (·.zero) = some z := by
 unfold zer at h
 cases hi : P.info? t with
 | none => simp [hi] at h
 | some i =>
  cases hz : i.zero with
  | none => simp [hi, hz] at h
  | some z =>
   simp only [hi, hz, Option.bind_some] at h
   split at h
   ·
    rename_i hall
    cases h
    exact ⟨z, by simp [zeroValue, typeInfo, hi, hz], rfl, fun y hy => Array.all_eq_true_iff_forall_mem.1 hall y (Array.mem_toList_iff.1 hy), by simp [hz]⟩
   ·
    cases h

theorem kK {P : Program} {t : Nat} {r : Bool} (h : agB P t = some r) (w : World) : (isAgg t).run P w = .ok r w := by
 unfold agB at h
 cases hu : P.underlying t with
 | none => simp [hu] at h
 | some d =>
  simp only [hu, Option.map_some, Option.some.injEq] at h
  unfold isAgg
  rw [Sem.run_bind, run_underlying hu w]
  subst h
  cases d <;> rfl

theorem Ib {ρ : Rho} {V : bw} {ys : List Value} (h : ∀ y ∈ ys, sto y = true) : RelC ρ V (ys.map .v) ys.toArray 0 := by
 refine ⟨by simp, fun i x y hx hy => ?_, fun i y hi hy => ?_⟩
 ·
  simp only [Nat.zero_add, List.getElem?_toArray] at hy
  simp [hy] at hx; subst hx; exact .v _
 ·
  simp only [Nat.zero_add, List.getElem?_toArray] at hy
  exact h y (List.mem_of_getElem? hy)

theorem kB {cells r : List AV} {off n : Nat} (h : cg cells off n = some r) : off + n ≤ cells.length ∧ r = (cells.drop off).take n := by
 unfold cg at h
 split at h
 ·
  cases h; exact ⟨by assumption, rfl⟩
 ·
  cases h

section
variable {C : Ctx} {ρ : Rho} {V : bw} {s : AS} {w : World}

theorem tP (hI : Inv ρ V s.toHS w) {x : AV} {y : Value} {cells : List AV} {off : Nat} (hr : Rel ρ V x y) (h : lR s x = some (cells, off)) :
  ∃ b base c T fz, y = .pointer (some ⟨b, base + off, none⟩) ∧ w.heap[b]? = some (.cells c T fz) ∧ RelC ρ V cells c base := by
 cases hr <;> simp only [lR] at h <;> try (cases h; done)
 case iptr cells' off' b o c hV hb H S =>
  cases h
  obtain ⟨T, fz, hh⟩ := hI.view b c hV
  exact ⟨b, o, c, T, fz, rfl, hh, ⟨hb, H, S⟩⟩
 case ptr id off' loc hρ =>
  cases ho : s.objs id with
  | dead => simp [ho] at h
  | live cs =>
   simp [ho] at h
   obtain ⟨rfl, rfl⟩ := h
   obtain ⟨c, T, h1, _, h3, _⟩ := hI.live id cs loc ho hρ
   exact ⟨loc.b, loc.base, c, T, (0, 0), rfl, h1, h3⟩
  | froz cs =>
   simp [ho] at h
   obtain ⟨rfl, rfl⟩ := h
   obtain ⟨c, h1, h3, _⟩ := hI.froz id cs loc ho hρ
   obtain ⟨T, fz, hh⟩ := hI.view loc.b c h1
   exact ⟨loc.b, loc.base, c, T, fz, rfl, hh, h3⟩

def gw (c : Array Value) (o n : Nat) : List Value := (c.toList.drop o).take n

theorem rL {c : Array Value} {o n : Nat} (h : o + n ≤ c.size) : (gw c o n).length = n := by simp [gw]; omega
theorem pW {c : Array Value} {o n i : Nat} (h : i < n) : (gw c o n)[i]? = c[o + i]? := by
 simp [gw, h]

theorem pT {P : Program} {b : Nat} {c : Array Value} {T : TypeId} {fz : Nat × Nat} (hh : w.heap[b]? = some (.cells c T fz)) {o n : Nat} (hl : o + n ≤ c.size) :
  (loadCells ⟨b, o, none⟩ n).run P w = .ok (gw c o n).toArray w := by
 have hlen := rL hl
 rw [← hlen]
 rw [run_loadCells_list]
 ·
  rw [hlen]
 ·
  intro j v hv
  rw [fU, B3 hh]
  have hj : j < n := by
   have := (List.getElem?_eq_some_iff.1 hv).1
   omega
  rw [← pW hj]; exact hv

theorem vA {cells : List AV} {c : Array Value} {o n : Nat} (h : RelC ρ V cells c o) (hn : cells.length = n) : RelC ρ V cells (gw c o n).toArray 0 ∧ (gw c o n).toArray.size = cells.length ∧ (∀ y ∈ gw c o n, sto y = true) := by
 have hle := h.le
 have hlen : (gw c o n).length = n := rL (by omega)
 refine ⟨⟨by simp [hlen]; omega, fun i x y hx hy => ?_, fun i y hi hy => ?_⟩, by simp [hlen, hn], fun y hy => ?_⟩
 ·
  have hi : i < n := by have := (List.getElem?_eq_some_iff.1 hx).1; omega
  simp only [Nat.zero_add, List.getElem?_toArray, pW hi] at hy
  exact h.rel i x y hx hy
 ·
  simp only [Nat.zero_add, List.getElem?_toArray, pW (by omega : i < n)] at hy
  exact h.sto i y hi hy
 ·
  obtain ⟨i, hi⟩ := List.getElem?_of_mem hy
  have hlt : i < n := by have := (List.getElem?_eq_some_iff.1 hi).1; omega
  rw [pW hlt] at hi
  exact h.sto i y (by omega) hi

theorem xM {P : Program} {b : Nat} {c : Array Value} {T : TypeId} {fz : Nat × Nat} (hh : w.heap[b]? = some (.cells c T fz)) {cells : List AV} {base off t : Nat} {x : AV} (hc : RelC ρ V cells c base)
  (hp : lq P t cells off = some x) : ∃ y, (loadVar t ⟨b, base + off, none⟩).run P w = .ok y w ∧ Rel ρ V x y := by
 unfold lq at hp
 split at hp
 ·
  rename_i hag
  cases hn : cA P t with
  | none => simp [hn] at hp
  | some n =>
   simp only [hn, Option.map_eq_some_iff] at hp
   obtain ⟨cs, hs, rfl⟩ := hp
   obtain ⟨hle, rfl⟩ := kB hs
   have h1 := hc.sub off n hle
   have hle' := hc.le
   obtain ⟨h2, h3, h4⟩ := vA (n := n) h1 (by simp; omega)
   refine ⟨.agg (gw c (base + off) n).toArray, ?_, Rel.agg_iff.2 ⟨_, rfl, h3, h2⟩⟩
   simp [loadVar, kK hag, cp hn, pT (P := P) hh (show base + off + n ≤ c.size by omega)]
 ·
  rename_i hag
  obtain ⟨y, hy, hr, _⟩ := hc.get hp
  refine ⟨y, ?_, hr⟩
  simp [loadVar, kK hag, B3 hh, hy]
 ·
  cases hp

theorem z6 {P : Program} {ys : Array Value} {cells : List AV} {off t : Nat} {x : AV} (hc : RelC ρ V cells ys 0)
  (hp : lq P t cells off = some x) : ∃ y, (part t ys off).run P w = .ok y w ∧ Rel ρ V x y := by
 unfold lq at hp
 split at hp
 ·
  rename_i hag
  cases hn : cA P t with
  | none => simp [hn] at hp
  | some n =>
   simp only [hn, Option.map_eq_some_iff] at hp
   obtain ⟨cs, hsb, rfl⟩ := hp
   obtain ⟨hle, rfl⟩ := kB hsb
   have h1 := hc.sub off n hle
   obtain ⟨h2, h3, h4⟩ := vA (n := n) h1 (by simp; omega)
   refine ⟨.agg (gw ys (0 + off) n).toArray, ?_, Rel.agg_iff.2 ⟨_, rfl, h3, h2⟩⟩
   simp only [part, Sem.run_bind, kK hag, Result.andThen_ok, if_true, cp hn, Sem.run_pure]
   congr 2
   apply Array.ext'
   simp [gw]
 ·
  rename_i hag
  obtain ⟨y, hy, hr, _⟩ := hc.get hp
  refine ⟨y, ?_, hr⟩
  simp only [Nat.zero_add] at hy
  simp [part, kK hag, hy]
 ·
  cases hp

end
end Go.AX

/-! (AxF) -/

namespace Go.AX

section
variable {C : Ctx} {ρ : Rho} {V : bw} {s : AS} {w : World}

structure RelV (ρ : Rho) (V : bw) (cs : List AV) (ys : List Value) : Prop where
 len : ys.length = cs.length
 rel : ∀ (i : Nat) x y, cs[i]? = some x → ys[i]? = some y → Rel ρ V x y
 sto : ∀ y ∈ ys, sto y = true

theorem RelV.relC {cs : List AV} {ys : List Value} (h : RelV ρ V cs ys) : RelC ρ V cs ys.toArray 0 :=
 ⟨by simp [h.len], fun i x y hx hy => h.rel i x y hx (by simpa using hy), fun i y _ hy => h.sto y (List.mem_of_getElem? (by simpa using hy))⟩

theorem RelC.relV {cs : List AV} {c : Array Value} {o : Nat} (h : RelC ρ V cs c o) : RelV ρ V cs (gw c o cs.length) := by
 obtain ⟨h1, h2, h3⟩ := vA h rfl
 refine ⟨by simpa using h2, fun i x y hx hy => h1.rel i x y hx (by simpa using hy), h3⟩

theorem RelV.append {cs ds : List AV} {ys zs : List Value} (h : RelV ρ V cs ys) (h' : RelV ρ V ds zs) : RelV ρ V (cs ++ ds) (ys ++ zs) := by
 refine ⟨by simp [h.len, h'.len], fun i x y hx hy => ?_, fun y hy => ?_⟩
 ·
  rw [List.getElem?_append] at hx hy
  rw [h.len] at hy
  split at hx
  ·
   rename_i hc; rw [if_pos hc] at hy; exact h.rel _ _ _ hx hy
  ·
   rename_i hc; rw [if_neg hc] at hy; exact h'.rel _ _ _ hx hy
 ·
  rcases List.mem_append.1 hy with h1 | h1
  ·
   exact h.sto y h1
  ·
   exact h'.sto y h1

theorem RelV.nil : RelV ρ V [] [] := ⟨rfl, fun i x y hx _ => by simp at hx, fun y hy => by simp at hy⟩

theorem RelV.take {cs : List AV} {ys : List Value} (h : RelV ρ V cs ys) (n : Nat) : RelV ρ V (cs.take n) (ys.take n) := by
 refine ⟨by simp [h.len], fun i x y hx hy => ?_, fun y hy => h.sto y (List.mem_of_mem_take hy)⟩
 rw [List.getElem?_take] at hx hy
 split at hx
 ·
  rename_i hc; rw [if_pos hc] at hy; exact h.rel _ _ _ hx hy
 ·
  cases hx

theorem RelV.drop {cs : List AV} {ys : List Value} (h : RelV ρ V cs ys) (n : Nat) : RelV ρ V (cs.drop n) (ys.drop n) := by
 refine ⟨by simp [h.len], fun i x y hx hy => ?_, fun y hy => h.sto y (List.mem_of_mem_drop hy)⟩
 rw [List.getElem?_drop] at hx hy
 exact h.rel _ _ _ hx hy

theorem RelV.of_cells {x : AV} {y : Value} {cs : List AV} (h : Rel ρ V x y) (hc : cellsOf x = some cs) : RelV ρ V cs y.cells.toList := by
 obtain ⟨h1, h2⟩ := xL h hc
 refine ⟨by simpa using h1, fun i a b ha hb => h2.rel i a b ha (by simpa using hb), fun b hb => ?_⟩
 obtain ⟨i, hi⟩ := List.getElem?_of_mem hb
 exact h2.sto i b (by have := (List.getElem?_eq_some_iff.1 hi).1; simp at this; omega) (by simpa using hi)

theorem l6 {ys : List Value} (h : ∀ y ∈ ys, sto y = true) : RelV ρ V (ys.map .v) ys :=
 ⟨by simp, fun i x y hx hy => by simp [hy] at hx; subst hx; exact .v _, h⟩

theorem dK (zs : List AV) : ∀ n, (rep n zs).length = n * zs.length
 | 0 => by simp [rep]
 | n + 1 => by simp [rep, dK zs n, Nat.succ_mul, Nat.add_comm]

def gH : Nat → List Value → List Value
 | 0, _ => []
 | n + 1, zs => zs ++ gH n zs

theorem RelV.rep {zs : List AV} {ys : List Value} (h : RelV ρ V zs ys) : ∀ n, RelV ρ V (AX.rep n zs) (gH n ys)
 | 0 => .nil
 | n + 1 => h.append (RelV.rep h n)

theorem lP (z : Array Value) (n : Nat) : (Array.range (n * z.size)).map (z[· % z.size]!) = (gH n z.toList).toArray := by
 apply Array.ext'
 simp only [Array.toList_map, Array.toList_range]
 induction n with
 | zero => simp [gH]
 | succ n ih =>
  rw [gH, ← ih]
  apply List.ext_getElem?
  intro i
  rw [List.getElem?_append]
  simp only [List.getElem?_map, Array.length_toList]
  by_cases h : i < z.size
  ·
   rw [if_pos h]
   have h1 : i < (n + 1) * z.size := by
    have : z.size ≤ (n + 1) * z.size := Nat.le_mul_of_pos_left _ (by omega)
    omega
   simp [h1, Nat.mod_eq_of_lt h, h]
  ·
   rw [if_neg h]
   have e : (i - z.size) % z.size = i % z.size := by rw [← Nat.mod_eq_sub_mod (by omega)]
   by_cases h1 : i < (n + 1) * z.size
   ·
    have h2 : i - z.size < n * z.size := by rw [Nat.succ_mul] at h1; omega
    simp [h1, h2, e]
   ·
    have h2 : ¬ i - z.size < n * z.size := by rw [Nat.succ_mul] at h1; omega
    simp [h1, h2]

theorem xI (cs : Array Value) : ∀ (off : Nat) (vs : List Value) (k : Nat), off + k + vs.length ≤ cs.size →
  ((vs.zipIdx k).foldl (fun cs (c, j) => cs.setIfInBounds (off + j) c) cs).toList = cs.toList.take (off + k) ++ vs ++ cs.toList.drop (off + k + vs.length)
 | off, [], k, _ => by simp
 | off, v :: vs, k, h => by
  simp only [List.zipIdx_cons, List.foldl_cons]
  have ih := xI (cs.setIfInBounds (off + k) v) off vs (k + 1) (by simp at h ⊢; omega)
  rw [ih]
  have e := list_seg_step cs.toList (off + k) v vs (by simp at h ⊢; omega)
  simpa [Array.toList_setIfInBounds, Nat.add_assoc] using e

theorem nb {place : Nat → Option (Nat × Nat)} : ∀ (parts : List (Nat × AV)) (vals : List (Nat × Value)) (cells : List AV) (ys : Array Value) (r : List AV),
  vals.map (·.1) = parts.map (·.1) → (∀ (i : Nat) p q, parts[i]? = some p → vals[i]? = some q → Rel ρ V p.2 q.2) → RelV ρ V cells ys.toList → mD place cells parts = some r →
  ∃ zs, Instr.fill place ys vals = some zs ∧ RelV ρ V r zs.toList
 | [], [], cells, ys, r, _, _, hr, h => by simp only [mD, Option.some.injEq] at h; subst h; exact ⟨ys, rfl, hr⟩
 | [], _ :: _, _, _, _, hm, _, _, _ => by simp at hm
 | _ :: _, [], _, _, _, hm, _, _, _ => by simp at hm
 | (i, x) :: parts, (j, y) :: vals, cells, ys, r, hm, hrel, hr, h => by
  simp only [List.map_cons, List.cons.injEq] at hm
  obtain ⟨hij, hm⟩ := hm
  subst hij
  have hxy : Rel ρ V x y := hrel 0 (_, x) (_, y) rfl rfl
  simp only [mD] at h
  cases hp : place j with
  | none => simp [hp] at h
  | some os =>
   obtain ⟨off, size⟩ := os
   cases hc : cellsOf x with
   | none => simp [hp, hc] at h
   | some cs =>
    simp only [hp, hc] at h
    split at h
    ·
     rename_i hcond
     obtain ⟨hsz, hle⟩ := hcond
     have hv := RelV.of_cells hxy hc
     have hvl : y.cells.size = cs.length := by simpa using hv.len
     have hyl : ys.size = cells.length := by simpa using hr.len
     have hput := Aj (base := 0) (off := off) (cs := cs) (ys := y.cells.toList) (c := ys) (cells := cells) (ρ := ρ) (V := V) hr.relC hle (by simpa using hv.len) hv.rel hv.sto
     have hfold := xI ys off y.cells.toList 0 (by simp; omega)
     simp only [Nat.add_zero] at hfold
     have hzip : y.cells.zipIdx.foldl (fun cs (c, j) => cs.setIfInBounds (off + j) c) ys = (ys.toList.take off ++ y.cells.toList ++ ys.toList.drop (off + y.cells.toList.length)).toArray := by
      apply Array.ext'
      simp only
      rw [← hfold, ← Array.foldl_toList]
      simp [Array.toList_zipIdx]
     have hnew : RelV ρ V (cC cells off cs) (ys.toList.take off ++ y.cells.toList ++ ys.toList.drop (off + y.cells.toList.length)).toArray.toList := by
      obtain ⟨h1, h2⟩ := hput
      simp only [Nat.zero_add] at h1 h2
      refine ⟨?_, fun i a b ha hb => h1.rel i a b ha (by simpa using hb), fun b hb => ?_⟩
      ·
       rw [Array.length_toList, h2, eF, hyl]
      ·
       obtain ⟨i, hi⟩ := List.getElem?_of_mem hb
       refine h1.sto i b ?_ (by simpa using hi)
       have := (List.getElem?_eq_some_iff.1 hi).1
       rw [Array.length_toList, h2] at this
       rw [eF]; omega
     obtain ⟨zs, hz1, hz2⟩ := nb parts vals _ _ r hm (fun k p q hp hq => hrel (k + 1) p q (by simpa using hp) (by simpa using hq)) hnew h
     refine ⟨zs, ?_, hz2⟩
     simp only [Instr.fill, hp]
     rw [if_neg]
     ·
      rw [hzip]; exact hz1
     ·
      simp only [Bool.or_eq_true, decide_eq_true_eq, ne_eq, not_or]
      omega
    ·
     cases h

end
end Go.AX

/-! (AxG) -/

namespace Go.AX

def bl (ρ : Rho) (V : bw) (s : AS) (w : World) (fr : Nat) (r : Result Next) (e : Eff) : Prop :=
 ∃ y ρ' w', (r = .ok (.value y) w' ∨ (r = .ok .skip w' ∧ y = undef)) ∧ Did ρ V s.objs s.next w fr e y ρ' w'

section
variable {C : Ctx} {ρ : Rho} {V : bw} {s : AS} {w : World} {fr : Nat}

theorem bl.val {x : AV} {y : Value} {r : Result Next} (hI : Inv ρ V s.toHS w) (h : r = .ok (.value y) w) (hr : Rel ρ V x y) : bl ρ V s w fr r ⟨x, .none⟩ :=
 ⟨y, ρ, w, .inl h, Did.pure hI hr⟩

theorem bl.new {x : AV} {y : Value} {r : Result Next} {cells : List AV} {c : Array Value} {T : TypeId} {w' : World} (hI : Inv ρ V s.toHS w) (hfr : ρ fr = none) (hlt : fr < s.next)
  (h : r = .ok (.value y) w') (hw : w'.heap = w.heap.push (.cells c T) ∧ w'.os = w.os ∧ w'.output = w.output) (hc : RelC ρ V cells c 0)
  (hr : ∀ ρ' : Rho, (∀ id loc, ρ id = some loc → ρ' id = some loc) → ρ' fr = some ⟨w.heap.size, 0, c.size⟩ → Rel ρ' V x y) :
  bl ρ V s w fr r ⟨x, .new cells⟩ :=
 ⟨y, _, w', .inl h, (Did.alloc (objs' := s.objs) (e := ⟨x, .new cells⟩) (T := T) hI hfr hlt (fun _ => .inl rfl) rfl hc hr).heap hw.1 hw.2.1 hw.2.2⟩

theorem Ei {t : TypeId} {cs : List AV} (hI : Inv ρ V s.toHS w) (hfr : ρ fr = none) (hlt : fr < s.next) (hz : zer C.P t = some cs) :
  bl ρ V s w fr ((do pure (.value (← Instr.alloc t true (.tuple #[]))) : Sem Next).run C.P w) ⟨.ptr fr 0, .new cs⟩ := by
 obtain ⟨z, h1, rfl, h3, _⟩ := gq hz w
 refine bl.new (c := z.cells) (T := t) hI hfr hlt (y := .pointer (some ⟨w.heap.size, 0, none⟩)) (w' := { w with heap := w.heap.push (.cells z.cells t) }) ?_ ⟨rfl, rfl, rfl⟩ ?_ ?_
 ·
  simp [Instr.alloc, h1, newVar, newRow]
 ·
  exact Ib h3
 ·
  intro ρ' _ hρ'
  exact .ptr fr 0 ⟨w.heap.size, 0, z.cells.size⟩ hρ'

theorem IP {t : TypeId} {x : AV} {y : Value} {cs : List AV} (hI : Inv ρ V s.toHS w) (hfr : ρ fr = none) (hlt : fr < s.next) (hr : Rel ρ V x y) (hc : cellsOf x = some cs) :
  bl ρ V s w fr ((do pure (.value (← Instr.box t y)) : Sem Next).run C.P w) ⟨.ptr fr 0, .new cs⟩ := by
 obtain ⟨_, h2⟩ := xL hr hc
 refine bl.new (c := y.cells) (T := t) hI hfr hlt (y := .pointer (some ⟨w.heap.size, 0, none⟩)) (w' := { w with heap := w.heap.push (.cells y.cells t) }) ?_ ⟨rfl, rfl, rfl⟩ h2 ?_
 ·
  simp [Instr.box, newVar, newRow]
 ·
  intro ρ' _ hρ'
  exact .ptr fr 0 ⟨w.heap.size, 0, y.cells.size⟩ hρ'

theorem EY {t : TypeId} {p : AV} {q : Value} {cells : List AV} {off : Nat} {x : AV} (hI : Inv ρ V s.toHS w) (hr : Rel ρ V p q) (hc : lR s p = some (cells, off)) (hp : lq C.P t cells off = some x) :
  bl ρ V s w fr ((do pure (.value (← Instr.loadAt t q)) : Sem Next).run C.P w) ⟨x, .none⟩ := by
 obtain ⟨b, base, c, T, fz, rfl, hh, hrc⟩ := tP hI hr hc
 obtain ⟨y, h1, h2⟩ := xM (P := C.P) hh hrc hp
 refine bl.val hI (y := y) ?_ h2
 simp [Instr.loadAt, Instr.sureAddr, h1]

theorem AT {objs : Nat → Ob} {nx : Nat} {id off : Nat} {cells cs : List AV} {loc : Loc} {ys : List Value} {x : AV} {y : Value} (hI : Inv ρ V ⟨objs, nx⟩ w) (hl : objs id = .live cells) (hρ : ρ id = some loc)
  (hle : off + cs.length ≤ cells.length) (hv : RelV ρ V cs ys) (hx : Rel ρ V x y) :
  ∃ (cur : Array Value) (T : TypeId), w.heap[loc.b]? = some (.cells cur T (0, 0)) ∧ loc.base + off + ys.length ≤ cur.size ∧
   Did ρ V objs nx w fr ⟨x, .wr id off cs⟩ y ρ (w.setRow loc.b (cur.toList.take (loc.base + off) ++ ys ++ cur.toList.drop (loc.base + off + ys.length)).toArray) := by
 obtain ⟨cur, T, h1, h2, h3, h4⟩ := hI.live id cells loc hl hρ
 have hle3 := h3.le
 have hvl := hv.len
 obtain ⟨hr, hs⟩ := Aj (off := off) h3 hle hv.len hv.rel hv.sto
 have hact : dc fr (.wr id off cs) objs = upd objs id (.live (cC cells off cs)) := by simp [dc, hl]
 refine ⟨cur, T, h1, by omega, hx, ?_, fun _ _ h => h, fun _ _ => rfl, by simp, fun b hb hn => ?_, fun b ho => ?_, qO _ _ _⟩
 ·
  rw [hact]
  exact Inv.wr hI hl hρ (fun j hj => ba _ _ hj) (cB _ _ _) (by rw [hs]; exact h2) hr
 ·
  exact setRow_other _ _ _ _ fun hh => hn (by rw [hh]; exact ox hl hρ)
 ·
  rw [hact] at ho
  obtain ⟨j, cj, lj, hj, hρj, rfl⟩ := ho
  by_cases hji : j = id
  ·
   subst hji; exact .inl ⟨j, cells, lj, hl, hρj, rfl⟩
  ·
   simp only [ba _ _ hji] at hj; exact .inl ⟨j, cj, lj, hj, hρj, rfl⟩

theorem uB {objs : Nat → Ob} {nx : Nat} {id off : Nat} {cells cs : List AV} {loc : Loc} {ys : List Value} {x : AV} {y : Value} (hI : Inv ρ V ⟨objs, nx⟩ w) (hl : objs id = .live cells) (hρ : ρ id = some loc)
  (hoff : off ≤ cells.length) (hN : loc.base + off + cs.length ≤ loc.N) (hv : RelV ρ V cs ys) (hx : Rel ρ V x y) :
  ∃ (cur : Array Value) (T : TypeId), w.heap[loc.b]? = some (.cells cur T (0, 0)) ∧ loc.base + off + ys.length ≤ cur.size ∧
   Did ρ V objs nx w fr ⟨x, .set id (cells.take off ++ cs ++ cells.drop (off + cs.length))⟩ y ρ (w.setRow loc.b (cur.toList.take (loc.base + off) ++ ys ++ cur.toList.drop (loc.base + off + ys.length)).toArray) := by
 obtain ⟨cur, T, h1, h2, h3, h4⟩ := hI.live id cells loc hl hρ
 have hle3 := h3.le
 have hvl := hv.len
 generalize hrow : (cur.toList.take (loc.base + off) ++ ys ++ cur.toList.drop (loc.base + off + ys.length)).toArray = row
 have hrs : row.size = cur.size := by rw [← hrow]; simp; omega
 have hget : ∀ i, row[loc.base + i]? = if off ≤ i ∧ i < off + cs.length then ys[i - off]? else cur[loc.base + i]? := by
  intro i
  rw [← hrow]
  simp only [List.getElem?_toArray]
  rw [List.getElem?_append, List.getElem?_append]
  simp only [List.length_append, List.length_take, List.getElem?_drop, List.getElem?_take, Array.length_toList, Array.getElem?_toList]
  have hm : min (loc.base + off) cur.size = loc.base + off := by omega
  rw [hm, hvl]
  by_cases h1 : i < off + cs.length
  ·
   rw [if_pos (by omega : loc.base + i < loc.base + off + cs.length)]
   by_cases h2 : i < off
   ·
    rw [if_pos (by omega), if_pos (by omega), if_neg (by omega)]
   ·
    rw [if_neg (by omega), if_pos (by omega)]
    congr 1; omega
  ·
   rw [if_neg (by omega), if_neg (by omega)]
   congr 1; omega
 have hcg : ∀ i, (cells.take off ++ cs ++ cells.drop (off + cs.length))[i]? = if off ≤ i ∧ i < off + cs.length then cs[i - off]? else cells[i]? := by
  intro i
  rw [List.getElem?_append, List.getElem?_append]
  simp only [List.length_append, List.length_take, List.getElem?_drop, List.getElem?_take]
  have hm : min off cells.length = off := by omega
  rw [hm]
  by_cases h1 : i < off + cs.length
  ·
   rw [if_pos h1]
   by_cases h2 : i < off
   ·
    rw [if_pos h2, if_pos h2, if_neg (by omega)]
   ·
    rw [if_neg h2, if_pos (by omega)]
  ·
   rw [if_neg h1, if_neg (by omega)]
   congr 1; omega
 have hrc : RelC ρ V (cells.take off ++ cs ++ cells.drop (off + cs.length)) row loc.base := by
  refine ⟨by simp; omega, fun i x y hx hy => ?_, fun i y hi hy => ?_⟩
  ·
   rw [hcg] at hx; rw [hget] at hy
   by_cases hc : off ≤ i ∧ i < off + cs.length
   ·
    rw [if_pos hc] at hx hy; exact hv.rel _ _ _ hx hy
   ·
    rw [if_neg hc] at hx hy; exact h3.rel i x y hx hy
  ·
   rw [hget] at hy
   by_cases hc : off ≤ i ∧ i < off + cs.length
   ·
    rw [if_pos hc] at hy; exact hv.sto _ (List.mem_of_getElem? hy)
   ·
    rw [if_neg hc] at hy
    simp at hi
    exact h3.sto i y (by omega) hy
 have hact : dc fr (.set id (cells.take off ++ cs ++ cells.drop (off + cs.length))) objs = upd objs id (.live (cells.take off ++ cs ++ cells.drop (off + cs.length))) := by simp [dc, hl]
 refine ⟨cur, T, h1, by omega, hx, ?_, fun _ _ h => h, fun _ _ => rfl, by simp, fun b hb hn => ?_, fun b ho => ?_, qO _ _ _⟩
 ·
  rw [hact]
  subst hrow
  exact Inv.wr hI hl hρ (fun j hj => ba _ _ hj) (cB _ _ _) (by rw [hrs]; exact h2) hrc
 ·
  exact setRow_other _ _ _ _ fun hh => hn (by rw [hh]; exact ox hl hρ)
 ·
  rw [hact] at ho
  obtain ⟨j, cj, lj, hj, hρj, rfl⟩ := ho
  by_cases hji : j = id
  ·
   subst hji; exact .inl ⟨j, cells, lj, hl, hρj, rfl⟩
  ·
   simp only [ba _ _ hji] at hj; exact .inl ⟨j, cj, lj, hj, hρj, rfl⟩

theorem kG {y : Value} (h : sto y = true) : y.oneCell' = true := by cases y <;> first | rfl | (simp [sto] at h)

theorem DY {t : TypeId} {q x : Value} {id off n : Nat} {cells cs : List AV} {p : AV} (hI : Inv ρ V s.toHS w) (hq : Rel ρ V (.ptr id off) q) (hx : Rel ρ V p x) (hc : cellsOf p = some cs) (hn : cA C.P t = some n)
  (hl : s.objs id = .live cells) (hcs : cs.length = n) (hle : off + n ≤ cells.length) :
  bl ρ V s w fr ((do Instr.storeAt t q x; pure .skip : Sem Next).run C.P w) ⟨.v undef, .wr id off cs⟩ := by
 cases hq with
 | ptr _ _ loc hρ =>
  have hv := RelV.of_cells hx hc
  obtain ⟨cur, T, h1, h2, h3⟩ := AT (fr := fr) (x := .v undef) (y := undef) hI hl hρ (by omega : off + cs.length ≤ cells.length) hv (.v _)
  refine ⟨undef, ρ, _, .inr ⟨?_, rfl⟩, h3⟩
  have hst := run_storeCells_at C.P loc.b (loc.base + off) T x.cells.toList 0 cur w h1 (by simpa using h2) fun v hv' => kG (hv.sto v hv')
  simp only [Nat.add_zero] at hst
  have hsz : x.cells.size = n := by have := hv.len; simp at this; omega
  simp [Instr.storeAt, Instr.sureAddr, storeVar, cp hn, hsz, hst]

theorem yo {t f o ft k : Nat} {q : Value} {x r : AV} (hI : Inv ρ V s.toHS w) (hq : Rel ρ V x q) (hf : flE C.P t f = some (o, ft)) (hs : cA C.P ft = some (k + 1))
  (h : yG x o = some r) :
  bl ρ V s w fr ((do pure (.value (← Instr.fieldAt t q f)) : Sem Next).run C.P w) ⟨r, .none⟩ := by
 obtain ⟨fs, fd, hu, hfd, rfl, rfl⟩ : ∃ fs fd, C.P.underlying t = some (.struct fs) ∧ fs[f]? = some fd ∧ fd.offset = o ∧ fd.type = ft := by
  unfold flE at hf
  cases hu : C.P.underlying t with
  | none => simp [hu] at hf
  | some d =>
   cases d <;> simp [hu] at hf
   rename_i fs
   obtain ⟨fd, h1, h2, h3⟩ := hf
   exact ⟨fs, fd, rfl, h1, h2, h3⟩
 have run : ∀ (b a : Nat), (Instr.fieldAt t (.pointer (some ⟨b, a, none⟩)) f).run C.P w = .ok (.pointer (some ⟨b, a + fd.offset, none⟩)) w := by
  intro b a
  simp [Instr.fieldAt, run_underlying hu, hfd, Instr.sureAddr, fieldPlace, cp hs, fU]
 unfold yG at h
 cases hq <;> simp only at h <;> try (cases h; done)
 case ptr id off loc hρ =>
  cases h
  refine bl.val hI (y := .pointer (some ⟨loc.b, loc.base + off + fd.offset, none⟩)) (by simp [run]) ?_
  rw [Nat.add_assoc]; exact .ptr id _ loc hρ
 case iptr cells off b o' c hV hb H S =>
  cases h
  refine bl.val hI (y := .pointer (some ⟨b, o' + off + fd.offset, none⟩)) (by simp [run]) ?_
  rw [Nat.add_assoc]; exact .iptr cells _ b o' c hV hb H S

theorem Eq {t f o ft : Nat} {q : Value} {cs : List AV} {r : AV} (hI : Inv ρ V s.toHS w) (hq : Rel ρ V (.agg cs) q) (hf : flE C.P t f = some (o, ft)) (h : lq C.P ft cs o = some r) :
  bl ρ V s w fr ((do pure (.value (← Instr.field t q f)) : Sem Next).run C.P w) ⟨r, .none⟩ := by
 obtain ⟨fs, fd, hu, hfd, rfl, rfl⟩ : ∃ fs fd, C.P.underlying t = some (.struct fs) ∧ fs[f]? = some fd ∧ fd.offset = o ∧ fd.type = ft := by
  unfold flE at hf
  cases hu : C.P.underlying t with
  | none => simp [hu] at hf
  | some d =>
   cases d <;> simp [hu] at hf
   rename_i fs
   obtain ⟨fd, h1, h2, h3⟩ := hf
   exact ⟨fs, fd, rfl, h1, h2, h3⟩
 obtain ⟨ys, rfl, _, hc⟩ := Rel.agg_iff.1 hq
 obtain ⟨y, h1, h2⟩ := z6 (P := C.P) (w := w) hc h
 exact bl.val hI (y := y) (by simp [Instr.field, run_underlying hu, hfd, asAgg, h1]) h2

theorem di {x : AV} {y : Value} {n : Int} (h : Rel ρ V x y) (hn : fG x = some n) : ∃ k, y = .int k n := by
 cases h <;> simp only [fG] at hn <;> try (cases hn; done)
 cases y <;> simp at hn
 exact ⟨_, by rw [hn]⟩

theorem JU {P : Program} {t n e : Nat} (h : arE P t = some (n, e)) : P.underlying t = some (.array n e) := by
 unfold arE at h
 cases hu : P.underlying t with
 | none => simp [hu] at h
 | some d => cases d <;> simp [hu] at h; obtain ⟨rfl, rfl⟩ := h; rfl

theorem ej {P : Program} {t e : Nat} (h : elS P t = some e) : P.underlying t = some (.slice e) := by
 unfold elS at h
 cases hu : P.underlying t with
 | none => simp [hu] at h
 | some d => cases d <;> simp [hu] at h; subst h; rfl

theorem Du {t len e sz : Nat} {q i : Value} {cs : List AV} {n : Int} {x r : AV} (hI : Inv ρ V s.toHS w) (hq : Rel ρ V (.agg cs) q) (hi : Rel ρ V x i) (hn : fG x = some n) (ha : arE C.P t = some (len, e))
  (h0 : 0 ≤ n ∧ n < (len : Int)) (hs : cA C.P e = some sz) (h : lq C.P e cs (n.toNat * sz) = some r) :
  bl ρ V s w fr ((do pure (.value (← Instr.index t q i)) : Sem Next).run C.P w) ⟨r, .none⟩ := by
 obtain ⟨k, rfl⟩ := di hi hn
 obtain ⟨ys, rfl, _, hc⟩ := Rel.agg_iff.1 hq
 obtain ⟨y, h1, h2⟩ := z6 (P := C.P) (w := w) hc h
 exact bl.val hI (y := y) (by simp [Instr.index, asIntOf, run_underlying (JU ha), h0, cp hs, h1]) h2

theorem C7 {t : Nat} {q i : Value} {b : ByteArray} {n : Int} {x r : AV} (hI : Inv ρ V s.toHS w) (hq : Rel ρ V (.v (.string b)) q) (hi : Rel ρ V x i) (hn : fG x = some n) (h : Dm C.P t b n = some r) :
  bl ρ V s w fr ((do pure (.value (← Instr.index t q i)) : Sem Next).run C.P w) ⟨r, .none⟩ := by
 obtain ⟨k, rfl⟩ := di hi hn
 cases hq
 unfold Dm at h
 split at h
 ·
  rename_i hu
  split at h
  ·
   rename_i h0
   simp only [Option.map_eq_some_iff] at h
   obtain ⟨c, h1, rfl⟩ := h
   exact bl.val hI (y := .int .u8 c.toNat) (by simp [Instr.index, asIntOf, run_underlying hu, h0, h1]) (.v _)
  ·
   cases h
 ·
  cases h

theorem yY {t : Nat} {q i : Value} {x ix r : AV} (hI : Inv ρ V s.toHS w) (hq : Rel ρ V x q) (hi : Rel ρ V ix i) (h : ne C.P t x ix = some r) :
  bl ρ V s w fr ((do pure (.value (← Instr.indexAt t q i)) : Sem Next).run C.P w) ⟨r, .none⟩ := by
 unfold ne at h
 cases hn : fG ix with
 | none => simp [hn] at h
 | some n =>
  simp only [hn] at h
  obtain ⟨k, rfl⟩ := di hi hn
  split at h
  ·
   rename_i h0
   split at h
   ·
    rename_i len e hu
    cases hs : cA C.P e with
    | none => simp [hs] at h
    | some sz =>
     simp only [hs] at h
     split at h
     ·
      rename_i h1
      have run : ∀ (b a : Nat), (Instr.indexAt t (.pointer (some ⟨b, a, none⟩)) (.int k n)).run C.P w = .ok (.pointer (some ⟨b, a + n.toNat * sz, none⟩)) w := by
       intro b a
       simp [Instr.indexAt, asIntOf, run_underlying hu, Instr.sureAddr, h0, h1, cp hs, fU]
      cases hq <;> simp only at h <;> try (cases h; done)
      case ptr id off loc hρ =>
       cases h
       refine bl.val hI (y := .pointer (some ⟨loc.b, loc.base + off + n.toNat * sz, none⟩)) (by simp [run]) ?_
       rw [Nat.add_assoc]; exact .ptr id _ loc hρ
      case iptr cells off b o' c hV hb H S =>
       cases h
       refine bl.val hI (y := .pointer (some ⟨b, o' + off + n.toNat * sz, none⟩)) (by simp [run]) ?_
       rw [Nat.add_assoc]; exact .iptr cells _ b o' c hV hb H S
     ·
      cases h
   ·
    rename_i e hu
    cases hs : cA C.P e with
    | none => simp [hs] at h
    | some sz =>
     simp only [hs] at h
     have run : ∀ (b a len cap : Nat), n < (len : Int) → (Instr.indexAt t (.slice (some ⟨b, a, none⟩) len cap) (.int k n)).run C.P w = .ok (.pointer (some ⟨b, a + n.toNat * sz, none⟩)) w := by
      intro b a len cap h1
      simp [Instr.indexAt, asIntOf, run_underlying hu, h0, h1, cp hs, fU]
     cases hq <;> simp only at h <;> try (cases h; done)
     case imm cells len b o cap c hV hb H S hlc =>
      split at h
      ·
       rename_i h1
       cases h
       exact bl.val hI (y := .pointer (some ⟨b, o + n.toNat * sz, none⟩)) (by simp [run b o len cap h1]) (.iptr cells _ b o c hV hb H S)
      ·
       cases h
     case imm0 a cap =>
      split at h
      ·
       rename_i h1; simp at h1; omega
      ·
       cases h
     case ref id off len sz' cap loc hρ hc hl =>
      split at h
      ·
       rename_i h1
       obtain ⟨h1, rfl⟩ := h1
       cases h
       refine bl.val hI (y := .pointer (some ⟨loc.b, loc.base + off + n.toNat * sz', none⟩)) (by simp [run _ _ len cap h1]) ?_
       rw [Nat.add_assoc]; exact .ptr id _ loc hρ
      ·
       cases h
     case refE id off sz' a =>
      split at h
      ·
       rename_i h1; simp at h1; omega
      ·
       cases h
   ·
    cases h
  ·
   cases h

theorem Bm {q : Value} {vs : List AV} {i : Nat} {r : AV} (hI : Inv ρ V s.toHS w) (hq : Rel ρ V (.tup vs) q) (h : vs[i]? = some r) :
  bl ρ V s w fr ((do pure (.value (← Instr.extract q i)) : Sem Next).run C.P w) ⟨r, .none⟩ := by
 cases hq with
 | tup _ ys hs H =>
  have hi : i < ys.size := by rw [hs]; exact (List.getElem?_eq_some_iff.1 h).1
  refine bl.val hI (y := ys[i]) ?_ (H i r _ h (by simp [hi]))
  simp [Instr.extract, hi]

end
end Go.AX

/-! (AxH) -/

namespace Go.AX

section
variable {C : Ctx} {ρ : Rho} {V : bw} {s : AS} {w : World} {fr : Nat}

theorem aC {P : Program} {x : Sem Value} {y : Value} {w' : World} (h : x.run P w = .ok y w') : ((do pure (.value (← x)) : Sem Next)).run P w = .ok (.value y) w' := by
 simp [h]

def Bj (w w' : World) : Prop := ∀ (b : Nat) (c : Array Value) (T : TypeId) (fz : Nat × Nat), w.heap[b]? = some (Obj.cells c T fz) → w'.heap[b]? = some (Obj.cells c T fz)

theorem uy {x : Value} (h : kS x = true) : x = .slice none 0 0 := by
 unfold kS at h
 split at h
 ·
  rfl
 ·
  cases h

theorem DB {x : Value} (h : emS x = true) : ∃ a cap, x = .slice a 0 cap := by
 unfold emS at h
 split at h
 ·
  exact ⟨_, _, rfl⟩
 ·
  cases h

theorem sY {sz : Nat} {x : AV} {y : Value} {xs : List AV} {k : Nat} (hI : Inv ρ V s.toHS w) (hr : Rel ρ V x y) (h : me s sz x = some (xs, k)) :
  ∃ ys : List Value, RelV ρ V xs ys ∧ xs.length = k * sz ∧ (∀ m, m ≤ k → ∀ P : Program, ∀ w' : World, Bj w w' →
   (Builtin.firstCells sz m y).run P w' = .ok (ys.take (m * sz)).toArray w') ∧ Builtin.lenOf y = pure k := by
 have frow : ∀ (b o k cap : Nat) (c : Array Value) (T : TypeId) (fz : Nat × Nat), w.heap[b]? = some (.cells c T fz) → xs.length = k * sz → RelC ρ V xs c o →
   ∃ ys : List Value, RelV ρ V xs ys ∧ xs.length = k * sz ∧ (∀ m, m ≤ k → ∀ P : Program, ∀ w' : World, Bj w w' →
   (Builtin.firstCells sz m (.slice (some ⟨b, o, none⟩) k cap)).run P w' = .ok (ys.take (m * sz)).toArray w') ∧ Builtin.lenOf (.slice (some ⟨b, o, none⟩) k cap) = pure k := by
  intro b o k cap c T fz hh hlen hc
  refine ⟨gw c o xs.length, hc.relV, hlen, fun m hm P w' hw' => ?_, rfl⟩
  have hle := hc.le
  have hmk : m * sz ≤ k * sz := Nat.mul_le_mul_right _ hm
  simp only [Builtin.firstCells]
  rw [pT (hw' b c T fz hh) (by omega : o + m * sz ≤ c.size)]
  congr 2
  simp only [gw, List.take_take]
  congr 1; omega
 have fempty : ∀ (a : Option Addr) (cap : Nat), xs = [] → k = 0 → ∃ ys : List Value, RelV ρ V xs ys ∧ xs.length = k * sz ∧ (∀ m, m ≤ k → ∀ P : Program, ∀ w' : World, Bj w w' →
   (Builtin.firstCells sz m (.slice a k cap)).run P w' = .ok (ys.take (m * sz)).toArray w') ∧ Builtin.lenOf (.slice a k cap) = pure k := by
  intro a cap hx hk
  subst hx; subst hk
  refine ⟨[], .nil, by simp, fun m hm P w' _ => ?_, rfl⟩
  have : m = 0 := by omega
  subst this
  cases a <;> simp [Builtin.firstCells, loadCells, loadCellsFrom]
 cases hr <;> simp only [me] at h <;> try (cases h; done)
 case v =>
  split at h
  ·
   rename_i hn
   obtain ⟨a, cap, hy⟩ := DB hn
   subst hy
   simp at h
   obtain ⟨rfl, rfl⟩ := h
   exact fempty a cap rfl rfl
  ·
   cases h
 case imm cells len b o cap c hV hb H S hlc =>
  split at h
  ·
   rename_i hl
   cases h
   obtain ⟨T, fz, hh⟩ := hI.view b c hV
   exact frow b o _ cap c T fz hh hl ⟨hb, H, S⟩
  ·
   cases h
 case imm0 a cap =>
  split at h
  ·
   simp at h
   obtain ⟨rfl, rfl⟩ := h
   exact fempty a cap rfl rfl
  ·
   cases h
 case ref id off len sz' cap loc hρ hc hl =>
  split at h
  ·
   rename_i hsz
   subst hsz
   cases ho : s.objs id with
   | dead => simp [ho] at h
   | live cs =>
    simp only [ho, Option.map_eq_some_iff] at h
    obtain ⟨c, h1, h2⟩ := h
    cases h2
    obtain ⟨hle, rfl⟩ := kB h1
    obtain ⟨c, T, g1, _, g3, _⟩ := hI.live id cs loc ho hρ
    exact frow loc.b (loc.base + off) _ cap c T (0, 0) g1 (by simp; omega) (g3.sub off _ hle)
   | froz cs =>
    simp only [ho, Option.map_eq_some_iff] at h
    obtain ⟨c, h1, h2⟩ := h
    cases h2
    obtain ⟨hle, rfl⟩ := kB h1
    obtain ⟨c, g1, g3, _⟩ := hI.froz id cs loc ho hρ
    obtain ⟨T, fz, hh⟩ := hI.view loc.b c g1
    exact frow loc.b (loc.base + off) _ cap c T fz hh (by simp; omega) (g3.sub off _ hle)
  ·
   cases h
 case refc id off len sz' cap loc hρ hc hl =>
  split at h
  ·
   rename_i hsz
   subst hsz
   cases ho : s.objs id with
   | dead => simp [ho] at h
   | live cs =>
    simp only [ho, Option.map_eq_some_iff] at h
    obtain ⟨c, h1, h2⟩ := h
    cases h2
    obtain ⟨hle, rfl⟩ := kB h1
    obtain ⟨c, T, g1, _, g3, _⟩ := hI.live id cs loc ho hρ
    exact frow loc.b (loc.base + off) _ cap c T (0, 0) g1 (by simp; omega) (g3.sub off _ hle)
   | froz cs =>
    simp only [ho, Option.map_eq_some_iff] at h
    obtain ⟨c, h1, h2⟩ := h
    cases h2
    obtain ⟨hle, rfl⟩ := kB h1
    obtain ⟨c, g1, g3, _⟩ := hI.froz id cs loc ho hρ
    obtain ⟨T, fz, hh⟩ := hI.view loc.b c g1
    exact frow loc.b (loc.base + off) _ cap c T fz hh (by simp; omega) (g3.sub off _ hle)
  ·
   cases h
 case refE id off sz' a =>
  split at h
  ·
   cases ho : s.objs id with
   | dead => simp [ho] at h
   | live cs =>
    simp only [ho, Option.map_eq_some_iff] at h
    obtain ⟨c, h1, h2⟩ := h
    cases h2
    obtain ⟨hle, rfl⟩ := kB h1
    exact fempty a 0 (by simp) rfl
   | froz cs =>
    simp only [ho, Option.map_eq_some_iff] at h
    obtain ⟨c, h1, h2⟩ := h
    cases h2
    obtain ⟨hle, rfl⟩ := kB h1
    exact fempty a 0 (by simp) rfl
  ·
   cases h

theorem DI {t : Nat} {fs : Array Field} {zs : List AV} {parts : List (Nat × AV)} {vals : Array (Nat × Value)} {cs : List AV} (hI : Inv ρ V s.toHS w) (hu : C.P.underlying t = some (.struct fs)) (hz : zer C.P t = some zs)
  (hm : vals.toList.map (·.1) = parts.map (·.1)) (hrel : ∀ (i : Nat) p q, parts[i]? = some p → vals.toList[i]? = some q → Rel ρ V p.2 q.2)
  (hsz : ∀ (i : Nat) f, fs[i]? = some f → ∃ n, cA C.P f.type = some n)
  (h : mD (fun i => (fs[i]?).bind fun f => (cA C.P f.type).map fun n => (f.offset, n)) zs parts = some cs) :
  bl ρ V s w fr ((do pure (.value (← Instr.build t vals)) : Sem Next).run C.P w) ⟨.agg cs, .none⟩ := by
 obtain ⟨z, h1, rfl, h3, _⟩ := gq hz w
 have hplaces : (fs.mapM (fun f => do pure (f.offset, ← sizeOf f.type) : Field → Sem (Nat × Nat))).run C.P w = .ok (fs.map fun f => (f.offset, (cA C.P f.type).getD 0)) w := by
  rw [← Array.toArray_toList (xs := fs)] at hsz ⊢
  generalize fs.toList = l at hsz ⊢
  rw [List.mapM_toArray]
  simp only [Sem.run_map, List.map_toArray]
  have : (l.mapM (fun f => do pure (f.offset, ← sizeOf f.type) : Field → Sem (Nat × Nat))).run C.P w = .ok (l.map fun f => (f.offset, (cA C.P f.type).getD 0)) w := by
   induction l with
   | nil => simp
   | cons f l ih =>
    obtain ⟨n, hn⟩ := hsz 0 f (by simp)
    have ih' := ih fun i g hg => hsz (i + 1) g (by simpa using hg)
    simp only [List.mapM_cons, Sem.run_bind, cp hn, Result.andThen_ok, Sem.run_pure, List.map_cons, hn, Option.getD_some] at ih' ⊢
    rw [ih']; simp
  rw [this]; rfl
 have hpl : (fun (i : Nat) => (fs[i]?).bind fun (f : Field) => (cA C.P f.type).map fun n => (f.offset, n)) = (fun (i : Nat) => (fs.map fun (f : Field) => (f.offset, (cA C.P f.type).getD 0))[i]?) := by
  funext i
  rw [Array.getElem?_map]
  cases hf : fs[i]? with
  | none => rfl
  | some f =>
   obtain ⟨n, hn⟩ := hsz i f hf
   simp [hn]
 rw [hpl] at h
 obtain ⟨ys, hy1, hy2⟩ := nb parts vals.toList _ z.cells cs hm hrel (by simpa using l6 (ρ := ρ) (V := V) h3) h
 refine bl.val hI (y := .agg ys) ?_ (Rel.agg_iff.2 ⟨ys, rfl, by simpa using hy2.len, by simpa using hy2.relC⟩)
 simp only [Instr.build, Sem.run_bind, h1, Result.andThen_ok, run_underlying hu, hplaces, hy1, Sem.run_pure]

theorem CP {t n e sz : Nat} {zs : List AV} {parts : List (Nat × AV)} {vals : Array (Nat × Value)} {cs : List AV} (hI : Inv ρ V s.toHS w) (hu : C.P.underlying t = some (.array n e)) (hz : zer C.P t = some zs)
  (hm : vals.toList.map (·.1) = parts.map (·.1)) (hrel : ∀ (i : Nat) p q, parts[i]? = some p → vals.toList[i]? = some q → Rel ρ V p.2 q.2) (hsz : cA C.P e = some sz)
  (h : mD (fun i => some (i * sz, sz)) zs parts = some cs) :
  bl ρ V s w fr ((do pure (.value (← Instr.build t vals)) : Sem Next).run C.P w) ⟨.agg cs, .none⟩ := by
 obtain ⟨z, h1, rfl, h3, _⟩ := gq hz w
 obtain ⟨ys, hy1, hy2⟩ := nb parts vals.toList _ z.cells cs hm hrel (by simpa using l6 (ρ := ρ) (V := V) h3) h
 refine bl.val hI (y := .agg ys) ?_ (Rel.agg_iff.2 ⟨ys, rfl, by simpa using hy2.len, by simpa using hy2.relC⟩)
 simp only [Instr.build, Sem.run_bind, h1, Result.andThen_ok, run_underlying hu, cp hsz, hy1, Sem.run_pure]

theorem wQ {t n e sz : Nat} {zs : List AV} {parts : List (Nat × AV)} {vals : Array (Nat × Value)} {cs : List AV} (hI : Inv ρ V s.toHS w) (hfr : ρ fr = none) (hlt : fr < s.next)
  (hu : elS C.P t = some e) (hz : zer C.P e = some zs) (hsz : cA C.P e = some sz) (hzs : zs.length = sz) (hmax : n * sz ≤ 16777216)
  (hm : vals.toList.map (·.1) = parts.map (·.1)) (hrel : ∀ (i : Nat) p q, parts[i]? = some p → vals.toList[i]? = some q → Rel ρ V p.2 q.2)
  (h : mD (fun i => some (i * sz, sz)) (rep n zs) parts = some cs) :
  bl ρ V s w fr ((do pure (.value (← Instr.buildSlice t n vals)) : Sem Next).run C.P w) ⟨.ref fr 0 n sz, .new cs⟩ := by
 obtain ⟨z, h1, rfl, h3, _⟩ := gq hz w
 have hzsz : z.cells.size = sz := by simpa using hzs
 have hrep : RelV ρ V (rep n (z.cells.toList.map .v)) (gH n z.cells.toList) := (l6 h3).rep n
 obtain ⟨ys, hy1, hy2⟩ := nb parts vals.toList _ (gH n z.cells.toList).toArray cs hm hrel (by simpa using hrep) h
 have hlen : ys.size = n * sz := by
  have a1 := hy2.len
  have a2 : cs.length = (rep n (z.cells.toList.map AV.v)).length := by
   clear hy1 hy2 a1 hrel hm
   revert h
   generalize rep n (z.cells.toList.map AV.v) = cells
   intro h
   induction parts generalizing cells with
   | nil => simp only [mD, Option.some.injEq] at h; rw [h]
   | cons p ps ih =>
    obtain ⟨i, x⟩ := p
    simp only [mD] at h
    split at h
    ·
     split at h
     ·
      rename_i hc
      rw [ih _ h, eF]
     ·
      cases h
    ·
     cases h
  rw [a2, dK] at a1
  simp [hzsz] at a1
  exact a1
 refine bl.new (c := ys) (T := e) hI hfr hlt (y := .slice (some ⟨w.heap.size, 0, none⟩) n n) (w' := { w with heap := w.heap.push (.cells ys e) }) ?_ ⟨rfl, rfl, rfl⟩ (by simpa using hy2.relC) ?_
 ·
  have hgt : ¬ (n * sz > 2 ^ 24) := by simpa using hmax
  by_cases h0 : n * sz = 0
  ·
   have hys : (Array.range (n * sz)).map (fun j => (#[] : Array Value)[j % (#[] : Array Value).size]!) = (gH n z.cells.toList).toArray := by
    rw [h0]
    have e1 := lP z.cells n
    rw [hzsz, h0] at e1
    rw [← e1]
    simp
   simp only [Instr.buildSlice, Sem.run_bind, run_underlying (ej hu), Result.andThen_ok, cp hsz, if_neg hgt, if_pos h0, Sem.run_pure]
   rw [hys]
   simp [newRow, hy1]
  ·
   have hys : (Array.range (n * sz)).map (fun j => z.cells[j % z.cells.size]!) = (gH n z.cells.toList).toArray := by
    rw [← hzsz]; exact lP z.cells n
   simp only [Instr.buildSlice, Sem.run_bind, run_underlying (ej hu), Result.andThen_ok, cp hsz, if_neg hgt, if_neg h0, h1, Sem.run_pure]
   rw [hys]
   simp [newRow, hy1]
 ·
  intro ρ' _ hρ'
  have := Rel.ref (V := V) fr 0 n sz n ⟨w.heap.size, 0, ys.size⟩ hρ' (by simp [hlen]) (Nat.le_refl _)
  simpa using this

end
end Go.AX

/-! (AxI) -/

namespace Go.AX

section
variable {C : Ctx} {ρ : Rho} {V : bw} {s : AS} {w : World} {fr : Nat}

def wt (ρ : Rho) (V : bw) : Option AV → Option Value → Prop
 | none, none => True
 | some x, some y => Rel ρ V x y
 | _, _ => False

theorem mZ {P : Program} {isSl : Bool} {len cap : Nat} {lo hi : Option AV} {lo' hi' : Option Value} {l h : Int} (hlo : wt ρ V lo lo') (hhi : wt ρ V hi hi')
  (h1 : zm lo = some l) (h2 : vV len hi = some h) (h3 : 0 ≤ l) (h4 : l ≤ h) (h5 : h ≤ (len : Int)) (h6 : len ≤ cap) :
  (Instr.sliceBounds isSl len cap lo' hi' none).run P w = .ok (l.toNat, h.toNat, cap) w := by
 have key : ∀ (k : IntKind) (i : Int) (y : Nat) (qI : BoundsCode), 0 ≤ i → i ≤ (y : Int) → (Instr.sliceBound (.int k i) y qI).run P w = .ok i.toNat w := fun k i y qI a b => run_sliceBound w k i y qI a b
 cases lo with
 | none =>
  cases lo' with
  | some _ => exact hlo.elim
  | none =>
   simp only [zm, Option.some.injEq] at h1
   subst h1
   cases hi with
   | none =>
    cases hi' with
    | some _ => exact hhi.elim
    | none => simp only [vV, Option.some.injEq] at h2; subst h2; simp [Instr.sliceBounds]
   | some x =>
    cases hi' with
    | none => exact hhi.elim
    | some y =>
     obtain ⟨k, rfl⟩ := di hhi h2
     simp [Instr.sliceBounds, key k h cap _ (by omega) (by omega)]
 | some z =>
  cases lo' with
  | none => exact hlo.elim
  | some z' =>
   obtain ⟨k', rfl⟩ := di hlo h1
   cases hi with
   | none =>
    cases hi' with
    | some _ => exact hhi.elim
    | none => simp only [vV, Option.some.injEq] at h2; subst h2; simp [Instr.sliceBounds, key k' l len _ h3 h4]
   | some x =>
    cases hi' with
    | none => exact hhi.elim
    | some y =>
     obtain ⟨k, rfl⟩ := di hhi h2
     simp [Instr.sliceBounds, key k h cap _ (by omega) (by omega), key k' l h.toNat _ h3 (by omega)]

theorem DA {t : Nat} {x : AV} {q : Value} {lo hi : Option AV} {lo' hi' : Option Value} {r : AV} (hI : Inv ρ V s.toHS w) (hq : Rel ρ V x q) (hlo : wt ρ V lo lo') (hhi : wt ρ V hi hi')
  (h : uM C.P s t x lo hi = some r) :
  bl ρ V s w fr ((do pure (.value (← Instr.sliceAt t q lo' hi' none)) : Sem Next).run C.P w) ⟨r, .none⟩ := by
 unfold uM at h
 split at h
 ·
  rename_i n e hu
  split at h
  ·
   rename_i sz l h' hsz hl1 hh1
   split at h
   ·
    rename_i hb
    obtain ⟨b1, b2, b3⟩ := hb
    have hbr := mZ (P := C.P) (w := w) (isSl := false) (cap := n) hlo hhi hl1 hh1 b1 b2 b3 (Nat.le_refl _)
    have run : ∀ (b a : Nat), (Instr.sliceAt t (.pointer (some ⟨b, a, none⟩)) lo' hi' none).run C.P w =
      .ok (.slice (some (if n = l.toNat then ⟨b, a, none⟩ else ⟨b, a + l.toNat * sz, none⟩)) (h'.toNat - l.toNat) (n - l.toNat)) w := by
     intro b a
     simp [Instr.sliceAt, run_underlying hu, Instr.sureAddr, hbr, cp hsz, fU]
    have hsub : h'.toNat - l.toNat = (h' - l).toNat := by omega
    have hmul : l.toNat * sz + (n - l.toNat) * sz = n * sz := by rw [← Nat.add_mul]; congr 1; omega
    cases hq <;> simp only at h <;> try (cases h; done)
    case ptr id off loc hρ =>
     cases ho : s.objs id with
     | dead => simp [ho] at h
     | froz _ => simp [ho] at h
     | live cells =>
      simp only [ho] at h
      split at h
      ·
       rename_i hle
       cases h
       refine bl.val hI (aC (run _ _)) ?_
       obtain ⟨c, T, g1, g2, g3, g4⟩ := hI.live id cells loc ho hρ
       have g5 := g3.le
       rw [hsub]
       by_cases hz : n = l.toNat
       ·
        have : (h' - l).toNat = 0 := by omega
        rw [this, hz, Nat.sub_self]
        exact .refE _ _ _ _
       ·
        rw [if_neg hz, Nat.add_assoc]
        exact .ref id _ _ sz _ loc hρ (by omega) (by omega)
      ·
       cases h
    case iptr cells off b o c hV hb H S =>
     split at h
     ·
      rename_i hle
      cases h
      refine bl.val hI (aC (run _ _)) ?_
      rw [hsub]
      by_cases hz : (h' - l).toNat = 0
      ·
       rw [hz]
       simp only [Nat.zero_mul, List.take_zero]
       exact .imm0 _ _
      ·
       rw [if_neg (by omega), Nat.add_assoc]
       have hrc : RelC ρ V cells c o := ⟨hb, H, S⟩
       have hm2 : l.toNat * sz + (h' - l).toNat * sz ≤ n * sz := by rw [← Nat.add_mul]; exact Nat.mul_le_mul_right _ (by omega)
       exact Rel.imm_of _ _ (by omega) hV (hrc.sub (off + l.toNat * sz) ((h' - l).toNat * sz) (by omega))
     ·
      cases h
   ·
    cases h
  ·
   cases h
 ·
  rename_i e hu
  have hu' : C.P.underlying t = some (.slice (C.P.elem t)) := by
   have : C.P.elem t = e := by simp [Program.elem, hu]
   rw [this]; exact hu
  have hel : C.P.elem t = e := by simp [Program.elem, hu]
  cases hsz : cA C.P e with
  | none => simp [hsz] at h
  | some sz =>
   simp only [hsz] at h
   have run : ∀ (a : Option Addr) (len cap : Nat) (l h' : Int), zm lo = some l → vV len hi = some h' → 0 ≤ l → l ≤ h' → h' ≤ (len : Int) → len ≤ cap →
     (Instr.sliceAt t (.slice a len cap) lo' hi' none).run C.P w = .ok (.slice (if cap = l.toNat then a else a.map (·.add (l.toNat * sz))) (h'.toNat - l.toNat) (cap - l.toNat)) w := by
    intro a len cap l h' e1 e2 e3 e4 e5 e6
    have hbr := mZ (P := C.P) (w := w) (isSl := true) hlo hhi e1 e2 e3 e4 e5 e6
    rw [run_sliceAt_slice _ _ _ _ _ _ hu', run_slice_any _ _ _ _ _ hu', hbr, hel]
    simp [cp hsz, sliced]
   cases hq <;> (try simp only at h) <;> try (cases h; done)
   case v =>
    split at h
    ·
     rename_i hn
     have hy := uy hn
     subst hy
     split at h
     ·
      rename_i l h' e1 e2
      split at h
      ·
       rename_i e3
       obtain ⟨rfl, rfl⟩ := e3
       cases h
       exact bl.val hI (aC (run none 0 0 0 0 e1 e2 (by omega) (by omega) (by simp) (by omega))) (.v _)
      ·
       cases h
     ·
      cases h
    ·
     cases h
   case imm cells len b o cap c hV hb H S hlc =>
    split at h
    ·
     rename_i l h' e1 e2
     split at h
     ·
      rename_i e3
      obtain ⟨b1, b2, b3, b4⟩ := e3
      cases h
      have hrc : RelC ρ V cells c o := ⟨hb, H, S⟩
      refine bl.val hI (aC (run (some ⟨b, o, none⟩) len cap l h' e1 e2 b1 b2 b3 hlc)) ?_
      have hsub : h'.toNat - l.toNat = (h' - l).toNat := by omega
      rw [hsub]
      by_cases hz : (h' - l).toNat = 0
      ·
       rw [hz]; simp only [Nat.zero_mul, List.take_zero]; exact .imm0 _ _
      ·
       rw [if_neg (by omega)]
       simp only [Option.map_some, fU]
       have hm2 : l.toNat * sz + (h' - l).toNat * sz ≤ len * sz := by rw [← Nat.add_mul]; exact Nat.mul_le_mul_right _ (by omega)
       exact Rel.imm_of _ _ (by omega) hV (hrc.sub (l.toNat * sz) ((h' - l).toNat * sz) (by omega))
     ·
      cases h
    ·
     cases h
   case imm0 a cap =>
    split at h
    ·
     rename_i l h' e1 e2
     split at h
     ·
      rename_i e3
      obtain ⟨b1, b2, b3, b4⟩ := e3
      simp at b3
      have : l = 0 := by omega
      have : h' = 0 := by omega
      subst l; subst h'
      cases h
      refine bl.val hI (aC (run a 0 cap 0 0 e1 e2 (by omega) (by omega) (by simp) (by omega))) ?_
      simp; exact .imm0 _ _
     ·
      cases h
    ·
     cases h
   case ref id off len sz' cap loc hρ hc hl =>
    split at h
    ·
     rename_i l h' e1 e2
     split at h
     ·
      rename_i e3
      obtain ⟨b1, b2, b3, rfl⟩ := e3
      cases h
      refine bl.val hI (aC (run (some ⟨loc.b, loc.base + off, none⟩) len cap l h' e1 e2 b1 b2 b3 hl)) ?_
      have hsub : h'.toNat - l.toNat = (h' - l).toNat := by omega
      rw [hsub]
      by_cases hz : cap = l.toNat
      ·
       have : (h' - l).toNat = 0 := by omega
       rw [this, hz, Nat.sub_self]
       exact .refE _ _ _ _
      ·
       rw [if_neg hz]
       simp only [Option.map_some, fU]
       rw [Nat.add_assoc]
       have hmul : l.toNat * sz' + (cap - l.toNat) * sz' = cap * sz' := by rw [← Nat.add_mul]; congr 1; omega
       exact .ref id _ _ sz' _ loc hρ (by omega) (by omega)
     ·
      cases h
    ·
     cases h
   case refc id off len sz' cap loc hρ hc hl =>
    split at h
    ·
     rename_i l h' e1 e2
     split at h
     ·
      rename_i e3
      obtain ⟨b1, b2, b3, rfl⟩ := e3
      have run2 : (Instr.sliceAt t (.slice (some ⟨loc.b, loc.base + off, none⟩) len cap) lo' hi' none).run C.P w = .ok (.slice (if cap = l.toNat then (some ⟨loc.b, loc.base + off, none⟩) else (some ⟨loc.b, loc.base + off, none⟩ : Option Addr).map (·.add (l.toNat * sz'))) (h'.toNat - l.toNat) (cap - l.toNat)) w := by
       have hbr : (Instr.sliceBounds true len cap lo' hi' none).run C.P w = .ok (l.toNat, h'.toNat, cap) w := by
        cases hi with
        | none =>
         have : h' = (len : Int) := by simp only [vV, Option.some.injEq] at e2; exact e2.symm
         exact mZ hlo hhi e1 e2 b1 b2 (by omega) hl
        | some x =>
         have hb := mZ (P := C.P) (w := w) (isSl := true) (len := cap) (cap := cap) hlo hhi e1 e2 b1 b2 b3 (Nat.le_refl _)
         cases hi' with
         | none => exact hhi.elim
         | some y => exact hb
       rw [run_sliceAt_slice _ _ _ _ _ _ hu', run_slice_any _ _ _ _ _ hu', hbr, hel]
       simp [cp hsz, sliced]
      split at h
      ·
       rename_i b4
       cases h
       refine bl.val hI (aC run2) ?_
       have hsub : h'.toNat - l.toNat = (h' - l).toNat := by omega
       rw [hsub, if_neg (by omega : ¬ cap = l.toNat)]
       simp only [Option.map_some, fU]
       rw [Nat.add_assoc]
       have hmul : l.toNat * sz' + (cap - l.toNat) * sz' = cap * sz' := by rw [← Nat.add_mul]; congr 1; omega
       exact .refc id _ _ sz' _ loc hρ (by omega) (by omega)
      ·
       rename_i b4
       cases h
       refine bl.val hI (aC run2) ?_
       rw [show h'.toNat - l.toNat = 0 by omega, show cap - l.toNat = 0 by omega]
       exact .refE _ _ _ _
     ·
      cases h
    ·
     cases h
   case refE id off sz' a =>
    split at h
    ·
     rename_i l h' e1 e2
     split at h
     ·
      rename_i e3
      obtain ⟨b1, b2, b3, rfl⟩ := e3
      simp at b3
      have : l = 0 := by omega
      have : h' = 0 := by omega
      subst l; subst h'
      cases h
      refine bl.val hI (aC (run a 0 0 0 0 e1 e2 (by omega) (by omega) (by simp) (by omega))) ?_
      simp; exact .refE _ _ _ _
     ·
      cases h
    ·
     cases h
 ·
  cases h

theorem Cz {t : TypeId} {x lo hi mx r : AV} {q lo' hi' mx' : Value} (hI : Inv ρ V s.toHS w) (hq : Rel ρ V x q) (hlo : Rel ρ V lo lo') (hhi : Rel ρ V hi hi') (hmx : Rel ρ V mx mx') (h : uD C.P t x lo hi mx = some r) :
  bl ρ V s w fr ((do pure (.value (← Instr.sliceAt t q (some lo') (some hi') (some mx'))) : Sem Next).run C.P w) ⟨r, .none⟩ := by
 unfold uD at h
 split at h
 ·
  rename_i e hu
  have hu' : C.P.underlying t = some (.slice (C.P.elem t)) := by
   have : C.P.elem t = e := by simp [Program.elem, hu]
   rw [this]; exact hu
  have hel : C.P.elem t = e := by simp [Program.elem, hu]
  have key : ∀ (k : IntKind) (i : Int) (y : Nat) (qI : BoundsCode), 0 ≤ i → i ≤ (y : Int) → (Instr.sliceBound (.int k i) y qI).run C.P w = .ok i.toNat w := fun k i y qI a b => run_sliceBound w k i y qI a b
  have fin : ∀ (sz len cap : Nat) (a : Option Addr) (k1 k2 k3 : IntKind) (l h' m : Int), cA C.P e = some sz → 0 ≤ l → l ≤ h' → h' ≤ m → m ≤ (cap : Int) →
    bl ρ V s w fr ((do pure (.value (← Instr.sliceAt t (.slice a len cap) (some (.int k1 l)) (some (.int k2 h')) (some (.int k3 m)))) : Sem Next).run C.P w) ⟨.unk, .none⟩ := by
   intro sz len cap a k1 k2 k3 l h' m hsz b1 b2 b3 b4
   have hbr : (Instr.sliceBounds true len cap (some (.int k1 l)) (some (.int k2 h')) (some (.int k3 m))).run C.P w = .ok (l.toNat, h'.toNat, m.toNat) w := by
    simp [Instr.sliceBounds, key k3 m cap _ (by omega) b4, key k2 h' m.toNat _ (by omega) (by omega), key k1 l h'.toNat _ b1 (by omega)]
   refine bl.val hI (aC (y := sliced a l.toNat h'.toNat m.toNat sz) ?_) (.unk _)
   rw [run_sliceAt_slice _ _ _ _ _ _ hu', run_slice_any _ _ _ _ _ hu', hbr, hel]
   simp [cp hsz]
  split at h
  ·
   rename_i sz id off len sz' cap l h' m hsz e1 e2 e3
   split at h
   ·
    rename_i hb
    obtain ⟨b1, b2, b3, b4⟩ := hb
    cases h
    obtain ⟨k1, rfl⟩ := di hlo e1
    obtain ⟨k2, rfl⟩ := di hhi e2
    obtain ⟨k3, rfl⟩ := di hmx e3
    cases hq with
    | refc _ _ _ _ _ loc h1 h2 h3 => exact fin _ _ _ _ _ _ _ _ _ _ hsz b1 b2 b3 b4
   ·
    cases h
  ·
   rename_i sz id off len sz' l h' m hsz e1 e2 e3
   split at h
   ·
    rename_i hb
    obtain ⟨b1, b2, b3, b4⟩ := hb
    cases h
    obtain ⟨k1, rfl⟩ := di hlo e1
    obtain ⟨k2, rfl⟩ := di hhi e2
    obtain ⟨k3, rfl⟩ := di hmx e3
    cases hq with
    | ref _ _ _ _ cap loc h1 h2 h3 => exact fin _ _ _ _ _ _ _ _ _ _ hsz b1 b2 b3 (by omega)
    | refE => exact fin _ _ _ _ _ _ _ _ _ _ hsz b1 b2 b3 b4
   ·
    cases h
  ·
   cases h
 ·
  cases h

theorem A5 {t : TypeId} {x hi mx r : AV} {q hi' mx' : Value} (hI : Inv ρ V s.toHS w) (hq : Rel ρ V x q) (hhi : Rel ρ V hi hi') (hmx : Rel ρ V mx mx') (h : uC C.P t x hi mx = some r) :
  bl ρ V s w fr ((do pure (.value (← Instr.sliceAt t q none (some hi') (some mx'))) : Sem Next).run C.P w) ⟨r, .none⟩ := by
 unfold uC at h
 split at h
 ·
  rename_i e hu
  have hu' : C.P.underlying t = some (.slice (C.P.elem t)) := by
   have : C.P.elem t = e := by simp [Program.elem, hu]
   rw [this]; exact hu
  have hel : C.P.elem t = e := by simp [Program.elem, hu]
  have key : ∀ (k : IntKind) (i : Int) (y : Nat) (qI : BoundsCode), 0 ≤ i → i ≤ (y : Int) → (Instr.sliceBound (.int k i) y qI).run C.P w = .ok i.toNat w := fun k i y qI a b => run_sliceBound w k i y qI a b
  split at h
  ·
   rename_i sz id off len sz' h' m hsz e2 e3
   split at h
   ·
    rename_i hb
    obtain ⟨b2, b3, b4, b5⟩ := hb
    cases h
    obtain ⟨k2, rfl⟩ := di hhi e2
    obtain ⟨k3, rfl⟩ := di hmx e3
    have fin : ∀ (len cap : Nat) (a : Option Addr), m ≤ (cap : Int) →
      (Instr.sliceAt t (.slice a len cap) none (some (.int k2 h')) (some (.int k3 m))).run C.P w = .ok (sliced a 0 h'.toNat m.toNat sz) w := by
     intro len cap a b4
     have hbr : (Instr.sliceBounds true len cap none (some (.int k2 h')) (some (.int k3 m))).run C.P w = .ok (0, h'.toNat, m.toNat) w := by
      simp [Instr.sliceBounds, key k3 m cap _ (by omega) b4, key k2 h' m.toNat _ (by omega) (by omega)]
     rw [run_sliceAt_slice _ _ _ _ _ _ hu', run_slice_any _ _ _ _ _ hu', hbr, hel]
     simp [cp hsz]
    subst b5
    cases hq with
    | ref _ _ _ _ cap loc h1 h2 h3 =>
     refine bl.val hI (aC (fin _ _ _ (by omega))) ?_
     unfold sliced
     by_cases hm : m.toNat = 0
     ·
      have : h'.toNat = 0 := by omega
      rw [this, hm]
      exact .refE _ _ _ _
     ·
      rw [if_neg hm]
      have hle : m.toNat ≤ cap := by omega
      have hmul : m.toNat * sz' ≤ cap * sz' := Nat.mul_le_mul_right _ hle
      have := Rel.ref (V := V) id off h'.toNat sz' m.toNat loc h1 (by omega) (by omega)
      simpa [fU] using this
    | refE =>
     refine bl.val hI (aC (fin _ _ _ (by omega))) ?_
     have h0 : h'.toNat = 0 := by omega
     have m0 : m.toNat = 0 := by omega
     rw [h0, m0]
     exact .refE _ _ _ _
   ·
    cases h
  ·
   cases h
 ·
  cases h

end
end Go.AX

/-! (AxJ) -/

namespace Go.AX

section
variable {C : Ctx} {ρ : Rho} {V : bw} {s : AS} {w : World} {fr : Nat}

theorem pS {P : Program} {t n : Nat} (h : qQ P t = some n) : ∃ i, P.info? t = some i ∧ i.bytes = n := by
 unfold qQ at h
 cases hi : P.info? t with
 | none => simp [hi] at h
 | some i => simp [hi] at h; exact ⟨i, rfl, h⟩

theorem pH {P : Program} {t u e e' ty sz sLen sCap k : Nat} {base : Option Addr} {y : Value} {ys : List Value} {w' : World} (ht : P.underlying t = some (.slice e)) (hu : P.underlying u = some (.slice e')) (hsz : cA P e = some sz)
  (hlen : Builtin.lenOf y = pure k) (hf : (Builtin.firstCells sz k y).run P w = .ok ys.toArray w) (hroom : sLen + k ≤ sCap)
  (hst : ∀ a, base = some a → (storeCells (a.add (sLen * sz)) ys).run P w = .ok () w') (hno : base = none → w' = w) :
  (Builtin.append_ #[t, u] ty #[.slice base sLen sCap, y]).run P w = .ok (.slice base (sLen + k) sCap) w' := by
 cases base with
 | none =>
  have := hno rfl
  subst this
  simp [Builtin.append_, run_underlying ht, run_underlying hu, cp hsz, hlen, hf, hroom]
 | some a =>
  have h1 := hst a rfl
  simp [Builtin.append_, run_underlying ht, run_underlying hu, cp hsz, hlen, hf, hroom, h1]

theorem z5 {P : Program} {t u e e' ty sz by' sLen sCap k : Nat} {base : Option Addr} {y : Value} {xs ys : List Value} {z : Value} (ht : P.underlying t = some (.slice e)) (hu : P.underlying u = some (.slice e')) (hsz : cA P e = some sz)
  (hby : qQ P e = some by') (hz : ∀ w : World, (zeroValue e).run P w = .ok z w)
  (hlen : Builtin.lenOf y = pure k) (hf : (Builtin.firstCells sz k y).run P w.drew = .ok ys.toArray w.drew) (hfo : (Builtin.firstCells sz sLen (.slice base sLen sCap)).run P w.drew = .ok xs.toArray w.drew)
  (hroom : ¬ sLen + k ≤ sCap) (hb0 : 0 < by') (hbound : (sLen + k) * by' ≤ 140737488355328) :
  ∃ (rest : List Value) (cap : Nat), sLen + k ≤ cap ∧ rest.length = (cap - (sLen + k)) * z.cells.size ∧ (Builtin.append_ #[t, u] ty #[.slice base sLen sCap, y]).run P w =
   .ok (.slice (some ⟨w.heap.size, 0, none⟩) (sLen + k) cap) (w.drew.alloc (.cells (xs ++ ys ++ rest).toArray e)) := by
 obtain ⟨i, hi, hb⟩ := pS hby
 refine ⟨(Builtin.zeroCells z.cells (grownCap w (sLen + k) sCap e - (sLen + k))).toList, grownCap w (sLen + k) sCap e, grownCap_ge _ _ _ _, by rw [Array.length_toList, size_zeroCells], ?_⟩
 have hle : sLen + k ≤ (sLen + k) * by' := Nat.le_mul_of_pos_right _ hb0
 have h63 : ¬ (9223372036854775807 < ((sLen : Int) + (k : Int))) := by omega
 have hfit := growslice_fits (need := sLen + k) (old := sCap) (by omega) hbound
 have h48 : ¬ (281474976710656 < Builtin.nextslicecap (sLen + k) sCap * by') := by omega
 simp [Builtin.append_, run_underlying ht, run_underlying hu, cp hsz, hlen, hroom, typeInfo, hi, hb, h63, h48, Question.forced, hf, hfo, hz, newRow, grownCap]
 congr 2
 apply Array.ext'
 simp

theorem Ao {objs : Nat → Ob} {nx : Nat} {id off len k cap sz : Nat} {cells xs : List AV} {loc : Loc} {ys : List Value} (hI : Inv ρ V ⟨objs, nx⟩ w) (hfr : ρ fr = none) (hlt : fr < nx) (hl : objs id = .live cells) (hρ : ρ id = some loc)
  (hend : off + len * sz = cells.length) (hv : RelV ρ V xs ys) (hxl : xs.length = k * sz) (hc : loc.base + off + cap * sz ≤ loc.N) (hroom : len + k ≤ cap) :
  ∃ (cur : Array Value) (T : TypeId), w.heap[loc.b]? = some (.cells cur T (0, 0)) ∧ loc.base + off + len * sz + ys.length ≤ cur.size ∧
   Did ρ V objs nx w fr ⟨.ref fr 0 (len + k) sz, .app (some id) (cells.drop off ++ xs)⟩ (.slice (some ⟨loc.b, loc.base + off, none⟩) (len + k) cap) (upd ρ fr (some ⟨loc.b, loc.base + off, loc.N⟩))
    (w.setRow loc.b (cur.toList.take (loc.base + off + len * sz) ++ ys ++ cur.toList.drop (loc.base + off + len * sz + ys.length)).toArray) := by
 obtain ⟨cur, T, h1, h2, h3, h4⟩ := hI.live id cells loc hl hρ
 have hle3 := h3.le
 have hvl := hv.len
 have hmul : (len + k) * sz ≤ cap * sz := Nat.mul_le_mul_right _ hroom
 rw [Nat.add_mul] at hmul
 have hfit : loc.base + off + len * sz + ys.length ≤ cur.size := by omega
 refine ⟨cur, T, h1, hfit, ?_⟩
 generalize hrow : (cur.toList.take (loc.base + off + len * sz) ++ ys ++ cur.toList.drop (loc.base + off + len * sz + ys.length)).toArray = row
 have hrs : row.size = cur.size := by rw [← hrow]; simp; omega
 have hget : ∀ i, row[loc.base + off + i]? = if i < len * sz then cur[loc.base + off + i]? else if i < len * sz + ys.length then ys[i - len * sz]? else cur[loc.base + off + i]? := by
  intro i
  rw [← hrow]
  simp only [List.getElem?_toArray]
  rw [List.getElem?_append, List.getElem?_append]
  simp only [List.length_append, List.length_take, List.getElem?_drop, List.getElem?_take, Array.length_toList, Array.getElem?_toList]
  have hm : min (loc.base + off + len * sz) cur.size = loc.base + off + len * sz := by omega
  rw [hm]
  by_cases c1 : i < len * sz
  ·
   rw [if_pos (by omega), if_pos (by omega), if_pos (by omega), if_pos c1]
  ·
   rw [if_neg c1]
   by_cases c2 : i < len * sz + ys.length
   ·
    rw [if_pos (by omega), if_neg (by omega), if_pos c2]; congr 1; omega
   ·
    rw [if_neg (by omega), if_neg c2]; congr 1; omega
 have hdl : (cells.drop off).length = len * sz := by simp; omega
 have hrc : RelC ρ V (cells.drop off ++ xs) row (loc.base + off) := by
  refine ⟨by simp [hdl, hrs]; omega, fun i x y hx hy => ?_, fun i y hi hy => ?_⟩
  ·
   rw [hget] at hy
   rw [List.getElem?_append, hdl] at hx
   by_cases c1 : i < len * sz
   ·
    rw [if_pos c1] at hx hy
    rw [List.getElem?_drop] at hx
    exact h3.rel (off + i) x y hx (by rw [← Nat.add_assoc]; exact hy)
   ·
    rw [if_neg c1] at hx hy
    have : i - len * sz < xs.length := (List.getElem?_eq_some_iff.1 hx).1
    rw [if_pos (by omega)] at hy
    exact hv.rel _ _ _ hx hy
  ·
   rw [hget] at hy
   simp [hdl] at hi
   by_cases c1 : i < len * sz
   ·
    rw [if_pos c1] at hy
    exact h3.sto (off + i) y (by omega) (by rw [← Nat.add_assoc]; exact hy)
   ·
    rw [if_neg c1, if_pos (by omega)] at hy
    exact hv.sto _ (List.mem_of_getElem? hy)
 have hne : id ≠ fr := fun hh => by rw [hh, hfr] at hρ; cases hρ
 have hρ' : ∀ j lj, ρ j = some lj → upd ρ fr (some ⟨loc.b, loc.base + off, loc.N⟩) j = some lj := by
  intro j lj hj
  have : j ≠ fr := fun hh => by rw [hh, hfr] at hj; cases hj
  rw [ba _ _ this]; exact hj
 have back : ∀ j cj, j ≠ fr → dc fr (.app (some id) (cells.drop off ++ xs)) objs j = .live cj → objs j = .live cj ∧ j ≠ id := by
  intro j cj hj hh
  simp only [dc, kx] at hh
  rw [ba _ _ hj] at hh
  by_cases hji : j = id
  ·
   subst hji; rw [cB] at hh; cases hh
  ·
   rw [ba _ _ hji] at hh; exact ⟨hh, hji⟩
 have hfrl : dc fr (.app (some id) (cells.drop off ++ xs)) objs fr = .live (cells.drop off ++ xs) := cB _ _ _
 refine ⟨.ref fr 0 (len + k) sz cap ⟨loc.b, loc.base + off, loc.N⟩ (cB _ _ _) hc hroom, ?_, hρ', fun j hj => ba _ _ hj, by simp, fun b hb hn => ?_, ?_, qO _ _ _⟩
 ·
  refine ⟨fun b c' hv' => ?_, fun j hj => ?_, fun j cj lj hj hρj => ?_, fun j cj lj hj hρj => ?_, fun i j li lj ci cj hi hj hρi hρj hb => ?_⟩
  ·
   obtain ⟨T', fz, hb⟩ := hI.view b c' hv'
   have : b ≠ loc.b := fun hh => by rw [hh, h4] at hv'; cases hv'
   exact ⟨T', fz, by rw [setRow_other _ _ _ _ this]; exact hb⟩
  ·
   have hj' : nx ≤ j := hj
   rw [ba _ _ (by omega : j ≠ fr)]; exact hI.fresh j hj
  ·
   by_cases hjf : j = fr
   ·
    subst hjf
    simp only [hfrl] at hj
    cases hj
    rw [cB] at hρj; cases hρj
    exact ⟨row, T, setRow_heap w loc.b cur row T (0, 0) h1, by rw [hrs]; exact h2, hrc.mono hρ' fun _ _ h => h, h4⟩
   ·
    obtain ⟨hj', hji⟩ := back j cj hjf hj
    rw [ba _ _ hjf] at hρj
    obtain ⟨c', T', g1, g2, g3, g4⟩ := hI.live j cj lj hj' hρj
    have hb : lj.b ≠ loc.b := fun hh => hji (hI.inj j id lj loc cj cells hj' hl hρj hρ hh)
    exact ⟨c', T', by rw [setRow_other _ _ _ _ hb]; exact g1, g2, g3.mono hρ' fun _ _ h => h, g4⟩
  ·
   by_cases hjf : j = fr
   ·
    subst hjf; simp only [hfrl] at hj; cases hj
   ·
    simp only [dc, kx] at hj
    rw [ba _ _ hjf] at hj hρj
    by_cases hji : j = id
    ·
     subst hji; rw [cB] at hj; cases hj
    ·
     rw [ba _ _ hji] at hj
     obtain ⟨c', g5, g6, g7⟩ := hI.froz j cj lj hj hρj
     exact ⟨c', g5, g6.mono hρ' fun _ _ h => h, g7⟩
  ·
   by_cases hif : i = fr <;> by_cases hjf : j = fr
   ·
    omega
   ·
    subst hif
    obtain ⟨hj', hji⟩ := back j cj hjf hj
    rw [cB] at hρi; cases hρi
    rw [ba _ _ hjf] at hρj
    exact absurd (hI.inj j id lj loc cj cells hj' hl hρj hρ hb.symm) hji
   ·
    subst hjf
    obtain ⟨hi', hii⟩ := back i ci hif hi
    rw [cB] at hρj; cases hρj
    rw [ba _ _ hif] at hρi
    exact absurd (hI.inj i id li loc ci cells hi' hl hρi hρ hb) hii
   ·
    obtain ⟨hi', _⟩ := back i ci hif hi
    obtain ⟨hj', _⟩ := back j cj hjf hj
    rw [ba _ _ hif] at hρi
    rw [ba _ _ hjf] at hρj
    exact hI.inj i j li lj ci cj hi' hj' hρi hρj hb
 ·
  exact setRow_other _ _ _ _ fun hh => hn (by rw [hh]; exact ox hl hρ)
 ·
  rintro b ⟨j, cj, lj, hj, hρj, rfl⟩
  by_cases hjf : j = fr
  ·
   subst hjf; rw [cB] at hρj; cases hρj; exact .inl ⟨id, cells, loc, hl, hρ, rfl⟩
  ·
   obtain ⟨hj', _⟩ := back j cj hjf hj
   rw [ba _ _ hjf] at hρj
   exact .inl ⟨j, cj, lj, hj', hρj, rfl⟩

theorem mW {P : Program} {t u e ty sz by' sLen sCap n : Nat} {base : Option Addr} {k kn : IntKind} {xs : List Value} {z : Value} (ht : P.underlying t = some (.slice e)) (hu : P.underlying u = some (.int kn)) (hsz : cA P e = some sz)
  (hby : qQ P e = some by') (hz : ∀ w : World, (zeroValue e).run P w = .ok z w)
  (hfo : (Builtin.firstCells sz sLen (.slice base sLen sCap)).run P w.drew = .ok xs.toArray w.drew) (h0 : 0 < n) (hs : 0 < sz) (hn63 : (n : Int) < 9223372036854775808)
  (hroom : ¬ sLen + n ≤ sCap) (hb0 : 0 < by') (hbound : (sLen + n) * by' ≤ 140737488355328) :
  ∃ (rest : List Value) (cap : Nat), sLen + n ≤ cap ∧ rest.length = (cap - (sLen + n)) * z.cells.size ∧ (Builtin.append_ #[t, u] ty #[.slice base sLen sCap, .int k n]).run P w =
   .ok (.slice (some ⟨w.heap.size, 0, none⟩) (sLen + n) cap) (w.drew.alloc (.cells (xs ++ (Builtin.zeroCells z.cells n).toList ++ rest).toArray e)) := by
 obtain ⟨i, hi, hb⟩ := pS hby
 refine ⟨(Builtin.zeroCells z.cells (grownCap w (sLen + n) sCap e - (sLen + n))).toList, grownCap w (sLen + n) sCap e, grownCap_ge _ _ _ _, by rw [Array.length_toList, size_zeroCells], ?_⟩
 have hle : sLen + n ≤ (sLen + n) * by' := Nat.le_mul_of_pos_right _ hb0
 have h63 : ¬ (9223372036854775807 < ((sLen : Int) + (n : Int))) := by omega
 have hfit := growslice_fits (need := sLen + n) (old := sCap) (by omega) hbound
 have h48 : ¬ (281474976710656 < Builtin.nextslicecap (sLen + n) sCap * by') := by omega
 have hnb : n * by' ≤ (sLen + n) * by' := Nat.mul_le_mul_right _ (by omega)
 have h48i : ¬ (281474976710656 < (n : Int) * (by' : Int)) := by
  rw [← Int.natCast_mul]
  omega
 have hw : IntKind.i64.wrap (n : Int) = n := by rw [IntKind.wrap_i64]; omega
 have hn : n ≠ 0 := by omega
 have hneg : ¬ ((n : Int) < 0) := by omega
 have hns : ¬ (n * sz = 0) := Nat.mul_ne_zero hn (by omega)
 have hs0 : sz ≠ 0 := by omega
 simp [Builtin.append_, run_underlying ht, run_underlying hu, cp hsz, hroom, typeInfo, hi, hb, asInt, asIntOf, hw, hneg, h48i, h63, h48, Question.forced, hfo, hz, newRow, grownCap]
 rw [if_neg hns]
 congr 2
 simp

theorem FR {t u el : Nat} {ty : TypeId} {x y : AV} {q r : Value} {e : Eff} (hI : Inv ρ V s.toHS w) (hfr : ρ fr = none) (hlt : fr < s.next) (hq : Rel ρ V x q) (hr : Rel ρ V y r) (he : elS C.P t = some el) (h : uJ C.P s fr el u x y = some e) :
  bl ρ V s w fr ((do pure (.value (← Builtin.append_ #[t, u] ty #[q, r])) : Sem Next).run C.P w) e := by
 unfold uJ at h
 split at h
 ·
  rename_i kn sz by' zs hu hsz hby hz
  split at h
  ·
   rename_i kk n
   split at h
   ·
    rename_i id off len sz' cap
    cases hr
    cases hq with
    | refc _ _ _ _ _ loc hρ hc hl =>
    cases ho : s.objs id with
    | dead => simp [ho] at h
    | froz _ => simp [ho] at h
    | live cells =>
     simp only [ho] at h
     split at h
     ·
      rename_i hcond
      obtain ⟨hzs, rfl, hs0, hend, hn0, hn63, hroom, hb0, hbound⟩ := hcond
      cases h
      obtain ⟨m, rfl⟩ : ∃ m : Nat, n = (m : Int) := ⟨n.toNat, by omega⟩
      simp only [Int.toNat_natCast]
      obtain ⟨cur, T, g1, g2, g3, g4⟩ := hI.live id cells loc ho hρ
      have g5 := g3.le
      have hsub := g3.sub off (len * sz') (by omega)
      obtain ⟨z, hz1, rfl, hz3, hz2⟩ := gq hz w
      have hzv : ∀ w : World, (zeroValue el).run C.P w = .ok z w := fun w' => by
       obtain ⟨z', hz1', _, _, hz2'⟩ := gq hz w'
       rw [hz2] at hz2'; cases hz2'; exact hz1'
      have hzsz : z.cells.size = sz' := by simpa using hzs
      have hfo : (Builtin.firstCells sz' len (.slice (some ⟨loc.b, loc.base + off, none⟩) len cap)).run C.P w.drew = .ok ((gw cur (loc.base + off) (len * sz'))).toArray w.drew := by
       have h1 := pT (P := C.P) (w := w.drew) (T := T) (fz := (0, 0)) (b := loc.b) (c := cur) (o := loc.base + off) (n := len * sz') g1 (by omega)
       simp only [Builtin.firstCells]
       rw [h1]
      have hbound' : (len + m) * by' ≤ 140737488355328 := by
       have : ((len : Int) + m) * by' = (((len + m) * by' : Nat) : Int) := by simp
       omega
      obtain ⟨rest, cap', hcap, hrest, hrun⟩ := mW (w := w) (ty := ty) (k := kk) (ej he) hu hsz hby hzv hfo (by omega) hs0 hn63 (by omega) hb0 hbound'
      have hzr : RelV ρ V (rep m (z.cells.toList.map .v)) (Builtin.zeroCells z.cells m).toList := by
       have hzc : (Builtin.zeroCells z.cells m).toList = gH m z.cells.toList := by
        unfold Builtin.zeroCells
        rw [lP]
       rw [hzc]; exact (l6 hz3).rep _
      have hos : RelV ρ V ((cells.drop off).take (len * sz')) (gw cur (loc.base + off) (len * sz')) := by
       have := hsub.relV
       rwa [show ((cells.drop off).take (len * sz')).length = len * sz' by simp; omega] at this
      have hnew := hos.append hzr
      have hrc : RelC ρ V ((cells.drop off).take (len * sz') ++ rep m (z.cells.toList.map .v)) (gw cur (loc.base + off) (len * sz') ++ (Builtin.zeroCells z.cells m).toList ++ rest).toArray 0 := by
       have hl := hnew.len
       refine ⟨by simp at hl ⊢; omega, fun i a b ha hb => ?_, fun i b hi hb => ?_⟩
       ·
        have hi : i < (gw cur (loc.base + off) (len * sz') ++ (Builtin.zeroCells z.cells m).toList).length := by rw [hl]; exact (List.getElem?_eq_some_iff.1 ha).1
        simp only [Nat.zero_add, List.getElem?_toArray] at hb
        rw [List.getElem?_append_left hi] at hb
        exact hnew.rel i a b ha hb
       ·
        have hi' : i < (gw cur (loc.base + off) (len * sz') ++ (Builtin.zeroCells z.cells m).toList).length := by rw [hl]; exact hi
        simp only [Nat.zero_add, List.getElem?_toArray] at hb
        rw [List.getElem?_append_left hi'] at hb
        exact hnew.sto b (List.mem_of_getElem? hb)
      have hsize : (gw cur (loc.base + off) (len * sz') ++ (Builtin.zeroCells z.cells m).toList ++ rest).toArray.size = cap' * sz' := by
       have e1 := hos.len
       have e2 := hzr.len
       rw [dK, hzs] at e2
       rw [hzsz] at hrest
       have e3 : cap' * sz' = len * sz' + m * sz' + (cap' - (len + m)) * sz' := by rw [← Nat.add_mul, ← Nat.add_mul]; congr 1; omega
       have e4 : ((cells.drop off).take (len * sz')).length = len * sz' := by simp; omega
       rw [List.size_toArray, List.length_append, List.length_append]
       omega
      refine bl.new hI hfr hlt (aC hrun) ⟨rfl, rfl, rfl⟩ hrc ?_
      intro ρ' _ hρ'
      have := Rel.ref (V := V) fr 0 (len + m) sz' cap' ⟨w.heap.size, 0, (gw cur (loc.base + off) (len * sz') ++ (Builtin.zeroCells z.cells m).toList ++ rest).toArray.size⟩ hρ' (by rw [hsize]; simp) hcap
      simpa using this
     ·
      cases h
   ·
    rename_i id off len sz'
    cases hr
    cases ho : s.objs id with
    | dead => simp [ho] at h
    | froz _ => simp [ho] at h
    | live cells =>
     simp only [ho] at h
     split at h
     ·
      rename_i hcond
      obtain ⟨hzs, rfl, hs0, hend, hn0, hn63, hb0, hbound⟩ := hcond
      cases h
      obtain ⟨m, rfl⟩ : ∃ m : Nat, n = (m : Int) := ⟨n.toNat, by omega⟩
      simp only [Int.toNat_natCast]
      obtain ⟨z, hz1, rfl, hz3, hz2⟩ := gq hz w
      have hzv : ∀ w : World, (zeroValue el).run C.P w = .ok z w := fun w' => by
       obtain ⟨z', hz1', _, _, hz2'⟩ := gq hz w'
       rw [hz2] at hz2'; cases hz2'; exact hz1'
      have hzsz : z.cells.size = sz' := by simpa using hzs
      have hbound' : (len + m) * by' ≤ 140737488355328 := by
       have : ((len : Int) + m) * by' = (((len + m) * by' : Nat) : Int) := by simp
       omega
      have hzr : RelV ρ V (rep m (z.cells.toList.map .v)) (Builtin.zeroCells z.cells m).toList := by
       have hzc : (Builtin.zeroCells z.cells m).toList = gH m z.cells.toList := by
        unfold Builtin.zeroCells
        rw [lP]
       rw [hzc]; exact (l6 hz3).rep _
      have hzl : (rep m (z.cells.toList.map AV.v)).length = m * sz' := by rw [dK, hzs]
      have grow : ∀ (base : Option Addr) (sCap : Nat) (os : List Value) (ocs : List AV), q = .slice base len sCap → RelV ρ V ocs os → ocs.length = len * sz' →
        (Builtin.firstCells sz' len (.slice base len sCap)).run C.P w.drew = .ok os.toArray w.drew → ¬ len + m ≤ sCap →
        bl ρ V s w fr ((do pure (.value (← Builtin.append_ #[t, u] ty #[q, .int kk m])) : Sem Next).run C.P w) ⟨.ref fr 0 (len + m) sz', .app (some id) (ocs ++ rep m (z.cells.toList.map .v))⟩ := by
       intro base sCap os ocs hqe hos holen hfo hroom
       subst hqe
       obtain ⟨rest, cap', hcap, hrest, hrun⟩ := mW (w := w) (ty := ty) (k := kk) (ej he) hu hsz hby hzv hfo (by omega) hs0 hn63 hroom hb0 hbound'
       have hnew := hos.append hzr
       have hrc : RelC ρ V (ocs ++ rep m (z.cells.toList.map .v)) (os ++ (Builtin.zeroCells z.cells m).toList ++ rest).toArray 0 := by
        have hl := hnew.len
        refine ⟨by simp at hl ⊢; omega, fun i a b ha hb => ?_, fun i b hi hb => ?_⟩
        ·
         have hi : i < (os ++ (Builtin.zeroCells z.cells m).toList).length := by rw [hl]; exact (List.getElem?_eq_some_iff.1 ha).1
         simp only [Nat.zero_add, List.getElem?_toArray] at hb
         rw [List.getElem?_append_left hi] at hb
         exact hnew.rel i a b ha hb
        ·
         have hi' : i < (os ++ (Builtin.zeroCells z.cells m).toList).length := by rw [hl]; exact hi
         simp only [Nat.zero_add, List.getElem?_toArray] at hb
         rw [List.getElem?_append_left hi'] at hb
         exact hnew.sto b (List.mem_of_getElem? hb)
       have hsize : (os ++ (Builtin.zeroCells z.cells m).toList ++ rest).toArray.size = cap' * sz' := by
        have e1 := hos.len
        have e2 := hzr.len
        rw [hzl] at e2
        rw [hzsz] at hrest
        have e3 : cap' * sz' = len * sz' + m * sz' + (cap' - (len + m)) * sz' := by rw [← Nat.add_mul, ← Nat.add_mul]; congr 1; omega
        rw [List.size_toArray, List.length_append, List.length_append]
        omega
       have := Did.alloc (V := V) (objs := s.objs) (nx := s.next) (objs' := kx s.objs (some id)) (fr := fr) (e := ⟨.ref fr 0 (len + m) sz', .app (some id) (ocs ++ rep m (z.cells.toList.map .v))⟩)
        (y := .slice (some ⟨w.heap.size, 0, none⟩) (len + m) cap') (cells := ocs ++ rep m (z.cells.toList.map .v)) (c := (os ++ (Builtin.zeroCells z.cells m).toList ++ rest).toArray) (T := el) hI hfr hlt (sy s.objs (some id)) rfl hrc
        (fun ρ' _ hρ' => by
         have := Rel.ref (V := V) fr 0 (len + m) sz' cap' ⟨w.heap.size, 0, (os ++ (Builtin.zeroCells z.cells m).toList ++ rest).toArray.size⟩ hρ' (by rw [hsize]; simp) hcap
         simpa using this)
       exact ⟨_, _, _, .inl (aC hrun), this.heap rfl rfl rfl⟩
      cases hq with
      | ref _ _ _ _ cap loc hρ hc hl =>
       obtain ⟨cur, T, g1, g2, g3, g4⟩ := hI.live id cells loc ho hρ
       have g5 := g3.le
       have hsub := g3.sub off (len * sz') (by omega)
       have hdrop : (cells.drop off).take (len * sz') = cells.drop off := List.take_of_length_le (by simp; omega)
       rw [hdrop] at hsub
       by_cases hroom : len + m ≤ cap
       ·
        obtain ⟨cur', T', k1, k2, k3⟩ := Ao (fr := fr) hI hfr hlt ho hρ hend hzr hzl hc hroom
        have hst := run_storeCells_at C.P loc.b (loc.base + off + len * sz') T' (Builtin.zeroCells z.cells m).toList 0 cur' w k1 (by simpa using k2) fun v hv' => kG (hzr.sto v hv')
        simp only [Nat.add_zero] at hst
        obtain ⟨i, hi, hb⟩ := pS hby
        have hnb : m * by' ≤ (len + m) * by' := Nat.mul_le_mul_right _ (by omega)
        have h48i : ¬ (281474976710656 < (m : Int) * (by' : Int)) := by
         rw [← Int.natCast_mul]
         omega
        have hw : IntKind.i64.wrap (m : Int) = m := by rw [IntKind.wrap_i64]; omega
        have hneg : ¬ ((m : Int) < 0) := by omega
        have hns : ¬ (m * sz' = 0) := Nat.mul_ne_zero (by omega) (by omega)
        have hrun : (Builtin.append_ #[t, u] ty #[.slice (some ⟨loc.b, loc.base + off, none⟩) len cap, .int kk m]).run C.P w = .ok (.slice (some ⟨loc.b, loc.base + off, none⟩) (len + m) cap)
          (w.setRow loc.b (cur'.toList.take (loc.base + off + len * sz') ++ (Builtin.zeroCells z.cells m).toList ++ cur'.toList.drop (loc.base + off + len * sz' + (Builtin.zeroCells z.cells m).toList.length)).toArray) := by
         simp only [Builtin.append_, List.getElem?_toArray, List.getElem?_cons_zero, List.getElem?_cons_succ]
         simp [run_underlying (ej he), run_underlying hu, cp hsz, hroom, typeInfo, hi, hb, asInt, asIntOf, hw, hneg, h48i, hzv, fU]
         rw [if_neg hns]
         simp only [Result.andThen]
         rw [hst]
         simp
        exact ⟨_, _, _, .inl (aC hrun), k3⟩
       ·
        refine grow (some ⟨loc.b, loc.base + off, none⟩) cap _ (cells.drop off) rfl hsub.relV (by simp; omega) ?_ hroom
        have h1 := pT (P := C.P) (w := w.drew) (T := T) (fz := (0, 0)) (b := loc.b) (c := cur) (o := loc.base + off) (n := len * sz') g1 (by omega)
        simp only [Builtin.firstCells]
        rw [h1]
        simp
        congr 2
        omega
      | refE =>
       rename_i a
       have hd : cells.drop off = [] := List.drop_eq_nil_of_le (by omega)
       rw [hd]
       refine grow a 0 [] [] rfl .nil (by simp) ?_ (by omega)
       cases a <;> simp [Builtin.firstCells, loadCells, loadCellsFrom]
     ·
      cases h
   ·
    rename_i x
    cases hnil : kS x with
    | false => simp [hnil] at h
    | true =>
    simp only [hnil, if_true] at h
    split at h
    ·
     rename_i hcond
     obtain ⟨hzs, hs0, hn0, hn63, hb0, hbound⟩ := hcond
     cases h
     have hy := uy hnil
     subst hy
     cases hr
     cases hq
     obtain ⟨m, rfl⟩ : ∃ m : Nat, n = (m : Int) := ⟨n.toNat, by omega⟩
     simp only [Int.toNat_natCast]
     obtain ⟨z, hz1, rfl, hz3, hz2⟩ := gq hz w
     have hzv : ∀ w : World, (zeroValue el).run C.P w = .ok z w := fun w' => by
      obtain ⟨z', hz1', _, _, hz2'⟩ := gq hz w'
      rw [hz2] at hz2'; cases hz2'; exact hz1'
     have hzsz : z.cells.size = sz := by simpa using hzs
     have hbound' : (0 + m) * by' ≤ 140737488355328 := by
      have : (m : Int) * by' = ((m * by' : Nat) : Int) := by simp
      rw [Nat.zero_add]; omega
     have hfo : (Builtin.firstCells sz 0 (.slice none 0 0)).run C.P w.drew = .ok ([] : List Value).toArray w.drew := by
      simp [Builtin.firstCells]
     obtain ⟨rest, cap', hcap, hrest, hrun⟩ := mW (w := w) (ty := ty) (k := kk) (ej he) hu hsz hby hzv hfo (by omega) hs0 hn63 (by omega) hb0 hbound'
     have hzr : RelV ρ V (rep m (z.cells.toList.map .v)) (Builtin.zeroCells z.cells m).toList := by
      have hzc : (Builtin.zeroCells z.cells m).toList = gH m z.cells.toList := by
       unfold Builtin.zeroCells
       rw [lP]
      rw [hzc]; exact (l6 hz3).rep _
     have hrc : RelC ρ V (rep m (z.cells.toList.map .v)) (([] : List Value) ++ (Builtin.zeroCells z.cells m).toList ++ rest).toArray 0 := by
      have hl := hzr.len
      refine ⟨by simp at hl ⊢; omega, fun i a b ha hb => ?_, fun i b hi hb => ?_⟩
      ·
       have hi : i < (Builtin.zeroCells z.cells m).toList.length := by rw [hl]; exact (List.getElem?_eq_some_iff.1 ha).1
       simp only [Nat.zero_add, List.getElem?_toArray, List.nil_append] at hb
       rw [List.getElem?_append_left hi] at hb
       exact hzr.rel i a b ha hb
      ·
       have hi' : i < (Builtin.zeroCells z.cells m).toList.length := by rw [hl]; exact hi
       simp only [Nat.zero_add, List.getElem?_toArray, List.nil_append] at hb
       rw [List.getElem?_append_left hi'] at hb
       exact hzr.sto b (List.mem_of_getElem? hb)
     have hsize : (([] : List Value) ++ (Builtin.zeroCells z.cells m).toList ++ rest).toArray.size = cap' * sz := by
      have e2 := hzr.len
      rw [dK, hzs] at e2
      rw [hzsz] at hrest
      have e3 : cap' * sz = m * sz + (cap' - (0 + m)) * sz := by rw [← Nat.add_mul]; congr 1; omega
      rw [List.size_toArray, List.length_append, List.length_append, List.length_nil]
      omega
     refine bl.new hI hfr hlt (aC hrun) ⟨rfl, rfl, rfl⟩ hrc ?_
     intro ρ' _ hρ'
     have := Rel.ref (V := V) fr 0 m sz cap' ⟨w.heap.size, 0, (([] : List Value) ++ (Builtin.zeroCells z.cells m).toList ++ rest).toArray.size⟩ hρ' (by rw [hsize]; simp) (by omega)
     simpa using this
    ·
     cases h
   ·
    cases h
  ·
   cases h
 ·
  cases h

theorem CG {t u : Nat} {ty : TypeId} {x y : AV} {q r : Value} {e : Eff} (hI : Inv ρ V s.toHS w) (hfr : ρ fr = none) (hlt : fr < s.next) (hq : Rel ρ V x q) (hr : Rel ρ V y r) (h : DW C.P s fr t u x y = some e) :
  bl ρ V s w fr ((do pure (.value (← Builtin.append_ #[t, u] ty #[q, r])) : Sem Next).run C.P w) e := by
 unfold DW at h
 split at h
 ·
  rename_i el el' he he'
  split at h
  ·
   rename_i sz by' zs hsz hby hz
   split at h
   rotate_left
   ·
    cases h
   rename_i hzs
   split at h
   ·
    rename_i xs k hsrc
    obtain ⟨ys, hv, hxl, hfc, hlen⟩ := sY hI hr hsrc
    have hfc0 := hfc k (Nat.le_refl _) C.P w fun _ _ _ _ h => h
    have hfc1 := hfc k (Nat.le_refl _) C.P w.drew fun _ _ _ _ h => h
    have htake : ys.take (k * sz) = ys := List.take_of_length_le (by rw [hv.len, hxl]; exact Nat.le_refl _)
    rw [htake] at hfc0 hfc1
    have hzv : ∃ z : Value, (∀ w : World, (zeroValue el).run C.P w = .ok z w) ∧ z.cells.size = sz := by
     obtain ⟨z, hz1, hz3, _, hz2⟩ := gq hz w
     refine ⟨z, fun w' => ?_, by rw [hz3] at hzs; simpa using hzs⟩
     obtain ⟨z', hz1', _, _, hz2'⟩ := gq hz w'
     rw [hz2] at hz2'; cases hz2'; exact hz1'
    obtain ⟨z, hz, hzsz⟩ := hzv
    -- the new block
    have grow : ∀ (base : Option Addr) (sLen sCap : Nat) (os : List Value) (ocs : List AV) (old : Option Nat), q = .slice base sLen sCap → RelV ρ V ocs os → ocs.length = sLen * sz →
      (Builtin.firstCells sz sLen (.slice base sLen sCap)).run C.P w.drew = .ok os.toArray w.drew → ¬ sLen + k ≤ sCap → 0 < by' → (sLen + k) * by' ≤ 140737488355328 →
      bl ρ V s w fr ((do pure (.value (← Builtin.append_ #[t, u] ty #[q, r])) : Sem Next).run C.P w) ⟨.ref fr 0 (sLen + k) sz, .app old (ocs ++ xs)⟩ := by
     intro base sLen sCap os ocs old hqe hos holen hfo hroom hb0 hbound
     subst hqe
     obtain ⟨rest, cap, hcap, hrest, hrun⟩ := z5 (w := w) (ty := ty) (ej he) (ej he') hsz hby hz hlen hfc1 hfo hroom hb0 hbound
     have hnew := hos.append hv
     have hrc : RelC ρ V (ocs ++ xs) (os ++ ys ++ rest).toArray 0 := by
      have hl := hnew.len
      refine ⟨by simp at hl ⊢; omega, fun i a b ha hb => ?_, fun i b hi hb => ?_⟩
      ·
       have hi : i < (os ++ ys).length := by rw [hl]; exact (List.getElem?_eq_some_iff.1 ha).1
       simp only [Nat.zero_add, List.getElem?_toArray] at hb
       rw [List.getElem?_append_left hi] at hb
       exact hnew.rel i a b ha hb
      ·
       have hi' : i < (os ++ ys).length := by rw [hl]; exact hi
       simp only [Nat.zero_add, List.getElem?_toArray] at hb
       rw [List.getElem?_append_left hi'] at hb
       exact hnew.sto b (List.mem_of_getElem? hb)
     have hsize : (os ++ ys ++ rest).toArray.size = cap * sz := by
      have e1 := hos.len
      have e2 := hv.len
      rw [hzsz] at hrest
      have e3 : cap * sz = sLen * sz + k * sz + (cap - (sLen + k)) * sz := by rw [← Nat.add_mul, ← Nat.add_mul]; congr 1; omega
      simp
      omega
     have := Did.alloc (V := V) (objs := s.objs) (nx := s.next) (objs' := kx s.objs old) (fr := fr) (e := ⟨.ref fr 0 (sLen + k) sz, .app old (ocs ++ xs)⟩)
      (y := .slice (some ⟨w.heap.size, 0, none⟩) (sLen + k) cap) (cells := ocs ++ xs) (c := (os ++ ys ++ rest).toArray) (T := el) hI hfr hlt (sy s.objs old) rfl hrc
      (fun ρ' _ hρ' => by
       have := Rel.ref (V := V) fr 0 (sLen + k) sz cap ⟨w.heap.size, 0, (os ++ ys ++ rest).toArray.size⟩ hρ' (by rw [hsize]; simp) hcap
       simpa using this)
     exact ⟨_, _, _, .inl (aC hrun), this.heap rfl rfl rfl⟩
    have fnil : ∀ (base : Option Addr) (sCap : Nat) (w : World), (Builtin.firstCells sz 0 (.slice base 0 sCap)).run C.P w = .ok ([] : List Value).toArray w := by
     intro base sCap w
     cases base <;> simp [Builtin.firstCells, loadCells, loadCellsFrom]
    -- nothing appended to nothing
    have none0 : ∀ (base : Option Addr) (old : Option Nat) (ocs : List AV), q = .slice base 0 0 → k = 0 → ocs = [] →
      bl ρ V s w fr ((do pure (.value (← Builtin.append_ #[t, u] ty #[q, r])) : Sem Next).run C.P w) ⟨.ref fr 0 (0 + k) sz, .app old (ocs ++ xs)⟩ := by
     intro base old ocs hqe hk hoc
     subst hqe; subst hk; subst hoc
     have hys : ys = [] := by
      have := hv.len
      rw [hxl] at this
      simpa using this
     have hxs : xs = [] := by simpa using hxl
     have hrun := pH (P := C.P) (ty := ty) (sLen := 0) (sCap := 0) (base := base) (w := w) (w' := w) (ej he) (ej he') hsz hlen hfc0 (by omega) (by intro a _; rw [hys]; rfl) (fun _ => rfl)
     refine ⟨_, ρ, w, .inl (aC hrun), .refE fr 0 sz base, ?_, fun _ _ h => h, fun _ _ => rfl, Nat.le_refl _, fun _ _ _ => rfl, ?_, Mem.refl _⟩
     ·
      subst hxs
      have hobj : ∀ id, dc fr (.app old ([] ++ [])) s.objs id = s.objs id ∨ dc fr (.app old ([] ++ [])) s.objs id = .dead ∨ id = fr := by
       intro id
       by_cases hid : id = fr
       ·
        exact .inr (.inr hid)
       ·
        simp only [dc]
        rw [ba _ _ hid]
        rcases sy s.objs old id with h1 | h1
        ·
         exact .inl h1
        ·
         exact .inr (.inl h1)
      refine ⟨hI.view, hI.fresh, fun id cs loc hl hρ => ?_, fun id cs loc hl hρ => ?_, fun i j li lj ci cj hi hj hρi hρj hb => ?_⟩
      ·
       rcases hobj id with h1 | h1 | h1
       ·
        simp only [h1] at hl; exact hI.live id cs loc hl hρ
       ·
        simp only [h1] at hl; cases hl
       ·
        subst h1; rw [hfr] at hρ; cases hρ
      ·
       rcases hobj id with h1 | h1 | h1
       ·
        simp only [h1] at hl; exact hI.froz id cs loc hl hρ
       ·
        simp only [h1] at hl; cases hl
       ·
        subst h1; rw [hfr] at hρ; cases hρ
      ·
       rcases hobj i with h1 | h1 | h1
       ·
        rcases hobj j with h2 | h2 | h2
        ·
         simp only [h1] at hi; simp only [h2] at hj; exact hI.inj i j li lj ci cj hi hj hρi hρj hb
        ·
         simp only [h2] at hj; cases hj
        ·
         subst h2; rw [hfr] at hρj; cases hρj
       ·
        simp only [h1] at hi; cases hi
       ·
        subst h1; rw [hfr] at hρi; cases hρi
     ·
      rintro b ⟨id, cs, loc, hl, hρ, rfl⟩
      have hne : id ≠ fr := fun hh => by rw [hh, hfr] at hρ; cases hρ
      simp only [dc] at hl
      rw [ba _ _ hne] at hl
      rcases sy s.objs old id with h1 | h1
      ·
       rw [h1] at hl; exact .inl ⟨id, cs, loc, hl, hρ, rfl⟩
      ·
       rw [h1] at hl; cases hl
    cases hq <;> (try simp only at h) <;> try (cases h; done)
    case v =>
     split at h
     ·
      rename_i hn
      have hy := uy hn
      subst hy
      split at h
      ·
       rename_i hb
       cases h
       by_cases hk : k = 0
       ·
        have := none0 none none [] rfl hk rfl
        simpa using this
       ·
        have := grow none 0 0 [] [] none rfl .nil (by simp) (fnil none 0 _) (by omega) hb.1 (by simpa using hb.2)
        simpa using this
      ·
       cases h
     ·
      cases h
    case ref id off len sz' cap loc hρ hc hl =>
     cases ho : s.objs id with
     | dead => simp [ho] at h
     | froz _ => simp [ho] at h
     | live cells =>
      simp only [ho] at h
      split at h
      ·
       rename_i hcond
       obtain ⟨rfl, hend, hb0, hbound⟩ := hcond
       cases h
       obtain ⟨cur, T, g1, g2, g3, g4⟩ := hI.live id cells loc ho hρ
       have g5 := g3.le
       have hsub := g3.sub off (len * sz') (by omega)
       have hdrop : (cells.drop off).take (len * sz') = cells.drop off := List.take_of_length_le (by simp; omega)
       rw [hdrop] at hsub
       by_cases hroom : len + k ≤ cap
       ·
        obtain ⟨cur', T', k1, k2, k3⟩ := Ao (fr := fr) hI hfr hlt ho hρ hend hv hxl hc hroom
        have hst := run_storeCells_at C.P loc.b (loc.base + off + len * sz') T' ys 0 cur' w k1 (by simpa using k2) fun v hv' => kG (hv.sto v hv')
        simp only [Nat.add_zero] at hst
        have hrun := pH (P := C.P) (ty := ty) (sLen := len) (sCap := cap) (base := some ⟨loc.b, loc.base + off, none⟩) (w := w) (ej he) (ej he') hsz hlen hfc0 hroom
         (by intro a ha; cases ha; rw [fU]; exact hst) (fun hh => by cases hh)
        exact ⟨_, _, _, .inl (aC hrun), k3⟩
       ·
        refine grow (some ⟨loc.b, loc.base + off, none⟩) len cap _ (cells.drop off) (some id) rfl hsub.relV (by simp; omega) ?_ hroom hb0 hbound
        have h1 := pT (P := C.P) (w := w.drew) (T := T) (fz := (0, 0)) (b := loc.b) (c := cur) (o := loc.base + off) (n := len * sz') g1 (by omega)
        simp only [Builtin.firstCells]
        rw [h1]
        simp
        congr 2
        omega
      ·
       cases h
    case refc id off len sz' cap loc hρ hc hl =>
     cases ho : s.objs id with
     | dead => simp [ho] at h
     | froz _ => simp [ho] at h
     | live cells =>
      simp only [ho] at h
      split at h
      ·
       rename_i hcond
       obtain ⟨rfl, hend, hroom⟩ := hcond
       cases h
       have hml : (len + k) * sz' ≤ cap * sz' := Nat.mul_le_mul_right _ hroom
       rw [Nat.add_mul] at hml
       obtain ⟨cur', T', k1, k2, k3⟩ := uB (fr := fr) (off := off + len * sz') (x := .refc id off (len + k) sz' cap) (y := .slice (some ⟨loc.b, loc.base + off, none⟩) (len + k) cap) hI ho hρ hend (by rw [hxl]; omega) hv (.refc id off (len + k) sz' cap loc hρ hc hroom)
       rw [← Nat.add_assoc loc.base] at k2 k3
       have hst := run_storeCells_at C.P loc.b (loc.base + off + len * sz') T' ys 0 cur' w k1 (by simpa using k2) fun v hv' => kG (hv.sto v hv')
       simp only [Nat.add_zero] at hst
       have hrun := pH (P := C.P) (ty := ty) (sLen := len) (sCap := cap) (base := some ⟨loc.b, loc.base + off, none⟩) (w := w) (ej he) (ej he') hsz hlen hfc0 hroom
        (by intro a ha; cases ha; rw [fU]; exact hst) (fun hh => by cases hh)
       rw [hxl] at k3
       exact ⟨_, _, _, .inl (aC hrun), k3⟩
      ·
       cases h
    case refE id off sz' a =>
     cases ho : s.objs id with
     | dead => simp [ho] at h
     | froz _ => simp [ho] at h
     | live cells =>
      simp only [ho] at h
      split at h
      ·
       rename_i hcond
       obtain ⟨rfl, hend, hb0, hbound⟩ := hcond
       cases h
       have hd : cells.drop off = [] := List.drop_eq_nil_of_le (by omega)
       rw [hd]
       by_cases hk : k = 0
       ·
        exact none0 a (some id) [] rfl hk rfl
       ·
        exact grow a 0 0 [] [] (some id) rfl .nil (by simp) (fnil a 0 _) (by omega) hb0 hbound
      ·
       cases h
   ·
    cases h
  ·
   cases h
 ·
  rename_i el he he'
  exact FR hI hfr hlt hq hr he h
 ·
  cases h

end
end Go.AX

/-! (AxK) -/

namespace Go.AX

structure COk (C : Ctx) : Prop where
 eq : FZ C
 mixed : C.P.follows .mixedOrders = true

section
variable {C : Ctx} {ρ : Rho} {V : bw} {s : AS} {w : World} {fr : Nat}

theorem D7 {t u el sz : Nat} {ty : TypeId} {x y : AV} {q r : Value} {e : Eff} (hI : Inv ρ V s.toHS w) (hq : Rel ρ V x q) (hr : Rel ρ V y r) (he : elS C.P t = some el) (hsz : cA C.P el = some sz) (h : uP s sz x y = some e) :
  bl ρ V s w fr ((do pure (.value (← Builtin.copy_ #[t, u] ty #[q, r])) : Sem Next).run C.P w) e := by
 unfold uP at h
 split at h
 ·
  rename_i id off len sz' cap id2 off2 k sz2 cap2
  cases hq with
  | refc _ _ _ _ _ loc hρ hc hl =>
  cases hr with
  | refc _ _ _ _ _ loc2 hρ2 hc2 hl2 =>
  split at h
  ·
   rename_i cells cells2 ho ho2
   split at h
   ·
    rename_i hcond
    obtain ⟨rfl, rfl, hle⟩ := hcond
    rw [Option.map_eq_some_iff] at h
    obtain ⟨xs, hsub, rfl⟩ := h
    obtain ⟨hle2, rfl⟩ := kB hsub
    obtain ⟨cur2, T2, g1, g2, g3, g4⟩ := hI.live id2 cells2 loc2 ho2 hρ2
    have hs2 := g3.sub off2 (min k len * sz2) hle2
    have hxl : ((cells2.drop off2).take (min k len * sz2)).length = min k len * sz2 := by simp; omega
    have hv := hs2.relV
    rw [hxl] at hv
    have hml : min k len * sz2 ≤ cap * sz2 := Nat.mul_le_mul_right _ (Nat.le_trans (Nat.min_le_right _ _) hl)
    have hfc : (Builtin.firstCells sz2 (min k len) (.slice (some ⟨loc2.b, loc2.base + off2, none⟩) k cap2)).run C.P w = .ok (gw cur2 (loc2.base + off2) (min k len * sz2)).toArray w := by
     have hle' := hs2.le
     rw [hxl] at hle'
     simp only [Builtin.firstCells]
     rw [pT (P := C.P) (w := w) (T := T2) (fz := (0, 0)) g1 hle']
    obtain ⟨cur, T, h1, h2, h3⟩ := uB (fr := fr) (x := .v (.int .i64 (min k len : Nat))) (y := .int .i64 (min k len : Nat)) hI ho hρ hle (by rw [hxl]; omega) hv (.v _)
    have hst := run_storeCells_at C.P loc.b (loc.base + off) T (gw cur2 (loc2.base + off2) (min k len * sz2)) 0 cur w h1 (by simpa using h2) fun v hvv => kG (hv.sto v hvv)
    simp only [Nat.add_zero] at hst
    rw [hxl] at h3
    refine ⟨_, ρ, _, .inl (aC ?_), h3⟩
    have hm : Nat.min k len = min k len := rfl
    have hlen : Builtin.lenOf (.slice (some ⟨loc2.b, loc2.base + off2, none⟩) k cap2) = pure k := rfl
    simp [Builtin.copy_, run_underlying (ej he), hlen, cp hsz, hm, hfc, hst, goInt]
   ·
    cases h
  ·
   cases h
 ·
  cases h

theorem E1 {t u : Nat} {ty : TypeId} {x y : AV} {q r : Value} {e : Eff} (hI : Inv ρ V s.toHS w) (hq : Rel ρ V x q) (hr : Rel ρ V y r) (h : zL C.P s t x y = some e) :
  bl ρ V s w fr ((do pure (.value (← Builtin.copy_ #[t, u] ty #[q, r])) : Sem Next).run C.P w) e := by
 unfold zL at h
 split at h
 ·
  rename_i el he
  split at h
  ·
   rename_i sz hsz
   split at h
   ·
    rename_i xs k hsrc
    obtain ⟨ys, hv, hxl, hfc, hlen⟩ := sY hI hr hsrc
    cases hq <;> (try simp only at h) <;> try (cases h; done)
    case ref id off len sz' cap loc hρ hc hl =>
     cases ho : s.objs id with
     | dead => simp [ho] at h
     | froz _ => simp [ho] at h
     | live cells =>
      simp only [ho] at h
      split at h
      ·
       rename_i hcond
       obtain ⟨rfl, hle⟩ := hcond
       cases h
       have hfc0 := hfc (min k len) (Nat.min_le_left _ _) C.P w fun _ _ _ _ h => h
       have hv' := hv.take (min k len * sz')
       have hmk : min k len * sz' ≤ k * sz' := Nat.mul_le_mul_right _ (Nat.min_le_left _ _)
       have hxl' : (xs.take (min k len * sz')).length = min k len * sz' := by simp; omega
       obtain ⟨cur, T, h1, h2, h3⟩ := AT (fr := fr) (x := .v (.int .i64 (min k len : Nat))) (y := .int .i64 (min k len : Nat)) hI ho hρ (by rw [hxl']; exact hle) hv' (.v _)
       have hst := run_storeCells_at C.P loc.b (loc.base + off) T (ys.take (min k len * sz')) 0 cur w h1 (by simpa using h2) fun v hvv => kG (hv'.sto v hvv)
       simp only [Nat.add_zero] at hst
       refine ⟨_, ρ, _, .inl (aC ?_), h3⟩
       have hm : Nat.min k len = min k len := rfl
       simp [Builtin.copy_, run_underlying (ej he), hlen, cp hsz, hm, hfc0, hst, goInt]
      ·
       cases h
    case refc id off len sz' cap loc hρ hc hl =>
     cases ho : s.objs id with
     | dead => simp [ho] at h
     | froz _ => simp [ho] at h
     | live cells =>
      simp only [ho] at h
      split at h
      ·
       rename_i hcond
       obtain ⟨rfl, hle⟩ := hcond
       cases h
       have hfc0 := hfc (min k len) (Nat.min_le_left _ _) C.P w fun _ _ _ _ h => h
       have hv' := hv.take (min k len * sz')
       have hmk : min k len * sz' ≤ k * sz' := Nat.mul_le_mul_right _ (Nat.min_le_left _ _)
       have hxl' : (xs.take (min k len * sz')).length = min k len * sz' := by simp; omega
       have hml : min k len * sz' ≤ cap * sz' := Nat.mul_le_mul_right _ (Nat.le_trans (Nat.min_le_right _ _) hl)
       obtain ⟨cur, T, h1, h2, h3⟩ := uB (fr := fr) (x := .v (.int .i64 (min k len : Nat))) (y := .int .i64 (min k len : Nat)) hI ho hρ hle (by rw [hxl']; omega) hv' (.v _)
       have hst := run_storeCells_at C.P loc.b (loc.base + off) T (ys.take (min k len * sz')) 0 cur w h1 (by simpa using h2) fun v hvv => kG (hv'.sto v hvv)
       simp only [Nat.add_zero] at hst
       rw [hxl'] at h3
       refine ⟨_, ρ, _, .inl (aC ?_), h3⟩
       have hm : Nat.min k len = min k len := rfl
       simp [Builtin.copy_, run_underlying (ej he), hlen, cp hsz, hm, hfc0, hst, goInt]
      ·
       cases h
    case refE id off sz' a =>
     cases ho : s.objs id with
     | dead => simp [ho] at h
     | froz _ => simp [ho] at h
     | live cells =>
      simp only [ho] at h
      split at h
      ·
       rename_i hcond
       obtain ⟨rfl, hle⟩ := hcond
       cases h
       simp only [Nat.min_zero, Nat.zero_mul, List.take_zero]
       have hfc0 := hfc 0 (Nat.zero_le _) C.P w fun _ _ _ _ h => h
       have hobj : dc fr (.wr id off []) s.objs = s.objs := by
        simp only [dc, ho]
        funext j
        by_cases hj : j = id
        ·
         subst hj; rw [cB, ho]; simp [cC]
        ·
         rw [ba _ _ hj]
       refine ⟨.int .i64 (0 : Nat), ρ, w, .inl (aC ?_), .v _, by rw [hobj]; exact hI, fun _ _ h => h, fun _ _ => rfl, Nat.le_refl _, fun _ _ _ => rfl, fun b hb => by rw [hobj] at hb; exact .inl hb, Mem.refl _⟩
       simp only [Nat.zero_mul, List.take_zero] at hfc0
       cases a <;> simp [Builtin.copy_, run_underlying (ej he), hlen, cp hsz, hfc0, goInt, storeCells]
      ·
       cases h
   ·
    exact D7 hI hq hr he hsz h
  ·
   cases h
 ·
  cases h

theorem Ee {t : Nat} {ty : TypeId} {x : AV} {q : Value} {e : Eff} (hI : Inv ρ V s.toHS w) (hq : Rel ρ V x q) (h : we C.P s t x = some e) :
  bl ρ V s w fr ((do pure (.value (← Builtin.clear_ #[t] ty #[q])) : Sem Next).run C.P w) e := by
 unfold we at h
 split at h
 ·
  rename_i el he
  split at h
  ·
   rename_i sz zs hsz hz
   obtain ⟨z, hz1, rfl, hz3, hz4⟩ := gq hz w
   cases hq <;> (try simp only at h) <;> try (cases h; done)
   case ref id off len sz' cap loc hρ hc hl =>
    cases ho : s.objs id with
    | dead => simp [ho] at h
    | froz _ => simp [ho] at h
    | live cells =>
     simp only [ho] at h
     split at h
     ·
      rename_i hcond
      obtain ⟨hzs, rfl, hle⟩ := hcond
      cases h
      have hv : RelV ρ V (rep len (z.cells.toList.map .v)) (gH len z.cells.toList) := (l6 hz3).rep _
      have hxl : (rep len (z.cells.toList.map AV.v)).length = len * sz' := by rw [dK, hzs]
      obtain ⟨cur, T, h1, h2, h3⟩ := AT (fr := fr) (x := .tup []) (y := .tuple #[]) hI ho hρ (by rw [hxl]; exact hle) hv (.tup [] #[] rfl (fun i x y hx => by simp at hx))
      have hst := run_storeCells_at C.P loc.b (loc.base + off) T (gH len z.cells.toList) 0 cur w h1 (by simpa using h2) fun v hvv => kG (hv.sto v hvv)
      simp only [Nat.add_zero] at hst
      have hzc : (Builtin.zeroCells z.cells len).toList = gH len z.cells.toList := by
       unfold Builtin.zeroCells
       rw [lP]
      refine ⟨_, ρ, _, .inl (aC ?_), h3⟩
      cases len with
      | zero =>
       have hw : w.setRow loc.b cur = w := by
        have := hst
        simp [gH, storeCells] at this
        exact this.symm
       simp [Builtin.clear_, run_underlying (ej he), gH, hw]
      | succ n => simp [Builtin.clear_, run_underlying (ej he), hz1, hzc, hst]
     ·
      cases h
   case refc id off len sz' cap loc hρ hc hl =>
    cases ho : s.objs id with
    | dead => simp [ho] at h
    | froz _ => simp [ho] at h
    | live cells =>
     simp only [ho] at h
     split at h
     ·
      rename_i hcond
      obtain ⟨hzs, rfl, hle⟩ := hcond
      cases h
      have hv : RelV ρ V (rep len (z.cells.toList.map .v)) (gH len z.cells.toList) := (l6 hz3).rep _
      have hxl : (rep len (z.cells.toList.map AV.v)).length = len * sz' := by rw [dK, hzs]
      have hml : len * sz' ≤ cap * sz' := Nat.mul_le_mul_right _ hl
      obtain ⟨cur, T, h1, h2, h3⟩ := uB (fr := fr) (x := .tup []) (y := .tuple #[]) hI ho hρ hle (by rw [hxl]; omega) hv (.tup [] #[] rfl (fun i x y hx => by simp at hx))
      have hst := run_storeCells_at C.P loc.b (loc.base + off) T (gH len z.cells.toList) 0 cur w h1 (by simpa using h2) fun v hvv => kG (hv.sto v hvv)
      simp only [Nat.add_zero] at hst
      have hzc : (Builtin.zeroCells z.cells len).toList = gH len z.cells.toList := by
       unfold Builtin.zeroCells
       rw [lP]
      rw [hxl] at h3
      refine ⟨_, ρ, _, .inl (aC ?_), h3⟩
      cases len with
      | zero =>
       have hw : w.setRow loc.b cur = w := by
        have := hst
        simp [gH, storeCells] at this
        exact this.symm
       simp [Builtin.clear_, run_underlying (ej he), gH, hw]
      | succ n => simp [Builtin.clear_, run_underlying (ej he), hz1, hzc, hst]
     ·
      cases h
   case refE id off sz' a =>
    cases ho : s.objs id with
    | dead => simp [ho] at h
    | froz _ => simp [ho] at h
    | live cells =>
     simp only [ho] at h
     split at h
     ·
      rename_i hcond
      cases h
      have hobj : dc fr (.wr id off []) s.objs = s.objs := by
       simp only [dc, ho]
       funext j
       by_cases hj : j = id
       ·
        subst hj; rw [cB, ho]; simp [cC]
       ·
        rw [ba _ _ hj]
      refine ⟨.tuple #[], ρ, w, .inl (aC ?_), .tup [] #[] rfl (fun i x y hx => by simp at hx), by simp only [rep]; rw [hobj]; exact hI, fun _ _ h => h, fun _ _ => rfl, Nat.le_refl _, fun _ _ _ => rfl, fun b hb => by simp only [rep] at hb; rw [hobj] at hb; exact .inl hb, Mem.refl _⟩
      cases a <;> simp [Builtin.clear_, run_underlying (ej he)]
     ·
      cases h
  ·
   cases h
 ·
  cases h

theorem B7 {P : Program} {t : Nat} (h : Fs P t = true) : P.underlying t = some .bool := by
 unfold Fs at h
 split at h
 ·
  assumption
 ·
  cases h

theorem AR {P : Program} {t e : Nat} {x : AV} {q : Value} {b : Bool} (hq : Rel ρ V x q) (hu : P.underlying t = some (.slice e)) (h : FM x = some b) :
  ∃ a n c, q = .slice a n c ∧ (Op.equal t q (.slice none 0 0)).run P w = .ok b w := by
 have key : ∀ a n c, (Op.equal t (.slice a n c) (.slice none 0 0)).run P w = .ok a.isNone w := fun a n c => run_equal_slice_nil w t e a n c hu
 unfold FM at h
 split at h
 ·
  cases h
  cases hq
  exact ⟨_, _, _, rfl, key _ _ _⟩
 ·
  cases h
  cases hq with
  | imm => exact ⟨_, _, _, rfl, key _ _ _⟩
 ·
  cases h
  cases hq with
  | ref => exact ⟨_, _, _, rfl, key _ _ _⟩
 ·
  cases h

theorem Cq (hC : COk C) {t : Nat} {x y : AV} {q r : Value} {b : Bool} (hq : Rel ρ V x q) (hr : Rel ρ V y r) (h : eqB C t x y = some b) (X Y : Operand) :
  ((do eqGuard .eql t X Y q r; binOp .eql t q r) : Sem Value).run C.P w = .ok (.bool b) w ∧ ((do eqGuard .neq t X Y q r; binOp .neq t q r) : Sem Value).run C.P w = .ok (.bool (!b)) w := by
 unfold eqB at h
 split at h
 ·
  rename_i a b'
  split at h
  ·
   rename_i hb
   cases h
   cases hq; cases hr
   have h1 := run_eql_bool w t a b' (B7 hb)
   have h2 := run_neq_bool w t a b' (B7 hb)
   constructor
   ·
    simp only [eqGuard]; simpa using h1
   ·
    simp only [eqGuard]; simpa using h2
  ·
   cases h
 ·
  rename_i xs ys
  split at h
  ·
   rename_i ks hks
   split at h
   ·
    rename_i hk
    cases h
    simp only [Bool.and_eq_true] at hk
    obtain ⟨zs, rfl, hz1, hz2⟩ := Rel.agg_iff.1 hq
    obtain ⟨zs', rfl, hz1', hz2'⟩ := Rel.agg_iff.1 hr
    have e1 := tU hk.1 hz1 hz2
    have e2 := tU hk.2 hz1' hz2'
    obtain ⟨hg, hrun⟩ := hC.eq t ks hks
    have hrun' := hrun xs ys hk.1 hk.2 w
    rw [← e1, ← e2] at hrun'
    have hb : ∀ op, binOp op t (.agg zs) (.agg zs') = (match op with | .eql => do pure (.bool (← Op.equal t (.agg zs) (.agg zs'))) | .neq => do pure (.bool (!(← Op.equal t (.agg zs) (.agg zs')))) | op => binOp op t (.agg zs) (.agg zs')) := by
     intro op; cases op <;> rfl
    constructor
    ·
     simp [eqGuard, hg, hb .eql, hrun']
    ·
     simp [eqGuard, hg, hb .neq, hrun']
   ·
    cases h
  ·
   cases h
 ·
  rename_i heq1 heq2
  split at h
  ·
   rename_i hel
   obtain ⟨e, he⟩ := Option.isSome_iff_exists.1 hel
   cases hr
   obtain ⟨a, n, c, rfl, hn⟩ := AR (w := w) hq (ej he) h
   constructor
   ·
    simp only [eqGuard, binOp]; simp [hn]
   ·
    simp only [eqGuard, binOp]; simp [hn]
  ·
   cases h
 ·
  cases h

theorem DC (hC : COk C) {op : BinOp} {t : Nat} {x y : AV} {q r : Value} {v : AV} (hI : Inv ρ V s.toHS w) (hq : Rel ρ V x q) (hr : Rel ρ V y r) (h : Fp C op t x y = some v) (X Y : Operand) :
  bl ρ V s w fr ((do pure (.value (← (do eqGuard op t X Y q r; binOp op t q r : Sem Value))) : Sem Next).run C.P w) ⟨v, .none⟩ := by
 have hint : ∀ k a, q = .int k a → ∀ k' b, r = .int k' b → ∀ res, iop op k a k' b = some res → v = .v res → bl ρ V s w fr ((do pure (.value (← (do eqGuard op t X Y q r; binOp op t q r : Sem Value))) : Sem Next).run C.P w) ⟨v, .none⟩ := by
  intro k a hqe k' b hre res hiop hv
  subst hqe; subst hre; subst hv
  refine bl.val hI (aC (y := res) ?_) (.v _)
  have h1 := CL hiop t w (P := C.P)
  have hg : (eqGuard op t X Y (.int k a) (.int k' b)).run C.P w = .ok () w := by
   unfold eqGuard
   cases op <;> rfl
  simp [hg, h1]
 have hoth : ∀ b, eqB C t x y = some b → (op = .eql ∧ v = .v (.bool b) ∨ op = .neq ∧ v = .v (.bool (!b))) → bl ρ V s w fr ((do pure (.value (← (do eqGuard op t X Y q r; binOp op t q r : Sem Value))) : Sem Next).run C.P w) ⟨v, .none⟩ := by
  intro b hb hv
  obtain ⟨h1, h2⟩ := Cq (w := w) hC hq hr hb X Y
  rcases hv with ⟨rfl, rfl⟩ | ⟨rfl, rfl⟩
  ·
   exact bl.val hI (aC h1) (.v _)
  ·
   exact bl.val hI (aC h2) (.v _)
 unfold Fp at h
 split at h
 ·
  rename_i k a k' b
  cases hq; cases hr
  simp only [Option.map_eq_some_iff] at h
  obtain ⟨res, h1, h2⟩ := h
  exact hint k a rfl k' b rfl res h1 h2.symm
 ·
  rename_i a b
  cases hq; cases hr
  have hg : (eqGuard op t X Y (.string a) (.string b)).run C.P w = .ok () w := by
   unfold eqGuard
   cases op <;> rfl
  split at h
  ·
   cases h
   exact bl.val hI (aC (y := .bool (a.toList == b.toList)) (by simp [hg, binOp, Op.stringOp])) (.v _)
  ·
   cases h
   exact bl.val hI (aC (y := .bool (!(a.toList == b.toList))) (by simp [hg, binOp, Op.stringOp])) (.v _)
  ·
   cases h
 ·
  split at h
  ·
   simp only [Option.map_eq_some_iff] at h
   obtain ⟨b, h1, h2⟩ := h
   exact hoth b h1 (.inl ⟨rfl, h2.symm⟩)
  ·
   simp only [Option.map_eq_some_iff] at h
   obtain ⟨b, h1, h2⟩ := h
   exact hoth b h1 (.inr ⟨rfl, h2.symm⟩)
  ·
   cases h

end
end Go.AX

/-! (AxL) -/

namespace Go.AX

section
variable {C : Ctx} {ρ : Rho} {V : bw} {s : AS} {w : World} {fr : Nat}

theorem GA {op : UnOp} {x : AV} {q : Value} {v : AV} (hI : Inv ρ V s.toHS w) (hq : Rel ρ V x q) (h : F7s op x = some v) :
  bl ρ V s w fr ((do pure (.value (← Op.unary op q)) : Sem Next).run C.P w) ⟨v, .none⟩ := by
 unfold F7s at h
 split at h
 ·
  cases h; cases hq; exact bl.val hI (aC (by simp [Op.unary])) (.v _)
 ·
  cases h; cases hq; exact bl.val hI (aC (by simp [Op.unary, Op.intArith])) (.v _)
 ·
  cases h; cases hq; exact bl.val hI (aC (by simp [Op.unary, Op.intBits])) (.v _)
 ·
  cases h

theorem HJ {P : Program} {t : Nat} {k : IntKind} (h : inK P t = some k) : P.underlying t = some (.int k) := by
 unfold inK at h
 cases hu : P.underlying t with
 | none => simp [hu] at h
 | some d => cases d <;> simp [hu] at h; subst h; rfl

theorem BA {a b : Nat} {x : AV} {q : Value} {d : TypeDesc} {k k' : IntKind} {n : Int} (hI : Inv ρ V s.toHS w) (hq : Rel ρ V x q) (hx : x = .v (.int k' n)) (ha : C.P.underlying a = some d) (hb : inK C.P b = some k) :
  bl ρ V s w fr ((do pure (.value (← convert a b q)) : Sem Next).run C.P w) ⟨.v (.int k (k.wrap n)), .none⟩ := by
 subst hx
 cases hq
 refine bl.val hI (aC ?_) (.v _)
 simp [convert, run_underlying ha, run_underlying (HJ hb), Conv.intToInt]

theorem Au {xs : List AV} : ∀ {ys : List Value} {l : List Int}, RelV ρ V xs ys → mM xs = some l → ys = l.map (Value.int .u8) := by
 induction xs with
 | nil =>
  intro ys l h hb
  simp only [mM, Option.some.injEq] at hb
  subst hb
  have := h.len
  exact List.length_eq_zero_iff.1 (by simpa using this)
 | cons x xs ih =>
  intro ys l h hb
  have hl := h.len
  cases ys with
  | nil => simp at hl
  | cons y ys =>
   have h0 := h.rel 0 x y rfl rfl
   unfold mM at hb
   split at hb
   ·
    rename_i e; cases e
   ·
    rename_i n l' e
    cases e
    simp only [Option.map_eq_some_iff] at hb
    obtain ⟨l2, h1, rfl⟩ := hb
    have hrest : RelV ρ V xs ys := ⟨by simpa using hl, fun i x y hx hy => h.rel (i + 1) x y (by simpa using hx) (by simpa using hy), fun y hy => h.sto y (List.mem_cons_of_mem _ hy)⟩
    cases h0; rw [ih hrest h1]; rfl
   ·
    cases hb

theorem zB {sz : Nat} {x : AV} {y : Value} {p : List AV × Nat} (hr : Rel ρ V x y) (h : me s sz x = some p) : ∃ a n c, y = .slice a n c := by
 cases hr <;> simp only [me] at h <;> first | exact ⟨_, _, _, rfl⟩ | (cases h; done) | skip
 split at h
 ·
  rename_i hn
  obtain ⟨a, cap, hy⟩ := DB hn
  exact ⟨a, 0, cap, hy⟩
 ·
  cases h

theorem Br {a b : Nat} {x v : AV} {q : Value} (hI : Inv ρ V s.toHS w) (hq : Rel ρ V x q) (h : BC C s a b x = some v) :
  bl ρ V s w fr ((do pure (.value (← convert a b q)) : Sem Next).run C.P w) ⟨v, .none⟩ := by
 unfold BC at h
 cases hb : IZ C.P a b with
 | false => rw [hb] at h; cases h
 | true =>
  rw [hb, cond_true] at h
  cases hs : me s 1 x with
  | none => simp [hs] at h
  | some p =>
   obtain ⟨xs, k⟩ := p
   simp only [hs, Option.map_eq_some_iff] at h
   obtain ⟨l, hl, rfl⟩ := h
   obtain ⟨ys, hv, hxl, hfc, hlen⟩ := sY hI hq hs
   have hys := Au hv hl
   have hrun := hfc k (Nat.le_refl _) C.P w (fun _ _ _ _ h => h)
   have hyl : ys.take (k * 1) = l.map (Value.int .u8) := by
    rw [← hxl, ← hv.len, List.take_length, hys]
   rw [hyl] at hrun
   unfold IZ at hb
   split at hb
   ·
    rename_i e hs1 hd1
    split at hb
    ·
     rename_i he1
     refine bl.val hI (aC (y := .string (ue l)) ?_) (.v _)
     obtain ⟨ad, ln, cap, rfl⟩ := zB hq hs
     rw [run_convert_bytes_string w a b e ad ln cap hs1 he1 hd1]
     cases ad with
     | none =>
      have : l = [] := by
       simpa [Builtin.firstCells] using hrun
      subst this
      simp [Conv.bytesToString, ue]
     | some ad =>
      refine run_bytesToString w ad ln cap l ?_
      have e1 : ln = k := by
       have := congrArg (fun z : Sem Nat => z.run C.P w) hlen
       simpa [Builtin.lenOf] using this
      subst e1
      simpa [Builtin.firstCells] using hrun
    ·
     cases hb
   ·
    cases hb

theorem JG {t : Nat} {ty : TypeId} {x : AV} {q : Value} {v : AV} (hI : Inv ρ V s.toHS w) (hq : Rel ρ V x q) (h : Fm C.P t x = some v) :
  bl ρ V s w fr ((do pure (.value (← Builtin.len_ #[t] ty #[q])) : Sem Next).run C.P w) ⟨v, .none⟩ := by
 unfold Fm at h
 split at h
 ·
  rename_i n e hu
  cases h
  exact bl.val hI (aC (by simp [Builtin.len_, run_underlying hu, goInt])) (.v _)
 ·
  rename_i e hu
  have key : ∀ a n c, (Builtin.len_ #[t] ty #[.slice a n c]).run C.P w = .ok (.int .i64 n) w := by
   intro a n c; simp [Builtin.len_, run_underlying hu, goInt]
  split at h
  ·
   cases h
   cases hq with
   | ref => exact bl.val hI (aC (key _ _ _)) (.v _)
   | refE => exact bl.val hI (aC (key _ _ _)) (.v _)
  ·
   cases h
   cases hq with
   | refc => exact bl.val hI (aC (key _ _ _)) (.v _)
  ·
   cases h
   cases hq with
   | imm => exact bl.val hI (aC (key _ _ _)) (.v _)
   | imm0 => exact bl.val hI (aC (key _ _ _)) (.v _)
  ·
   cases h
   cases hq
   exact bl.val hI (aC (key _ _ _)) (.v _)
  ·
   cases h
 ·
  rename_i hu
  split at h
  ·
   cases h
   cases hq
   exact bl.val hI (aC (by simp [Builtin.len_, run_underlying hu, goInt])) (.v _)
  ·
   cases h
 ·
  cases h

theorem Jc {t : Nat} {ty : TypeId} {x : AV} {q : Value} {v : AV} (hI : Inv ρ V s.toHS w) (hq : Rel ρ V x q) (h : GJ C.P t x = some v) :
  bl ρ V s w fr ((do pure (.value (← Builtin.cap_ #[t] ty #[q])) : Sem Next).run C.P w) ⟨v, .none⟩ := by
 unfold GJ at h
 split at h
 ·
  rename_i e hu
  split at h
  ·
   cases h
   cases hq with
   | refc => exact bl.val hI (aC (by simp [Builtin.cap_, run_underlying hu, goInt])) (.v _)
  ·
   split at h
   ·
    rename_i hn
    cases h
    have hy := uy hn
    subst hy
    cases hq
    exact bl.val hI (aC (by simp [Builtin.cap_, run_underlying hu, goInt])) (.v _)
   ·
    cases h
  ·
   cases h
 ·
  cases h

theorem HZ {ts : Array TypeId} {ty : TypeId} {x y : AV} {q r : Value} {v : AV} (hI : Inv ρ V s.toHS w) (hq : Rel ρ V x q) (hr : Rel ρ V y r) (h : GE x y = some v) :
  bl ρ V s w fr ((do pure (.value (← Builtin.min_ ts ty #[q, r])) : Sem Next).run C.P w) ⟨v, .none⟩ := by
 unfold GE at h
 split at h
 ·
  cases h; cases hq; cases hr
  exact bl.val hI (aC (run_min_int2 w ts ty _ _ _ _)) (.v _)
 ·
  cases h

theorem HQ {ts : Array TypeId} {ty : TypeId} {x y : AV} {q r : Value} {v : AV} (hI : Inv ρ V s.toHS w) (hq : Rel ρ V x q) (hr : Rel ρ V y r) (h : Gr x y = some v) :
  bl ρ V s w fr ((do pure (.value (← Builtin.max_ ts ty #[q, r])) : Sem Next).run C.P w) ⟨v, .none⟩ := by
 unfold Gr at h
 split at h
 ·
  cases h; cases hq; cases hr
  exact bl.val hI (aC (run_max_int2 w ts ty _ _ _ _)) (.v _)
 ·
  cases h

theorem zc {t e sz by' : Nat} {x y : AV} {q r : Value} {l c : Int} {zs : List AV} (hI : Inv ρ V s.toHS w) (hfr : ρ fr = none) (hlt : fr < s.next) (hq : Rel ρ V x q) (hr : Rel ρ V y r)
  (hl : fG x = some l) (hc : fG y = some c) (he : elS C.P t = some e) (hsz : cA C.P e = some sz) (hby : qQ C.P e = some by') (hz : zer C.P e = some zs)
  (hzs : zs.length = sz) (h0 : 0 ≤ l) (h1 : l ≤ c) (h2 : c < 9223372036854775808) (h3 : by' * c ≤ 281474976710656) :
  bl ρ V s w fr ((do pure (.value (← Instr.makeSlice t q r)) : Sem Next).run C.P w) ⟨.ref fr 0 l.toNat sz, .new (rep l.toNat zs)⟩ := by
 obtain ⟨k, rfl⟩ := di hq hl
 obtain ⟨k', rfl⟩ := di hr hc
 obtain ⟨z, hz1, rfl, hz3, hz4⟩ := gq hz w
 obtain ⟨i, hi, hb⟩ := pS hby
 have hzsz : z.cells.size = sz := by simpa using hzs
 have hrep : RelV ρ V (rep c.toNat (z.cells.toList.map .v)) (gH c.toNat z.cells.toList) := (l6 hz3).rep _
 have hrepl : RelV ρ V (rep l.toNat (z.cells.toList.map .v)) (gH l.toNat z.cells.toList) := (l6 hz3).rep _
 have hcl : (gH c.toNat z.cells.toList).length = c.toNat * sz := by rw [hrep.len, dK]; simp [hzsz]
 have hpre : ∀ a b, a ≤ b → ∀ zs : List Value, ∃ rest, gH b zs = gH a zs ++ rest := by
  intro a b hab zs
  induction a generalizing b with
  | zero => exact ⟨gH b zs, rfl⟩
  | succ a ih =>
   cases b with
   | zero => omega
   | succ b =>
    obtain ⟨rest, hrest⟩ := ih b (by omega)
    exact ⟨rest, by simp [gH, hrest]⟩
 obtain ⟨rest, hrest⟩ := hpre l.toNat c.toNat (by omega) z.cells.toList
 have hll : (gH l.toNat z.cells.toList).length = l.toNat * sz := by rw [hrepl.len, dK]; simp [hzsz]
 refine bl.new (c := (gH c.toNat z.cells.toList).toArray) (T := e) hI hfr hlt (y := .slice (some ⟨w.heap.size, 0, none⟩) l.toNat c.toNat) (w' := { w with heap := w.heap.push (.cells (gH c.toNat z.cells.toList).toArray e) }) ?_ ⟨rfl, rfl, rfl⟩ ?_ ?_
 ·
  refine aC ?_
  have hsize : i.size = sz := by
   unfold cA at hsz
   simpa [hi] using hsz
  have hzz : i.zero = some z := by simpa [hi] using hz4
  have := run_make w t e i z (ej he) hi hzz k k' l c h0 h1 (by rw [hb]; exact h3) (by omega)
  rw [this, hsize]
  have hrow : madeCells z.cells (c.toNat * sz) = (gH c.toNat z.cells.toList).toArray := by
   rw [← hzsz]; exact lP z.cells c.toNat
  rw [hrow]; rfl
 ·
  refine ⟨by simp [dK, hcl, hzsz]; exact Nat.mul_le_mul_right _ (by omega), fun i a b ha hb => ?_, fun i b hi hb => ?_⟩
  ·
   have hi : i < (gH l.toNat z.cells.toList).length := by rw [hrepl.len]; exact (List.getElem?_eq_some_iff.1 ha).1
   simp only [Nat.zero_add, List.getElem?_toArray] at hb
   rw [hrest, List.getElem?_append_left hi] at hb
   exact hrepl.rel i a b ha hb
  ·
   simp only [Nat.zero_add, List.getElem?_toArray] at hb
   exact hrep.sto b (List.mem_of_getElem? hb)
 ·
  intro ρ' _ hρ'
  have := Rel.ref (V := V) fr 0 l.toNat sz c.toNat ⟨w.heap.size, 0, (gH c.toNat z.cells.toList).toArray.size⟩ hρ' (by simp [hcl]) (by omega)
  simpa using this


theorem Rel.v_inv {x y : Value} (h : Rel ρ V (.v x) y) : y = x := by cases h; rfl

theorem DL {a : Act} {o : Oper} {e : Eff} (hC : COk C) (hT : ∀ t, Rel ρ V (s.tmps t) (a.tmps.getD t undef)) (hI : Inv ρ V s.toHS w) (hG : mB C V) (hfr : ρ fr = none) (hlt : fr < s.next)
  (h : ce C s fr o.op = some e) (hsb : ∀ a b x, o.op = .convert a b x → sbE C.P a b (ev C s x) = none) : bl ρ V s w fr ((execOp a.eval o).run C.P w) e := by
 have E : ∀ x, Rel ρ V (ev C s x) (a.eval x) := jD hT hG
 have hparts : ∀ ps : Array (Nat × Operand), (ps.map fun (i, x) => (i, a.eval x)).toList.map (·.1) = (ps.toList.map fun p => (p.1, ev C s p.2)).map (·.1) := by
  intro ps; simp
 have hprel : ∀ (ps : Array (Nat × Operand)) (i : Nat) (p : Nat × AV) (q : Nat × Value), (ps.toList.map fun p => (p.1, ev C s p.2))[i]? = some p → (ps.map fun (i, x) => (i, a.eval x)).toList[i]? = some q → Rel ρ V p.2 q.2 := by
  intro ps i p q hp hq
  simp only [List.getElem?_map, Option.map_eq_some_iff, Array.toList_map] at hp hq
  obtain ⟨z, hz, rfl⟩ := hp
  obtain ⟨z', hz', rfl⟩ := hq
  rw [hz] at hz'; cases hz'
  exact E z.2
 obtain ⟨dst, op, type, pos, after, guard⟩ := o
 cases op <;> simp only [ce] at h <;> try (cases h; done)
 case move x => cases h; exact bl.val hI rfl (E x)
 case assign x => cases h; exact bl.val hI rfl (E x)
 case pick c x y =>
  split at h
  ·
   rename_i t hc
   cases h
   have hcr := E c
   rw [hc] at hcr
   have hcv := Rel.v_inv hcr
   refine bl.val hI (y := if t then a.eval x else a.eval y) ?_ ?_
   ·
    simp [execOp, hcv, asBool]
   ·
    cases t
    ·
     exact E y
    ·
     exact E x
  ·
   cases h
 case alloc t =>
  simp only [Option.map_eq_some_iff] at h
  obtain ⟨cs, h1, rfl⟩ := h
  exact Ei hI hfr hlt h1
 case box t x =>
  simp only [Option.map_eq_some_iff] at h
  obtain ⟨cs, h1, rfl⟩ := h
  exact IP hI hfr hlt (E x) h1
 case build t ps =>
  split at h
  ·
   rename_i zs hz
   split at h
   ·
    rename_i pl hpl
    simp only [Option.map_eq_some_iff] at h
    obtain ⟨cs, h1, rfl⟩ := h
    obtain ⟨fs, hu, hm⟩ : ∃ fs, C.P.underlying t = some (.struct fs) ∧ fs.toList.mapM (fun f => (cA C.P f.type).map fun n => (f.offset, n)) = some pl := by
     unfold sS at hpl
     cases hu : C.P.underlying t with
     | none => simp [hu] at hpl
     | some d =>
      cases d <;> simp only [hu, Option.bind_some] at hpl <;> first | (cases hpl; done) | exact ⟨_, rfl, hpl⟩
    have hat : ∀ (i : Nat) f, fs[i]? = some f → (cA C.P f.type).map (fun n => (f.offset, n)) = pl[i]? := fun i f hf => mapM_some_get hm i f (by rw [Array.getElem?_toList]; exact hf)
    have hlen := mapM_some_length hm
    refine DI hI hu hz (hparts ps) (hprel ps) ?_ ?_
    ·
     intro i f hf
     have h2 := hat i f hf
     have h3 : i < pl.length := by rw [hlen]; simpa using (Array.getElem?_eq_some_iff.1 hf).1
     rw [List.getElem?_eq_getElem h3] at h2
     cases hs : cA C.P f.type with
     | none => simp [hs] at h2
     | some n => exact ⟨n, rfl⟩
    ·
     have : (fun (i : Nat) => (fs[i]?).bind fun (f : Field) => (cA C.P f.type).map fun n => (f.offset, n)) = fun (i : Nat) => pl[i]? := by
      funext i
      cases hf : fs[i]? with
      | none =>
       have : pl.length ≤ i := by rw [hlen]; simpa using Array.getElem?_eq_none_iff.1 hf
       simp [List.getElem?_eq_none this]
      | some f => exact hat i f hf
     rw [this]; exact h1
   ·
    split at h
    ·
     rename_i n el har
     obtain hu : C.P.underlying t = some (.array n el) := by
      unfold arE at har
      cases hu : C.P.underlying t with
      | none => simp [hu] at har
      | some d =>
       cases d <;> simp [hu] at har
       obtain ⟨rfl, rfl⟩ := har; rfl
     split at h
     ·
      rename_i sz hsz
      simp only [Option.map_eq_some_iff] at h
      obtain ⟨cs, h1, rfl⟩ := h
      exact CP hI hu hz (hparts ps) (hprel ps) hsz h1
     ·
      cases h
    ·
     cases h
  ·
   cases h
 case buildSlice t n ps =>
  split at h
  ·
   rename_i el hel
   split at h
   ·
    rename_i sz zs hsz hz
    split at h
    ·
     rename_i hc
     simp only [Option.map_eq_some_iff] at h
     obtain ⟨cs, h1, rfl⟩ := h
     exact wQ hI hfr hlt hel hz hsz hc.1 hc.2 (hparts ps) (hprel ps) h1
    ·
     cases h
   ·
    cases h
  ·
   cases h
 case load t p =>
  split at h
  ·
   rename_i cells off hc
   simp only [Option.map_eq_some_iff] at h
   obtain ⟨x, h1, rfl⟩ := h
   exact EY hI (E p) hc h1
  ·
   cases h
 case store t p x =>
  split at h
  ·
   rename_i id off cs n hp hx hn
   split at h
   ·
    rename_i cells ho
    split at h
    ·
     rename_i hc
     cases h
     have hpr := E p
     rw [hp] at hpr
     exact DY hI hpr (E x) hx hn ho hc.1 hc.2
    ·
     cases h
   ·
    cases h
  ·
   cases h
 case nilCheck x =>
  have hx := E x
  have hev : ∃ y, a.eval x = y := ⟨_, rfl⟩
  obtain ⟨y, hy⟩ := hev
  rw [hy] at hx
  split at h
  ·
   rename_i id off he
   cases h
   rw [he] at hx
   cases hx with
   | ptr _ _ loc hρ => exact bl.val hI (by simp [execOp, hy]) (.ptr _ _ loc hρ)
  ·
   rename_i cells off he
   cases h
   rw [he] at hx
   cases hx with
   | iptr _ _ b o' c hV hb H S => exact bl.val hI (by simp [execOp, hy]) (.iptr _ _ b o' c hV hb H S)
  ·
   rename_i f c1 c2 he
   cases h
   rw [he] at hx
   cases hx with
   | clo _ _ _ xs ys g1 g2 G1 G2 => exact bl.val hI (by simp [execOp, hy]) (.clo _ _ _ xs ys g1 g2 G1 G2)
  ·
   cases h
 case binOp op t x y u =>
  simp only [Option.map_eq_some_iff] at h
  obtain ⟨v, h1, rfl⟩ := h
  exact DC hC hI (E x) (E y) h1 x y
 case unOp op t x =>
  simp only [Option.map_eq_some_iff] at h
  obtain ⟨v, h1, rfl⟩ := h
  exact GA hI (E x) h1
 case convert t u x =>
  split at h
  ·
   rename_i k hk
   split at h
   ·
    rename_i d k' n hd hx
    cases h
    exact BA hI (E x) hx hd hk
   ·
    cases h
  ·
   rw [hsb t u x rfl] at h
   simp only [Option.map_eq_some_iff] at h
   obtain ⟨v, h1, rfl⟩ := h
   exact Br hI (E x) h1
 case makeFunc fn first caps =>
  split at h
  ·
   rename_i f
   cases h
   have key : ∀ (xs : Array Operand) (i : Nat) x y, (xs.toList.map (ev C s))[i]? = some x → (xs.map a.eval)[i]? = some y → Rel ρ V x y := by
    intro xs i x y hx hy
    simp only [List.getElem?_map, Option.map_eq_some_iff, Array.getElem?_map] at hx hy
    obtain ⟨z, hz, rfl⟩ := hx
    obtain ⟨z', hz', rfl⟩ := hy
    rw [Array.getElem?_toList] at hz
    rw [hz] at hz'; cases hz'
    exact E z
   exact bl.val hI (y := .func (.func f) (first.map a.eval) (caps.map a.eval)) rfl (.clo f _ _ _ _ (by simp) (by simp) (key first) (key caps))
  ·
   cases h
 case makeSlice t l c =>
  split at h
  ·
   rename_i el l' c' hel hl hc
   split at h
   ·
    rename_i sz by' zs hsz hby hz
    split at h
    ·
     rename_i hcond
     obtain ⟨h1, h2, h3, h4, h5⟩ := hcond
     cases h
     exact zc hI hfr hlt (E l) (E c) hl hc hel hsz hby hz h1 h2 h3 h4 h5
    ·
     cases h
   ·
    cases h
  ·
   cases h
 case slice t x lo hi mx =>
  split at h
  ·
   simp only [Option.map_eq_some_iff] at h
   obtain ⟨v, h1, rfl⟩ := h
   have key : ∀ o : Option Operand, wt ρ V (o.map (ev C s)) (o.map a.eval) := by
    intro o; cases o with
    | none => trivial
    | some x => exact E x
   exact DA hI (E x) (key lo) (key hi) h1
  ·
   rename_i m
   split at h
   ·
    rename_i l h'
    simp only [Option.map_eq_some_iff] at h
    obtain ⟨v, h1, rfl⟩ := h
    exact Cz hI (E x) (E l) (E h') (E m) h1
   ·
    rename_i h'
    simp only [Option.map_eq_some_iff] at h
    obtain ⟨v, h1, rfl⟩ := h
    exact A5 hI (E x) (E h') (E m) h1
   ·
    cases h
 case fieldAddr t x f =>
  split at h
  ·
   rename_i o ft hf
   split at h
   ·
    rename_i k hs
    simp only [Option.map_eq_some_iff] at h
    obtain ⟨r, h1, rfl⟩ := h
    exact yo (C := C) hI (E x) hf hs h1
   ·
    cases h
  ·
   cases h
 case field t x f =>
  split at h
  ·
   rename_i o ft cs hf hx
   simp only [Option.map_eq_some_iff] at h
   obtain ⟨r, h1, rfl⟩ := h
   have hr := E x
   rw [hx] at hr
   exact Eq hI hr hf h1
  ·
   cases h
 case indexAddr t x i =>
  simp only [Option.map_eq_some_iff] at h
  obtain ⟨r, h1, rfl⟩ := h
  exact yY hI (E x) (E i) h1
 case index t x i =>
  split at h
  ·
   rename_i len el cs n ha hx hn
   split at h
   ·
    rename_i h0
    split at h
    ·
     rename_i sz hsz
     simp only [Option.map_eq_some_iff] at h
     obtain ⟨r, h1, rfl⟩ := h
     have hr := E x
     rw [hx] at hr
     exact Du hI hr (E i) hn ha h0 hsz h1
    ·
     cases h
   ·
    cases h
  ·
   rename_i b n _ hx hn
   simp only [Option.map_eq_some_iff] at h
   obtain ⟨r, h1, rfl⟩ := h
   have hr := E x
   rw [hx] at hr
   exact C7 hI hr (E i) hn h1
  ·
   cases h
 case extract x i =>
  split at h
  ·
   rename_i vs hx
   simp only [Option.map_eq_some_iff] at h
   obtain ⟨r, h1, rfl⟩ := h
   have hr := E x
   rw [hx] at hr
   exact Bm hI hr h1
  ·
   cases h
 case call c =>
  obtain ⟨callee, args, ts⟩ := c
  cases callee <;> simp only at h <;> try (cases h; done)
  rename_i b
  have hx : (execOp a.eval { dst := dst, op := .call ⟨.builtin b, args, ts⟩, type := type, pos := pos, after := after, guard := guard }) = builtin b ts type (args.map fun | .const _ => true | _ => false) (args.map a.eval) := rfl
  rw [hx]
  unfold mF at h
  have one : ∀ {t}, ts.toList = [t] → ts = #[t] := fun {t} h => by apply Array.ext'; exact h
  have two : ∀ {t u}, ts.toList = [t, u] → ts = #[t, u] := fun {t u} h => by apply Array.ext'; exact h
  have a1 : ∀ {x}, args.toList.map (ev C s) = [x] → ∃ X, x = ev C s X ∧ args.map a.eval = #[a.eval X] := by
   intro x h
   obtain ⟨X, hX, rfl⟩ := List.map_eq_singleton_iff.1 h
   exact ⟨X, rfl, by apply Array.ext'; simp [hX]⟩
  have a2 : ∀ {x y}, args.toList.map (ev C s) = [x, y] → ∃ X Y, x = ev C s X ∧ y = ev C s Y ∧ args.map a.eval = #[a.eval X, a.eval Y] := by
   intro x y h
   obtain ⟨X, l, h1, rfl, h2⟩ := List.map_eq_cons_iff.1 h
   obtain ⟨Y, h3, rfl⟩ := List.map_eq_singleton_iff.1 h2
   exact ⟨X, Y, rfl, rfl, by apply Array.ext'; simp [h1, h3]⟩
  split at h
  ·
   rename_i t x hts hargs
   simp only [Option.map_eq_some_iff] at h
   obtain ⟨r, h1, rfl⟩ := h
   obtain ⟨X, rfl, hA⟩ := a1 hargs
   rw [hA, one hts]
   exact JG hI (E X) h1
  ·
   rename_i x y hts hargs
   simp only [Option.map_eq_some_iff] at h
   obtain ⟨r, h1, rfl⟩ := h
   obtain ⟨X, Y, rfl, rfl, hA⟩ := a2 hargs
   rw [hA]
   exact HZ hI (E X) (E Y) h1
  ·
   rename_i x y hts hargs
   simp only [Option.map_eq_some_iff] at h
   obtain ⟨r, h1, rfl⟩ := h
   obtain ⟨X, Y, rfl, rfl, hA⟩ := a2 hargs
   rw [hA]
   exact HQ hI (E X) (E Y) h1
  ·
   rename_i t u x y hts hargs
   obtain ⟨X, Y, rfl, rfl, hA⟩ := a2 hargs
   rw [hA, two hts]
   exact CG hI hfr hlt (E X) (E Y) h
  ·
   rename_i t u x y hts hargs
   obtain ⟨X, Y, rfl, rfl, hA⟩ := a2 hargs
   rw [hA, two hts]
   exact E1 hI (E X) (E Y) h
  ·
   rename_i t x hts hargs
   obtain ⟨X, rfl, hA⟩ := a1 hargs
   rw [hA, one hts]
   exact Ee hI (E X) h
  ·
   rename_i t x hts hargs
   simp only [Option.map_eq_some_iff] at h
   obtain ⟨r, h1, rfl⟩ := h
   obtain ⟨X, rfl, hA⟩ := a1 hargs
   rw [hA, one hts]
   exact Jc hI (E X) h1
  ·
   cases h

end
end Go.AX

/-! (AxM) -/

namespace Go.AX

def nm (acc : List Nat) (o : Oper) : Nat := o.after.toList.foldl (fun m e => if Region.binds .any e then m ||| (2 ^ e.on ||| acc.getD e.on 0) else m) 0

def um : List Oper → List Nat → List Nat
 | [], acc => acc
 | o :: os, acc => um os (acc ++ [nm acc o])

theorem vL : ∀ (os : List Oper) (acc : List Nat), ∃ l, um os acc = acc ++ l ∧ l.length = os.length
 | [], acc => ⟨[], by simp [um], rfl⟩
 | o :: os, acc => by
  obtain ⟨l, h, hl⟩ := vL os (acc ++ [nm acc o])
  exact ⟨nm acc o :: l, by simp [um, h], by simp [hl]⟩

theorem sx : ∀ (os : List Oper) (acc : List Nat) (j : Nat) (o : Oper), os[j]? = some o → (um os acc)[acc.length + j]? = some (nm ((um os acc).take (acc.length + j)) o)
 | [], acc, j, o, h => by simp at h
 | p :: os, acc, 0, o, h => by
  simp at h; subst h
  obtain ⟨l, hl, _⟩ := vL os (acc ++ [nm acc p])
  simp [um, hl]
 | p :: os, acc, j + 1, o, h => by
  simp at h
  have := sx os (acc ++ [nm acc p]) j o h
  simp only [List.length_append, List.length_singleton] at this
  rw [um, show acc.length + (j + 1) = acc.length + 1 + j by omega]
  exact this

theorem u0 {acc : List Nat} {o : Oper} {i : Nat} (h : (nm acc o).testBit i = true) : ∃ e ∈ o.after, Region.binds .any e = true ∧ (e.on = i ∨ (acc.getD e.on 0).testBit i = true) := by
 have key : ∀ (l : List Edge) (m : Nat), (l.foldl (fun m e => if Region.binds .any e then m ||| (2 ^ e.on ||| acc.getD e.on 0) else m) m).testBit i = true →
   m.testBit i = true ∨ ∃ e ∈ l, Region.binds .any e = true ∧ (e.on = i ∨ (acc.getD e.on 0).testBit i = true) := by
  intro l
  induction l with
  | nil => intro m h; exact .inl h
  | cons e l ih =>
   intro m h
   rw [List.foldl_cons] at h
   rcases ih _ h with h1 | ⟨e', h1, h2⟩
   ·
    by_cases hb : Region.binds .any e = true
    ·
     rw [if_pos hb] at h1
     rw [Nat.testBit_or, Nat.testBit_or, Nat.testBit_two_pow] at h1
     simp only [Bool.or_eq_true, decide_eq_true_eq] at h1
     rcases h1 with h1 | h1 | h1
     ·
      exact .inl h1
     ·
      exact .inr ⟨e, by simp, hb, .inl h1⟩
     ·
      exact .inr ⟨e, by simp, hb, .inr h1⟩
    ·
     rw [if_neg hb] at h1; exact .inl h1
   ·
    exact .inr ⟨e', by simp [h1], h2⟩
 rcases key o.after.toList 0 h with h1 | ⟨e, h1, h2⟩
 ·
  simp at h1
 ·
  exact ⟨e, Array.mem_toList_iff.1 h1, h2⟩

def eh (ops : List Oper) (i j : Nat) : Bool := ((um ops []).getD j 0).testBit i

def kL (ops : List Oper) : Bool := ops.zipIdx.all fun (o, j) => o.after.all fun e => !Region.binds .any e || e.on < j

theorem fK {ops : List Oper} (h : kL ops = true) {j : Nat} {o : Oper} (ho : ops[j]? = some o) {e : Edge} (he : e ∈ o.after) (hb : Region.binds .any e = true) : e.on < j := by
 unfold kL at h
 rw [List.all_eq_true] at h
 have := h (o, j) (List.mem_of_getElem? (i := j) (by simp [List.getElem?_zipIdx, ho]))
 simp only [Array.all_eq_true_iff_forall_mem] at this
 have := this e he
 simpa [hb] using this

theorem kI {ops : List Oper} (hok : kL ops = true) {D : Nat → Bool} (hD : ∀ j o, ops[j]? = some o → D j = true → ∀ e ∈ o.after, Region.binds .any e = true → D e.on = true) :
  ∀ (j i : Nat), eh ops i j = true → D j = true → j < ops.length → D i = true := by
 intro j
 induction j using Nat.strongRecOn with
 | _ j ih =>
  intro i h hj hlt
  unfold eh at h
  have ho : ops[j]? = some ops[j] := by simp [hlt]
  have hg := sx ops [] j ops[j] ho
  simp only [List.length_nil, Nat.zero_add] at hg
  rw [List.getD_eq_getElem?_getD, hg, Option.getD_some] at h
  obtain ⟨e, he, hb, h1⟩ := u0 h
  have hej := fK hok ho he hb
  have hDe := hD j ops[j] ho hj e he hb
  rcases h1 with h1 | h1
  ·
   rw [← h1]; exact hDe
  ·
   refine ih e.on hej i ?_ hDe (by omega)
   unfold eh
   rw [List.getD_eq_getElem?_getD, List.getElem?_take, if_pos hej, ← List.getD_eq_getElem?_getD] at h1
   exact h1

def tu (ops : List Oper) : Bool :=
 ops.zipIdx.all fun (x, i) => ops.zipIdx.all fun (y, j) => j ≤ i || eh ops i j || x.apart ops.toArray y

theorem zP {ops : List Oper} (h : tu ops = true) {i j : Nat} {x y : Oper} (hx : ops[i]? = some x) (hy : ops[j]? = some y) (hij : i < j) (ho : eh ops i j = false) : x.apart ops.toArray y = true := by
 unfold tu at h
 rw [List.all_eq_true] at h
 have h1 := h (x, i) (List.mem_of_getElem? (i := i) (by simp [List.getElem?_zipIdx, hx]))
 simp only [List.all_eq_true] at h1
 have h2 := h1 (y, j) (List.mem_of_getElem? (i := j) (by simp [List.getElem?_zipIdx, hy]))
 simp only [ho, Bool.or_false, Bool.or_eq_true, decide_eq_true_eq] at h2
 rcases h2 with h2 | h2
 ·
  omega
 ·
  exact h2

abbrev gz := List (Nat × Option (Nat × Nat))

def eX : AV → gz
 | .ref id _ _ _ => [(id, none)]
 | .refc id _ _ _ _ => [(id, none)]
 | .ptr id _ => [(id, none)]
 | _ => []

def fO (C : Ctx) (s : AS) : Op → gz
 | .load t a => match ev C s a with
  | .ptr id off => [(id, some (off, match agB C.P t with | some true => (cA C.P t).getD 0 | _ => 1))]
  | _ => []
 | .store t a _ => match ev C s a with
  | .ptr id off => [(id, some (off, (cA C.P t).getD 0))]
  | _ => []
 | .slice _ x _ _ _ => eX (ev C s x)
 | .convert _ _ x => eX (ev C s x)
 | .call c => match c.callee with
  | .builtin _ => c.args.toList.flatMap fun x => eX (ev C s x)
  | _ => []
 | _ => []

def cG (fr : Nat) : HAct → gz
 | .none => []
 | .new _ => [(fr, none)]
 | .wr id off cs => [(id, some (off, cs.length))]
 | .app (some old) _ => [(fr, none), (old, none)]
 | .app none _ => [(fr, none)]
 | .set id _ => [(id, none)]

def kg : Option (Nat × Nat) → Option (Nat × Nat) → Bool
 | some (o, n), some (o', n') => decide (o < o' + n') && decide (o' < o + n)
 | _, _ => true

def ek (a b : gz) : Bool := a.any fun x => b.any fun y => x.1 == y.1 && kg x.2 y.2

abbrev eK := Nat × gz × gz

def gh (x y : eK) : Bool := !ek x.2.2 y.2.1 && !ek x.2.2 y.2.2 && !ek x.2.1 y.2.2

def bS (ops : List Oper) (ps : List eK) : Bool := ps.all fun x => ps.all fun y => decide (y.1 ≤ x.1) || gh x y || eh ops x.1 y.1

end Go.AX

/-! (AxN0) -/

namespace Go.AX

section
variable {S : Type} (step : Nat → S → S) (Does : Nat → S → Prop) (ord : Nat → Nat → Bool)

def dx (D : Nat → Bool) (l : List Nat) (s : S) : S := l.foldl (fun s i => if D i then step i s else s) s

theorem kO (D : Nat → Bool) (l l' : List Nat) (s : S) : dx step D (l ++ l') s = dx step D l' (dx step D l s) := by simp [dx]

theorem c8 (D : Nat → Bool) (i : Nat) (l : List Nat) (s : S) : dx step D (i :: l) s = dx step D l (if D i then step i s else s) := rfl

def sb (i j : Nat) : Prop := ord i j = false ∧ ord j i = false

variable (hcomm : ∀ i j s, i ≠ j → sb ord i j → step i (step j s) = step j (step i s))
variable (hframe : ∀ i j s, i ≠ j → sb ord i j → (Does i s ↔ Does i (step j s)))

include hcomm in
theorem sH (D : Nat → Bool) (i : Nat) : ∀ (l : List Nat) (s : S), (∀ j ∈ l, D j = true → i ≠ j ∧ sb ord i j) → step i (dx step D l s) = dx step D l (step i s)
 | [], s, _ => rfl
 | j :: l, s, h => by
  rw [c8, c8, sH D i l _ fun k hk => h k (List.mem_cons_of_mem _ hk)]
  by_cases hj : D j = true
  ·
   simp only [hj, if_true]
   obtain ⟨h1, h2⟩ := h j (List.mem_cons_self ..) hj
   rw [hcomm i j s h1 h2]
  ·
   simp only [hj]; rfl

include hframe in
theorem sV (D : Nat → Bool) (i : Nat) : ∀ (l : List Nat) (s : S), (∀ j ∈ l, D j = true → i ≠ j ∧ sb ord i j) → (Does i s ↔ Does i (dx step D l s))
 | [], s, _ => Iff.rfl
 | j :: l, s, h => by
  rw [c8]
  refine Iff.trans ?_ (sV D i l _ fun k hk => h k (List.mem_cons_of_mem _ hk))
  by_cases hj : D j = true
  ·
   simp only [hj, if_true]
   obtain ⟨h1, h2⟩ := h j (List.mem_cons_self ..) hj
   exact hframe i j s h1 h2
  ·
   simp [hj]

include hcomm in
theorem vJ (D : Nat → Bool) : ∀ (l : List Nat) (s : S), l.Pairwise (fun k m => D k = false → D m = true → k ≠ m ∧ sb ord k m) →
  dx step (fun _ => true) l s = dx step (fun i => !D i) l (dx step D l s)
 | [], s, _ => rfl
 | i :: l, s, h => by
  rw [List.pairwise_cons] at h
  obtain ⟨h1, h2⟩ := h
  rw [c8, c8, c8]
  simp only [if_true]
  rw [vJ D l _ h2]
  by_cases hi : D i = true
  ·
   simp [hi]
  ·
   have hi' : D i = false := by simpa using hi
   simp only [hi', Bool.not_false, if_true, Bool.false_eq_true, if_false]
   rw [sH step ord hcomm D i l s fun j hj hDj => h1 j hj hi' hDj]

variable (n : Nat) (s0 : S) (hlt : ∀ i j, ord i j = true → i < j)
variable (hcan : ∀ i, i < n → Does i (dx step (fun _ => true) (List.range i) s0))

theorem Am {i n : Nat} (h : i < n) : List.range n = List.range i ++ i :: (List.range (n - i - 1)).map (· + (i + 1)) := by
 have : n = i + (1 + (n - i - 1)) := by omega
 conv => lhs; rw [this, List.range_add, List.range_add]
 simp only [List.range_one, List.map_cons, Nat.add_zero, List.map_map, List.singleton_append]
 congr 2
 apply List.map_congr_left
 intro a _
 simp; omega

include hcomm hframe hlt hcan in
theorem Cs (D : Nat → Bool) (i : Nat) (hi : i < n) (hDi : D i = false) (hdown : ∀ k j, j < n → ord k j = true → D j = true → D k = true) (hpre : ∀ k, ord k i = true → D k = true) :
  Does i (dx step D (List.range n) s0) ∧ step i (dx step D (List.range n) s0) = dx step (fun j => D j || j == i) (List.range n) s0 := by
 have hgt : ∀ j ∈ (List.range (n - i - 1)).map (· + (i + 1)), i < j ∧ j < n := by
  intro j hj
  obtain ⟨k, hk, rfl⟩ := List.mem_map.1 hj
  rw [List.mem_range] at hk
  omega
 have hup : ∀ j ∈ (List.range (n - i - 1)).map (· + (i + 1)), D j = true → i ≠ j ∧ sb ord i j := by
  intro j hj hDj
  obtain ⟨h1, h2⟩ := hgt j hj
  refine ⟨by omega, ?_, ?_⟩
  ·
   cases ho : ord i j with
   | false => rfl
   | true => rw [hdown i j h2 ho hDj] at hDi; cases hDi
  ·
   cases ho : ord j i with
   | false => rfl
   | true => have := hlt j i ho; omega
 have h0 := hcan i hi
 rw [vJ step ord hcomm D] at h0
 ·
  rw [← sV step Does ord hframe] at h0
  ·
   rw [Am hi, kO, c8]
   simp only [hDi, Bool.false_eq_true, if_false]
   refine ⟨(sV step Does ord hframe D i _ _ hup).1 h0, ?_⟩
   rw [sH step ord hcomm D i _ _ hup, kO, c8]
   simp only [beq_self_eq_true, Bool.or_true, if_true]
   have e1 : dx step (fun j => D j || j == i) (List.range i) s0 = dx step D (List.range i) s0 := by
    have : ∀ (l : List Nat) (s : S), (∀ j ∈ l, j ≠ i) → dx step (fun j => D j || j == i) l s = dx step D l s := by
     intro l
     induction l with
     | nil => intro s _; rfl
     | cons j l ih =>
      intro s h
      rw [c8, c8, ih _ fun k hk => h k (List.mem_cons_of_mem _ hk)]
      have : (j == i) = false := by simpa using h j (List.mem_cons_self ..)
      simp [this]
    exact this _ _ fun j hj => by rw [List.mem_range] at hj; omega
   rw [e1]
   have : ∀ (l : List Nat) (s : S), (∀ j ∈ l, j ≠ i) → dx step (fun j => D j || j == i) l s = dx step D l s := by
    intro l
    induction l with
    | nil => intro s _; rfl
    | cons j l ih =>
     intro s h
     rw [c8, c8, ih _ fun k hk => h k (List.mem_cons_of_mem _ hk)]
     have : (j == i) = false := by simpa using h j (List.mem_cons_self ..)
     simp [this]
   rw [this _ _ fun j hj => by have := (hgt j hj).1; omega]
  ·
   intro j hj hDj
   rw [List.mem_range] at hj
   simp only [Bool.not_eq_true'] at hDj
   refine ⟨by omega, ?_, ?_⟩
   ·
    cases ho : ord i j with
    | false => rfl
    | true => have := hlt i j ho; omega
   ·
    cases ho : ord j i with
    | false => rfl
    | true => rw [hpre j ho] at hDj; cases hDj
 ·
  have : (List.range i).Pairwise (fun a b => a < b ∧ b < i) := by
   rw [List.pairwise_iff_getElem]
   intro a b ha hb hab
   simp at ha hb ⊢
   exact ⟨hab, hb⟩
  refine this.imp fun {k m} hkm hk hm => ?_
  refine ⟨by omega, ?_, ?_⟩
  ·
   cases ho : ord k m with
   | false => rfl
   | true => rw [hdown k m (by omega) ho hm] at hk; cases hk
  ·
   cases ho : ord m k with
   | false => rfl
   | true => have := hlt m k ho; omega

end
end Go.AX

/-! (AxN) -/

namespace Go.AX

def sk (r : Option (Nat × Nat)) (x y : Ob) : Prop :=
 x = y ∨ ∃ off n c c', r = some (off, n) ∧ x = .live c ∧ y = .live c' ∧ c.length = c'.length ∧ ∀ k, off ≤ k → k < off + n → c[k]? = c'[k]?

theorem sk.symm {r : Option (Nat × Nat)} {x y : Ob} (h : sk r x y) : sk r y x := by
 rcases h with h | ⟨off, n, c, c', h1, h2, h3, h4, h5⟩
 ·
  exact .inl h.symm
 ·
  exact .inr ⟨off, n, c', c, h1, h3, h2, h4.symm, fun k a b => (h5 k a b).symm⟩

theorem sk.trans {r : Option (Nat × Nat)} {x y z : Ob} (h : sk r x y) (h' : sk r y z) : sk r x z := by
 rcases h with rfl | ⟨off, n, c, c', h1, h2, h3, h4, h5⟩
 ·
  exact h'
 ·
  rcases h' with rfl | ⟨off', n', d, d', g1, g2, g3, g4, g5⟩
  ·
   exact .inr ⟨off, n, c, c', h1, h2, h3, h4, h5⟩
  ·
   rw [h1] at g1; cases g1
   rw [h3] at g2; cases g2
   exact .inr ⟨off, n, c, d', h1, h2, g3, h4.trans g4, fun k a b => (h5 k a b).trans (g5 k a b)⟩

def fH (f : gz) (x y : Nat → Ob) : Prop := ∀ p ∈ f, sk p.2 (x p.1) (y p.1)

theorem fH.symm {f : gz} {x y : Nat → Ob} (h : fH f x y) : fH f y x := fun p hp => (h p hp).symm
theorem fH.trans {f : gz} {x y z : Nat → Ob} (h : fH f x y) (h' : fH f y z) : fH f x z := fun p hp => (h p hp).trans (h' p hp)

def gU (fr : Nat) (act : HAct) (j : Nat) (x : Ob) : Ob :=
 match act with
 | .none => x
 | .new cells => if j = fr then .live cells else x
 | .wr id off cs => if j = id then (match x with | .live c => .live (cC c off cs) | y => y) else x
 | .app old cells => if j = fr then .live cells else if old = some j then .dead else x
 | .set id cells => if j = id then (match x with | .live _ => .live cells | y => y) else x

theorem pO (fr : Nat) (act : HAct) (objs : Nat → Ob) (j : Nat) : dc fr act objs j = gU fr act j (objs j) := by
 cases act with
 | none => rfl
 | new cells => rfl
 | wr id off cs =>
  simp only [dc, gU]
  by_cases hj : j = id
  ·
   subst hj
   cases h : objs j <;> simp [h]
  ·
   rw [if_neg hj]
   cases h : objs id with
   | live c => exact ba _ _ hj
   | dead => rfl
   | froz c => rfl
 | set id cs =>
  simp only [dc, gU]
  by_cases hj : j = id
  ·
   subst hj
   cases h : objs j <;> simp [h]
  ·
   rw [if_neg hj]
   cases h : objs id with
   | live c => exact ba _ _ hj
   | dead => rfl
   | froz c => rfl
 | app old cells =>
  simp only [dc, gU]
  by_cases hj : j = fr
  ·
   subst hj; simp
  ·
   rw [ba _ _ hj, if_neg hj]
   cases old with
   | none => simp [kx]
   | some o =>
    by_cases ho : o = j
    ·
     subst ho; simp [kx]
    ·
     have h1 : ¬ (some o = some j) := fun h => ho (by cases h; rfl)
     rw [if_neg h1]
     simp only [kx]
     rw [ba _ _ fun h => ho h.symm]

theorem tJ {fr : Nat} {act : HAct} {f : gz} (h : ek (cG fr act) f = false) (objs : Nat → Ob) : fH f objs (dc fr act objs) := by
 intro p hp
 rw [pO]
 have hno : ∀ q ∈ cG fr act, ¬ (q.1 = p.1 ∧ kg q.2 p.2 = true) := by
  intro q hq hh
  have : ek (cG fr act) f = true := by
   unfold ek
   rw [List.any_eq_true]
   refine ⟨q, hq, ?_⟩
   rw [List.any_eq_true]
   exact ⟨p, hp, by simp [hh.1, hh.2]⟩
  rw [this] at h; cases h
 have mnone : ∀ r, kg none r = true := fun r => by cases r <;> rfl
 cases act with
 | none => exact .inl rfl
 | new cells =>
  simp only [gU]
  by_cases hj : p.1 = fr
  ·
   exact absurd ⟨hj.symm, mnone _⟩ (hno (fr, none) (by simp [cG]))
  ·
   rw [if_neg hj]; exact .inl rfl
 | wr id off cs =>
  simp only [gU]
  by_cases hj : p.1 = id
  ·
   rw [if_pos hj]
   have hm := hno (id, some (off, cs.length)) (by simp [cG])
   cases hx : objs p.1 with
   | dead => exact .inl rfl
   | froz c => exact .inl rfl
   | live c =>
    cases hr : p.2 with
    | none => rw [hr] at hm; exact absurd ⟨hj.symm, rfl⟩ hm
    | some on =>
     obtain ⟨o', n'⟩ := on
     rw [hr] at hm
     have hm' : ¬ (off < o' + n' ∧ o' < off + cs.length) := by
      intro hh
      exact hm ⟨hj.symm, by simp [kg, hh.1, hh.2]⟩
     refine .inr ⟨o', n', c, _, rfl, rfl, rfl, (eF c off cs).symm, fun k a b => ?_⟩
     rw [jI, if_neg (by omega)]
  ·
   rw [if_neg hj]; exact .inl rfl
 | set id cells =>
  simp only [gU]
  by_cases hj : p.1 = id
  ·
   exact absurd ⟨hj.symm, mnone _⟩ (hno (id, none) (by simp [cG]))
  ·
   rw [if_neg hj]; exact .inl rfl
 | app old cells =>
  simp only [gU]
  by_cases hj : p.1 = fr
  ·
   exact absurd ⟨hj.symm, mnone _⟩ (hno (fr, none) (by cases old <;> simp [cG]))
  ·
   rw [if_neg hj]
   by_cases ho : old = some p.1
   ·
    subst ho
    exact absurd ⟨rfl, mnone _⟩ (hno (p.1, none) (by simp [cG]))
   ·
    rw [if_neg ho]; exact .inl rfl

theorem Bp {fr1 fr2 : Nat} {a1 a2 : HAct} (h : ek (cG fr1 a1) (cG fr2 a2) = false) (j : Nat) (x : Ob) :
  gU fr2 a2 j (gU fr1 a1 j x) = gU fr1 a1 j (gU fr2 a2 j x) := by
 have hno : ∀ q ∈ cG fr1 a1, ∀ p ∈ cG fr2 a2, ¬ (q.1 = p.1 ∧ kg q.2 p.2 = true) := by
  intro q hq p hp hh
  have : ek (cG fr1 a1) (cG fr2 a2) = true := by
   unfold ek
   rw [List.any_eq_true]
   refine ⟨q, hq, ?_⟩
   rw [List.any_eq_true]
   exact ⟨p, hp, by simp [hh.1, hh.2]⟩
  rw [this] at h; cases h
 have mnone : ∀ r, kg none r = true := fun r => by cases r <;> rfl
 have mnone' : ∀ r, kg r none = true := fun r => by cases r <;> rfl
 -- the objects that an action touches with nothing known of the cells
 have whole : ∀ (fr : Nat) (a : HAct), (∀ id off cs, a ≠ .wr id off cs) → ∀ j x, gU fr a j x = x ∨ (j, none) ∈ cG fr a := by
  intro fr a ha j x
  cases a with
  | none => exact .inl rfl
  | new cells =>
   by_cases hj : j = fr
   ·
    subst hj; exact .inr (by simp [cG])
   ·
    exact .inl (by simp [gU, hj])
  | wr id off cs => exact absurd rfl (ha id off cs)
  | app old cells =>
   by_cases hj : j = fr
   ·
    subst hj; exact .inr (by cases old <;> simp [cG])
   ·
    by_cases ho : old = some j
    ·
     subst ho; exact .inr (by simp [cG])
    ·
     exact .inl (by simp [gU, hj, ho])
  | set id cells =>
   by_cases hj : j = id
   ·
    subst hj; exact .inr (by simp [cG])
   ·
    exact .inl (by simp [gU, hj])
 have wother : ∀ (fr : Nat) (id off : Nat) (cs : List AV) (j : Nat) (x : Ob), j ≠ id → gU fr (.wr id off cs) j x = x := by
  intro fr id off cs j x hj; simp [gU, hj]
 by_cases hw1 : ∃ id off cs, a1 = .wr id off cs
 ·
  obtain ⟨id1, o1, c1, rfl⟩ := hw1
  by_cases hw2 : ∃ id off cs, a2 = .wr id off cs
  ·
   obtain ⟨id2, o2, c2, rfl⟩ := hw2
   by_cases e1 : j = id1
   ·
    by_cases e2 : j = id2
    ·
     subst e1; subst e2
     have := hno (j, some (o1, c1.length)) (by simp [cG]) (j, some (o2, c2.length)) (by simp [cG])
     have hm : ¬ (o1 < o2 + c2.length ∧ o2 < o1 + c1.length) := fun hh => this ⟨rfl, by simp [kg, hh.1, hh.2]⟩
     simp only [gU, if_true]
     cases x with
     | live c => simp only; rw [Bd c o1 o2 c1 c2 (by omega)]
     | dead => rfl
     | froz c => rfl
    ·
     rw [wother fr2 id2 o2 c2 j _ e2, wother fr2 id2 o2 c2 j _ e2]
   ·
    rw [wother fr1 id1 o1 c1 j _ e1, wother fr1 id1 o1 c1 j _ e1]
  ·
   have hw2' : ∀ id off cs, a2 ≠ .wr id off cs := fun id off cs hh => hw2 ⟨id, off, cs, hh⟩
   by_cases e1 : j = id1
   ·
    subst e1
    have key : ∀ x, gU fr2 a2 j x = x := fun x => (whole fr2 a2 hw2' j x).resolve_right fun hh => hno _ (show (j, some (o1, c1.length)) ∈ cG fr1 (.wr j o1 c1) by simp [cG]) _ hh ⟨rfl, mnone' _⟩
    rw [key, key]
   ·
    rw [wother fr1 id1 o1 c1 j _ e1, wother fr1 id1 o1 c1 j _ e1]
 ·
  have hw1' : ∀ id off cs, a1 ≠ .wr id off cs := fun id off cs hh => hw1 ⟨id, off, cs, hh⟩
  by_cases hm1 : (j, none) ∈ cG fr1 a1
  ·
   by_cases hw2 : ∃ id off cs, a2 = .wr id off cs
   ·
    obtain ⟨id2, o2, c2, rfl⟩ := hw2
    by_cases e2 : j = id2
    ·
     subst e2
     exact absurd ⟨rfl, mnone _⟩ (hno _ hm1 (j, some (o2, c2.length)) (by simp [cG]))
    ·
     rw [wother fr2 id2 o2 c2 j _ e2, wother fr2 id2 o2 c2 j _ e2]
   ·
    have hw2' : ∀ id off cs, a2 ≠ .wr id off cs := fun id off cs hh => hw2 ⟨id, off, cs, hh⟩
    have key : ∀ x, gU fr2 a2 j x = x := fun x => (whole fr2 a2 hw2' j x).resolve_right fun hh => hno _ hm1 _ hh ⟨rfl, mnone _⟩
    rw [key, key]
  ·
   have key : ∀ x, gU fr1 a1 j x = x := fun x => (whole fr1 a1 hw1' j x).resolve_right hm1
   rw [key, key]

theorem Gm {C : Ctx} {s s' : AS} {x : Operand} (h : ∀ t, x = .tmp t → s'.tmps t = s.tmps t) : ev C s' x = ev C s x := by
 cases x with
 | tmp t => exact h t rfl
 | const v => rfl
 | global g => rfl
 | func f => rfl

theorem qD {s s' : AS} {sz : Nat} {x : AV} (h : ∀ p ∈ eX x, s'.objs p.1 = s.objs p.1) : me s' sz x = me s sz x := by
 cases x <;> try rfl
 ·
  rename_i id off k sz'
  simp only [me]
  rw [h (id, none) (by simp [eX])]
 ·
  rename_i id off k sz' cap
  simp only [me]
  rw [h (id, none) (by simp [eX])]

theorem BB {P : Program} {s s' : AS} {fr e u : Nat} {x y : AV} (h : ∀ p ∈ eX x, s'.objs p.1 = s.objs p.1) : uJ P s' fr e u x y = uJ P s fr e u x y := by
 unfold uJ
 cases y <;> try rfl
 rename_i v
 cases v <;> try rfl
 cases x <;> try rfl
 ·
  rename_i id off k sz'
  simp only [h (id, none) (by simp [eX])]
 ·
  rename_i id off k sz' cap
  simp only [h (id, none) (by simp [eX])]

theorem AZ {s s' : AS} {sz : Nat} {x y : AV} (h : ∀ p ∈ eX x, s'.objs p.1 = s.objs p.1) (h' : ∀ p ∈ eX y, s'.objs p.1 = s.objs p.1) : uP s' sz x y = uP s sz x y := by
 unfold uP
 cases x <;> try rfl
 cases y <;> try rfl
 rename_i id off k sz' cap id2 off2 k2 sz2 cap2
 simp only [h (id, none) (by simp [eX]), h' (id2, none) (by simp [eX])]

theorem qY {x : AV} {o o' : Nat → Ob} (h : fH (eX x) o o') : ∀ p ∈ eX x, o' p.1 = o p.1 := by
 intro p hp
 have hn : p.2 = none := by cases x <;> simp [eX] at hp <;> (subst hp; rfl)
 rcases h p hp with h1 | ⟨_, _, _, _, h1, _⟩
 ·
  exact h1.symm
 ·
  rw [hn] at h1; cases h1

theorem Aa {C : Ctx} {s s' : AS} {fr : Nat} {op : Op} (hT : ∀ x ∈ op.operands, ev C s' x = ev C s x) (hR : fH (fO C s op) s.objs s'.objs) :
  ce C s' fr op = ce C s fr op ∧ fO C s' op = fO C s op := by
 have hps : ∀ ps : Array (Nat × Operand), (∀ x ∈ (ps.toList.map (·.2)).toArray, ev C s' x = ev C s x) → (ps.toList.map fun p => (p.1, ev C s' p.2)) = (ps.toList.map fun p => (p.1, ev C s p.2)) := by
  intro ps h
  apply List.map_congr_left
  intro p hp
  rw [h p.2 (by simp; exact ⟨p.1, by simpa using hp⟩)]
 have hxs : ∀ xs : Array Operand, (∀ x ∈ xs, ev C s' x = ev C s x) → xs.toList.map (ev C s') = xs.toList.map (ev C s) := by
  intro xs h
  apply List.map_congr_left
  intro p hp
  exact h p (Array.mem_toList_iff.1 hp)
 cases op <;> simp only [Op.operands] at hT <;> simp only [ce, fO] at hR ⊢ <;> try (first | exact ⟨rfl, rfl⟩ | exact ⟨rfl, trivial⟩ | trivial)
 case move x => rw [hT x (by simp)]; exact ⟨rfl, trivial⟩
 case assign x => rw [hT x (by simp)]; exact ⟨rfl, trivial⟩
 case pick c a b => rw [hT c (by simp), hT a (by simp), hT b (by simp)]; exact ⟨rfl, trivial⟩
 case box t x => rw [hT x (by simp)]; exact ⟨rfl, trivial⟩
 case build t ps => rw [hps ps hT]; exact ⟨rfl, trivial⟩
 case buildSlice t n ps => rw [hps ps hT]; exact ⟨rfl, trivial⟩
 case load t a =>
  rw [hT a (by simp)]
  refine ⟨?_, rfl⟩
  generalize ev C s a = p at hR ⊢
  cases p <;> simp only [lR] <;> try rfl
  rename_i id off
  simp only at hR
  rcases hR _ (List.mem_singleton.2 rfl) with h1 | ⟨off', n', c, c', h1, h2, h3, h4, h5⟩
  ·
   simp only at h1; rw [h1]
  ·
   simp only at h1 h2 h3
   cases h1
   rw [h2, h3]
   simp only
   have : lq C.P t c' off = lq C.P t c off := by
    unfold lq
    cases hag : agB C.P t with
    | none => rfl
    | some b =>
     cases b with
     | false =>
      simp only [hag] at h5
      exact (h5 off (Nat.le_refl _) (by omega)).symm
     | true =>
      simp only [hag] at h5
      cases hsz : cA C.P t with
      | none => rfl
      | some n =>
       simp only [hsz, Option.getD_some] at h5
       simp only [cg, h4]
       split
       ·
        simp only [Option.map_some]
        congr 2
        apply List.ext_getElem?
        intro i
        rw [List.getElem?_take, List.getElem?_take]
        split
        ·
         rw [List.getElem?_drop, List.getElem?_drop]; exact (h5 (off + i) (by omega) (by omega)).symm
        ·
         rfl
       ·
        rfl
   rw [this]
 case store t a x =>
  rw [hT a (by simp), hT x (by simp)]
  refine ⟨?_, rfl⟩
  generalize ev C s a = p at hR ⊢
  cases p <;> try rfl
  rename_i id off
  simp only at hR ⊢
  rcases hR _ (List.mem_singleton.2 rfl) with h1 | ⟨off', n', c, c', h1, h2, h3, h4, h5⟩
  ·
   simp only at h1
   cases cellsOf (ev C s x) <;> cases cA C.P t <;> simp only
   rw [h1]
  ·
   simp only at h2 h3
   cases cellsOf (ev C s x) <;> cases cA C.P t <;> simp only
   rw [h2, h3]
   simp only [h4]
 case nilCheck x => rw [hT x (by simp)]; exact ⟨rfl, trivial⟩
 case binOp op t x y u => rw [hT x (by simp), hT y (by simp)]; exact ⟨rfl, trivial⟩
 case unOp op t x => rw [hT x (by simp)]; exact ⟨rfl, trivial⟩
 case convert a b x =>
  rw [hT x (by simp)]
  refine ⟨?_, rfl⟩
  have h1 : BC C s' a b (ev C s x) = BC C s a b (ev C s x) := by
   unfold BC
   rw [qD (qY hR)]
  rw [h1]
 case makeFunc fn first caps =>
  have h1 := hxs first fun x hx => hT x (by simp [hx])
  have h2 := hxs caps fun x hx => hT x (by simp [hx])
  rw [h1, h2]; exact ⟨rfl, trivial⟩
 case makeSlice t l c => rw [hT l (by simp), hT c (by simp)]; exact ⟨rfl, trivial⟩
 case slice t x lo hi mx =>
  have hx := hT x (by simp)
  have hlo : lo.map (ev C s') = lo.map (ev C s) := by cases lo with | none => rfl | some z => simp [hT z (by simp)]
  have hhi : hi.map (ev C s') = hi.map (ev C s) := by cases hi with | none => rfl | some z => simp [hT z (by simp)]
  rw [hx, hlo, hhi]
  have hids := qY hR
  refine ⟨?_, rfl⟩
  cases mx with
  | some m =>
   have hm := hT m (by simp)
   cases lo with
   | none => cases hi with
    | none => rfl
    | some h =>
     have hh := hT h (by simp)
     simp only [hm, hh]
   | some l => cases hi with
    | none => rfl
    | some h =>
     have h1 := hT l (by simp)
     have h2 := hT h (by simp)
     simp only [hm, h1, h2]
  | none =>
   simp only
   congr 1
   unfold uM
   generalize ev C s x = p at hids ⊢
   cases p <;> try rfl
   rename_i id off
   simp only [hids (id, none) (by simp [eX])]
 case fieldAddr t x f => rw [hT x (by simp)]; exact ⟨rfl, trivial⟩
 case field t x f => rw [hT x (by simp)]; exact ⟨rfl, trivial⟩
 case indexAddr t x i => rw [hT x (by simp), hT i (by simp)]; exact ⟨rfl, trivial⟩
 case index t x i => rw [hT x (by simp), hT i (by simp)]; exact ⟨rfl, trivial⟩
 case extract x i => rw [hT x (by simp)]; exact ⟨rfl, trivial⟩
 case call c =>
  obtain ⟨callee, args, ts⟩ := c
  cases callee with
  | value f => exact ⟨rfl, rfl⟩
  | invoke r m => exact ⟨rfl, rfl⟩
  | builtin b =>
   simp only at hR ⊢
   have hargs := hxs args fun x hx => hT x (by simp [Call.operands, hx])
   have hflat : (args.toList.flatMap fun x => eX (ev C s' x)) = args.toList.flatMap fun x => eX (ev C s x) := by
    rw [← List.flatMap_map (f := ev C s') (g := eX), ← List.flatMap_map (f := ev C s) (g := eX), hargs]
   refine ⟨?_, hflat⟩
   rw [hargs]
   have hids : ∀ x ∈ args.toList.map (ev C s), ∀ p ∈ eX x, s'.objs p.1 = s.objs p.1 := by
    intro x hx p hp
    obtain ⟨z, hz, rfl⟩ := List.mem_map.1 hx
    refine qY (x := ev C s z) (fun q hq => hR q ?_) p hp
    exact List.mem_flatMap.2 ⟨z, hz, hq⟩
   generalize args.toList.map (ev C s) = xs at hids ⊢
   unfold mF
   split <;> try rfl
   ·
    rename_i t u x y _
    have hx := hids x (by simp)
    have hy := hids y (by simp)
    unfold DW
    simp only [qD hy, BB hx]
    cases x <;> try rfl
    ·
     rename_i id off len sz'
     simp only [hx (id, none) (by simp [eX])]
    ·
     rename_i id off len sz' cap
     simp only [hx (id, none) (by simp [eX])]
   ·
    rename_i t u x y _
    have hx := hids x (by simp)
    have hy := hids y (by simp)
    unfold zL
    simp only [qD hy, AZ hx hy]
    cases x <;> try rfl
    ·
     rename_i id off len sz'
     simp only [hx (id, none) (by simp [eX])]
    ·
     rename_i id off len sz' cap
     simp only [hx (id, none) (by simp [eX])]
   ·
    rename_i t x _
    have hx := hids x (by simp)
    unfold we
    cases x <;> try rfl
    ·
     rename_i id off len sz'
     simp only [hx (id, none) (by simp [eX])]
    ·
     rename_i id off len sz' cap
     simp only [hx (id, none) (by simp [eX])]

end Go.AX

/-! (AxO) -/

namespace Go.AX

def oC (P : Program) (f : FuncId) : Prop := ∃ fn, P.funcs[f]? = some fn ∧ fn.body.isSome = true ∧ (fn.name == "runtime.NumGoroutine") = false

def XC (P : Program) (f : FuncId) (args : Array Value) (w : World) (Q : Ending → World → Prop) : Prop :=
 (oC P f ∧ Calls P f args w Q) ∨ (∃ y w', (callFunc f args).run P w = .ok (.value y) w' ∧ Q (.returned y) w')

theorem XC.mono {P : Program} {f : FuncId} {args : Array Value} {w : World} {Q Q' : Ending → World → Prop} (h : XC P f args w Q) (hq : ∀ e w', Q e w' → Q' e w') : XC P f args w Q' := by
 rcases h with ⟨h1, h2⟩ | ⟨y, w', h1, h2⟩
 ·
  exact .inl ⟨h1, h2.mono hq⟩
 ·
  exact .inr ⟨y, w', h1, hq _ _ h2⟩

theorem lu {P : Program} {f : FuncId} (h : oC P f) (args : Array Value) (w : World) : (callFunc f args).run P w = .ok (.enter f args) w := by
 obtain ⟨fn, hf, hb, hn⟩ := h
 have hbn : ¬ fn.body = none := by intro hh; rw [hh] at hb; cases hb
 have hn' : ¬ fn.name = "runtime.NumGoroutine" := by simpa using hn
 simp [callFunc, hf, hn', hbn]

theorem XC.calls {P : Program} {f : FuncId} {args : Array Value} {w : World} {Q : Ending → World → Prop} (h : XC P f args w Q) (hc : oC P f) : Calls P f args w Q := by
 rcases h with ⟨_, h2⟩ | ⟨y, w', h1, _⟩
 ·
  exact h2
 ·
  rw [lu hc] at h1; cases h1

def Snd (C : Ctx) (f : FuncId) (args : List AV) (s : HS) (Q : AV → HS → Prop) : Prop :=
 True ∧ ∀ (ρ : Rho) (V : bw) (w : World) (args' : Array Value), args'.size = args.length → (∀ (i : Nat) x y, args[i]? = some x → args'[i]? = some y → Rel ρ V x y) →
  Inv ρ V s w → mB C V → XC C.P f args' w fun e w' => ∃ y r s' ρ' V', e = .returned y ∧ Q r s' ∧ Rel ρ' V' r y ∧ Inv ρ' V' s' w' ∧ Grew ρ V s w ρ' V' s' w'

theorem Snd.mono {C : Ctx} {f : FuncId} {args : List AV} {s : HS} {Q Q' : AV → HS → Prop} (h : Snd C f args s Q) (hq : ∀ r s', Q r s' → Q' r s') : Snd C f args s Q' :=
 ⟨h.1, fun ρ V w args' h1 h2 h3 h4 => (h.2 ρ V w args' h1 h2 h3 h4).mono fun _ _ ⟨y, r, s', ρ', V', a, b, c⟩ => ⟨y, r, s', ρ', V', a, hq _ _ b, c⟩⟩

structure DidV (ρ : Rho) (V : bw) (hs : HS) (w : World) (fr : Nat) (e : Eff) (y : Value) (ρ' : Rho) (V' : bw) (w' : World) : Prop where
 rel : Rel ρ' V' e.val y
 inv : Inv ρ' V' ⟨dc fr e.act hs.objs, hs.next⟩ w'
 rho : ∀ id loc, ρ id = some loc → ρ' id = some loc
 oth : ∀ id, id ≠ fr → ρ' id = ρ id
 view : ∀ b c, V b = some c → V' b = some c
 size : w.heap.size ≤ w'.heap.size
 keep : ∀ b, b < w.heap.size → ¬ Own ρ hs b → w'.heap[b]? = w.heap[b]?
 own : ∀ b, Own ρ' ⟨dc fr e.act hs.objs, hs.next⟩ b → Own ρ hs b ∨ w.heap.size ≤ b
 vnew : ∀ b c, V' b = some c → V b = some c ∨ Own ρ hs b ∨ w.heap.size ≤ b
 mem : Mem w w'

def jM (C : Ctx) (f : FuncId) (args : List AV) (hs : HS) (fr : Nat) (e : Eff) : Prop :=
 ∀ (ρ : Rho) (V : bw) (w : World) (args' : Array Value), args'.size = args.length → (∀ (i : Nat) x y, args[i]? = some x → args'[i]? = some y → Rel ρ V x y) →
  Inv ρ V hs w → mB C V → ρ fr = none → fr < hs.next → XC C.P f args' w fun ed w' => ∃ y ρ' V', ed = .returned y ∧ DidV ρ V hs w fr e y ρ' V' w'

theorem Snd.toE {C : Ctx} {f : FuncId} {args : List AV} {hs : HS} {r : AV} (h : Snd C f args hs fun r' s' => r' = r ∧ s' = hs) (fr : Nat) : jM C f args hs fr ⟨r, .none⟩ := by
 intro ρ V w args' h1 h2 h3 h4 _ _
 refine (h.2 ρ V w args' h1 h2 h3 h4).mono ?_
 rintro ed w' ⟨y, r', s', ρ', V', rfl, ⟨rfl, rfl⟩, hrel, hinv, hg⟩
 refine ⟨y, ρ', V', rfl, hrel, hinv, hg.rho, fun id _ => ?_, hg.view, hg.size, hg.keep, hg.own, hg.vnew, hg.mem⟩
 rcases Nat.lt_or_ge id s'.next with hlt | hge
 ·
  exact hg.old id hlt
 ·
  rw [hinv.fresh id hge, h3.fresh id hge]

def dV (C : Ctx) (s : AS) (op : Op) : Option (FuncId × List AV) :=
 match op with
 | .call c => match c.callee with
  | .value f => match ev C s f with
   | .clo g first caps => some (g, first ++ (c.args.toList.map (ev C s) ++ caps))
   | _ => none
  | _ => none
 | _ => none

def jc (t : Nat → AV) (dst : Option Nat) (x : AV) : Nat → AV := match dst with | some d => upd t d x | none => t

structure Base where
 ρ : Rho
 V : bw
 s : HS
 w : World
 mks : Option Nat

def A9 (r : Nat) : Deferred := { target := .collected r, args := #[] }

def iy (B : Base) (ds : List Deferred) (w : World) : Prop := ∃ rs : List Nat, rs.Nodup ∧ ds = rs.map A9 ∧ (B.mks = none → rs = []) ∧ ∀ r ∈ rs, (∀ m, B.mks = some m → m ≤ r) ∧ w.heap[r]? = some (.deferred (some []))

theorem iy.nil (B : Base) (w : World) : iy B [] w := ⟨[], .nil, rfl, fun _ => rfl, fun _ h => by cases h⟩

theorem BQ {ρ : Rho} {V : bw} {s : HS} {w : World} (hI : Inv ρ V s w) {r : Nat} {o : Obj} (h : w.heap[r]? = some o) (ho : o.isCells = false) : ¬ Own ρ s r := by
 rintro ⟨id, cells, loc, h1, h2, rfl⟩
 obtain ⟨c, T, h3, _⟩ := hI.live id cells loc h1 h2
 rw [h3] at h; cases h
 simp [Obj.isCells] at ho

theorem iy.keep {B : Base} {ds : List Deferred} {w w' : World} {ρ : Rho} {V : bw} {s : HS} (h : iy B ds w) (hI : Inv ρ V s w) (hk : ∀ b, b < w.heap.size → ¬ Own ρ s b → w'.heap[b]? = w.heap[b]?) : iy B ds w' := by
 obtain ⟨rs, h1, h2, h0, h3⟩ := h
 refine ⟨rs, h1, h2, h0, fun r hr => ⟨(h3 r hr).1, ?_⟩⟩
 have h4 := (h3 r hr).2
 rw [hk r (Array.getElem?_eq_some_iff.1 h4).1 (BQ hI h4 rfl)]; exact h4

def GS (C : Ctx) (N : Nat) (B : Base) (und : Nat → Prop) (s : AS) (a : Act) (w : World) : Prop :=
 ∃ ρ V, (∀ t, Rel ρ V (s.tmps t) (a.tmps.getD t undef)) ∧ Inv ρ V s.toHS w ∧ mB C V ∧ Grew B.ρ B.V B.s B.w ρ V s.toHS w ∧ a.tmps.size = N ∧ iy B a.defers w ∧ (∀ id, und id → ρ id = none)

theorem mB.mono {C : Ctx} {V V' : bw} (h : mB C V) (hv : ∀ b c, V b = some c → V' b = some c) : mB C V' :=
 fun g cs hg => let ⟨c, h1, h2⟩ := h g cs hg; ⟨c, hv _ _ h1, h2⟩

theorem pU {ρ : Rho} {V : bw} {t : Nat → AV} {a : Act} {x : AV} {y : Value} {dst : Option Nat} {N : Nat} (h : ∀ i, Rel ρ V (t i) (a.tmps.getD i undef)) (hx : Rel ρ V x y) (hN : a.tmps.size = N) (hd : ∀ d, dst = some d → d < N) :
  ∀ i, Rel ρ V (jc t dst x i) ((a.put dst y).tmps.getD i undef) := by
 intro i
 cases dst with
 | none => exact h i
 | some d =>
  have := hd d rfl
  simp only [jc, Act.put]
  by_cases hi : i = d
  ·
   subst hi
   rw [cB]
   have : i < a.tmps.size := by omega
   simpa [this] using hx
  ·
   rw [ba _ _ hi]
   have := h i
   simpa [Array.getElem?_setIfInBounds_ne (Ne.symm hi)] using this

theorem o7 {a : Act} {dst : Option Nat} {y : Value} : (a.put dst y).tmps.size = a.tmps.size := by
 cases dst <;> simp [Act.put]

theorem rG {a : Act} {dst : Option Nat} {y : Value} : (a.put dst y).defers = a.defers := by
 cases dst <;> rfl

theorem GS.put {C : Ctx} {N : Nat} {B : Base} {und : Nat → Prop} {s : AS} {a : Act} {w : World} (h : GS C N B und s a w) {dst : Option Nat} (hd : ∀ d, dst = some d → d < N) :
  GS C N B und { s with tmps := jc s.tmps dst (.v undef) } (a.put dst undef) w := by
 obtain ⟨ρ, V, h1, h2, h3, h4, h5, h6, h7⟩ := h
 exact ⟨ρ, V, pU h1 (.v undef) h5 hd, h2, h3, h4, by rw [o7]; exact h5, by rw [rG]; exact h6, h7⟩

theorem Cb {P : Program} {o : Oper} {a : Act} {K : Act → World → Prop} {Q : Exit → Act → World → Prop} {w w' : World} {y : Value} (hr : (execOp a.eval o).run P w = .ok (.value y) w' ∨ ((execOp a.eval o).run P w = .ok .skip w' ∧ y = undef))
  (hk : K (a.put o.dst y) w') : o.wp P a w K Q := by
 unfold Oper.wp
 rcases hr with h | ⟨h, rfl⟩
 ·
  rw [h]; exact hk
 ·
  rw [h]; exact hk

theorem Ar {C : Ctx} {s : AS} {a : Act} {o : Oper} {f : FuncId} {args : List AV} {ρ : Rho} {V : bw} (hT : ∀ t, Rel ρ V (s.tmps t) (a.tmps.getD t undef)) (hG : mB C V) (hc : dV C s o.op = some (f, args)) (w : World) :
  ∃ args' : Array Value, args'.size = args.length ∧ (∀ (i : Nat) x y, args[i]? = some x → args'[i]? = some y → Rel ρ V x y) ∧ (execOp a.eval o).run C.P w = (callFunc f args').run C.P w := by
 obtain ⟨dst, op, type, pos, after, guard⟩ := o
 cases op <;> simp only [dV] at hc <;> try (cases hc; done)
 rename_i c
 obtain ⟨callee, as, ts⟩ := c
 cases callee <;> simp only at hc <;> try (cases hc; done)
 rename_i g
 have hg := jD hT hG g
 split at hc
 ·
  rename_i g' first caps he
  simp only [Option.some.injEq, Prod.mk.injEq] at hc
  obtain ⟨rfl, rfl⟩ := hc
  rw [he] at hg
  have hy : ∃ y, a.eval g = y := ⟨_, rfl⟩
  obtain ⟨y, hy⟩ := hy
  rw [hy] at hg
  cases hg with
  | clo _ _ _ xs ys h1 h2 H1 H2 =>
   refine ⟨xs ++ as.map a.eval ++ ys, by simp [h1, h2], fun i x y hx hyy => ?_, ?_⟩
   ·
    have hx' : ((first ++ as.toList.map (ev C s)) ++ caps)[i]? = some x := by rw [List.append_assoc]; exact hx
    rw [List.getElem?_append] at hx'
    rw [Array.getElem?_append] at hyy
    have hl : (first ++ as.toList.map (ev C s)).length = (xs ++ as.map a.eval).size := by simp [h1]
    rw [hl] at hx'
    split at hx'
    ·
     rename_i hlt
     rw [if_pos hlt] at hyy
     rw [List.getElem?_append] at hx'
     rw [Array.getElem?_append] at hyy
     rw [← h1] at hx'
     split at hx'
     ·
      rename_i hlt'; rw [if_pos hlt'] at hyy; exact H1 i x y hx' hyy
     ·
      rename_i hlt'; rw [if_neg hlt'] at hyy
      simp only [List.getElem?_map, Option.map_eq_some_iff, Array.getElem?_map, Array.getElem?_toList] at hx' hyy
      obtain ⟨z, hz, rfl⟩ := hx'
      obtain ⟨z', hz', rfl⟩ := hyy
      rw [hz] at hz'; cases hz'
      exact jD hT hG z
    ·
     rename_i hlt; rw [if_neg hlt] at hyy; exact H2 _ x y hx' hyy
   ·
    simp [execOp, resolve, hy, Deferred.ofValue, invoke, Array.append_assoc]
 ·
  cases hc

theorem Ca {P : Program} {o : Oper} {a : Act} {K : Act → World → Prop} {Q : Exit → Act → World → Prop} {w : World} {f : FuncId} {args' : Array Value} {R : Value → World → Prop}
  (hr : (execOp a.eval o).run P w = (callFunc f args').run P w) (hx : XC P f args' w fun e w' => ∃ y, e = .returned y ∧ R y w') (hk : ∀ y w', R y w' → K (a.put o.dst y) w') : o.wp P a w K Q := by
 rcases hx with ⟨h1, h2⟩ | ⟨y, w', h1, y', h2, h3⟩
 ·
  unfold Oper.wp
  rw [hr, lu h1]
  simp only [Oper.upon]
  refine h2.mono fun e w' ⟨y, he, hR⟩ => ?_
  subst he
  exact hk y w' hR
 ·
  cases h2
  exact Cb (.inl (hr.trans h1)) (hk _ _ h3)

theorem xK {C : Ctx} {N : Nat} {B : Base} {und : Nat → Prop} {s : AS} {a : Act} {w : World} {o : Oper} {f : FuncId} {args : List AV} {R : AV → HS → Prop} (h : GS C N B und s a w) (hc : dV C s o.op = some (f, args)) (hs : Snd C f args s.toHS R)
  (hund : ∀ id, und id → id < s.next) (hd : ∀ d, o.dst = some d → d < N) (Q : Exit → Act → World → Prop) :
  o.wp C.P a w (fun a' w' => ∃ r hs', R r hs' ∧ GS C N B und { hs' with tmps := jc s.tmps o.dst r } a' w') Q := by
 obtain ⟨ρ, V, h1, h2, h3, h4, h5, h6, h7⟩ := h
 obtain ⟨args', g1, g2, g3⟩ := Ar h1 h3 hc w
 refine Ca (R := fun y w' => ∃ r s' ρ' V', R r s' ∧ Rel ρ' V' r y ∧ Inv ρ' V' s' w' ∧ Grew ρ V s.toHS w ρ' V' s' w') g3 ((hs.2 ρ V w args' g1 g2 h2 h3).mono ?_) ?_
 ·
  rintro e w' ⟨y, r, s', ρ', V', he, hr⟩
  exact ⟨y, he, r, s', ρ', V', hr⟩
 ·
  rintro y w' ⟨r, s', ρ', V', hr, hrel, hinv, hgrew⟩
  refine ⟨r, s', hr, ρ', V', ?_, hinv, h3.mono hgrew.view, h4.trans hgrew, by rw [o7]; exact h5, by rw [rG]; exact h6.keep h2 hgrew.keep, fun id hid => by rw [hgrew.old id (hund id hid)]; exact h7 id hid⟩
  exact pU (dst := o.dst) (fun i => (h1 i).mono hgrew.rho hgrew.view) hrel h5 hd

theorem Grew.didV {B : Base} {ρ ρ' : Rho} {V V' : bw} {s : HS} {w w' : World} {fr : Nat} {e : Eff} {y : Value} (h : Grew B.ρ B.V B.s B.w ρ V s w) (hfr : B.s.next ≤ fr) (hd : DidV ρ V s w fr e y ρ' V' w') :
  Grew B.ρ B.V B.s B.w ρ' V' ⟨dc fr e.act s.objs, s.next⟩ w' where
 rho id loc hr := hd.rho _ _ (h.rho _ _ hr)
 old id hid := by rw [hd.oth id (by omega), h.old id hid]
 next := h.next
 view b c hv := hd.view _ _ (h.view _ _ hv)
 size := Nat.le_trans h.size hd.size
 keep b hb hn := by
  rw [hd.keep b (Nat.lt_of_lt_of_le hb h.size) fun ho => ?_, h.keep b hb hn]
  rcases h.own b ho with h1 | h1
  ·
   exact hn h1
  ·
   omega
 own b ho := by
  rcases hd.own b ho with h1 | h1
  ·
   exact h.own b h1
  ·
   exact .inr (Nat.le_trans h.size h1)
 vnew b c hv := by
  rcases hd.vnew b c hv with h1 | h1 | h1
  ·
   exact h.vnew b c h1
  ·
   exact .inr (h.own b h1)
  ·
   exact .inr (.inr (Nat.le_trans h.size h1))
 mem := h.mem.trans hd.mem

theorem Fa {ρ : Rho} {V : bw} {hs : HS} {w : World} {fr : Nat} (hI : Inv ρ V hs w) (e : TypeId) (s : ByteArray) :
  DidV ρ V hs w fr ⟨.imm (s.data.toList.map fun c => .v (.int .u8 c.toNat)) s.size, .none⟩ (.slice (some ⟨w.heap.size, 0, none⟩) s.size (grownCap w s.size 0 e)) ρ
   (fun b => if b = w.heap.size then some (Lib.bytesCells w e s) else V b) (Lib.bytesWorld w e s) := by
 have hV : ∀ b c, V b = some c → (if b = w.heap.size then some (Lib.bytesCells w e s) else V b) = some c := by
  intro b c h
  have := hI.view_lt h
  rw [if_neg (by omega)]; exact h
 have hcs : (s.data.toList.map fun c => AV.v (.int .u8 (c.toNat : Int))).length = s.size := by rw [List.length_map, Array.length_toList]; rfl
 have hsz : s.size ≤ (Lib.bytesCells w e s).size := by
  have : s.data.size = s.size := rfl
  unfold Lib.bytesCells; rw [Array.size_append, Array.size_map]; omega
 have hat : ∀ i, i < s.size → (Lib.bytesCells w e s)[i]? = some (.int .u8 ((s.data.toList[i]?.getD 0).toNat : Int)) := by
  intro i hi
  have hi' : i < s.data.size := hi
  unfold Lib.bytesCells
  rw [Array.getElem?_append_left (by rw [Array.size_map]; exact hi'), Array.getElem?_map, Array.getElem?_eq_getElem hi', Array.getElem?_toList, Array.getElem?_eq_getElem hi']
  rfl
 have hrc : RelC ρ (fun b => if b = w.heap.size then some (Lib.bytesCells w e s) else V b) (s.data.toList.map fun c => AV.v (.int .u8 (c.toNat : Int))) (Lib.bytesCells w e s) 0 := by
  refine ⟨by rw [hcs]; omega, fun i x y hx hy => ?_, fun i y hi hy => ?_⟩
  ·
   have hi : i < s.size := by rw [← hcs]; exact (List.getElem?_eq_some_iff.1 hx).1
   rw [Nat.zero_add, hat i hi] at hy
   cases hy
   have hi' : i < s.data.toList.length := by rw [Array.length_toList]; exact hi
   rw [List.getElem?_map, List.getElem?_eq_getElem hi'] at hx
   simp only [Option.map_some, Option.some.injEq] at hx
   subst hx
   rw [List.getElem?_eq_getElem hi']
   exact .v _
  ·
   rw [hcs] at hi
   rw [Nat.zero_add, hat i hi] at hy
   cases hy; rfl
 refine ⟨Rel.imm_of _ _ (grownCap_ge _ _ _ _) (if_pos rfl) hrc, ?_, fun _ _ h => h, fun _ _ => rfl, hV, by rw [Lib.bytesWorld_size]; omega, fun b hb _ => Lib.bytesWorld_at_old w e s b hb, fun _ h => .inl h, fun b c h => ?_, ?_⟩
 ·
  refine ⟨fun b c h => ?_, hI.fresh, fun id cells loc hl hρ => ?_, fun id cells loc hl hρ => ?_, hI.inj⟩
  ·
   by_cases hb : b = w.heap.size
   ·
    simp only [hb, if_true, Option.some.injEq] at h
    subst hb; subst h
    exact ⟨_, _, Lib.bytesWorld_at_new w e s⟩
   ·
    simp only [if_neg hb] at h
    obtain ⟨T, fz, h1⟩ := hI.view b c h
    exact ⟨T, fz, by rw [Lib.bytesWorld_at_old w e s b (hI.view_lt h)]; exact h1⟩
  ·
   obtain ⟨c, T, h1, h2, h3, h4⟩ := hI.live id cells loc hl hρ
   have hlt := fJ h1
   exact ⟨c, T, by rw [Lib.bytesWorld_at_old w e s _ hlt]; exact h1, h2, h3.mono (fun _ _ h => h) hV, by show (if loc.b = w.heap.size then some (Lib.bytesCells w e s) else V loc.b) = none; rw [if_neg (by omega)]; exact h4⟩
  ·
   obtain ⟨c, h1, h2, h3⟩ := hI.froz id cells loc hl hρ
   exact ⟨c, hV _ _ h1, h2.mono (fun _ _ h => h) hV, h3⟩
 ·
  by_cases hb : b = w.heap.size
  ·
   exact .inr (.inr (by omega))
  ·
   simp only [if_neg hb] at h; exact .inl h
 ·
  refine ⟨?_, ?_, by rw [Lib.bytesWorld_size]; omega, fun a ha => ?_⟩
  ·
   simp [Lib.bytesWorld, World.freeze, World.alloc, World.drew, -World.alloc_eq, -World.drew_eq]
  ·
   simp [Lib.bytesWorld, World.freeze, World.alloc, World.drew, -World.alloc_eq, -World.drew_eq]
  ·
   simp only [World.frozen?, Lib.bytesWorld_at_old w e s _ ha]

theorem Co {C : Ctx} {ρ : Rho} {V : bw} {s : AS} {w : World} {fr : Nat} {a : Act} {o : Oper} {e : Eff} (hC : COk C) (hT : ∀ t, Rel ρ V (s.tmps t) (a.tmps.getD t undef)) (hI : Inv ρ V s.toHS w) (hG : mB C V) (hfr : ρ fr = none) (hlt : fr < s.next)
  (h : ce C s fr o.op = some e) : ∃ y ρ' V' w', ((execOp a.eval o).run C.P w = .ok (.value y) w' ∨ ((execOp a.eval o).run C.P w = .ok .skip w' ∧ y = undef)) ∧ DidV ρ V s.toHS w fr e y ρ' V' w' := by
 have old : (∀ a b x, o.op = .convert a b x → sbE C.P a b (ev C s x) = none) → ∃ y ρ' V' w', ((execOp a.eval o).run C.P w = .ok (.value y) w' ∨ ((execOp a.eval o).run C.P w = .ok .skip w' ∧ y = undef)) ∧ DidV ρ V s.toHS w fr e y ρ' V' w' := by
  intro hsb
  obtain ⟨y, ρ', w', hr, hd⟩ := DL hC hT hI hG hfr hlt h hsb
  exact ⟨y, ρ', V, w', hr, hd.rel, hd.inv, hd.rho, hd.oth, fun _ _ h => h, hd.size, hd.keep, hd.own, fun _ _ h => .inl h, hd.mem⟩
 obtain ⟨dst, op, type, pos, after, guard⟩ := o
 cases op with
 | convert t u x =>
  cases hs : sbE C.P t u (ev C s x) with
  | none => exact old fun a b x' hop => by cases hop; exact hs
  | some v =>
   have E := jD hT hG x
   unfold sbE at hs
   split at hs
   ·
    rename_i str hx
    rw [hx] at E
    have hy := Rel.v_inv E
    split at hs
    ·
     rename_i ut el hu1 hu2
     split at hs
     ·
      rename_i hu3
      have hin : inK C.P u = none := by unfold inK; rw [hu2]; rfl
      have hsb : sbE C.P t u (ev C s x) = some v := by
       unfold sbE; rw [hx]; simp only [hu1, hu2, hu3]; exact hs
      simp only [ce, hin, hsb, Option.some.injEq] at h
      subst h
      cases hs
      refine ⟨_, ρ, _, _, .inl (aC (x := convert t u (a.eval x)) ?_), Fa hI el str⟩
      rw [hy]
      exact Lib.run_convert_string_bytes w t u el str hu1 hu2 hu3
     ·
      cases hs
    ·
     cases hs
   ·
    cases hs
 | _ => exact old fun a b x' hop => by cases hop

theorem AH {C : Ctx} (hC : COk C) {N : Nat} {B : Base} {und : Nat → Prop} {s : AS} {a : Act} {w : World} {fr : Nat} {o : Oper} {e : Eff} (h : GS C N B und s a w) (hfr : und fr) (hlt : fr < s.next) (hB : B.s.next ≤ fr) (he : ce C s fr o.op = some e)
  (hd : ∀ d, o.dst = some d → d < N) (Q : Exit → Act → World → Prop) :
  o.wp C.P a w (fun a' w' => GS C N B (fun id => und id ∧ id ≠ fr) (s.apply o.dst fr e) a' w') Q := by
 obtain ⟨ρ, V, h1, h2, h3, h4, h5, h6, h7⟩ := h
 obtain ⟨y, ρ', V', w', hr, hdid⟩ := Co hC h1 h2 h3 (h7 fr hfr) hlt he
 refine Cb hr ⟨ρ', V', ?_, hdid.inv, h3.mono hdid.view, h4.didV hB hdid, by rw [o7]; exact h5, by rw [rG]; exact h6.keep h2 hdid.keep, fun id hid => by rw [hdid.oth id hid.2]; exact h7 id hid.1⟩
 have := pU (dst := o.dst) (fun i => (h1 i).mono hdid.rho hdid.view) hdid.rel h5 hd
 exact this

theorem wx {C : Ctx} {N : Nat} {B : Base} {und : Nat → Prop} {s : AS} {a : Act} {w : World} {fr : Nat} {o : Oper} {f : FuncId} {args : List AV} {e : Eff} (h : GS C N B und s a w) (hc : dV C s o.op = some (f, args)) (hs : jM C f args s.toHS fr e)
  (hfr : und fr) (hlt : fr < s.next) (hB : B.s.next ≤ fr) (hd : ∀ d, o.dst = some d → d < N) (Q : Exit → Act → World → Prop) :
  o.wp C.P a w (fun a' w' => GS C N B (fun id => und id ∧ id ≠ fr) (s.apply o.dst fr e) a' w') Q := by
 obtain ⟨ρ, V, h1, h2, h3, h4, h5, h6, h7⟩ := h
 obtain ⟨args', g1, g2, g3⟩ := Ar h1 h3 hc w
 refine Ca (R := fun y w' => ∃ ρ' V', DidV ρ V s.toHS w fr e y ρ' V' w') g3 ((hs ρ V w args' g1 g2 h2 h3 (h7 fr hfr) hlt).mono ?_) ?_
 ·
  rintro ed w' ⟨y, ρ', V', he, hr⟩
  exact ⟨y, he, ρ', V', hr⟩
 ·
  rintro y w' ⟨ρ', V', hdid⟩
  refine ⟨ρ', V', ?_, hdid.inv, h3.mono hdid.view, h4.didV hB hdid, by rw [o7]; exact h5, by rw [rG]; exact h6.keep h2 hdid.keep, fun id hid => by rw [hdid.oth id hid.2]; exact h7 id hid.1⟩
  exact pU (dst := o.dst) (fun i => (h1 i).mono hdid.rho hdid.view) hdid.rel h5 hd

def kh (C : Ctx) (s : AS) (fr : Nat) (o : Oper) (K : AS → Prop) : Prop :=
 match dV C s o.op with
 | some (f, args) => (∃ R, Snd C f args s.toHS R ∧ ∀ r hs, R r hs → K { hs with tmps := jc s.tmps o.dst r }) ∨ (∃ e, jM C f args s.toHS fr e ∧ K (s.apply o.dst fr e))
 | none => match ce C s fr o.op with
  | some e => K (s.apply o.dst fr e)
  | none => False

def kr (C : Ctx) (all : List Oper) (base : Nat) : Nat → List Oper → AS → (AS → Prop) → Prop
 | _, [], s, K => K s
 | i, o :: rest, s, K => match o.guard with
  | none => kh C s (base + i) o fun s' => kr C all base (i + 1) rest s' K
  | some (g, want) => match (all[g]?).bind (·.dst) with
   | some d => ∃ x, s.tmps d = .v x ∧ (x = .bool want → kh C s (base + i) o fun s' => kr C all base (i + 1) rest s' K) ∧ (x ≠ .bool want → kr C all base (i + 1) rest { s with tmps := jc s.tmps o.dst (.v undef) } K)
   | none => False

theorem mC {ops : Array Oper} {o : Oper} {g : Nat} {want : Bool} {x : Value} {d : Nat} {ρ : Rho} {V : bw} {s : AS} {a : Act} {N : Nat} (hg : o.guard = some (g, want)) (hd : (ops.toList[g]?).bind (·.dst) = some d) (hT : ∀ t, Rel ρ V (s.tmps t) (a.tmps.getD t undef)) (hb : s.tmps d = .v x)
  (hN : a.tmps.size = N) (hdN : d < N) : (x = .bool want → Region.wanted o (yielded ops a.tmps) = true) ∧ (x ≠ .bool want → Region.wanted o (yielded ops a.tmps) = false) := by
 have h1 := hT d
 rw [hb] at h1
 have h2 := Rel.v_inv h1
 have hlt : d < a.tmps.size := by omega
 have h3 : a.tmps[d]? = some x := by
  simp [hlt] at h2 ⊢; exact h2
 have hd' : (ops[g]?).bind (·.dst) = some d := by rw [← Array.getElem?_toList]; exact hd
 constructor
 ·
  rintro rfl
  simp [Region.wanted, hg, yielded, hd', h3]
 ·
  intro hx
  cases x <;> simp [Region.wanted, hg, yielded, hd', h3]
  intro hh; exact hx (by rw [hh])

theorem yf {C : Ctx} (hC : COk C) {N : Nat} {B : Base} {und : Nat → Prop} {s : AS} {a : Act} {w : World} {fr : Nat} {o : Oper} {K : AS → Prop} (h : GS C N B und s a w) (hfr : und fr) (hund : ∀ id, und id → id < s.next) (hB : B.s.next ≤ fr)
  (hd : ∀ d, o.dst = some d → d < N) (Q : Exit → Act → World → Prop) (hk : kh C s fr o K) :
  o.wp C.P a w (fun a' w' => ∃ s', K s' ∧ s.next ≤ s'.next ∧ GS C N B (fun id => und id ∧ id ≠ fr) s' a' w') Q := by
 unfold kh at hk
 split at hk
 ·
  rename_i f args hc
  rcases hk with ⟨R, h1, h2⟩ | ⟨e, h1, h2⟩
  ·
   refine Oper.wp_mono ?_ (xK h hc (R := fun r hs => R r hs ∧ s.next ≤ hs.next) ?_ hund hd Q)
   ·
    rintro a' w' ⟨r, hs', ⟨hr, hn⟩, ρ, V, g1, g2, g3, g4, g5, g6, g7⟩
    exact ⟨_, h2 r hs' hr, hn, ρ, V, g1, g2, g3, g4, g5, g6, fun id hid => g7 id hid.1⟩
   ·
    refine ⟨h1.1, fun ρ V w args' a1 a2 a3 a4 => (h1.2 ρ V w args' a1 a2 a3 a4).mono ?_⟩
    rintro e w' ⟨y, r, s', ρ', V', b1, b2, b3, b4, b5⟩
    exact ⟨y, r, s', ρ', V', b1, ⟨b2, b5.next⟩, b3, b4, b5⟩
  ·
   refine Oper.wp_mono ?_ (wx h hc h1 hfr (hund fr hfr) hB hd Q)
   intro a' w' hg
   exact ⟨_, h2, Nat.le_refl _, hg⟩
 ·
  split at hk
  ·
   rename_i e he
   refine Oper.wp_mono ?_ (AH hC h hfr (hund fr hfr) hB he hd Q)
   intro a' w' hg
   exact ⟨_, hk, Nat.le_refl _, hg⟩
  ·
   exact hk.elim

theorem vQ {C : Ctx} (hC : COk C) {N : Nat} {B : Base} {ops : Array Oper} {Q : Exit → Act → World → Prop} {base : Nat} (hB : B.s.next ≤ base) (hdst : ∀ o ∈ ops, ∀ d, o.dst = some d → d < N) {K : AS → Prop}
  (hQ : ∀ s a w, K s → GS C N B (fun _ => False) s a w → Q .normal a w) :
  ∀ (l : List Oper) (i : Nat) (s : AS) (a : Act) (w : World), ops.toList.drop i = l → base + ops.size ≤ s.next → GS C N B (fun id => base + i ≤ id ∧ id < base + ops.size) s a w → kr C ops.toList base i l s K →
   wpOps C.P ops Q ((List.range ops.size).drop i) a w := by
 intro l
 induction l with
 | nil =>
  intro i s a w hl hn hg hk
  have hi : ops.size ≤ i := by
   have := congrArg List.length hl
   simp at this; omega
  rw [List.drop_eq_nil_of_le (by simpa using hi)]
  obtain ⟨ρ, V, h1, h2, h3, h4, h5, h6, h7⟩ := hg
  exact hQ s a w hk ⟨ρ, V, h1, h2, h3, h4, h5, h6, fun id hid => hid.elim⟩
 | cons o rest ih =>
  intro i s a w hl hn hg hk
  have hi : i < ops.size := by
   rcases Nat.lt_or_ge i ops.size with h | h
   ·
    exact h
   ·
    rw [List.drop_eq_nil_of_le (by simpa using h)] at hl; cases hl
  have ho : ops[i]? = some o := by
   have : ops.toList[i]? = some o := by
    have := congrArg List.head? hl
    simpa [List.head?_drop] using this
   rw [← Array.getElem?_toList]; exact this
  have hom : o ∈ ops := Array.mem_of_getElem? ho
  have hrest : ops.toList.drop (i + 1) = rest := by
   have : ops.toList.drop (i + 1) = (ops.toList.drop i).drop 1 := by rw [List.drop_drop]
   rw [this, hl]; rfl
  have hdr : (List.range ops.size).drop i = i :: (List.range ops.size).drop (i + 1) := by
   rw [List.drop_eq_getElem_cons (by simpa using hi)]; simp
  rw [hdr]
  simp only [wpOps, ho]
  have hund : ∀ id, base + i ≤ id ∧ id < base + ops.size → id < s.next := fun id hid => by omega
  have go : kh C s (base + i) o (fun s' => kr C ops.toList base (i + 1) rest s' K) → o.wp C.P a w (wpOps C.P ops Q ((List.range ops.size).drop (i + 1))) Q := by
   intro hst
   refine Oper.wp_mono ?_ (yf hC hg ⟨Nat.le_refl _, by omega⟩ hund (by omega) (hdst o hom) Q hst)
   rintro a' w' ⟨s', hk', hn', ρ, V, h1, h2, h3, h4, h5, h6, h7⟩
   exact ih (i + 1) s' a' w' hrest (by omega) ⟨ρ, V, h1, h2, h3, h4, h5, h6, fun id hid => h7 id ⟨⟨by omega, hid.2⟩, by omega⟩⟩ hk'
  have skip : kr C ops.toList base (i + 1) rest { s with tmps := jc s.tmps o.dst (.v undef) } K → wpOps C.P ops Q ((List.range ops.size).drop (i + 1)) (a.put o.dst undef) w := by
   intro hst
   have hp := hg.put (dst := o.dst) (hdst o hom)
   obtain ⟨ρ, V, h1, h2, h3, h4, h5, h6, h7⟩ := hp
   exact ih (i + 1) { s with tmps := jc s.tmps o.dst (.v undef) } _ w hrest hn ⟨ρ, V, h1, h2, h3, h4, h5, h6, fun id hid => h7 id ⟨by omega, hid.2⟩⟩ hst
  simp only [kr] at hk
  split at hk
  ·
   rename_i hgd
   have hw : Region.wanted o (yielded ops a.tmps) = true := by simp [Region.wanted, hgd]
   rw [if_pos hw]
   exact .inl (go hk)
  ·
   rename_i g want hgd
   split at hk
   ·
    rename_i d hd
    obtain ⟨x, hb, hy, hno⟩ := hk
    obtain ⟨ρ, V, h1, h2, h3, h4, h5, h6, h7⟩ := hg
    have hdN : d < N := by
     obtain ⟨og, hog, hdg⟩ := Option.bind_eq_some_iff.1 hd
     exact hdst og (by rw [← Array.mem_toList_iff]; exact List.mem_of_getElem? hog) d hdg
    have hw := mC hgd hd h1 hb h5 hdN
    by_cases hbw : x = .bool want
    ·
     rw [hw.1 hbw, if_pos rfl]
     exact .inl (go (hy hbw))
    ·
     rw [hw.2 hbw, if_neg (by simp)]
     exact skip (hno hbw)
   ·
    exact hk.elim

end Go.AX

/-! (AxP) -/

namespace Go.AX

def z8 (C : Ctx) (f : FuncId) (args : List AV) (objs : Nat → Ob) (rd : gz) (r : AV) : Prop :=
 ∀ hs : HS, fH rd objs hs.objs → Snd C f args hs fun r' hs' => r' = r ∧ hs' = hs

def ny (C : Ctx) (f : FuncId) (args : List AV) (objs : Nat → Ob) (rd : gz) (fr : Nat) (e : Eff) : Prop :=
 ∀ hs : HS, fH rd objs hs.objs → jM C f args hs fr e

theorem z8.toE {C : Ctx} {f : FuncId} {args : List AV} {objs : Nat → Ob} {rd : gz} {r : AV} (h : z8 C f args objs rd r) (fr : Nat) : ny C f args objs rd fr ⟨r, .none⟩ :=
 fun hs hh => (h hs hh).toE fr

def eP (p : eK) (acc : List eK) : List eK := if p.2.1.isEmpty && p.2.2.isEmpty then acc else p :: acc

def dZ (all : List Oper) (m : Nat) : Bool := (List.range all.length).all fun i => decide (i = m) || (if i < m then eh all i m else eh all m i)

def dr (C : Ctx) (all : List Oper) (base : Nat) : Nat → List Oper → AS → List eK → (AS → Prop) → Prop
 | _, [], s, acc, K => bS all acc = true ∧ K s
 | i, o :: rest, s, acc, K => match o.guard with
  | none => match dV C s o.op with
   | some (f, args) => (∃ e rd, ny C f args s.objs rd (base + i) e ∧ dr C all base (i + 1) rest (s.apply o.dst (base + i) e) (eP (i, rd, cG (base + i) e.act) acc) K) ∨
     (dZ all i = true ∧ bS all acc = true ∧ ∃ R, Snd C f args s.toHS R ∧ ∀ r hs, R r hs → dr C all base (i + 1) rest { hs with tmps := jc s.tmps o.dst r } [] K)
   | none => match ce C s (base + i) o.op with
    | some e => dr C all base (i + 1) rest (s.apply o.dst (base + i) e) (eP (i, fO C s o.op, cG (base + i) e.act) acc) K
    | none => False
  | some (g, want) => match (all[g]?).bind (·.dst) with
   | some d => ∃ x, s.tmps d = .v x ∧
     (x = .bool want → match dV C s o.op with
      | some (f, args) => (∃ e rd, ny C f args s.objs rd (base + i) e ∧ dr C all base (i + 1) rest (s.apply o.dst (base + i) e) (eP (i, rd, cG (base + i) e.act) acc) K) ∨
        (dZ all i = true ∧ bS all acc = true ∧ ∃ R, Snd C f args s.toHS R ∧ ∀ r hs, R r hs → dr C all base (i + 1) rest { hs with tmps := jc s.tmps o.dst r } [] K)
      | none => match ce C s (base + i) o.op with
       | some e => dr C all base (i + 1) rest (s.apply o.dst (base + i) e) (eP (i, fO C s o.op, cG (base + i) e.act) acc) K
       | none => False) ∧
     (x ≠ .bool want → dr C all base (i + 1) rest { s with tmps := jc s.tmps o.dst (.v undef) } acc K)
   | none => False

def wA (C : Ctx) (fr : Nat) (o : Oper) (e : Eff) (rd : gz) (s : AS) : Prop :=
 (dV C s o.op = none ∧ ce C s fr o.op = some e ∧ fO C s o.op = rd) ∨ (∃ f args, dV C s o.op = some (f, args) ∧ ny C f args s.objs rd fr e)

def lQ (C : Ctx) (all : List Oper) (fr : Nat) (o : Oper) (e : Eff) (rd : gz) (s : AS) : Prop :=
 match o.guard with
 | none => wA C fr o e rd s
 | some (g, want) => ∃ d x, (all[g]?).bind (·.dst) = some d ∧ s.tmps d = .v x ∧ (x = .bool want → wA C fr o e rd s) ∧ (x ≠ .bool want → e = ⟨.v undef, .none⟩)

def M9 (all : List Oper) (s : AS) (o : Oper) : Prop := o.guard = none ∨ ∃ g want d, o.guard = some (g, want) ∧ (all[g]?).bind (·.dst) = some d ∧ s.tmps d = .v (.bool want)
def DX (C : Ctx) (all : List Oper) (base : Nat) (l : List Oper) (i m : Nat) (K : AS → Prop) (sn : AS) : Prop :=
 (m = l.length ∧ K sn) ∨ ∃ o f args R, l[m]? = some o ∧ M9 all sn o ∧ dV C sn o.op = some (f, args) ∧ dZ all (i + m) = true ∧ Snd C f args sn.toHS R ∧
  ∀ r hs, R r hs → dr C all base (i + m + 1) (l.drop (m + 1)) { hs with tmps := jc sn.tmps o.dst r } [] K

theorem DX.cons {C : Ctx} {all : List Oper} {base : Nat} {l : List Oper} {i m : Nat} {K : AS → Prop} {sn : AS} (o : Oper) (h : DX C all base l (i + 1) m K sn) : DX C all base (o :: l) i (m + 1) K sn := by
 rcases h with ⟨h1, h2⟩ | ⟨o', f, args, R, h1, h2, h3, h4, h5, h6⟩
 ·
  exact .inl ⟨by simp [h1], h2⟩
 ·
  refine .inr ⟨o', f, args, R, by simpa using h1, h2, h3, ?_, h5, fun r hs hr => ?_⟩
  ·
   rw [show i + (m + 1) = i + 1 + m by omega]; exact h4
  ·
   have := h6 r hs hr
   rw [show i + (m + 1) + 1 = i + 1 + m + 1 by omega, List.drop_succ_cons]; exact this

theorem vH {C : Ctx} {all : List Oper} {base : Nat} {K : AS → Prop} : ∀ (l : List Oper) (i : Nat) (s : AS) (acc : List eK), dr C all base i l s acc K →
  ∃ (m : Nat) (es : List (Eff × gz)) (acc' : List eK) (ss : List AS) (sn : AS), m ≤ l.length ∧ es.length = m ∧ ss.length = m ∧ bS all acc' = true ∧ DX C all base l i m K sn ∧ (∀ p ∈ acc, p ∈ acc') ∧
   (ss ++ [sn])[0]? = some s ∧
   (∀ (j : Nat) o e rd t, l[j]? = some o → es[j]? = some (e, rd) → ss[j]? = some t → lQ C all (base + (i + j)) o e rd t ∧ (ss ++ [sn])[j + 1]? = some (t.apply o.dst (base + (i + j)) e) ∧
    ((rd = [] ∧ cG (base + (i + j)) e.act = []) ∨ (i + j, rd, cG (base + (i + j)) e.act) ∈ acc'))
 | [], i, s, acc, h => ⟨0, [], acc, [], s, Nat.le_refl _, rfl, rfl, h.1, .inl ⟨rfl, h.2⟩, fun _ h => h, rfl, fun j o e rd t h1 => by simp at h1⟩
 | o :: rest, i, s, acc, h => by
  -- one step, however it went
  have key : ∀ (e : Eff) (rd : gz) (acc1 : List eK), lQ C all (base + i) o e rd s → ((rd = [] ∧ cG (base + i) e.act = []) ∨ (i, rd, cG (base + i) e.act) ∈ acc1) → (∀ p ∈ acc, p ∈ acc1) →
    dr C all base (i + 1) rest (s.apply o.dst (base + i) e) acc1 K → ∃ (m : Nat) (es : List (Eff × gz)) (acc' : List eK) (ss : List AS) (sn : AS), m ≤ (o :: rest).length ∧ es.length = m ∧ ss.length = m ∧ bS all acc' = true ∧ DX C all base (o :: rest) i m K sn ∧ (∀ p ∈ acc, p ∈ acc') ∧
   (ss ++ [sn])[0]? = some s ∧
   (∀ (j : Nat) o' e rd t, (o :: rest)[j]? = some o' → es[j]? = some (e, rd) → ss[j]? = some t → lQ C all (base + (i + j)) o' e rd t ∧ (ss ++ [sn])[j + 1]? = some (t.apply o'.dst (base + (i + j)) e) ∧
    ((rd = [] ∧ cG (base + (i + j)) e.act = []) ∨ (i + j, rd, cG (base + (i + j)) e.act) ∈ acc')) := by
   intro e rd acc1 hdoes hpr hacc hrest
   obtain ⟨m, es, acc', ss, sn, h0, h1, h2, h3, h4, h5, h6, h7⟩ := vH rest (i + 1) _ acc1 hrest
   refine ⟨m + 1, (e, rd) :: es, acc', s :: ss, sn, by simp [h0], by simp [h1], by simp [h2], h3, h4.cons o, fun p hp => h5 p (hacc p hp), rfl, fun j o' e' rd' t ho he ht => ?_⟩
   cases j with
   | zero =>
    simp at ho he ht
    obtain ⟨rfl, rfl⟩ := he
    subst ho; subst ht
    refine ⟨hdoes, by simpa using h6, ?_⟩
    rcases hpr with hp | hp
    ·
     exact .inl hp
    ·
     exact .inr (h5 _ hp)
   | succ j =>
    simp at ho he ht
    have := h7 j o' e' rd' t ho he ht
    rw [show i + 1 + j = i + (j + 1) by omega] at this
    simpa using this
  have addP_or : ∀ (rd wr : gz), ((rd = [] ∧ wr = []) ∨ (i, rd, wr) ∈ eP (i, rd, wr) acc) ∧ (∀ p ∈ acc, p ∈ eP (i, rd, wr) acc) := by
   intro rd wr
   unfold eP
   by_cases hh : (rd.isEmpty && wr.isEmpty) = true
   ·
    simp only [hh, if_true]
    simp at hh
    exact ⟨.inl hh, fun p hp => hp⟩
   ·
    simp only [hh]
    exact ⟨.inr (by simp), fun p hp => by simp [hp]⟩
  simp only [dr] at h
  split at h
  ·
   rename_i hgd
   split at h
   ·
    rename_i f args hc
    rcases h with ⟨e, rd, hq, hrest⟩ | ⟨hb, hpr, R, hs, hrest⟩
    ·
     exact key e rd _ (by unfold lQ; rw [hgd]; exact .inr ⟨f, args, hc, hq⟩) (addP_or rd _).1 (addP_or rd _).2 hrest
    ·
     exact ⟨0, [], acc, [], s, Nat.zero_le _, rfl, rfl, hpr, .inr ⟨o, f, args, R, rfl, .inl hgd, hc, hb, hs, hrest⟩, fun _ h => h, rfl, fun j o' e rd t _ h2 => by simp at h2⟩
   ·
    rename_i hc
    split at h
    ·
     rename_i e he
     exact key e (fO C s o.op) _ (by unfold lQ; rw [hgd]; exact .inl ⟨hc, he, rfl⟩) (addP_or _ _).1 (addP_or _ _).2 h
    ·
     exact h.elim
  ·
   rename_i g want hgd
   split at h
   ·
    rename_i d hd
    obtain ⟨b, hb, hy, hn⟩ := h
    by_cases hbw : b = .bool want
    ·
     have hnn : ¬ (b ≠ .bool want) := fun hh => hh hbw
     have h := hy hbw
     split at h
     ·
      rename_i f args hc
      rcases h with ⟨e, rd, hq, hrest⟩ | ⟨hba, hpr, R, hs, hrest⟩
      ·
       exact key e rd _ (by unfold lQ; rw [hgd]; exact ⟨d, b, hd, hb, fun _ => .inr ⟨f, args, hc, hq⟩, fun hh => absurd hh hnn⟩) (addP_or rd _).1 (addP_or rd _).2 hrest
      ·
       exact ⟨0, [], acc, [], s, Nat.zero_le _, rfl, rfl, hpr, .inr ⟨o, f, args, R, rfl, .inr ⟨g, want, d, hgd, hd, by rw [hb, hbw]⟩, hc, hba, hs, hrest⟩, fun _ h => h, rfl, fun j o' e' rd' t _ h2 => by simp at h2⟩
     ·
      rename_i hc
      split at h
      ·
       rename_i e he
       exact key e (fO C s o.op) _ (by unfold lQ; rw [hgd]; exact ⟨d, b, hd, hb, fun _ => .inl ⟨hc, he, rfl⟩, fun hh => absurd hh hnn⟩) (addP_or _ _).1 (addP_or _ _).2 h
      ·
       exact h.elim
    ·
     have hbn : b ≠ .bool want := hbw
     exact key ⟨.v undef, .none⟩ [] acc (by unfold lQ; rw [hgd]; exact ⟨d, b, hd, hb, fun hh => absurd hh hbw, fun _ => rfl⟩) (.inl ⟨rfl, rfl⟩) (fun p hp => hp) (hn hbn)
   ·
    exact h.elim

theorem xF (x y : Option (Nat × Nat)) : kg x y = kg y x := by
 cases x with
 | none => cases y <;> rfl
 | some a =>
  cases y with
  | none => rfl
  | some b => simp only [kg]; rw [Bool.and_comm]

theorem qy (a b : gz) : ek a b = ek b a := by
 unfold ek
 rw [Bool.eq_iff_iff]
 simp only [List.any_eq_true, Bool.and_eq_true, beq_iff_eq]
 constructor
 ·
  rintro ⟨x, hx, y, hy, h1, h2⟩; exact ⟨y, hy, x, hx, h1.symm, by rw [xF]; exact h2⟩
 ·
  rintro ⟨x, hx, y, hy, h1, h2⟩; exact ⟨y, hy, x, hx, h1.symm, by rw [xF]; exact h2⟩

theorem nd {ops : List Oper} (hok : kL ops = true) : ∀ (j i : Nat), eh ops i j = true → i < j := by
 intro j
 induction j using Nat.strongRecOn with
 | _ j ih =>
  intro i h
  unfold eh at h
  rcases Nat.lt_or_ge j ops.length with hlt | hge
  ·
   have ho : ops[j]? = some ops[j] := by simp [hlt]
   have hg := sx ops [] j ops[j] ho
   simp only [List.length_nil, Nat.zero_add] at hg
   rw [List.getD_eq_getElem?_getD, hg, Option.getD_some] at h
   obtain ⟨e, he, hb, h1⟩ := u0 h
   have hej := fK hok ho he hb
   rcases h1 with h1 | h1
   ·
    omega
   ·
    have := ih e.on hej i (by
     unfold eh
     rw [List.getD_eq_getElem?_getD, List.getElem?_take, if_pos hej, ← List.getD_eq_getElem?_getD] at h1
     exact h1)
    omega
  ·
   obtain ⟨l, hl, hll⟩ := vL ops []
   rw [hl, List.nil_append, List.getD_eq_getElem?_getD, List.getElem?_eq_none (by omega)] at h
   simp at h

theorem De {C : Ctx} {all : Array Oper} {o : Oper} {s s' : AS} (h : ∀ t ∈ o.looksAt all, s'.tmps t = s.tmps t) : (∀ x ∈ o.op.operands, ev C s' x = ev C s x) ∧ dV C s' o.op = dV C s o.op := by
 have h1 : ∀ x ∈ o.op.operands, ev C s' x = ev C s x := by
  intro x hx
  refine Gm fun t ht => h t ?_
  subst ht
  unfold Oper.looksAt
  exact List.mem_append_left _ (List.mem_filterMap.2 ⟨.tmp t, Array.mem_toList_iff.2 hx, rfl⟩)
 refine ⟨h1, ?_⟩
 obtain ⟨dst, op, type, pos, after, guard⟩ := o
 cases op <;> try rfl
 rename_i c
 obtain ⟨callee, args, ts⟩ := c
 cases callee <;> try rfl
 rename_i f
 simp only [dV]
 simp only [Op.operands, Call.operands] at h1
 rw [h1 f (by simp)]
 have : args.toList.map (ev C s') = args.toList.map (ev C s) := List.map_congr_left fun x hx => h1 x (by simp [Array.mem_toList_iff.1 hx])
 rw [this]

theorem yb {C : Ctx} {all : Array Oper} {fr : Nat} {o : Oper} {e : Eff} {rd : gz} {s s' : AS} (hT : ∀ t ∈ o.looksAt all, s'.tmps t = s.tmps t) (hR : fH rd s.objs s'.objs) (h : lQ C all.toList fr o e rd s) : lQ C all.toList fr o e rd s' := by
 have key : wA C fr o e rd s → wA C fr o e rd s' := by
  obtain ⟨h1, h2⟩ := De (C := C) hT
  rintro (⟨g1, g2, g3⟩ | ⟨f, args, g1, g3⟩)
  ·
   obtain ⟨e1, e2⟩ := Aa (fr := fr) h1 (by rw [g3]; exact hR)
   exact .inl ⟨by rw [h2]; exact g1, by rw [e1]; exact g2, by rw [e2]; exact g3⟩
  ·
   exact .inr ⟨f, args, by rw [h2]; exact g1, fun hs hh => g3 hs (hR.trans hh)⟩
 unfold lQ at *
 split at h
 ·
  exact key h
 ·
  rename_i g want hg
  obtain ⟨d, b, h1, h2, h3, h4⟩ := h
  refine ⟨d, b, h1, ?_, fun hb => key (h3 hb), h4⟩
  rw [hT d ?_]
  ·
   exact h2
  ·
   unfold Oper.looksAt
   rw [hg]
   refine List.mem_append_right _ ?_
   have : (all[g]?).bind (·.dst) = some d := by rw [← Array.getElem?_toList]; exact h1
   simp [this]

theorem BM : ∀ (l : List Bool) (i : Nat), l[i]? = some false → (l.set i true).count false + 1 = l.count false
 | [], i, h => by simp at h
 | b :: l, 0, h => by simp at h; subst h; simp
 | b :: l, i + 1, h => by
  simp at h
  have := BM l i h
  cases b <;> simp <;> omega

end Go.AX
