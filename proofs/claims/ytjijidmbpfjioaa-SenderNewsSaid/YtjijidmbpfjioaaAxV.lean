/- A part of the proof: AxV. -/
import Derived.Test.YtjijidmbpfjioaaAxU
namespace Go.AX

/-! ## Regions, stepped through by rewriting -/

/-- A value that must be there. -/
def ob {α : Type} (x : Option α) (k : α → Prop) : Prop := match x with | some a => k a | none => False
theorem ob_some {α : Type} (a : α) (k : α → Prop) : ob (some a) k = k a := rfl
@[congr] theorem ob_congr {α : Type} {x y : Option α} {k : α → Prop} (h : x = y) : ob x k = ob y k := by rw [h]

/-- A guard: what it yielded is known. -/
def gsp (v : AV) (want : Bool) (A B : AS → Prop) (s : AS) : Prop := ∃ x, v = .v x ∧ (x = .bool want → A s) ∧ (x ≠ .bool want → B s)
@[congr] theorem gsp_congr {v w : AV} {want : Bool} {A B : AS → Prop} {s : AS} (h : v = w) : gsp v want A B s = gsp w want A B s := by rw [h]
section
variable (A B : AS → Prop) (s : AS)
theorem gsp_tt : gsp (.v (.bool true)) true A B s = A s := by
  apply propext; constructor
  · rintro ⟨x, hx, h1, h2⟩; cases hx; exact h1 rfl
  · intro h; exact ⟨_, rfl, fun _ => h, fun hh => absurd rfl hh⟩
theorem gsp_ff : gsp (.v (.bool false)) false A B s = A s := by
  apply propext; constructor
  · rintro ⟨x, hx, h1, h2⟩; cases hx; exact h1 rfl
  · intro h; exact ⟨_, rfl, fun _ => h, fun hh => absurd rfl hh⟩
theorem gsp_tf : gsp (.v (.bool true)) false A B s = B s := by
  apply propext; constructor
  · rintro ⟨x, hx, h1, h2⟩; cases hx; exact h2 (by intro h; cases h)
  · intro h; refine ⟨_, rfl, fun hh => ?_, fun _ => h⟩; cases hh
theorem gsp_ft : gsp (.v (.bool false)) true A B s = B s := by
  apply propext; constructor
  · rintro ⟨x, hx, h1, h2⟩; cases hx; exact h2 (by intro h; cases h)
  · intro h; refine ⟨_, rfl, fun hh => ?_, fun _ => h⟩; cases hh
theorem gsp_un (want : Bool) : gsp (.v undef) want A B s = B s := by
  apply propext; constructor
  · rintro ⟨x, hx, h1, h2⟩; cases hx; exact h2 (by intro h; cases h)
  · intro h; refine ⟨_, rfl, fun hh => ?_, fun _ => h⟩; cases hh
end

def isC : Op → Bool
  | .call c => match c.callee with
    | .value _ => true
    | _ => false
  | _ => false

/-- No writing where the order is open. -/
def nw (d : Bool) (act : HAct) : Prop := d = true → act = .none
theorem nw_false (act : HAct) : nw false act = True := by simp [nw]
theorem nw_none (d : Bool) : nw d .none = True := by simp [nw]

/-- A call. -/
def xcall (C : Ctx) (d : Bool) (fr : Nat) (c : Option (FuncId × List AV)) (s : HS) (k : AV → HS → Prop) : Prop :=
  ∃ f args, c = some (f, args) ∧ ((∃ r rd, QCall C f args s.objs rd r ∧ k r s) ∨ (d = false ∧ ((∃ R, Snd C f args s R ∧ ∀ r hs, R r hs → k r hs) ∨ (∃ e, SndE C f args s fr e ∧ k e.val ⟨doAct fr e.act s.objs, s.next⟩))))
@[congr] theorem xcall_congr {C : Ctx} {d : Bool} {fr : Nat} {c c' : Option (FuncId × List AV)} {s : HS} {k : AV → HS → Prop} (h : c = c') : xcall C d fr c s k = xcall C d fr c' s k := by rw [h]

theorem xcall_p {C : Ctx} {d : Bool} {fr : Nat} {f : FuncId} {args : List AV} {s : HS} {k : AV → HS → Prop} {r : AV} (h : SndP C f args r) (hk : k r s) : xcall C d fr (some (f, args)) s k :=
  ⟨f, args, rfl, .inl ⟨r, [], h.qcall _, hk⟩⟩
theorem xcall_g {C : Ctx} {fr : Nat} {f : FuncId} {args : List AV} {s : HS} {k : AV → HS → Prop} {R : AV → HS → Prop} (h : Snd C f args s R) (hk : ∀ r hs, R r hs → k r hs) : xcall C false fr (some (f, args)) s k :=
  ⟨f, args, rfl, .inr ⟨rfl, .inl ⟨R, h, hk⟩⟩⟩
theorem xcall_e {C : Ctx} {fr : Nat} {f : FuncId} {args : List AV} {s : HS} {k : AV → HS → Prop} {e : Eff} (h : SndE C f args s fr e) (hk : k e.val ⟨doAct fr e.act s.objs, s.next⟩) : xcall C false fr (some (f, args)) s k :=
  ⟨f, args, rfl, .inr ⟨rfl, .inr ⟨e, h, hk⟩⟩⟩

def xop (d : Bool) (C : Ctx) (fr : Nat) (dst : Option Nat) (op : Op) (s : AS) (k : AS → Prop) : Prop :=
  bif isC op then xcall C d fr (callOf C s op) s.toHS fun r hs => k { hs with tmps := putT s.tmps dst r }
  else ob (opEff C s fr op) fun e => nw d e.act ∧ k (s.apply dst fr e)

def xw (d : Bool) (C : Ctx) (ds : List (Option Nat)) (base : Nat) : Nat → List Oper → AS → (AS → Prop) → Prop
  | _, [], s, K => K s
  | i, o :: rest, s, K => match o.guard with
    | none => xop d C (base + i) o.dst o.op s fun s' => xw d C ds base (i + 1) rest s' K
    | some (g, want) => ob ((ds[g]?).bind id) fun t => gsp (s.tmps t) want (fun s => xop d C (base + i) o.dst o.op s fun s' => xw d C ds base (i + 1) rest s' K)
        (fun s => xw d C ds base (i + 1) rest { s with tmps := putT s.tmps o.dst (.v undef) } K) s

section
variable {d : Bool} {C : Ctx} {ds : List (Option Nat)} {b i : Nat} {rest : List Oper} {K : AS → Prop} {k : AS → Prop} {dst : Option Nat} {op : Op} {ty : TypeId} {pos : String} {after : Array Edge} {objs : Nat → Ob} {nx : Nat} {t : Nat → AV} {fr : Nat} {x : AV}

theorem xw_id {l : List Oper} {s : AS} (h : xw d C ds b i l s K) : xw d C ds b i l s K := h
theorem xw_n {s : AS} : xw d C ds b i [] s K = K s := rfl
theorem xw_o : xw d C ds b i ({ dst := dst, op := op, type := ty, pos := pos, after := after, guard := none } :: rest) { objs := objs, next := nx, tmps := t } K =
    xop d C (b + i) dst op { objs := objs, next := nx, tmps := t } (fun s' => xw d C ds b (i + 1) rest s' K) := rfl
theorem xw_g {g : Nat} {want : Bool} : xw d C ds b i ({ dst := dst, op := op, type := ty, pos := pos, after := after, guard := some (g, want) } :: rest) { objs := objs, next := nx, tmps := t } K =
    ob ((ds[g]?).bind id) (fun u => gsp (t u) want (fun s => xop d C (b + i) dst op s fun s' => xw d C ds b (i + 1) rest s' K)
        (fun s => xw d C ds b (i + 1) rest { s with tmps := putT s.tmps dst (.v undef) } K) { objs := objs, next := nx, tmps := t }) := rfl
theorem xo_move (a : Operand) : xop d C fr dst (.move a) { objs := objs, next := nx, tmps := t } k =
    ob (opEff C { objs := objs, next := nx, tmps := t } fr (.move a)) (fun e => nw d e.act ∧ k (AS.apply { objs := objs, next := nx, tmps := t } dst fr e)) := rfl
theorem xo_assign (a : Operand) : xop d C fr dst (.assign a) { objs := objs, next := nx, tmps := t } k =
    ob (opEff C { objs := objs, next := nx, tmps := t } fr (.assign a)) (fun e => nw d e.act ∧ k (AS.apply { objs := objs, next := nx, tmps := t } dst fr e)) := rfl
theorem xo_pick (c a b : Operand) : xop d C fr dst (.pick c a b) { objs := objs, next := nx, tmps := t } k =
    ob (opEff C { objs := objs, next := nx, tmps := t } fr (.pick c a b)) (fun e => nw d e.act ∧ k (AS.apply { objs := objs, next := nx, tmps := t } dst fr e)) := rfl
theorem xo_alloc (a : TypeId) : xop d C fr dst (.alloc a) { objs := objs, next := nx, tmps := t } k =
    ob (opEff C { objs := objs, next := nx, tmps := t } fr (.alloc a)) (fun e => nw d e.act ∧ k (AS.apply { objs := objs, next := nx, tmps := t } dst fr e)) := rfl
theorem xo_box (a : TypeId) (v : Operand) : xop d C fr dst (.box a v) { objs := objs, next := nx, tmps := t } k =
    ob (opEff C { objs := objs, next := nx, tmps := t } fr (.box a v)) (fun e => nw d e.act ∧ k (AS.apply { objs := objs, next := nx, tmps := t } dst fr e)) := rfl
theorem xo_build (a : TypeId) (ps : Array (Nat × Operand)) : xop d C fr dst (.build a ps) { objs := objs, next := nx, tmps := t } k =
    ob (opEff C { objs := objs, next := nx, tmps := t } fr (.build a ps)) (fun e => nw d e.act ∧ k (AS.apply { objs := objs, next := nx, tmps := t } dst fr e)) := rfl
theorem xo_buildSlice (a : TypeId) (m : Nat) (ps : Array (Nat × Operand)) : xop d C fr dst (.buildSlice a m ps) { objs := objs, next := nx, tmps := t } k =
    ob (opEff C { objs := objs, next := nx, tmps := t } fr (.buildSlice a m ps)) (fun e => nw d e.act ∧ k (AS.apply { objs := objs, next := nx, tmps := t } dst fr e)) := rfl
theorem xo_load (a : TypeId) (v : Operand) : xop d C fr dst (.load a v) { objs := objs, next := nx, tmps := t } k =
    ob (opEff C { objs := objs, next := nx, tmps := t } fr (.load a v)) (fun e => nw d e.act ∧ k (AS.apply { objs := objs, next := nx, tmps := t } dst fr e)) := rfl
theorem xo_store (a : TypeId) (u v : Operand) : xop d C fr dst (.store a u v) { objs := objs, next := nx, tmps := t } k =
    ob (opEff C { objs := objs, next := nx, tmps := t } fr (.store a u v)) (fun e => nw d e.act ∧ k (AS.apply { objs := objs, next := nx, tmps := t } dst fr e)) := rfl
theorem xo_nilCheck (v : Operand) : xop d C fr dst (.nilCheck v) { objs := objs, next := nx, tmps := t } k =
    ob (opEff C { objs := objs, next := nx, tmps := t } fr (.nilCheck v)) (fun e => nw d e.act ∧ k (AS.apply { objs := objs, next := nx, tmps := t } dst fr e)) := rfl
theorem xo_binOp (o : BinOp) (a : TypeId) (u v : Operand) (c : TypeId) : xop d C fr dst (.binOp o a u v c) { objs := objs, next := nx, tmps := t } k =
    ob (opEff C { objs := objs, next := nx, tmps := t } fr (.binOp o a u v c)) (fun e => nw d e.act ∧ k (AS.apply { objs := objs, next := nx, tmps := t } dst fr e)) := rfl
theorem xo_unOp (o : UnOp) (a : TypeId) (u : Operand) : xop d C fr dst (.unOp o a u) { objs := objs, next := nx, tmps := t } k =
    ob (opEff C { objs := objs, next := nx, tmps := t } fr (.unOp o a u)) (fun e => nw d e.act ∧ k (AS.apply { objs := objs, next := nx, tmps := t } dst fr e)) := rfl
theorem xo_convert (a c : TypeId) (u : Operand) : xop d C fr dst (.convert a c u) { objs := objs, next := nx, tmps := t } k =
    ob (opEff C { objs := objs, next := nx, tmps := t } fr (.convert a c u)) (fun e => nw d e.act ∧ k (AS.apply { objs := objs, next := nx, tmps := t } dst fr e)) := rfl
theorem xo_makeFunc (f : Fn) (u v : Array Operand) : xop d C fr dst (.makeFunc f u v) { objs := objs, next := nx, tmps := t } k =
    ob (opEff C { objs := objs, next := nx, tmps := t } fr (.makeFunc f u v)) (fun e => nw d e.act ∧ k (AS.apply { objs := objs, next := nx, tmps := t } dst fr e)) := rfl
theorem xo_makeSlice (a : TypeId) (u v : Operand) : xop d C fr dst (.makeSlice a u v) { objs := objs, next := nx, tmps := t } k =
    ob (opEff C { objs := objs, next := nx, tmps := t } fr (.makeSlice a u v)) (fun e => nw d e.act ∧ k (AS.apply { objs := objs, next := nx, tmps := t } dst fr e)) := rfl
theorem xo_slice (a : TypeId) (u : Operand) (l h m : Option Operand) : xop d C fr dst (.slice a u l h m) { objs := objs, next := nx, tmps := t } k =
    ob (opEff C { objs := objs, next := nx, tmps := t } fr (.slice a u l h m)) (fun e => nw d e.act ∧ k (AS.apply { objs := objs, next := nx, tmps := t } dst fr e)) := rfl
theorem xo_fieldAddr (a : TypeId) (u : Operand) (f : Nat) : xop d C fr dst (.fieldAddr a u f) { objs := objs, next := nx, tmps := t } k =
    ob (opEff C { objs := objs, next := nx, tmps := t } fr (.fieldAddr a u f)) (fun e => nw d e.act ∧ k (AS.apply { objs := objs, next := nx, tmps := t } dst fr e)) := rfl
theorem xo_field (a : TypeId) (u : Operand) (f : Nat) : xop d C fr dst (.field a u f) { objs := objs, next := nx, tmps := t } k =
    ob (opEff C { objs := objs, next := nx, tmps := t } fr (.field a u f)) (fun e => nw d e.act ∧ k (AS.apply { objs := objs, next := nx, tmps := t } dst fr e)) := rfl
theorem xo_indexAddr (a : TypeId) (u v : Operand) : xop d C fr dst (.indexAddr a u v) { objs := objs, next := nx, tmps := t } k =
    ob (opEff C { objs := objs, next := nx, tmps := t } fr (.indexAddr a u v)) (fun e => nw d e.act ∧ k (AS.apply { objs := objs, next := nx, tmps := t } dst fr e)) := rfl
theorem xo_index (a : TypeId) (u v : Operand) : xop d C fr dst (.index a u v) { objs := objs, next := nx, tmps := t } k =
    ob (opEff C { objs := objs, next := nx, tmps := t } fr (.index a u v)) (fun e => nw d e.act ∧ k (AS.apply { objs := objs, next := nx, tmps := t } dst fr e)) := rfl
theorem xo_extract (u : Operand) (f : Nat) : xop d C fr dst (.extract u f) { objs := objs, next := nx, tmps := t } k =
    ob (opEff C { objs := objs, next := nx, tmps := t } fr (.extract u f)) (fun e => nw d e.act ∧ k (AS.apply { objs := objs, next := nx, tmps := t } dst fr e)) := rfl
theorem xo_builtin (f : Builtin) (us : Array Operand) (ts : Array TypeId) : xop d C fr dst (.call { callee := .builtin f, args := us, argTypes := ts }) { objs := objs, next := nx, tmps := t } k =
    ob (builtinE C.P { objs := objs, next := nx, tmps := t } fr f ts (us.toList.map (ev C { objs := objs, next := nx, tmps := t }))) (fun e => nw d e.act ∧ k (AS.apply { objs := objs, next := nx, tmps := t } dst fr e)) := rfl
theorem xop_c {f : Operand} {args : Array Operand} {ts : Array TypeId} : xop d C fr dst (.call { callee := .value f, args := args, argTypes := ts }) { objs := objs, next := nx, tmps := t } k =
    xcall C d fr (callOf C { objs := objs, next := nx, tmps := t } (.call { callee := .value f, args := args, argTypes := ts })) { objs := objs, next := nx } (fun r hs => k { hs with tmps := putT t dst r }) := rfl
theorem ap_n {u : Nat} : AS.apply { objs := objs, next := nx, tmps := t } (some u) fr ⟨x, .none⟩ = { objs := objs, next := nx, tmps := upd t u x } := rfl
theorem ap_n0 : AS.apply { objs := objs, next := nx, tmps := t } none fr ⟨x, .none⟩ = { objs := objs, next := nx, tmps := t } := rfl
theorem ap_w {u : Nat} {cs : List AV} : AS.apply { objs := objs, next := nx, tmps := t } (some u) fr ⟨x, .new cs⟩ = { objs := upd objs fr (.live cs), next := nx, tmps := upd t u x } := rfl
theorem ap_w0 {cs : List AV} : AS.apply { objs := objs, next := nx, tmps := t } none fr ⟨x, .new cs⟩ = { objs := upd objs fr (.live cs), next := nx, tmps := t } := rfl
theorem ap_s {u id off : Nat} {cs : List AV} : AS.apply { objs := objs, next := nx, tmps := t } (some u) fr ⟨x, .wr id off cs⟩ = { objs := doAct fr (.wr id off cs) objs, next := nx, tmps := upd t u x } := rfl
theorem ap_s0 {id off : Nat} {cs : List AV} : AS.apply { objs := objs, next := nx, tmps := t } none fr ⟨x, .wr id off cs⟩ = { objs := doAct fr (.wr id off cs) objs, next := nx, tmps := t } := rfl
theorem ap_a {u : Nat} {old : Option Nat} {cs : List AV} : AS.apply { objs := objs, next := nx, tmps := t } (some u) fr ⟨x, .app old cs⟩ = { objs := upd (killO objs old) fr (.live cs), next := nx, tmps := upd t u x } := rfl
end

theorem ds_get {all : List Oper} {g t : Nat} (h : ((all.map (·.dst))[g]?).bind id = some t) : (all[g]?).bind (·.dst) = some t := by
  rw [List.getElem?_map] at h
  cases hg : all[g]? with
  | none => simp [hg] at h
  | some o => simp [hg] at h ⊢; exact h

theorem isC_none {C : Ctx} {s : AS} {op : Op} (h : isC op = false) : callOf C s op = none := by
  cases op <;> try rfl
  rename_i c
  obtain ⟨callee, args, ts⟩ := c
  cases callee <;> first | rfl | cases h

theorem xop_seq {C : Ctx} {fr : Nat} {o : Oper} {s : AS} {k : AS → Prop} (h : xop false C fr o.dst o.op s k) : stepW C s fr o k := by
  unfold xop at h
  unfold stepW
  cases hc : isC o.op with
  | true =>
    rw [hc] at h
    obtain ⟨f, args, h1, h2⟩ := h
    rw [h1]
    rcases h2 with ⟨r, rd, h3, h4⟩ | ⟨_, ⟨R, h3, h4⟩ | ⟨e, h3, h4⟩⟩
    · refine .inl ⟨_, h3 s.toHS (fun _ _ => .inl rfl), ?_⟩
      rintro r' hs' ⟨rfl, rfl⟩
      exact h4
    · exact .inl ⟨R, h3, h4⟩
    · exact .inr ⟨e, h3, h4⟩
  | false =>
    rw [hc] at h
    rw [isC_none hc]
    simp only [cond_false] at h
    unfold ob at h
    split at h
    · rename_i e he
      rw [he]; exact h.2
    · exact h.elim

theorem xw_seq {C : Ctx} {all : List Oper} {base : Nat} {K : AS → Prop} : ∀ (l : List Oper) (i : Nat) (s : AS), xw false C (all.map (·.dst)) base i l s K → seqW C all base i l s K
  | [], _, _, h => h
  | o :: rest, i, s, h => by
    simp only [xw] at h
    simp only [seqW]
    have hmono : ∀ {s : AS} {k k' : AS → Prop}, (∀ t, k t → k' t) → stepW C s (base + i) o k → stepW C s (base + i) o k' := by
      intro s k k' hk hs
      unfold stepW at hs ⊢
      split at hs
      · rcases hs with ⟨R, h1, h2⟩ | ⟨e, h1, h2⟩
        · exact .inl ⟨R, h1, fun r hs' hr => hk _ (h2 r hs' hr)⟩
        · exact .inr ⟨e, h1, hk _ h2⟩
      · split at hs
        · exact hk _ hs
        · exact hs.elim
    split at h
    · rename_i hg
      rw [hg]
      exact hmono (fun t ht => xw_seq rest (i + 1) t ht) (xop_seq h)
    · rename_i g want hg
      rw [hg]
      simp only
      unfold ob at h
      split at h
      · rename_i t ht
        rw [ds_get ht]
        obtain ⟨x, hx, h1, h2⟩ := h
        exact ⟨x, hx, fun hh => hmono (fun t ht => xw_seq rest (i + 1) t ht) (xop_seq (h1 hh)), fun hh => xw_seq rest (i + 1) _ (h2 hh)⟩
      · exact h.elim

/-- Prints without writes. -/
def NoWr (acc : List Print) : Prop := ∀ p ∈ acc, p.2.2 = []

theorem NoWr.add {acc : List Print} (h : NoWr acc) (i : Nat) (rd : Foot) : NoWr (addP (i, rd, []) acc) := by
  unfold addP
  split
  · exact h
  · intro p hp
    rcases List.mem_cons.1 hp with rfl | hp
    · rfl
    · exact h p hp

theorem NoWr.ok {acc : List Print} (h : NoWr acc) (all : List Oper) : printsOk all acc = true := by
  unfold printsOk
  rw [List.all_eq_true]
  intro x hx
  rw [List.all_eq_true]
  intro y hy
  have h1 := h x hx
  have h2 := h y hy
  have c1 : ∀ f, clash [] f = false := fun f => rfl
  have c2 : ∀ f, clash f [] = false := by intro f; rw [clash_symm]; rfl
  simp [apartP, h1, h2, c1, c2]

theorem xw_draw {C : Ctx} {all : List Oper} {base : Nat} {K : AS → Prop} : ∀ (l : List Oper) (i : Nat) (s : AS) (acc : List Print), NoWr acc → xw true C (all.map (·.dst)) base i l s K → drawW C all base i l s acc K
  | [], _, _, acc, hn, h => ⟨hn.ok all, h⟩
  | o :: rest, i, s, acc, hn, h => by
    simp only [xw] at h
    have op : ∀ {s : AS}, (xop true C (base + i) o.dst o.op s fun s' => xw true C (all.map (·.dst)) base (i + 1) rest s' K) →
        (match callOf C s o.op with
            | some (f, args) => ∃ e rd, ECall C f args s.objs rd (base + i) e ∧ drawW C all base (i + 1) rest (s.apply o.dst (base + i) e) (addP (i, rd, wrOf (base + i) e.act) acc) K
            | none => match opEff C s (base + i) o.op with
              | some e => drawW C all base (i + 1) rest (s.apply o.dst (base + i) e) (addP (i, rdOf C s o.op, wrOf (base + i) e.act) acc) K
              | none => False) := by
      intro s h
      unfold xop at h
      cases hc : isC o.op with
      | true =>
        rw [hc] at h
        obtain ⟨f, args, h1, h2⟩ := h
        rw [h1]
        rcases h2 with ⟨r, rd, h3, h4⟩ | ⟨h3, _⟩
        · exact ⟨⟨r, .none⟩, rd, h3.toE _, xw_draw rest (i + 1) _ _ (hn.add i rd) h4⟩
        · cases h3
      | false =>
        rw [hc] at h
        rw [isC_none hc]
        simp only [cond_false] at h
        unfold ob at h
        split at h
        · rename_i e he
          rw [he]
          have ha := h.1 rfl
          simp only [ha, wrOf]
          exact xw_draw rest (i + 1) _ _ (hn.add i _) h.2
        · exact h.elim
    simp only [drawW]
    split at h
    · rename_i hg
      rw [hg]
      exact op h
    · rename_i g want hg
      rw [hg]
      simp only
      unfold ob at h
      split at h
      · rename_i t ht
        rw [ds_get ht]
        obtain ⟨x, hx, h1, h2⟩ := h
        exact ⟨x, hx, fun hh => op (h1 hh), fun hh => xw_draw rest (i + 1) _ acc hn (h2 hh)⟩
      · exact h.elim

theorem awp_region {C : Ctx} {id : Nat} {ops : Array Oper} {draw : Bool} {Q : AExit → AS → Prop} {s : AS} (h : xw draw C (ops.toList.map (·.dst)) s.next 0 ops.toList { s with next := s.next + ops.size } (Q .normal)) : awp C (.region id ops draw) Q s := by
  cases draw with
  | false => exact xw_seq _ _ _ h
  | true => exact xw_draw _ _ _ _ (fun p hp => by cases hp) h

theorem upd_self {α : Type} (f : Nat → α) (k : Nat) : upd f k (f k) = f := by
  funext j; unfold upd; split
  · rename_i h; rw [h]
  · rfl

/-- A guard parts the way. -/
theorem gsp_split {b want : Bool} {A B : AS → Prop} {s : AS} (h1 : b = want → A s) (h2 : b = (!want) → B s) : gsp (.v (.bool b)) want A B s :=
  ⟨_, rfl, fun h => h1 (by cases h; rfl), fun h => h2 (by cases b <;> cases want <;> simp_all)⟩

theorem upd_get {α : Type} (f : Nat → α) (k : Nat) (x : α) (j : Nat) : upd f k x j = if j = k then x else f j := rfl

/-- The field or the whole of what an index shows, off a list. -/
theorem getElem?_cons_lit {α : Type} (a : α) (l : List α) (i : Nat) : (a :: l)[i + 1]? = l[i]? := rfl

end Go.AX
