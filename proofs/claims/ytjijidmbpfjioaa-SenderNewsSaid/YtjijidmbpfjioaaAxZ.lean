/- A part of the proof: AxZ. -/
import Derived.Test.YtjijidmbpfjioaaAxY
namespace Go.AX

/-! ## Regions that draw their order and write -/

def xcallD (C : Ctx) (fr : Nat) (c : Option (FuncId × List AV)) (objs : Nat → Ob) (k : Eff → Foot → Prop) : Prop :=
  ∃ f args e rd, c = some (f, args) ∧ ECall C f args objs rd fr e ∧ k e rd
@[congr] theorem xcallD_congr {C : Ctx} {fr : Nat} {c c' : Option (FuncId × List AV)} {objs : Nat → Ob} {k : Eff → Foot → Prop} (h : c = c') : xcallD C fr c objs k = xcallD C fr c' objs k := by rw [h]

theorem xcallD_e {C : Ctx} {fr : Nat} {f : FuncId} {args : List AV} {objs : Nat → Ob} {k : Eff → Foot → Prop} {e : Eff} {rd : Foot} (h : ECall C f args objs rd fr e) (hk : k e rd) : xcallD C fr (some (f, args)) objs k :=
  ⟨f, args, e, rd, rfl, h, hk⟩
theorem xcallD_p {C : Ctx} {fr : Nat} {f : FuncId} {args : List AV} {objs : Nat → Ob} {k : Eff → Foot → Prop} {r : AV} (h : SndP C f args r) (hk : k ⟨r, .none⟩ []) : xcallD C fr (some (f, args)) objs k :=
  ⟨f, args, _, [], rfl, (h.qcall _).toE fr, hk⟩
theorem xcallD_n {C : Ctx} {fr : Nat} {f : FuncId} {args : List AV} {objs : Nat → Ob} {k : Eff → Foot → Prop} {r : AV} (h : SndP C f (args.map (fz (fun _ => .dead) deep)) r) (hk : k ⟨r, .none⟩ []) : xcallD C fr (some (f, args)) objs k := xcallD_p h.norm hk
theorem xcallD_q {C : Ctx} {fr : Nat} {f : FuncId} {args : List AV} {objs : Nat → Ob} {k : Eff → Foot → Prop} {r : AV} (h : SndP C f (args.map (fz objs deep)) r) (hb : Bare r) (hk : k ⟨r, .none⟩ (args.flatMap (reach objs deep))) : xcallD C fr (some (f, args)) objs k :=
  ⟨f, args, _, _, rfl, (h.qlend hb).toE fr, hk⟩

def xdop (C : Ctx) (base i : Nat) (dst : Option Nat) (op : Op) (s : AS) (acc : List Print) (k : AS → List Print → Prop) : Prop :=
  bif isC op then xcallD C (base + i) (callOf C s op) s.objs fun e rd => k (s.apply dst (base + i) e) (addP (i, rd, wrOf (base + i) e.act) acc)
  else ob (opEff C s (base + i) op) fun e => k (s.apply dst (base + i) e) (addP (i, rdOf C s op, wrOf (base + i) e.act) acc)

def xd (C : Ctx) (all : List Oper) (ds : List (Option Nat)) (base : Nat) : Nat → List Oper → AS → List Print → (AS → Prop) → Prop
  | _, [], s, acc, K => printsOk all acc = true ∧ K s
  | i, o :: rest, s, acc, K => match o.guard with
    | none => xdop C base i o.dst o.op s acc fun s' acc' => xd C all ds base (i + 1) rest s' acc' K
    | some (g, want) => ob ((ds[g]?).bind id) fun t => gsp (s.tmps t) want (fun s => xdop C base i o.dst o.op s acc fun s' acc' => xd C all ds base (i + 1) rest s' acc' K)
        (fun s => xd C all ds base (i + 1) rest { s with tmps := putT s.tmps o.dst (.v undef) } acc K) s

theorem xd_draw {C : Ctx} {all : List Oper} {base : Nat} {K : AS → Prop} : ∀ (l : List Oper) (i : Nat) (s : AS) (acc : List Print), xd C all (all.map (·.dst)) base i l s acc K → drawW C all base i l s acc K
  | [], _, _, _, h => h
  | o :: rest, i, s, acc, h => by
    simp only [xd] at h
    have op : ∀ {s : AS}, (xdop C base i o.dst o.op s acc fun s' acc' => xd C all (all.map (·.dst)) base (i + 1) rest s' acc' K) →
        (match callOf C s o.op with
            | some (f, args) => ∃ e rd, ECall C f args s.objs rd (base + i) e ∧ drawW C all base (i + 1) rest (s.apply o.dst (base + i) e) (addP (i, rd, wrOf (base + i) e.act) acc) K
            | none => match opEff C s (base + i) o.op with
              | some e => drawW C all base (i + 1) rest (s.apply o.dst (base + i) e) (addP (i, rdOf C s o.op, wrOf (base + i) e.act) acc) K
              | none => False) := by
      intro s h
      unfold xdop at h
      cases hc : isC o.op with
      | true =>
        rw [hc] at h
        obtain ⟨f, args, e, rd, h1, h2, h3⟩ := h
        rw [h1]
        exact ⟨e, rd, h2, xd_draw rest (i + 1) _ _ h3⟩
      | false =>
        rw [hc] at h
        rw [isC_none hc]
        simp only [cond_false] at h
        unfold ob at h
        split at h
        · rename_i e he
          rw [he]
          exact xd_draw rest (i + 1) _ _ h
        · exact h.elim
    simp only [drawW]
    split at h
    · rename_i hg
      rw [hg]
      exact op h
    · rename_i g want hg
      rw [hg]
      simp only
      unfold ob at h
      split at h
      · rename_i t ht
        rw [ds_get ht]
        obtain ⟨x, hx, h1, h2⟩ := h
        exact ⟨x, hx, fun hh => op (h1 hh), fun hh => xd_draw rest (i + 1) _ acc (h2 hh)⟩
      · exact h.elim

section
variable {C : Ctx} {all : List Oper} {ds : List (Option Nat)} {b i : Nat} {rest : List Oper} {K : AS → Prop} {k : AS → List Print → Prop} {dst : Option Nat} {op : Op} {ty : TypeId} {pos : String} {after : Array Edge} {objs : Nat → Ob} {nx : Nat} {t : Nat → AV} {acc : List Print} {y : Code} {Q : AExit → AS → Prop}

theorem xd_id {l : List Oper} {s : AS} (h : xd C all ds b i l s acc K) : xd C all ds b i l s acc K := h
theorem xd_n {s : AS} : xd C all ds b i [] s acc K = (printsOk all acc = true ∧ K s) := rfl
theorem xd_o : xd C all ds b i ({ dst := dst, op := op, type := ty, pos := pos, after := after, guard := none } :: rest) { objs := objs, next := nx, tmps := t } acc K =
    xdop C b i dst op { objs := objs, next := nx, tmps := t } acc (fun s' acc' => xd C all ds b (i + 1) rest s' acc' K) := rfl
theorem xd_g {g : Nat} {want : Bool} : xd C all ds b i ({ dst := dst, op := op, type := ty, pos := pos, after := after, guard := some (g, want) } :: rest) { objs := objs, next := nx, tmps := t } acc K =
    ob ((ds[g]?).bind id) (fun u => gsp (t u) want (fun s => xdop C b i dst op s acc fun s' acc' => xd C all ds b (i + 1) rest s' acc' K)
        (fun s => xd C all ds b (i + 1) rest { s with tmps := putT s.tmps dst (.v undef) } acc K) { objs := objs, next := nx, tmps := t }) := rfl
theorem xdop_c {f : Operand} {args : Array Operand} {ts : Array TypeId} : xdop C b i dst (.call { callee := .value f, args := args, argTypes := ts }) { objs := objs, next := nx, tmps := t } acc k =
    xcallD C (b + i) (callOf C { objs := objs, next := nx, tmps := t } (.call { callee := .value f, args := args, argTypes := ts })) objs (fun e rd => k (AS.apply { objs := objs, next := nx, tmps := t } dst (b + i) e) (addP (i, rd, wrOf (b + i) e.act) acc)) := rfl
theorem xdop_b {f : Builtin} {us : Array Operand} {ts : Array TypeId} : xdop C b i dst (.call { callee := .builtin f, args := us, argTypes := ts }) { objs := objs, next := nx, tmps := t } acc k =
    ob (builtinE C.P { objs := objs, next := nx, tmps := t } (b + i) f ts (us.toList.map (ev C { objs := objs, next := nx, tmps := t }))) (fun e => k (AS.apply { objs := objs, next := nx, tmps := t } dst (b + i) e)
      (addP (i, rdOf C { objs := objs, next := nx, tmps := t } (.call { callee := .builtin f, args := us, argTypes := ts }), wrOf (b + i) e.act) acc)) := rfl
theorem xd_move (a : Operand) : xdop C b i dst (.move a) { objs := objs, next := nx, tmps := t } acc k =
    ob (opEff C { objs := objs, next := nx, tmps := t } (b + i) (.move a)) (fun e => k (AS.apply { objs := objs, next := nx, tmps := t } dst (b + i) e) (addP (i, rdOf C { objs := objs, next := nx, tmps := t } (.move a), wrOf (b + i) e.act) acc)) := rfl
theorem xd_assign (a : Operand) : xdop C b i dst (.assign a) { objs := objs, next := nx, tmps := t } acc k =
    ob (opEff C { objs := objs, next := nx, tmps := t } (b + i) (.assign a)) (fun e => k (AS.apply { objs := objs, next := nx, tmps := t } dst (b + i) e) (addP (i, rdOf C { objs := objs, next := nx, tmps := t } (.assign a), wrOf (b + i) e.act) acc)) := rfl
theorem xd_pick (c a a2 : Operand) : xdop C b i dst (.pick c a a2) { objs := objs, next := nx, tmps := t } acc k =
    ob (opEff C { objs := objs, next := nx, tmps := t } (b + i) (.pick c a a2)) (fun e => k (AS.apply { objs := objs, next := nx, tmps := t } dst (b + i) e) (addP (i, rdOf C { objs := objs, next := nx, tmps := t } (.pick c a a2), wrOf (b + i) e.act) acc)) := rfl
theorem xd_alloc (a : TypeId) : xdop C b i dst (.alloc a) { objs := objs, next := nx, tmps := t } acc k =
    ob (opEff C { objs := objs, next := nx, tmps := t } (b + i) (.alloc a)) (fun e => k (AS.apply { objs := objs, next := nx, tmps := t } dst (b + i) e) (addP (i, rdOf C { objs := objs, next := nx, tmps := t } (.alloc a), wrOf (b + i) e.act) acc)) := rfl
theorem xd_box (a : TypeId) (v : Operand) : xdop C b i dst (.box a v) { objs := objs, next := nx, tmps := t } acc k =
    ob (opEff C { objs := objs, next := nx, tmps := t } (b + i) (.box a v)) (fun e => k (AS.apply { objs := objs, next := nx, tmps := t } dst (b + i) e) (addP (i, rdOf C { objs := objs, next := nx, tmps := t } (.box a v), wrOf (b + i) e.act) acc)) := rfl
theorem xd_build (a : TypeId) (ps : Array (Nat × Operand)) : xdop C b i dst (.build a ps) { objs := objs, next := nx, tmps := t } acc k =
    ob (opEff C { objs := objs, next := nx, tmps := t } (b + i) (.build a ps)) (fun e => k (AS.apply { objs := objs, next := nx, tmps := t } dst (b + i) e) (addP (i, rdOf C { objs := objs, next := nx, tmps := t } (.build a ps), wrOf (b + i) e.act) acc)) := rfl
theorem xd_buildSlice (a : TypeId) (m : Nat) (ps : Array (Nat × Operand)) : xdop C b i dst (.buildSlice a m ps) { objs := objs, next := nx, tmps := t } acc k =
    ob (opEff C { objs := objs, next := nx, tmps := t } (b + i) (.buildSlice a m ps)) (fun e => k (AS.apply { objs := objs, next := nx, tmps := t } dst (b + i) e) (addP (i, rdOf C { objs := objs, next := nx, tmps := t } (.buildSlice a m ps), wrOf (b + i) e.act) acc)) := rfl
theorem xd_load (a : TypeId) (v : Operand) : xdop C b i dst (.load a v) { objs := objs, next := nx, tmps := t } acc k =
    ob (opEff C { objs := objs, next := nx, tmps := t } (b + i) (.load a v)) (fun e => k (AS.apply { objs := objs, next := nx, tmps := t } dst (b + i) e) (addP (i, rdOf C { objs := objs, next := nx, tmps := t } (.load a v), wrOf (b + i) e.act) acc)) := rfl
theorem xd_store (a : TypeId) (u v : Operand) : xdop C b i dst (.store a u v) { objs := objs, next := nx, tmps := t } acc k =
    ob (opEff C { objs := objs, next := nx, tmps := t } (b + i) (.store a u v)) (fun e => k (AS.apply { objs := objs, next := nx, tmps := t } dst (b + i) e) (addP (i, rdOf C { objs := objs, next := nx, tmps := t } (.store a u v), wrOf (b + i) e.act) acc)) := rfl
theorem xd_nilCheck (v : Operand) : xdop C b i dst (.nilCheck v) { objs := objs, next := nx, tmps := t } acc k =
    ob (opEff C { objs := objs, next := nx, tmps := t } (b + i) (.nilCheck v)) (fun e => k (AS.apply { objs := objs, next := nx, tmps := t } dst (b + i) e) (addP (i, rdOf C { objs := objs, next := nx, tmps := t } (.nilCheck v), wrOf (b + i) e.act) acc)) := rfl
theorem xd_binOp (o : BinOp) (a : TypeId) (u v : Operand) (c : TypeId) : xdop C b i dst (.binOp o a u v c) { objs := objs, next := nx, tmps := t } acc k =
    ob (opEff C { objs := objs, next := nx, tmps := t } (b + i) (.binOp o a u v c)) (fun e => k (AS.apply { objs := objs, next := nx, tmps := t } dst (b + i) e) (addP (i, rdOf C { objs := objs, next := nx, tmps := t } (.binOp o a u v c), wrOf (b + i) e.act) acc)) := rfl
theorem xd_unOp (o : UnOp) (a : TypeId) (u : Operand) : xdop C b i dst (.unOp o a u) { objs := objs, next := nx, tmps := t } acc k =
    ob (opEff C { objs := objs, next := nx, tmps := t } (b + i) (.unOp o a u)) (fun e => k (AS.apply { objs := objs, next := nx, tmps := t } dst (b + i) e) (addP (i, rdOf C { objs := objs, next := nx, tmps := t } (.unOp o a u), wrOf (b + i) e.act) acc)) := rfl
theorem xd_convert (a c : TypeId) (u : Operand) : xdop C b i dst (.convert a c u) { objs := objs, next := nx, tmps := t } acc k =
    ob (opEff C { objs := objs, next := nx, tmps := t } (b + i) (.convert a c u)) (fun e => k (AS.apply { objs := objs, next := nx, tmps := t } dst (b + i) e) (addP (i, rdOf C { objs := objs, next := nx, tmps := t } (.convert a c u), wrOf (b + i) e.act) acc)) := rfl
theorem xd_makeFunc (f : Fn) (u v : Array Operand) : xdop C b i dst (.makeFunc f u v) { objs := objs, next := nx, tmps := t } acc k =
    ob (opEff C { objs := objs, next := nx, tmps := t } (b + i) (.makeFunc f u v)) (fun e => k (AS.apply { objs := objs, next := nx, tmps := t } dst (b + i) e) (addP (i, rdOf C { objs := objs, next := nx, tmps := t } (.makeFunc f u v), wrOf (b + i) e.act) acc)) := rfl
theorem xd_makeSlice (a : TypeId) (u v : Operand) : xdop C b i dst (.makeSlice a u v) { objs := objs, next := nx, tmps := t } acc k =
    ob (opEff C { objs := objs, next := nx, tmps := t } (b + i) (.makeSlice a u v)) (fun e => k (AS.apply { objs := objs, next := nx, tmps := t } dst (b + i) e) (addP (i, rdOf C { objs := objs, next := nx, tmps := t } (.makeSlice a u v), wrOf (b + i) e.act) acc)) := rfl
theorem xd_slice (a : TypeId) (u : Operand) (l h m : Option Operand) : xdop C b i dst (.slice a u l h m) { objs := objs, next := nx, tmps := t } acc k =
    ob (opEff C { objs := objs, next := nx, tmps := t } (b + i) (.slice a u l h m)) (fun e => k (AS.apply { objs := objs, next := nx, tmps := t } dst (b + i) e) (addP (i, rdOf C { objs := objs, next := nx, tmps := t } (.slice a u l h m), wrOf (b + i) e.act) acc)) := rfl
theorem xd_fieldAddr (a : TypeId) (u : Operand) (f : Nat) : xdop C b i dst (.fieldAddr a u f) { objs := objs, next := nx, tmps := t } acc k =
    ob (opEff C { objs := objs, next := nx, tmps := t } (b + i) (.fieldAddr a u f)) (fun e => k (AS.apply { objs := objs, next := nx, tmps := t } dst (b + i) e) (addP (i, rdOf C { objs := objs, next := nx, tmps := t } (.fieldAddr a u f), wrOf (b + i) e.act) acc)) := rfl
theorem xd_field (a : TypeId) (u : Operand) (f : Nat) : xdop C b i dst (.field a u f) { objs := objs, next := nx, tmps := t } acc k =
    ob (opEff C { objs := objs, next := nx, tmps := t } (b + i) (.field a u f)) (fun e => k (AS.apply { objs := objs, next := nx, tmps := t } dst (b + i) e) (addP (i, rdOf C { objs := objs, next := nx, tmps := t } (.field a u f), wrOf (b + i) e.act) acc)) := rfl
theorem xd_indexAddr (a : TypeId) (u v : Operand) : xdop C b i dst (.indexAddr a u v) { objs := objs, next := nx, tmps := t } acc k =
    ob (opEff C { objs := objs, next := nx, tmps := t } (b + i) (.indexAddr a u v)) (fun e => k (AS.apply { objs := objs, next := nx, tmps := t } dst (b + i) e) (addP (i, rdOf C { objs := objs, next := nx, tmps := t } (.indexAddr a u v), wrOf (b + i) e.act) acc)) := rfl
theorem xd_index (a : TypeId) (u v : Operand) : xdop C b i dst (.index a u v) { objs := objs, next := nx, tmps := t } acc k =
    ob (opEff C { objs := objs, next := nx, tmps := t } (b + i) (.index a u v)) (fun e => k (AS.apply { objs := objs, next := nx, tmps := t } dst (b + i) e) (addP (i, rdOf C { objs := objs, next := nx, tmps := t } (.index a u v), wrOf (b + i) e.act) acc)) := rfl
theorem xd_extract (u : Operand) (f : Nat) : xdop C b i dst (.extract u f) { objs := objs, next := nx, tmps := t } acc k =
    ob (opEff C { objs := objs, next := nx, tmps := t } (b + i) (.extract u f)) (fun e => k (AS.apply { objs := objs, next := nx, tmps := t } dst (b + i) e) (addP (i, rdOf C { objs := objs, next := nx, tmps := t } (.extract u f), wrOf (b + i) e.act) acc)) := rfl
/-- A region that draws and writes, then the rest. -/
theorem awp_regD {id : Nat} {ops : Array Oper} (h : ∀ K : AS → Prop, (∀ t, awp C y Q t → K t) → ∀ s, s = ops.toList → xd C s (ops.toList.map (·.dst)) nx 0 ops.toList { objs := objs, next := nx + ops.size, tmps := t } [] K) : awp C (.seq (.region id ops true) y) Q { objs := objs, next := nx, tmps := t } :=
  awp_seq (show awp C (.region id ops true) _ _ from xd_draw _ _ _ _ (h _ (fun _ ht => ht) _ rfl))
theorem awp_regD1 {id : Nat} {ops : Array Oper} (h : ∀ K : AS → Prop, (∀ t, Q .normal t → K t) → ∀ s, s = ops.toList → xd C s (ops.toList.map (·.dst)) nx 0 ops.toList { objs := objs, next := nx + ops.size, tmps := t } [] K) : awp C (.region id ops true) Q { objs := objs, next := nx, tmps := t } :=
  show awp C (.region id ops true) _ _ from xd_draw _ _ _ _ (h _ (fun _ ht => ht) _ rfl)
end

end Go.AX
