/- A part of the proof: AxO. -/
import Derived.Test.YtjijidmbpfjioaaAxN
namespace Go.AX

/-! ## Calls -/

/-- The function has a body of its own. -/
def callable (P : Program) (f : FuncId) : Prop := ∃ fn, P.funcs[f]? = some fn ∧ fn.body.isSome = true ∧ (fn.name == "runtime.NumGoroutine") = false

/-- The call, by the body of the function or, where it has none, at once. -/
def XC (P : Program) (f : FuncId) (args : Array Value) (w : World) (Q : Ending → World → Prop) : Prop :=
  (callable P f ∧ Calls P f args w Q) ∨ (∃ y w', (callFunc f args).run P w = .ok (.value y) w' ∧ Q (.returned y) w')

theorem XC.mono {P : Program} {f : FuncId} {args : Array Value} {w : World} {Q Q' : Ending → World → Prop} (h : XC P f args w Q) (hq : ∀ e w', Q e w' → Q' e w') : XC P f args w Q' := by
  rcases h with ⟨h1, h2⟩ | ⟨y, w', h1, h2⟩
  · exact .inl ⟨h1, h2.mono hq⟩
  · exact .inr ⟨y, w', h1, hq _ _ h2⟩

theorem callFunc_enter {P : Program} {f : FuncId} (h : callable P f) (args : Array Value) (w : World) : (callFunc f args).run P w = .ok (.enter f args) w := by
  obtain ⟨fn, hf, hb, hn⟩ := h
  have hbn : ¬ fn.body = none := by intro hh; rw [hh] at hb; cases hb
  have hn' : ¬ fn.name = "runtime.NumGoroutine" := by simpa using hn
  simp [callFunc, hf, hn', hbn]

theorem XC.calls {P : Program} {f : FuncId} {args : Array Value} {w : World} {Q : Ending → World → Prop} (h : XC P f args w Q) (hc : callable P f) : Calls P f args w Q := by
  rcases h with ⟨_, h2⟩ | ⟨y, w', h1, _⟩
  · exact h2
  · rw [callFunc_enter hc] at h1; cases h1

/-- The call of 'f' with these arguments, in this abstract heap, returns; result and heap are as Q says. -/
def Snd (C : Ctx) (f : FuncId) (args : List AV) (s : HS) (Q : AV → HS → Prop) : Prop :=
  True ∧ ∀ (ρ : Rho) (V : View) (w : World) (args' : Array Value), args'.size = args.length → (∀ (i : Nat) x y, args[i]? = some x → args'[i]? = some y → Rel ρ V x y) →
    Inv ρ V s w → GtOk C V → XC C.P f args' w fun e w' => ∃ y r s' ρ' V', e = .returned y ∧ Q r s' ∧ Rel ρ' V' r y ∧ Inv ρ' V' s' w' ∧ Grew ρ V s w ρ' V' s' w'

theorem Snd.mono {C : Ctx} {f : FuncId} {args : List AV} {s : HS} {Q Q' : AV → HS → Prop} (h : Snd C f args s Q) (hq : ∀ r s', Q r s' → Q' r s') : Snd C f args s Q' :=
  ⟨h.1, fun ρ V w args' h1 h2 h3 h4 => (h.2 ρ V w args' h1 h2 h3 h4).mono fun _ _ ⟨y, r, s', ρ', V', a, b, c⟩ => ⟨y, r, s', ρ', V', a, hq _ _ b, c⟩⟩

/-- What a call did that does as an operation does: at most the name 'fr' is new. -/
structure DidV (ρ : Rho) (V : View) (hs : HS) (w : World) (fr : Nat) (e : Eff) (y : Value) (ρ' : Rho) (V' : View) (w' : World) : Prop where
  rel : Rel ρ' V' e.val y
  inv : Inv ρ' V' ⟨doAct fr e.act hs.objs, hs.next⟩ w'
  rho : ∀ id loc, ρ id = some loc → ρ' id = some loc
  oth : ∀ id, id ≠ fr → ρ' id = ρ id
  view : ∀ b c, V b = some c → V' b = some c
  size : w.heap.size ≤ w'.heap.size
  keep : ∀ b, b < w.heap.size → ¬ Own ρ hs b → w'.heap[b]? = w.heap[b]?
  own : ∀ b, Own ρ' ⟨doAct fr e.act hs.objs, hs.next⟩ b → Own ρ hs b ∨ w.heap.size ≤ b
  vnew : ∀ b c, V' b = some c → V b = some c ∨ Own ρ hs b ∨ w.heap.size ≤ b
  mem : Mem w w'

/-- The call does as an operation does. -/
def SndE (C : Ctx) (f : FuncId) (args : List AV) (hs : HS) (fr : Nat) (e : Eff) : Prop :=
  ∀ (ρ : Rho) (V : View) (w : World) (args' : Array Value), args'.size = args.length → (∀ (i : Nat) x y, args[i]? = some x → args'[i]? = some y → Rel ρ V x y) →
    Inv ρ V hs w → GtOk C V → ρ fr = none → fr < hs.next → XC C.P f args' w fun ed w' => ∃ y ρ' V', ed = .returned y ∧ DidV ρ V hs w fr e y ρ' V' w'

theorem Snd.toE {C : Ctx} {f : FuncId} {args : List AV} {hs : HS} {r : AV} (h : Snd C f args hs fun r' s' => r' = r ∧ s' = hs) (fr : Nat) : SndE C f args hs fr ⟨r, .none⟩ := by
  intro ρ V w args' h1 h2 h3 h4 _ _
  refine (h.2 ρ V w args' h1 h2 h3 h4).mono ?_
  rintro ed w' ⟨y, r', s', ρ', V', rfl, ⟨rfl, rfl⟩, hrel, hinv, hg⟩
  refine ⟨y, ρ', V', rfl, hrel, hinv, hg.rho, fun id _ => ?_, hg.view, hg.size, hg.keep, hg.own, hg.vnew, hg.mem⟩
  rcases Nat.lt_or_ge id s'.next with hlt | hge
  · exact hg.old id hlt
  · rw [hinv.fresh id hge, h3.fresh id hge]

def callOf (C : Ctx) (s : AS) (op : Op) : Option (FuncId × List AV) :=
  match op with
  | .call c => match c.callee with
    | .value f => match ev C s f with
      | .clo g first caps => some (g, first ++ (c.args.toList.map (ev C s) ++ caps))
      | _ => none
    | _ => none
  | _ => none

def putT (t : Nat → AV) (dst : Option Nat) (x : AV) : Nat → AV := match dst with | some d => upd t d x | none => t

/-! ## States and their meaning -/

structure Base where
  ρ : Rho
  V : View
  s : HS
  w : World

def GS (C : Ctx) (N : Nat) (B : Base) (und : Nat → Prop) (s : AS) (a : Act) (w : World) : Prop :=
  ∃ ρ V, (∀ t, Rel ρ V (s.tmps t) (a.tmps.getD t undef)) ∧ Inv ρ V s.toHS w ∧ GtOk C V ∧ Grew B.ρ B.V B.s B.w ρ V s.toHS w ∧ a.tmps.size = N ∧ a.defers = [] ∧ (∀ id, und id → ρ id = none)

theorem GtOk.mono {C : Ctx} {V V' : View} (h : GtOk C V) (hv : ∀ b c, V b = some c → V' b = some c) : GtOk C V' :=
  fun g cs hg => let ⟨c, h1, h2⟩ := h g cs hg; ⟨c, hv _ _ h1, h2⟩

theorem rel_put {ρ : Rho} {V : View} {t : Nat → AV} {a : Act} {x : AV} {y : Value} {dst : Option Nat} {N : Nat} (h : ∀ i, Rel ρ V (t i) (a.tmps.getD i undef)) (hx : Rel ρ V x y) (hN : a.tmps.size = N) (hd : ∀ d, dst = some d → d < N) :
    ∀ i, Rel ρ V (putT t dst x i) ((a.put dst y).tmps.getD i undef) := by
  intro i
  cases dst with
  | none => exact h i
  | some d =>
    have := hd d rfl
    simp only [putT, Act.put]
    by_cases hi : i = d
    · subst hi
      rw [upd_eq]
      have : i < a.tmps.size := by omega
      simpa [this] using hx
    · rw [upd_ne _ _ hi]
      have := h i
      simpa [Array.getElem?_setIfInBounds_ne (Ne.symm hi)] using this

theorem put_size {a : Act} {dst : Option Nat} {y : Value} : (a.put dst y).tmps.size = a.tmps.size := by
  cases dst <;> simp [Act.put]

theorem put_def {a : Act} {dst : Option Nat} {y : Value} : (a.put dst y).defers = a.defers := by
  cases dst <;> rfl

/-- An operation passed over, or one that only yields a value. -/
theorem GS.put {C : Ctx} {N : Nat} {B : Base} {und : Nat → Prop} {s : AS} {a : Act} {w : World} (h : GS C N B und s a w) {dst : Option Nat} (hd : ∀ d, dst = some d → d < N) :
    GS C N B und { s with tmps := putT s.tmps dst (.v undef) } (a.put dst undef) w := by
  obtain ⟨ρ, V, h1, h2, h3, h4, h5, h6, h7⟩ := h
  exact ⟨ρ, V, rel_put h1 (.v undef) h5 hd, h2, h3, h4, by rw [put_size]; exact h5, by rw [put_def]; exact h6, h7⟩

theorem Grew.did {B : Base} {ρ ρ' : Rho} {V : View} {s : HS} {w w' : World} {fr : Nat} {e : Eff} {y : Value} (h : Grew B.ρ B.V B.s B.w ρ V s w) (hfr : B.s.next ≤ fr) (hd : Did ρ V s.objs s.next w fr e y ρ' w') :
    Grew B.ρ B.V B.s B.w ρ' V ⟨doAct fr e.act s.objs, s.next⟩ w' where
  rho id loc hr := hd.rho _ _ (h.rho _ _ hr)
  old id hid := by rw [hd.oth id (by omega), h.old id hid]
  next := h.next
  view := h.view
  size := Nat.le_trans h.size hd.size
  keep b hb hn := by
    rw [hd.keep b (Nat.lt_of_lt_of_le hb h.size) fun ho => ?_, h.keep b hb hn]
    rcases h.own b ho with h1 | h1
    · exact hn h1
    · omega
  own b ho := by
    rcases hd.own b ho with h1 | h1
    · exact h.own b h1
    · exact .inr (Nat.le_trans h.size h1)
  vnew := h.vnew
  mem := h.mem.trans hd.mem

theorem upon_of {P : Program} {o : Oper} {a : Act} {K : Act → World → Prop} {Q : Exit → Act → World → Prop} {w w' : World} {y : Value} (hr : (execOp a.eval o).run P w = .ok (.value y) w' ∨ ((execOp a.eval o).run P w = .ok .skip w' ∧ y = undef))
    (hk : K (a.put o.dst y) w') : o.wp P a w K Q := by
  unfold Oper.wp
  rcases hr with h | ⟨h, rfl⟩
  · rw [h]; exact hk
  · rw [h]; exact hk

theorem step_eff {C : Ctx} (hC : COk C) {N : Nat} {B : Base} {und : Nat → Prop} {s : AS} {a : Act} {w : World} {fr : Nat} {o : Oper} {e : Eff} (h : GS C N B und s a w) (hfr : und fr) (hlt : fr < s.next) (hB : B.s.next ≤ fr) (he : opEff C s fr o.op = some e)
    (hd : ∀ d, o.dst = some d → d < N) (Q : Exit → Act → World → Prop) :
    o.wp C.P a w (fun a' w' => GS C N B (fun id => und id ∧ id ≠ fr) (s.apply o.dst fr e) a' w') Q := by
  obtain ⟨ρ, V, h1, h2, h3, h4, h5, h6, h7⟩ := h
  obtain ⟨y, ρ', w', hr, hdid⟩ := op_sound hC h1 h2 h3 (h7 fr hfr) hlt he
  refine upon_of hr ⟨ρ', V, ?_, hdid.inv, h3, h4.did hB hdid, by rw [put_size]; exact h5, by rw [put_def]; exact h6, fun id hid => by rw [hdid.oth id hid.2]; exact h7 id hid.1⟩
  have := rel_put (dst := o.dst) (fun i => (h1 i).mono hdid.rho fun _ _ hv => hv) hdid.rel h5 hd
  exact this

theorem call_run {C : Ctx} {s : AS} {a : Act} {o : Oper} {f : FuncId} {args : List AV} {ρ : Rho} {V : View} (hT : ∀ t, Rel ρ V (s.tmps t) (a.tmps.getD t undef)) (hG : GtOk C V) (hc : callOf C s o.op = some (f, args)) (w : World) :
    ∃ args' : Array Value, args'.size = args.length ∧ (∀ (i : Nat) x y, args[i]? = some x → args'[i]? = some y → Rel ρ V x y) ∧ (execOp a.eval o).run C.P w = (callFunc f args').run C.P w := by
  obtain ⟨dst, op, type, pos, after, guard⟩ := o
  cases op <;> simp only [callOf] at hc <;> try (cases hc; done)
  rename_i c
  obtain ⟨callee, as, ts⟩ := c
  cases callee <;> simp only at hc <;> try (cases hc; done)
  rename_i g
  have hg := ev_rel hT hG g
  split at hc
  · rename_i g' first caps he
    simp only [Option.some.injEq, Prod.mk.injEq] at hc
    obtain ⟨rfl, rfl⟩ := hc
    rw [he] at hg
    have hy : ∃ y, a.eval g = y := ⟨_, rfl⟩
    obtain ⟨y, hy⟩ := hy
    rw [hy] at hg
    cases hg with
    | clo _ _ _ xs ys h1 h2 H1 H2 =>
      refine ⟨xs ++ as.map a.eval ++ ys, by simp [h1, h2], fun i x y hx hyy => ?_, ?_⟩
      · have hx' : ((first ++ as.toList.map (ev C s)) ++ caps)[i]? = some x := by rw [List.append_assoc]; exact hx
        rw [List.getElem?_append] at hx'
        rw [Array.getElem?_append] at hyy
        have hl : (first ++ as.toList.map (ev C s)).length = (xs ++ as.map a.eval).size := by simp [h1]
        rw [hl] at hx'
        split at hx'
        · rename_i hlt
          rw [if_pos hlt] at hyy
          rw [List.getElem?_append] at hx'
          rw [Array.getElem?_append] at hyy
          rw [← h1] at hx'
          split at hx'
          · rename_i hlt'; rw [if_pos hlt'] at hyy; exact H1 i x y hx' hyy
          · rename_i hlt'; rw [if_neg hlt'] at hyy
            simp only [List.getElem?_map, Option.map_eq_some_iff, Array.getElem?_map, Array.getElem?_toList] at hx' hyy
            obtain ⟨z, hz, rfl⟩ := hx'
            obtain ⟨z', hz', rfl⟩ := hyy
            rw [hz] at hz'; cases hz'
            exact ev_rel hT hG z
        · rename_i hlt; rw [if_neg hlt] at hyy; exact H2 _ x y hx' hyy
      · simp [execOp, resolve, hy, Deferred.ofValue, invoke, Array.append_assoc]
  · cases hc

theorem upon_xc {P : Program} {o : Oper} {a : Act} {K : Act → World → Prop} {Q : Exit → Act → World → Prop} {w : World} {f : FuncId} {args' : Array Value} {R : Value → World → Prop}
    (hr : (execOp a.eval o).run P w = (callFunc f args').run P w) (hx : XC P f args' w fun e w' => ∃ y, e = .returned y ∧ R y w') (hk : ∀ y w', R y w' → K (a.put o.dst y) w') : o.wp P a w K Q := by
  rcases hx with ⟨h1, h2⟩ | ⟨y, w', h1, y', h2, h3⟩
  · unfold Oper.wp
    rw [hr, callFunc_enter h1]
    simp only [Oper.upon]
    refine h2.mono fun e w' ⟨y, he, hR⟩ => ?_
    subst he
    exact hk y w' hR
  · cases h2
    exact upon_of (.inl (hr.trans h1)) (hk _ _ h3)

theorem step_call {C : Ctx} {N : Nat} {B : Base} {und : Nat → Prop} {s : AS} {a : Act} {w : World} {o : Oper} {f : FuncId} {args : List AV} {R : AV → HS → Prop} (h : GS C N B und s a w) (hc : callOf C s o.op = some (f, args)) (hs : Snd C f args s.toHS R)
    (hund : ∀ id, und id → id < s.next) (hd : ∀ d, o.dst = some d → d < N) (Q : Exit → Act → World → Prop) :
    o.wp C.P a w (fun a' w' => ∃ r hs', R r hs' ∧ GS C N B und { hs' with tmps := putT s.tmps o.dst r } a' w') Q := by
  obtain ⟨ρ, V, h1, h2, h3, h4, h5, h6, h7⟩ := h
  obtain ⟨args', g1, g2, g3⟩ := call_run h1 h3 hc w
  refine upon_xc (R := fun y w' => ∃ r s' ρ' V', R r s' ∧ Rel ρ' V' r y ∧ Inv ρ' V' s' w' ∧ Grew ρ V s.toHS w ρ' V' s' w') g3 ((hs.2 ρ V w args' g1 g2 h2 h3).mono ?_) ?_
  · rintro e w' ⟨y, r, s', ρ', V', he, hr⟩
    exact ⟨y, he, r, s', ρ', V', hr⟩
  · rintro y w' ⟨r, s', ρ', V', hr, hrel, hinv, hgrew⟩
    refine ⟨r, s', hr, ρ', V', ?_, hinv, h3.mono hgrew.view, h4.trans hgrew, by rw [put_size]; exact h5, by rw [put_def]; exact h6, fun id hid => by rw [hgrew.old id (hund id hid)]; exact h7 id hid⟩
    exact rel_put (dst := o.dst) (fun i => (h1 i).mono hgrew.rho hgrew.view) hrel h5 hd

theorem Grew.didV {B : Base} {ρ ρ' : Rho} {V V' : View} {s : HS} {w w' : World} {fr : Nat} {e : Eff} {y : Value} (h : Grew B.ρ B.V B.s B.w ρ V s w) (hfr : B.s.next ≤ fr) (hd : DidV ρ V s w fr e y ρ' V' w') :
    Grew B.ρ B.V B.s B.w ρ' V' ⟨doAct fr e.act s.objs, s.next⟩ w' where
  rho id loc hr := hd.rho _ _ (h.rho _ _ hr)
  old id hid := by rw [hd.oth id (by omega), h.old id hid]
  next := h.next
  view b c hv := hd.view _ _ (h.view _ _ hv)
  size := Nat.le_trans h.size hd.size
  keep b hb hn := by
    rw [hd.keep b (Nat.lt_of_lt_of_le hb h.size) fun ho => ?_, h.keep b hb hn]
    rcases h.own b ho with h1 | h1
    · exact hn h1
    · omega
  own b ho := by
    rcases hd.own b ho with h1 | h1
    · exact h.own b h1
    · exact .inr (Nat.le_trans h.size h1)
  vnew b c hv := by
    rcases hd.vnew b c hv with h1 | h1 | h1
    · exact h.vnew b c h1
    · exact .inr (h.own b h1)
    · exact .inr (.inr (Nat.le_trans h.size h1))
  mem := h.mem.trans hd.mem

theorem step_callE {C : Ctx} {N : Nat} {B : Base} {und : Nat → Prop} {s : AS} {a : Act} {w : World} {fr : Nat} {o : Oper} {f : FuncId} {args : List AV} {e : Eff} (h : GS C N B und s a w) (hc : callOf C s o.op = some (f, args)) (hs : SndE C f args s.toHS fr e)
    (hfr : und fr) (hlt : fr < s.next) (hB : B.s.next ≤ fr) (hd : ∀ d, o.dst = some d → d < N) (Q : Exit → Act → World → Prop) :
    o.wp C.P a w (fun a' w' => GS C N B (fun id => und id ∧ id ≠ fr) (s.apply o.dst fr e) a' w') Q := by
  obtain ⟨ρ, V, h1, h2, h3, h4, h5, h6, h7⟩ := h
  obtain ⟨args', g1, g2, g3⟩ := call_run h1 h3 hc w
  refine upon_xc (R := fun y w' => ∃ ρ' V', DidV ρ V s.toHS w fr e y ρ' V' w') g3 ((hs ρ V w args' g1 g2 h2 h3 (h7 fr hfr) hlt).mono ?_) ?_
  · rintro ed w' ⟨y, ρ', V', he, hr⟩
    exact ⟨y, he, ρ', V', hr⟩
  · rintro y w' ⟨ρ', V', hdid⟩
    refine ⟨ρ', V', ?_, hdid.inv, h3.mono hdid.view, h4.didV hB hdid, by rw [put_size]; exact h5, by rw [put_def]; exact h6, fun id hid => by rw [hdid.oth id hid.2]; exact h7 id hid.1⟩
    exact rel_put (dst := o.dst) (fun i => (h1 i).mono hdid.rho hdid.view) hdid.rel h5 hd

/-! ## Regions in the order of the text -/

def stepW (C : Ctx) (s : AS) (fr : Nat) (o : Oper) (K : AS → Prop) : Prop :=
  match callOf C s o.op with
  | some (f, args) => (∃ R, Snd C f args s.toHS R ∧ ∀ r hs, R r hs → K { hs with tmps := putT s.tmps o.dst r }) ∨ (∃ e, SndE C f args s.toHS fr e ∧ K (s.apply o.dst fr e))
  | none => match opEff C s fr o.op with
    | some e => K (s.apply o.dst fr e)
    | none => False

def seqW (C : Ctx) (all : List Oper) (base : Nat) : Nat → List Oper → AS → (AS → Prop) → Prop
  | _, [], s, K => K s
  | i, o :: rest, s, K => match o.guard with
    | none => stepW C s (base + i) o fun s' => seqW C all base (i + 1) rest s' K
    | some (g, want) => match (all[g]?).bind (·.dst) with
      | some d => ∃ x, s.tmps d = .v x ∧ (x = .bool want → stepW C s (base + i) o fun s' => seqW C all base (i + 1) rest s' K) ∧ (x ≠ .bool want → seqW C all base (i + 1) rest { s with tmps := putT s.tmps o.dst (.v undef) } K)
      | none => False

theorem wanted_of {ops : Array Oper} {o : Oper} {g : Nat} {want : Bool} {x : Value} {d : Nat} {ρ : Rho} {V : View} {s : AS} {a : Act} {N : Nat} (hg : o.guard = some (g, want)) (hd : (ops.toList[g]?).bind (·.dst) = some d) (hT : ∀ t, Rel ρ V (s.tmps t) (a.tmps.getD t undef)) (hb : s.tmps d = .v x)
    (hN : a.tmps.size = N) (hdN : d < N) : (x = .bool want → Region.wanted o (yielded ops a.tmps) = true) ∧ (x ≠ .bool want → Region.wanted o (yielded ops a.tmps) = false) := by
  have h1 := hT d
  rw [hb] at h1
  have h2 := Rel.v_inv h1
  have hlt : d < a.tmps.size := by omega
  have h3 : a.tmps[d]? = some x := by
    simp [hlt] at h2 ⊢; exact h2
  have hd' : (ops[g]?).bind (·.dst) = some d := by rw [← Array.getElem?_toList]; exact hd
  constructor
  · rintro rfl
    simp [Region.wanted, hg, yielded, hd', h3]
  · intro hx
    cases x <;> simp [Region.wanted, hg, yielded, hd', h3]
    intro hh; exact hx (by rw [hh])

theorem step_seq1 {C : Ctx} (hC : COk C) {N : Nat} {B : Base} {und : Nat → Prop} {s : AS} {a : Act} {w : World} {fr : Nat} {o : Oper} {K : AS → Prop} (h : GS C N B und s a w) (hfr : und fr) (hund : ∀ id, und id → id < s.next) (hB : B.s.next ≤ fr)
    (hd : ∀ d, o.dst = some d → d < N) (Q : Exit → Act → World → Prop) (hk : stepW C s fr o K) :
    o.wp C.P a w (fun a' w' => ∃ s', K s' ∧ s.next ≤ s'.next ∧ GS C N B (fun id => und id ∧ id ≠ fr) s' a' w') Q := by
  unfold stepW at hk
  split at hk
  · rename_i f args hc
    rcases hk with ⟨R, h1, h2⟩ | ⟨e, h1, h2⟩
    · refine Oper.wp_mono ?_ (step_call h hc (R := fun r hs => R r hs ∧ s.next ≤ hs.next) ?_ hund hd Q)
      · rintro a' w' ⟨r, hs', ⟨hr, hn⟩, ρ, V, g1, g2, g3, g4, g5, g6, g7⟩
        exact ⟨_, h2 r hs' hr, hn, ρ, V, g1, g2, g3, g4, g5, g6, fun id hid => g7 id hid.1⟩
      · refine ⟨h1.1, fun ρ V w args' a1 a2 a3 a4 => (h1.2 ρ V w args' a1 a2 a3 a4).mono ?_⟩
        rintro e w' ⟨y, r, s', ρ', V', b1, b2, b3, b4, b5⟩
        exact ⟨y, r, s', ρ', V', b1, ⟨b2, b5.next⟩, b3, b4, b5⟩
    · refine Oper.wp_mono ?_ (step_callE h hc h1 hfr (hund fr hfr) hB hd Q)
      intro a' w' hg
      exact ⟨_, h2, Nat.le_refl _, hg⟩
  · split at hk
    · rename_i e he
      refine Oper.wp_mono ?_ (step_eff hC h hfr (hund fr hfr) hB he hd Q)
      intro a' w' hg
      exact ⟨_, hk, Nat.le_refl _, hg⟩
    · exact hk.elim

theorem seqW_sound {C : Ctx} (hC : COk C) {N : Nat} {B : Base} {ops : Array Oper} {Q : Exit → Act → World → Prop} {base : Nat} (hB : B.s.next ≤ base) (hdst : ∀ o ∈ ops, ∀ d, o.dst = some d → d < N) {K : AS → Prop}
    (hQ : ∀ s a w, K s → GS C N B (fun _ => False) s a w → Q .normal a w) :
    ∀ (l : List Oper) (i : Nat) (s : AS) (a : Act) (w : World), ops.toList.drop i = l → base + ops.size ≤ s.next → GS C N B (fun id => base + i ≤ id ∧ id < base + ops.size) s a w → seqW C ops.toList base i l s K →
      wpOps C.P ops Q ((List.range ops.size).drop i) a w := by
  intro l
  induction l with
  | nil =>
    intro i s a w hl hn hg hk
    have hi : ops.size ≤ i := by
      have := congrArg List.length hl
      simp at this; omega
    rw [List.drop_eq_nil_of_le (by simpa using hi)]
    obtain ⟨ρ, V, h1, h2, h3, h4, h5, h6, h7⟩ := hg
    exact hQ s a w hk ⟨ρ, V, h1, h2, h3, h4, h5, h6, fun id hid => hid.elim⟩
  | cons o rest ih =>
    intro i s a w hl hn hg hk
    have hi : i < ops.size := by
      rcases Nat.lt_or_ge i ops.size with h | h
      · exact h
      · rw [List.drop_eq_nil_of_le (by simpa using h)] at hl; cases hl
    have ho : ops[i]? = some o := by
      have : ops.toList[i]? = some o := by
        have := congrArg List.head? hl
        simpa [List.head?_drop] using this
      rw [← Array.getElem?_toList]; exact this
    have hom : o ∈ ops := Array.mem_of_getElem? ho
    have hrest : ops.toList.drop (i + 1) = rest := by
      have : ops.toList.drop (i + 1) = (ops.toList.drop i).drop 1 := by rw [List.drop_drop]
      rw [this, hl]; rfl
    have hdr : (List.range ops.size).drop i = i :: (List.range ops.size).drop (i + 1) := by
      rw [List.drop_eq_getElem_cons (by simpa using hi)]; simp
    rw [hdr]
    simp only [wpOps, ho]
    have hund : ∀ id, base + i ≤ id ∧ id < base + ops.size → id < s.next := fun id hid => by omega
    have go : stepW C s (base + i) o (fun s' => seqW C ops.toList base (i + 1) rest s' K) → o.wp C.P a w (wpOps C.P ops Q ((List.range ops.size).drop (i + 1))) Q := by
      intro hst
      refine Oper.wp_mono ?_ (step_seq1 hC hg ⟨Nat.le_refl _, by omega⟩ hund (by omega) (hdst o hom) Q hst)
      rintro a' w' ⟨s', hk', hn', ρ, V, h1, h2, h3, h4, h5, h6, h7⟩
      exact ih (i + 1) s' a' w' hrest (by omega) ⟨ρ, V, h1, h2, h3, h4, h5, h6, fun id hid => h7 id ⟨⟨by omega, hid.2⟩, by omega⟩⟩ hk'
    have skip : seqW C ops.toList base (i + 1) rest { s with tmps := putT s.tmps o.dst (.v undef) } K → wpOps C.P ops Q ((List.range ops.size).drop (i + 1)) (a.put o.dst undef) w := by
      intro hst
      have hp := hg.put (dst := o.dst) (hdst o hom)
      obtain ⟨ρ, V, h1, h2, h3, h4, h5, h6, h7⟩ := hp
      exact ih (i + 1) { s with tmps := putT s.tmps o.dst (.v undef) } _ w hrest hn ⟨ρ, V, h1, h2, h3, h4, h5, h6, fun id hid => h7 id ⟨by omega, hid.2⟩⟩ hst
    simp only [seqW] at hk
    split at hk
    · rename_i hgd
      have hw : Region.wanted o (yielded ops a.tmps) = true := by simp [Region.wanted, hgd]
      rw [if_pos hw]
      exact .inl (go hk)
    · rename_i g want hgd
      split at hk
      · rename_i d hd
        obtain ⟨x, hb, hy, hno⟩ := hk
        obtain ⟨ρ, V, h1, h2, h3, h4, h5, h6, h7⟩ := hg
        have hdN : d < N := by
          obtain ⟨og, hog, hdg⟩ := Option.bind_eq_some_iff.1 hd
          exact hdst og (by rw [← Array.mem_toList_iff]; exact List.mem_of_getElem? hog) d hdg
        have hw := wanted_of hgd hd h1 hb h5 hdN
        by_cases hbw : x = .bool want
        · rw [hw.1 hbw, if_pos rfl]
          exact .inl (go (hy hbw))
        · rw [hw.2 hbw, if_neg (by simp)]
          exact skip (hno hbw)
      · exact hk.elim

end Go.AX
