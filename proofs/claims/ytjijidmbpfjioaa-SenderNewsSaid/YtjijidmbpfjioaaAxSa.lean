/- A part of the proof: AxSa. -/
import Derived.Test.YtjijidmbpfjioaaAxS
namespace Go.AX

/-! ## Calls that make an object -/

/-- A template with one reference, to an object that is named later. -/
def Ren (mk : Nat → AV) : Prop := ∀ (a b : Nat) (ρ ρ' : Rho) (V : View) (y : Value), ρ' b = ρ a → Rel ρ V (mk a) y → Rel ρ' V (mk b) y

theorem Ren.const {x : AV} (h : Clean x) : Ren fun _ => x := fun _ _ _ _ _ _ _ hr => h _ _ _ _ hr
theorem Ren.ref (off len sz : Nat) : Ren fun q => .ref q off len sz := by
  intro a b ρ ρ' V y he hr
  cases hr with
  | ref _ _ _ _ cap loc h hc hl => exact .ref b off len sz cap loc (by rw [he]; exact h) hc hl
  | refE _ _ _ addr => exact .refE b off sz addr
theorem Ren.ptr (off : Nat) : Ren fun q => .ptr q off := by
  intro a b ρ ρ' V y he hr
  cases hr with
  | ptr _ _ loc h => exact .ptr b off loc (by rw [he]; exact h)

inductive RenL : (Nat → List AV) → Prop
  | nil : RenL fun _ => []
  | cons {x : Nat → AV} {l : Nat → List AV} (h : Ren x) (t : RenL l) : RenL fun q => x q :: l q

theorem RenL.const : ∀ {l : List AV}, (∀ c ∈ l, Clean c) → RenL fun _ => l
  | [], _ => .nil
  | c :: l, h => .cons (.const (h c (by simp))) (RenL.const fun d hd => h d (by simp [hd]))

theorem RenL.get {l : Nat → List AV} (h : RenL l) : (∀ a b, (l a).length = (l b).length) ∧ ∀ (i a b : Nat) x z, (l a)[i]? = some x → (l b)[i]? = some z → ∀ (ρ ρ' : Rho) (V : View) (y : Value), ρ' b = ρ a → Rel ρ V x y → Rel ρ' V z y := by
  induction h with
  | nil => exact ⟨fun _ _ => rfl, fun i a b x z hx => by simp at hx⟩
  | cons h t ih =>
    refine ⟨fun a b => by simp [ih.1 a b], fun i a b x z hx hz => ?_⟩
    cases i with
    | zero => simp at hx hz; subst hx; subst hz; exact h a b
    | succ i => simp at hx hz; exact ih.2 i a b x z hx hz

theorem RenL.list {l : Nat → List AV} (h : RenL l) {a b : Nat} {ρ ρ' : Rho} {V : View} (he : ρ' b = ρ a) {ys : Array Value}
    (H : ∀ (i : Nat) x y, (l a)[i]? = some x → ys[i]? = some y → Rel ρ V x y) : ∀ (i : Nat) x y, (l b)[i]? = some x → ys[i]? = some y → Rel ρ' V x y := by
  intro i x y hx hy
  have hi : i < (l b).length := (List.getElem?_eq_some_iff.1 hx).1
  have hi' : i < (l a).length := by rw [h.get.1 a b]; exact hi
  have e : (l a)[i]? = some (l a)[i] := by simp [hi']
  exact h.get.2 i a b _ _ e hx ρ ρ' V y he (H i _ y e hy)

theorem Ren.agg {l : Nat → List AV} (h : RenL l) : Ren fun q => .agg (l q) := by
  intro a b ρ ρ' V y he hr
  cases hr with
  | agg _ ys h1 H S => exact .agg _ ys (by rw [h1, h.get.1 a b]) (h.list he H) S
theorem Ren.tup {l : Nat → List AV} (h : RenL l) : Ren fun q => .tup (l q) := by
  intro a b ρ ρ' V y he hr
  cases hr with
  | tup _ ys h1 H => exact .tup _ ys (by rw [h1, h.get.1 a b]) (h.list he H)

theorem Inv.kill {ρ : Rho} {V : View} {s : HS} {w : World} (h : Inv ρ V s w) (q : Nat) : Inv ρ V ⟨upd s.objs q .dead, s.next⟩ w := by
  have key : ∀ id, upd s.objs q .dead id = s.objs id ∨ upd s.objs q .dead id = .dead := by
    intro id
    by_cases he : id = q
    · subst he; exact .inr (upd_eq _ _ _)
    · exact .inl (upd_ne _ _ he)
  refine ⟨h.view, h.fresh, fun id cells loc hl => ?_, fun id cells loc hl => ?_, fun i j li lj ci cj hi hj => ?_⟩
  · rcases key id with hk | hk <;> simp only [hk] at hl
    · exact h.live id cells loc hl
    · cases hl
  · rcases key id with hk | hk <;> simp only [hk] at hl
    · exact h.froz id cells loc hl
    · cases hl
  · rcases key i with hk | hk <;> simp only [hk] at hi
    · rcases key j with hk | hk <;> simp only [hk] at hj
      · exact h.inj i j li lj ci cj hi hj
      · cases hj
    · cases hi

theorem relC_fz {ρ : Rho} {V : View} {s : HS} {w : World} (hI : Inv ρ V s w) {cells : List AV} {c : Array Value} {o : Nat} (h : RelC ρ V cells c o) (n : Nat) : RelC ρ (VV ρ V s w) (cells.map (fz s.objs n)) c o := by
  refine ⟨by simpa using h.le, fun i x y hx hy => ?_, fun i y hi hy => h.sto i y (by simpa using hi) hy⟩
  obtain ⟨z, hz, rfl⟩ := getElem?_map_iff hx
  exact fz_rel hI n z y (h.rel i z y hz hy)

theorem RelC.clean {ρ ρ' : Rho} {V : View} {cells : List AV} {c : Array Value} {o : Nat} (h : RelC ρ V cells c o) (hc : ∀ x ∈ cells, Clean x) : RelC ρ' V cells c o :=
  ⟨h.le, fun i x y hx hy => hc x (List.mem_of_getElem? hx) _ _ _ _ (h.rel i x y hx hy), h.sto⟩

/-- A FUNCTION THAT MAKES AN OBJECT, from every empty heap. -/
theorem SndE.of_new {C : Ctx} {f : FuncId} {args : List AV} {mk : Nat → AV} {CS : List AV} (hmk : Ren mk) (hcl : ∀ c ∈ CS, Clean c)
    (h : ∀ n, Snd C f args (deadH n) fun r' s' => ∃ q cells, s'.objs q = .live cells ∧ fz (upd s'.objs q .dead) deep r' = mk q ∧ cells.map (fz (upd s'.objs q .dead) deep) = CS) (hs : HS) (fr : Nat) :
    SndE C f args hs fr ⟨mk fr, .new CS⟩ := by
  intro ρ V w args' h1 h2 hI hG hfr hlt
  refine ((h hs.next).2 ρ V w args' h1 h2 hI.dead hG).mono ?_
  rintro ed w' ⟨y, r', s', ρ', V', rfl, ⟨q, cells, ho, hr, hc⟩, hrel, hinv, hg⟩
  have hit := hinv.kill q
  have hlow : ∀ b, Own ρ' s' b → w.heap.size ≤ b := fun b hb => (hg.own b hb).elim (fun h => (own_dead h).elim) id
  have hown : ∀ b, Own ρ' ⟨upd s'.objs q .dead, s'.next⟩ b → ∃ id cells loc, id ≠ q ∧ s'.objs id = .live cells ∧ ρ' id = some loc ∧ loc.b = b := by
    rintro b ⟨id, cs, loc, g1, g2, g3⟩
    simp only at g1
    by_cases he : id = q
    · subst he; rw [upd_eq] at g1; cases g1
    · rw [upd_ne _ _ he] at g1; exact ⟨id, cs, loc, he, g1, g2, g3⟩
  have hvm : ∀ b c, V b = some c → VV ρ' V' ⟨upd s'.objs q .dead, s'.next⟩ w' b = some c := fun b c hv => VV_mono _ _ (hg.view b c hv)
  have hgn : ∀ b c, VV ρ' V' ⟨upd s'.objs q .dead, s'.next⟩ w' b = some c → V b = some c ∨ w.heap.size ≤ b := by
    intro b c hv
    rcases VV_cases hv with h5 | ⟨h5, _⟩
    · rcases hg.vnew b c h5 with h6 | h6 | h6
      · exact .inl h6
      · exact (own_dead h6).elim
      · exact .inr h6
    · obtain ⟨id, cs, loc, _, g1, g2, g3⟩ := hown b h5
      exact .inr (hlow b ⟨id, cs, loc, g1, g2, g3⟩)
  have hk : ∀ b, b < w.heap.size → w'.heap[b]? = w.heap[b]? := fun b hb => hg.keep b hb own_dead
  have hrho : ∀ id loc, ρ id = some loc → (fun id => if id = fr then ρ' q else ρ id) id = some loc := by
    intro id loc hl
    have : id ≠ fr := by rintro rfl; rw [hfr] at hl; cases hl
    simp only [if_neg this]; exact hl
  refine ⟨y, fun id => if id = fr then ρ' q else ρ id, VV ρ' V' ⟨upd s'.objs q .dead, s'.next⟩ w', rfl, ?_⟩
  refine ⟨?_, ?_, hrho, fun id hid => if_neg hid, hvm, hg.size, fun b hb _ => hk b hb, ?_, ?_, hg.mem⟩
  · have := fz_rel hit deep r' y hrel
    simp only at this
    rw [hr] at this
    exact hmk q fr _ _ _ _ (by simp) this
  · refine ⟨(inv_VV hit).view, fun id hid => ?_, fun id cs loc hl hρ => ?_, fun id cs loc hl hρ => ?_, fun i j li lj ci cj hi hj hρi hρj hb => ?_⟩
    · have hne : id ≠ fr := by simp only at hid; omega
      simp only [if_neg hne]; exact hI.fresh id hid
    · simp only [doAct] at hl
      by_cases he : id = fr
      · subst he
        rw [upd_eq] at hl
        cases hl
        simp only [if_true] at hρ
        obtain ⟨c, T, g1, g2, g3, g4⟩ := hinv.live q cells loc ho hρ
        refine ⟨c, T, g1, g2, ?_, ?_⟩
        · have := relC_fz hit g3 deep
          simp only at this
          rw [hc] at this
          exact this.clean hcl
        · cases hv : VV ρ' V' ⟨upd s'.objs q .dead, s'.next⟩ w' loc.b with
          | none => rfl
          | some c' =>
            rcases VV_cases hv with h5 | ⟨h5, _⟩
            · rw [g4] at h5; cases h5
            · obtain ⟨id', cs', loc', k0, k1, k2, k3⟩ := hown _ h5
              exact absurd (hinv.inj id' q loc' loc cs' cells k1 ho k2 hρ k3) k0
      · rw [upd_ne _ _ he] at hl
        simp only [if_neg he] at hρ
        obtain ⟨c, T, g1, g2, g3, g4⟩ := hI.live id cs loc hl hρ
        refine ⟨c, T, by rw [hk _ (lt_of_heap g1)]; exact g1, g2, g3.mono hrho hvm, ?_⟩
        cases hv : VV ρ' V' ⟨upd s'.objs q .dead, s'.next⟩ w' loc.b with
        | none => rfl
        | some c' =>
          rcases hgn _ _ hv with h5 | h5
          · rw [g4] at h5; cases h5
          · have := lt_of_heap g1; omega
    · simp only [doAct] at hl
      by_cases he : id = fr
      · subst he; rw [upd_eq] at hl; cases hl
      · rw [upd_ne _ _ he] at hl
        simp only [if_neg he] at hρ
        obtain ⟨c, g1, g2, g3⟩ := hI.froz id cs loc hl hρ
        exact ⟨c, hvm _ _ g1, g2.mono hrho hvm, g3⟩
    · simp only [doAct] at hi hj
      have hnew : ∀ {l : Loc}, ρ' q = some l → w.heap.size ≤ l.b := fun hl => hlow _ ⟨q, cells, _, ho, hl, rfl⟩
      have hold : ∀ {i : Nat} {c : List AV} {l : Loc}, hs.objs i = .live c → ρ i = some l → l.b < w.heap.size := fun ho' hl => hI.own_lt ⟨_, _, _, ho', hl, rfl⟩
      by_cases h5 : i = fr
      · by_cases h6 : j = fr
        · rw [h5, h6]
        · subst h5
          rw [upd_ne _ _ h6] at hj
          simp only [if_true] at hρi
          simp only [if_neg h6] at hρj
          have := hnew hρi
          have := hold hj hρj
          omega
      · rw [upd_ne _ _ h5] at hi
        simp only [if_neg h5] at hρi
        by_cases h6 : j = fr
        · subst h6
          simp only [if_true] at hρj
          have := hnew hρj
          have := hold hi hρi
          omega
        · rw [upd_ne _ _ h6] at hj
          simp only [if_neg h6] at hρj
          exact hI.inj i j li lj ci cj hi hj hρi hρj hb
  · rintro b ⟨id, cs, loc, hl, hρ, rfl⟩
    simp only [doAct] at hl
    by_cases he : id = fr
    · subst he
      simp only [if_true] at hρ
      exact .inr (hlow _ ⟨q, cells, _, ho, hρ, rfl⟩)
    · rw [upd_ne _ _ he] at hl
      simp only [if_neg he] at hρ
      exact .inl ⟨id, cs, loc, hl, hρ, rfl⟩
  · intro b c hv
    exact (hgn b c hv).elim .inl fun h => .inr (.inr h)

/-- THE SUMMARY OF A FUNCTION THAT MAKES AN OBJECT AND KEEPS NOTHING. -/
def SndN (C : Ctx) (f : FuncId) (args : List AV) (mk : Nat → AV) (CS : List AV) : Prop := ∀ (hs : HS) (fr : Nat), SndE C f args hs fr ⟨mk fr, .new CS⟩

theorem SndN.of_awp {C : Ctx} (hC : COk C) {f : FuncId} {fn : Func} {c : Code} {args : List AV} {mk : Nat → AV} {CS : List AV} (hmk : Ren mk) (hcl : ∀ c ∈ CS, Clean c) (hf : C.P.funcs[f]? = some fn) (hb : fn.body = some c) (hn : (fn.name == "runtime.NumGoroutine") = false)
    (hst : stOk fn.ntmps c = true) (hargs : args.length ≤ fn.ntmps) (h : ∀ n, awp C c (endQ C fn fun r' s' => ∃ q cells, s'.objs q = .live cells ∧ fz (upd s'.objs q .dead) deep r' = mk q ∧ cells.map (fz (upd s'.objs q .dead) deep) = CS) (init args (deadH n))) : SndN C f args mk CS :=
  fun hs fr => SndE.of_new hmk hcl (fun n => snd_of_awp hC hf hb hn hst hargs (h n)) hs fr

theorem SndN.norm {C : Ctx} {f : FuncId} {args : List AV} {mk : Nat → AV} {CS : List AV} (h : SndN C f (args.map (fz (fun _ => .dead) deep)) mk CS) : SndN C f args mk CS := by
  intro hs fr ρ V w args' h1 h2 h3 h4
  refine h hs fr ρ V w args' (by simpa using h1) ?_ h3 h4
  intro i x y hx hy
  obtain ⟨z, hz, rfl⟩ := getElem?_map_iff hx
  have := fz_rel h3.dead deep z y (h2 i z y hz hy)
  rw [VV_dead] at this
  exact this

theorem SndN.ecall {C : Ctx} {f : FuncId} {args : List AV} {mk : Nat → AV} {CS : List AV} (h : SndN C f args mk CS) (objs : Nat → Ob) (fr : Nat) : ECall C f args objs [] fr ⟨mk fr, .new CS⟩ := fun hs _ => h hs fr

/-! ## What is known, weakened -/

/-- An empty list of one's own in place of nil. -/
theorem Wk.thaw (C : Ctx) (s : AS) (j sz : Nat) (h : s.tmps j = .v (.slice none 0 0)) : Wk C s { objs := upd s.objs s.next (.live []), next := s.next + 1, tmps := upd s.tmps j (.ref s.next 0 0 sz) } := by
  rintro N B a w ⟨ρ, V, h1, h2, h3, h4, h5, h6, _⟩
  have hn : ρ s.next = none := h2.fresh _ (Nat.le_refl _)
  have hne : ∀ {id : Nat} {loc : Loc}, ρ id = some loc → id ≠ s.next := by rintro id loc hl rfl; rw [hn] at hl; cases hl
  refine ⟨ρ, V, fun t => ?_, ⟨h2.view, fun id hid => h2.fresh id (by simp only at hid ⊢; omega), fun id cells loc hl hρ => ?_, fun id cells loc hl hρ => ?_, fun i j li lj ci cj hi hj hρi hρj => ?_⟩, h3,
    ⟨h4.rho, h4.old, by have := h4.next; simp only at this ⊢; omega, h4.view, h4.size, h4.keep, fun b hb => h4.own b ?_, h4.vnew, h4.mem⟩, h5, h6, fun id hid => hid.elim⟩
  · show Rel ρ V (upd s.tmps j (.ref s.next 0 0 sz) t) _
    by_cases ht : t = j
    · subst ht
      have := h1 t
      rw [h] at this
      rw [Rel.v_inv this, upd_eq]
      exact .refE _ _ _ _
    · rw [upd_ne _ _ ht]; exact h1 t
  · simp only [upd_ne _ _ (hne hρ)] at hl; exact h2.live id cells loc hl hρ
  · simp only [upd_ne _ _ (hne hρ)] at hl; exact h2.froz id cells loc hl hρ
  · simp only [upd_ne _ _ (hne hρi)] at hi
    simp only [upd_ne _ _ (hne hρj)] at hj
    exact h2.inj i j li lj ci cj hi hj hρi hρj
  · obtain ⟨id, cells, loc, hl, hρ, hb⟩ := hb
    simp only [upd_ne _ _ (hne hρ)] at hl
    exact ⟨id, cells, loc, hl, hρ, hb⟩

/-- Temporaries forgotten. -/
theorem Wk.tmps (C : Ctx) (s : AS) (x : Nat → AV) (h : ∀ t, x t = s.tmps t ∨ x t = .unk) : Wk C s { s with tmps := x } := by
  rintro N B a w ⟨ρ, V, h1, h2⟩
  refine ⟨ρ, V, fun t => ?_, h2⟩
  show Rel ρ V (x t) _
  rcases h t with ht | ht
  · rw [ht]; exact h1 t
  · rw [ht]; exact .unk _

/-- Nil is an empty list. -/
theorem Wk.nil (C : Ctx) (s : AS) (j : Nat) (h : s.tmps j = .v (.slice none 0 0)) : Wk C s { s with tmps := upd s.tmps j (.imm [] 0) } := by
  rintro N B a w ⟨ρ, V, h1, h2⟩
  refine ⟨ρ, V, fun t => ?_, h2⟩
  show Rel ρ V (upd s.tmps j (.imm [] 0) t) _
  by_cases ht : t = j
  · subst ht
    have := h1 t
    rw [h] at this
    rw [Rel.v_inv this, upd_eq]
    exact .imm0 _ _
  · rw [upd_ne _ _ ht]; exact h1 t

end Go.AX
