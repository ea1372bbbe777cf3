/- A part of the proof: AxN. -/
import Derived.Test.YtjijidmbpfjioaaAxM
import Derived.Test.YtjijidmbpfjioaaAxN0
namespace Go.AX

/-! ## Operations that do not meet -/

def agree (r : Option (Nat × Nat)) (x y : Ob) : Prop :=
  x = y ∨ ∃ off n c c', r = some (off, n) ∧ x = .live c ∧ y = .live c' ∧ c.length = c'.length ∧ ∀ k, off ≤ k → k < off + n → c[k]? = c'[k]?

theorem agree.symm {r : Option (Nat × Nat)} {x y : Ob} (h : agree r x y) : agree r y x := by
  rcases h with h | ⟨off, n, c, c', h1, h2, h3, h4, h5⟩
  · exact .inl h.symm
  · exact .inr ⟨off, n, c', c, h1, h3, h2, h4.symm, fun k a b => (h5 k a b).symm⟩

theorem agree.trans {r : Option (Nat × Nat)} {x y z : Ob} (h : agree r x y) (h' : agree r y z) : agree r x z := by
  rcases h with rfl | ⟨off, n, c, c', h1, h2, h3, h4, h5⟩
  · exact h'
  · rcases h' with rfl | ⟨off', n', d, d', g1, g2, g3, g4, g5⟩
    · exact .inr ⟨off, n, c, c', h1, h2, h3, h4, h5⟩
    · rw [h1] at g1; cases g1
      rw [h3] at g2; cases g2
      exact .inr ⟨off, n, c, d', h1, h2, g3, h4.trans g4, fun k a b => (h5 k a b).trans (g5 k a b)⟩

def agrees (f : Foot) (x y : Nat → Ob) : Prop := ∀ p ∈ f, agree p.2 (x p.1) (y p.1)

theorem agrees.symm {f : Foot} {x y : Nat → Ob} (h : agrees f x y) : agrees f y x := fun p hp => (h p hp).symm
theorem agrees.trans {f : Foot} {x y z : Nat → Ob} (h : agrees f x y) (h' : agrees f y z) : agrees f x z := fun p hp => (h p hp).trans (h' p hp)

def actAt (fr : Nat) (act : HAct) (j : Nat) (x : Ob) : Ob :=
  match act with
  | .none => x
  | .new cells => if j = fr then .live cells else x
  | .wr id off cs => if j = id then (match x with | .live c => .live (putAt c off cs) | y => y) else x
  | .app old cells => if j = fr then .live cells else if old = some j then .dead else x

theorem doAct_at (fr : Nat) (act : HAct) (objs : Nat → Ob) (j : Nat) : doAct fr act objs j = actAt fr act j (objs j) := by
  cases act with
  | none => rfl
  | new cells => rfl
  | wr id off cs =>
    simp only [doAct, actAt]
    by_cases hj : j = id
    · subst hj
      cases h : objs j <;> simp [h]
    · rw [if_neg hj]
      cases h : objs id with
      | live c => exact upd_ne _ _ hj
      | dead => rfl
      | froz c => rfl
  | app old cells =>
    simp only [doAct, actAt]
    by_cases hj : j = fr
    · subst hj; simp
    · rw [upd_ne _ _ hj, if_neg hj]
      cases old with
      | none => simp [killO]
      | some o =>
        by_cases ho : o = j
        · subst ho; simp [killO]
        · have h1 : ¬ (some o = some j) := fun h => ho (by cases h; rfl)
          rw [if_neg h1]
          simp only [killO]
          rw [upd_ne _ _ fun h => ho h.symm]

theorem actAt_agree {fr : Nat} {act : HAct} {f : Foot} (h : clash (wrOf fr act) f = false) (objs : Nat → Ob) : agrees f objs (doAct fr act objs) := by
  intro p hp
  rw [doAct_at]
  have hno : ∀ q ∈ wrOf fr act, ¬ (q.1 = p.1 ∧ meet q.2 p.2 = true) := by
    intro q hq hh
    have : clash (wrOf fr act) f = true := by
      unfold clash
      rw [List.any_eq_true]
      refine ⟨q, hq, ?_⟩
      rw [List.any_eq_true]
      exact ⟨p, hp, by simp [hh.1, hh.2]⟩
    rw [this] at h; cases h
  have mnone : ∀ r, meet none r = true := fun r => by cases r <;> rfl
  cases act with
  | none => exact .inl rfl
  | new cells =>
    simp only [actAt]
    by_cases hj : p.1 = fr
    · exact absurd ⟨hj.symm, mnone _⟩ (hno (fr, none) (by simp [wrOf]))
    · rw [if_neg hj]; exact .inl rfl
  | wr id off cs =>
    simp only [actAt]
    by_cases hj : p.1 = id
    · rw [if_pos hj]
      have hm := hno (id, some (off, cs.length)) (by simp [wrOf])
      cases hx : objs p.1 with
      | dead => exact .inl rfl
      | froz c => exact .inl rfl
      | live c =>
        cases hr : p.2 with
        | none => rw [hr] at hm; exact absurd ⟨hj.symm, rfl⟩ hm
        | some on =>
          obtain ⟨o', n'⟩ := on
          rw [hr] at hm
          have hm' : ¬ (off < o' + n' ∧ o' < off + cs.length) := by
            intro hh
            exact hm ⟨hj.symm, by simp [meet, hh.1, hh.2]⟩
          refine .inr ⟨o', n', c, _, rfl, rfl, rfl, (putAt_length c off cs).symm, fun k a b => ?_⟩
          rw [putAt_get', if_neg (by omega)]
    · rw [if_neg hj]; exact .inl rfl
  | app old cells =>
    simp only [actAt]
    by_cases hj : p.1 = fr
    · exact absurd ⟨hj.symm, mnone _⟩ (hno (fr, none) (by cases old <;> simp [wrOf]))
    · rw [if_neg hj]
      by_cases ho : old = some p.1
      · subst ho
        exact absurd ⟨rfl, mnone _⟩ (hno (p.1, none) (by simp [wrOf]))
      · rw [if_neg ho]; exact .inl rfl

theorem actAt_comm {fr1 fr2 : Nat} {a1 a2 : HAct} (h : clash (wrOf fr1 a1) (wrOf fr2 a2) = false) (j : Nat) (x : Ob) :
    actAt fr2 a2 j (actAt fr1 a1 j x) = actAt fr1 a1 j (actAt fr2 a2 j x) := by
  have hno : ∀ q ∈ wrOf fr1 a1, ∀ p ∈ wrOf fr2 a2, ¬ (q.1 = p.1 ∧ meet q.2 p.2 = true) := by
    intro q hq p hp hh
    have : clash (wrOf fr1 a1) (wrOf fr2 a2) = true := by
      unfold clash
      rw [List.any_eq_true]
      refine ⟨q, hq, ?_⟩
      rw [List.any_eq_true]
      exact ⟨p, hp, by simp [hh.1, hh.2]⟩
    rw [this] at h; cases h
  have mnone : ∀ r, meet none r = true := fun r => by cases r <;> rfl
  have mnone' : ∀ r, meet r none = true := fun r => by cases r <;> rfl
  -- the objects that an action touches with nothing known of the cells
  have whole : ∀ (fr : Nat) (a : HAct), (∀ id off cs, a ≠ .wr id off cs) → ∀ j x, actAt fr a j x = x ∨ (j, none) ∈ wrOf fr a := by
    intro fr a ha j x
    cases a with
    | none => exact .inl rfl
    | new cells =>
      by_cases hj : j = fr
      · subst hj; exact .inr (by simp [wrOf])
      · exact .inl (by simp [actAt, hj])
    | wr id off cs => exact absurd rfl (ha id off cs)
    | app old cells =>
      by_cases hj : j = fr
      · subst hj; exact .inr (by cases old <;> simp [wrOf])
      · by_cases ho : old = some j
        · subst ho; exact .inr (by simp [wrOf])
        · exact .inl (by simp [actAt, hj, ho])
  have wother : ∀ (fr : Nat) (id off : Nat) (cs : List AV) (j : Nat) (x : Ob), j ≠ id → actAt fr (.wr id off cs) j x = x := by
    intro fr id off cs j x hj; simp [actAt, hj]
  by_cases hw1 : ∃ id off cs, a1 = .wr id off cs
  · obtain ⟨id1, o1, c1, rfl⟩ := hw1
    by_cases hw2 : ∃ id off cs, a2 = .wr id off cs
    · obtain ⟨id2, o2, c2, rfl⟩ := hw2
      by_cases e1 : j = id1
      · by_cases e2 : j = id2
        · subst e1; subst e2
          have := hno (j, some (o1, c1.length)) (by simp [wrOf]) (j, some (o2, c2.length)) (by simp [wrOf])
          have hm : ¬ (o1 < o2 + c2.length ∧ o2 < o1 + c1.length) := fun hh => this ⟨rfl, by simp [meet, hh.1, hh.2]⟩
          simp only [actAt, if_true]
          cases x with
          | live c => simp only; rw [putAt_comm c o1 o2 c1 c2 (by omega)]
          | dead => rfl
          | froz c => rfl
        · rw [wother fr2 id2 o2 c2 j _ e2, wother fr2 id2 o2 c2 j _ e2]
      · rw [wother fr1 id1 o1 c1 j _ e1, wother fr1 id1 o1 c1 j _ e1]
    · have hw2' : ∀ id off cs, a2 ≠ .wr id off cs := fun id off cs hh => hw2 ⟨id, off, cs, hh⟩
      by_cases e1 : j = id1
      · subst e1
        have key : ∀ x, actAt fr2 a2 j x = x := fun x => (whole fr2 a2 hw2' j x).resolve_right fun hh => hno _ (show (j, some (o1, c1.length)) ∈ wrOf fr1 (.wr j o1 c1) by simp [wrOf]) _ hh ⟨rfl, mnone' _⟩
        rw [key, key]
      · rw [wother fr1 id1 o1 c1 j _ e1, wother fr1 id1 o1 c1 j _ e1]
  · have hw1' : ∀ id off cs, a1 ≠ .wr id off cs := fun id off cs hh => hw1 ⟨id, off, cs, hh⟩
    by_cases hm1 : (j, none) ∈ wrOf fr1 a1
    · by_cases hw2 : ∃ id off cs, a2 = .wr id off cs
      · obtain ⟨id2, o2, c2, rfl⟩ := hw2
        by_cases e2 : j = id2
        · subst e2
          exact absurd ⟨rfl, mnone _⟩ (hno _ hm1 (j, some (o2, c2.length)) (by simp [wrOf]))
        · rw [wother fr2 id2 o2 c2 j _ e2, wother fr2 id2 o2 c2 j _ e2]
      · have hw2' : ∀ id off cs, a2 ≠ .wr id off cs := fun id off cs hh => hw2 ⟨id, off, cs, hh⟩
        have key : ∀ x, actAt fr2 a2 j x = x := fun x => (whole fr2 a2 hw2' j x).resolve_right fun hh => hno _ hm1 _ hh ⟨rfl, mnone _⟩
        rw [key, key]
    · have key : ∀ x, actAt fr1 a1 j x = x := fun x => (whole fr1 a1 hw1' j x).resolve_right hm1
      rw [key, key]

/-! ## An operation looks at its operands and at what it reads -/

theorem ev_same {C : Ctx} {s s' : AS} {x : Operand} (h : ∀ t, x = .tmp t → s'.tmps t = s.tmps t) : ev C s' x = ev C s x := by
  cases x with
  | tmp t => exact h t rfl
  | const v => rfl
  | global g => rfl
  | func f => rfl

theorem cellsAt_none {s s' : AS} {x : AV} (h : ∀ p ∈ idsOf x, s'.objs p.1 = s.objs p.1) : cellsAt s' x = cellsAt s x := by
  cases x <;> simp only [cellsAt]
  rename_i id off
  rw [h (id, none) (by simp [idsOf])]

theorem srcOf_none {s s' : AS} {sz : Nat} {x : AV} (h : ∀ p ∈ idsOf x, s'.objs p.1 = s.objs p.1) : srcOf s' sz x = srcOf s sz x := by
  cases x <;> try rfl
  rename_i id off k sz'
  simp only [srcOf]
  rw [h (id, none) (by simp [idsOf])]

theorem agrees_ids {x : AV} {o o' : Nat → Ob} (h : agrees (idsOf x) o o') : ∀ p ∈ idsOf x, o' p.1 = o p.1 := by
  intro p hp
  have hn : p.2 = none := by cases x <;> simp [idsOf] at hp <;> (subst hp; rfl)
  rcases h p hp with h1 | ⟨_, _, _, _, h1, _⟩
  · exact h1.symm
  · rw [hn] at h1; cases h1

theorem opEff_local {C : Ctx} {s s' : AS} {fr : Nat} {op : Op} (hT : ∀ x ∈ op.operands, ev C s' x = ev C s x) (hR : agrees (rdOf C s op) s.objs s'.objs) :
    opEff C s' fr op = opEff C s fr op ∧ rdOf C s' op = rdOf C s op := by
  have hps : ∀ ps : Array (Nat × Operand), (∀ x ∈ (ps.toList.map (·.2)).toArray, ev C s' x = ev C s x) → (ps.toList.map fun p => (p.1, ev C s' p.2)) = (ps.toList.map fun p => (p.1, ev C s p.2)) := by
    intro ps h
    apply List.map_congr_left
    intro p hp
    rw [h p.2 (by simp; exact ⟨p.1, by simpa using hp⟩)]
  have hxs : ∀ xs : Array Operand, (∀ x ∈ xs, ev C s' x = ev C s x) → xs.toList.map (ev C s') = xs.toList.map (ev C s) := by
    intro xs h
    apply List.map_congr_left
    intro p hp
    exact h p (Array.mem_toList_iff.1 hp)
  cases op <;> simp only [Op.operands] at hT <;> simp only [opEff, rdOf] at hR ⊢ <;> try (first | exact ⟨rfl, rfl⟩ | exact ⟨rfl, trivial⟩ | trivial)
  case move x => rw [hT x (by simp)]; exact ⟨rfl, trivial⟩
  case assign x => rw [hT x (by simp)]; exact ⟨rfl, trivial⟩
  case pick c a b => rw [hT c (by simp), hT a (by simp), hT b (by simp)]; exact ⟨rfl, trivial⟩
  case box t x => rw [hT x (by simp)]; exact ⟨rfl, trivial⟩
  case build t ps => rw [hps ps hT]; exact ⟨rfl, trivial⟩
  case buildSlice t n ps => rw [hps ps hT]; exact ⟨rfl, trivial⟩
  case load t a =>
    rw [hT a (by simp)]
    refine ⟨?_, rfl⟩
    generalize ev C s a = p at hR ⊢
    cases p <;> simp only [cellsAt] <;> try rfl
    rename_i id off
    simp only at hR
    rcases hR _ (List.mem_singleton.2 rfl) with h1 | ⟨off', n', c, c', h1, h2, h3, h4, h5⟩
    · simp only at h1; rw [h1]
    · simp only at h1 h2 h3
      cases h1
      rw [h2, h3]
      simp only
      have : part? C.P t c' off = part? C.P t c off := by
        unfold part?
        cases hag : agB C.P t with
        | none => rfl
        | some b =>
          cases b with
          | false =>
            simp only [hag] at h5
            exact (h5 off (Nat.le_refl _) (by omega)).symm
          | true =>
            simp only [hag] at h5
            cases hsz : szOf C.P t with
            | none => rfl
            | some n =>
              simp only [hsz, Option.getD_some] at h5
              simp only [sub?, h4]
              split
              · simp only [Option.map_some]
                congr 2
                apply List.ext_getElem?
                intro i
                rw [List.getElem?_take, List.getElem?_take]
                split
                · rw [List.getElem?_drop, List.getElem?_drop]; exact (h5 (off + i) (by omega) (by omega)).symm
                · rfl
              · rfl
      rw [this]
  case store t a x =>
    rw [hT a (by simp), hT x (by simp)]
    refine ⟨?_, rfl⟩
    generalize ev C s a = p at hR ⊢
    cases p <;> try rfl
    rename_i id off
    simp only at hR ⊢
    rcases hR _ (List.mem_singleton.2 rfl) with h1 | ⟨off', n', c, c', h1, h2, h3, h4, h5⟩
    · simp only at h1
      cases cellsOf (ev C s x) <;> cases szOf C.P t <;> simp only
      rw [h1]
    · simp only at h2 h3
      cases cellsOf (ev C s x) <;> cases szOf C.P t <;> simp only
      rw [h2, h3]
      simp only [h4]
  case nilCheck x => rw [hT x (by simp)]; exact ⟨rfl, trivial⟩
  case binOp op t x y u => rw [hT x (by simp), hT y (by simp)]; exact ⟨rfl, trivial⟩
  case unOp op t x => rw [hT x (by simp)]; exact ⟨rfl, trivial⟩
  case convert a b x => rw [hT x (by simp)]; exact ⟨rfl, trivial⟩
  case makeFunc fn first caps =>
    have h1 := hxs first fun x hx => hT x (by simp [hx])
    have h2 := hxs caps fun x hx => hT x (by simp [hx])
    rw [h1, h2]; exact ⟨rfl, trivial⟩
  case makeSlice t l c => rw [hT l (by simp), hT c (by simp)]; exact ⟨rfl, trivial⟩
  case slice t x lo hi mx =>
    have hx := hT x (by simp)
    have hlo : lo.map (ev C s') = lo.map (ev C s) := by cases lo with | none => rfl | some z => simp [hT z (by simp)]
    have hhi : hi.map (ev C s') = hi.map (ev C s) := by cases hi with | none => rfl | some z => simp [hT z (by simp)]
    rw [hx, hlo, hhi]
    have hids := agrees_ids hR
    refine ⟨?_, rfl⟩
    cases mx with
    | some _ => rfl
    | none =>
      simp only
      congr 1
      unfold sliceE
      generalize ev C s x = p at hids ⊢
      cases p <;> try rfl
      rename_i id off
      simp only [hids (id, none) (by simp [idsOf])]
  case fieldAddr t x f => rw [hT x (by simp)]; exact ⟨rfl, trivial⟩
  case field t x f => rw [hT x (by simp)]; exact ⟨rfl, trivial⟩
  case indexAddr t x i => rw [hT x (by simp), hT i (by simp)]; exact ⟨rfl, trivial⟩
  case index t x i => rw [hT x (by simp), hT i (by simp)]; exact ⟨rfl, trivial⟩
  case extract x i => rw [hT x (by simp)]; exact ⟨rfl, trivial⟩
  case call c =>
    obtain ⟨callee, args, ts⟩ := c
    cases callee with
    | value f => exact ⟨rfl, rfl⟩
    | invoke r m => exact ⟨rfl, rfl⟩
    | builtin b =>
      simp only at hR ⊢
      have hargs := hxs args fun x hx => hT x (by simp [Call.operands, hx])
      have hflat : (args.toList.flatMap fun x => idsOf (ev C s' x)) = args.toList.flatMap fun x => idsOf (ev C s x) := by
        rw [← List.flatMap_map (f := ev C s') (g := idsOf), ← List.flatMap_map (f := ev C s) (g := idsOf), hargs]
      refine ⟨?_, hflat⟩
      rw [hargs]
      have hids : ∀ x ∈ args.toList.map (ev C s), ∀ p ∈ idsOf x, s'.objs p.1 = s.objs p.1 := by
        intro x hx p hp
        obtain ⟨z, hz, rfl⟩ := List.mem_map.1 hx
        refine agrees_ids (x := ev C s z) (fun q hq => hR q ?_) p hp
        exact List.mem_flatMap.2 ⟨z, hz, hq⟩
      generalize args.toList.map (ev C s) = xs at hids ⊢
      unfold builtinE
      split <;> try rfl
      · rename_i t u x y _
        have hx := hids x (by simp)
        have hy := hids y (by simp)
        unfold appE
        simp only [srcOf_none hy]
        cases x <;> try rfl
        rename_i id off len sz'
        simp only [hx (id, none) (by simp [idsOf])]
      · rename_i t u x y _
        have hx := hids x (by simp)
        have hy := hids y (by simp)
        unfold copyE
        simp only [srcOf_none hy]
        cases x <;> try rfl
        rename_i id off len sz'
        simp only [hx (id, none) (by simp [idsOf])]

end Go.AX
