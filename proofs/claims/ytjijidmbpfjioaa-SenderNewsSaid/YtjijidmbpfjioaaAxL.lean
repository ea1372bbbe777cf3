/- A part of the proof: AxL. -/
import Derived.Test.YtjijidmbpfjioaaAxK
import Derived.Laws.MakeOwn
namespace Go.AX

section
variable {C : Ctx} {ρ : Rho} {V : View} {s : AS} {w : World} {fr : Nat}

theorem op_unOp {op : UnOp} {x : AV} {q : Value} {v : AV} (hI : Inv ρ V s.toHS w) (hq : Rel ρ V x q) (h : uopE op x = some v) :
    OpRun ρ V s w fr ((do pure (.value (← Op.unary op q)) : Sem Next).run C.P w) ⟨v, .none⟩ := by
  unfold uopE at h
  split at h
  · cases h; cases hq; exact OpRun.val hI (runAndThenValue (by simp [Op.unary])) (.v _)
  · cases h; cases hq; exact OpRun.val hI (runAndThenValue (by simp [Op.unary, Op.intArith])) (.v _)
  · cases h; cases hq; exact OpRun.val hI (runAndThenValue (by simp [Op.unary, Op.intBits])) (.v _)
  · cases h

theorem inK_eq {P : Program} {t : Nat} {k : IntKind} (h : inK P t = some k) : P.underlying t = some (.int k) := by
  unfold inK at h
  cases hu : P.underlying t with
  | none => simp [hu] at h
  | some d => cases d <;> simp [hu] at h; subst h; rfl

theorem op_convert {a b : Nat} {x : AV} {q : Value} {d : TypeDesc} {k k' : IntKind} {n : Int} (hI : Inv ρ V s.toHS w) (hq : Rel ρ V x q) (hx : x = .v (.int k' n)) (ha : C.P.underlying a = some d) (hb : inK C.P b = some k) :
    OpRun ρ V s w fr ((do pure (.value (← convert a b q)) : Sem Next).run C.P w) ⟨.v (.int k (k.wrap n)), .none⟩ := by
  subst hx
  cases hq
  refine OpRun.val hI (runAndThenValue ?_) (.v _)
  simp [convert, run_underlying ha, run_underlying (inK_eq hb), Conv.intToInt]

theorem op_len {t : Nat} {ty : TypeId} {x : AV} {q : Value} {v : AV} (hI : Inv ρ V s.toHS w) (hq : Rel ρ V x q) (h : lenE C.P t x = some v) :
    OpRun ρ V s w fr ((do pure (.value (← Builtin.len_ #[t] ty #[q])) : Sem Next).run C.P w) ⟨v, .none⟩ := by
  unfold lenE at h
  split at h
  · rename_i n e hu
    cases h
    exact OpRun.val hI (runAndThenValue (by simp [Builtin.len_, run_underlying hu, goInt])) (.v _)
  · rename_i e hu
    have key : ∀ a n c, (Builtin.len_ #[t] ty #[.slice a n c]).run C.P w = .ok (.int .i64 n) w := by
      intro a n c; simp [Builtin.len_, run_underlying hu, goInt]
    split at h
    · cases h
      cases hq with
      | ref => exact OpRun.val hI (runAndThenValue (key _ _ _)) (.v _)
      | refE => exact OpRun.val hI (runAndThenValue (key _ _ _)) (.v _)
    · cases h
      cases hq with
      | imm => exact OpRun.val hI (runAndThenValue (key _ _ _)) (.v _)
      | imm0 => exact OpRun.val hI (runAndThenValue (key _ _ _)) (.v _)
    · cases h
      cases hq
      exact OpRun.val hI (runAndThenValue (key _ _ _)) (.v _)
    · cases h
  · cases h

theorem op_min {ts : Array TypeId} {ty : TypeId} {x y : AV} {q r : Value} {v : AV} (hI : Inv ρ V s.toHS w) (hq : Rel ρ V x q) (hr : Rel ρ V y r) (h : minE x y = some v) :
    OpRun ρ V s w fr ((do pure (.value (← Builtin.min_ ts ty #[q, r])) : Sem Next).run C.P w) ⟨v, .none⟩ := by
  unfold minE at h
  split at h
  · cases h; cases hq; cases hr
    exact OpRun.val hI (runAndThenValue (run_min_int2 w ts ty _ _ _ _)) (.v _)
  · cases h

theorem op_max {ts : Array TypeId} {ty : TypeId} {x y : AV} {q r : Value} {v : AV} (hI : Inv ρ V s.toHS w) (hq : Rel ρ V x q) (hr : Rel ρ V y r) (h : maxE x y = some v) :
    OpRun ρ V s w fr ((do pure (.value (← Builtin.max_ ts ty #[q, r])) : Sem Next).run C.P w) ⟨v, .none⟩ := by
  unfold maxE at h
  split at h
  · cases h; cases hq; cases hr
    exact OpRun.val hI (runAndThenValue (run_max_int2 w ts ty _ _ _ _)) (.v _)
  · cases h

theorem op_makeSlice {t e sz by' : Nat} {x y : AV} {q r : Value} {l c : Int} {zs : List AV} (hI : Inv ρ V s.toHS w) (hfr : ρ fr = none) (hlt : fr < s.next) (hq : Rel ρ V x q) (hr : Rel ρ V y r)
    (hl : intOf? x = some l) (hc : intOf? y = some c) (he : elS C.P t = some e) (hsz : szOf C.P e = some sz) (hby : byOf C.P e = some by') (hz : zer C.P e = some zs)
    (hzs : zs.length = sz) (h0 : 0 ≤ l) (h1 : l ≤ c) (h2 : c < 9223372036854775808) (h3 : by' * c ≤ 281474976710656) :
    OpRun ρ V s w fr ((do pure (.value (← Instr.makeSlice t q r)) : Sem Next).run C.P w) ⟨.ref fr 0 l.toNat sz, .new (rep l.toNat zs)⟩ := by
  obtain ⟨k, rfl⟩ := intOf?_rel hq hl
  obtain ⟨k', rfl⟩ := intOf?_rel hr hc
  obtain ⟨z, hz1, rfl, hz3, hz4⟩ := zer_run hz w
  obtain ⟨i, hi, hb⟩ := byOf_info hby
  have hzsz : z.cells.size = sz := by simpa using hzs
  have hrep : RelV ρ V (rep c.toNat (z.cells.toList.map .v)) (repV c.toNat z.cells.toList) := (relV_v hz3).rep _
  have hrepl : RelV ρ V (rep l.toNat (z.cells.toList.map .v)) (repV l.toNat z.cells.toList) := (relV_v hz3).rep _
  have hcl : (repV c.toNat z.cells.toList).length = c.toNat * sz := by rw [hrep.len, rep_length]; simp [hzsz]
  have hpre : ∀ a b, a ≤ b → ∀ zs : List Value, ∃ rest, repV b zs = repV a zs ++ rest := by
    intro a b hab zs
    induction a generalizing b with
    | zero => exact ⟨repV b zs, rfl⟩
    | succ a ih =>
      cases b with
      | zero => omega
      | succ b =>
        obtain ⟨rest, hrest⟩ := ih b (by omega)
        exact ⟨rest, by simp [repV, hrest]⟩
  obtain ⟨rest, hrest⟩ := hpre l.toNat c.toNat (by omega) z.cells.toList
  have hll : (repV l.toNat z.cells.toList).length = l.toNat * sz := by rw [hrepl.len, rep_length]; simp [hzsz]
  refine OpRun.new (c := (repV c.toNat z.cells.toList).toArray) (T := e) hI hfr hlt (y := .slice (some ⟨w.heap.size, 0, none⟩) l.toNat c.toNat) (w' := { w with heap := w.heap.push (.cells (repV c.toNat z.cells.toList).toArray e) }) ?_ ⟨rfl, rfl, rfl⟩ ?_ ?_
  · refine runAndThenValue ?_
    have hsize : i.size = sz := by
      unfold szOf at hsz
      simpa [hi] using hsz
    have hzz : i.zero = some z := by simpa [hi] using hz4
    have := run_make w t e i z (elS_eq he) hi hzz k k' l c h0 h1 (by rw [hb]; exact h3) (by omega)
    rw [this, hsize]
    have hrow : madeCells z.cells (c.toNat * sz) = (repV c.toNat z.cells.toList).toArray := by
      rw [← hzsz]; exact repV_eq z.cells c.toNat
    rw [hrow]; rfl
  · refine ⟨by simp [rep_length, hcl, hzsz]; exact Nat.mul_le_mul_right _ (by omega), fun i a b ha hb => ?_, fun i b hi hb => ?_⟩
    · have hi : i < (repV l.toNat z.cells.toList).length := by rw [hrepl.len]; exact (List.getElem?_eq_some_iff.1 ha).1
      simp only [Nat.zero_add, List.getElem?_toArray] at hb
      rw [hrest, List.getElem?_append_left hi] at hb
      exact hrepl.rel i a b ha hb
    · simp only [Nat.zero_add, List.getElem?_toArray] at hb
      exact hrep.sto b (List.mem_of_getElem? hb)
  · intro ρ' _ hρ'
    have := Rel.ref (V := V) fr 0 l.toNat sz c.toNat ⟨w.heap.size, 0, (repV c.toNat z.cells.toList).toArray.size⟩ hρ' (by simp [hcl]) (by omega)
    simpa using this


theorem Rel.v_inv {x y : Value} (h : Rel ρ V (.v x) y) : y = x := by cases h; rfl

theorem op_sound {a : Act} {o : Oper} {e : Eff} (hC : COk C) (hT : ∀ t, Rel ρ V (s.tmps t) (a.tmps.getD t undef)) (hI : Inv ρ V s.toHS w) (hG : GtOk C V) (hfr : ρ fr = none) (hlt : fr < s.next)
    (h : opEff C s fr o.op = some e) : OpRun ρ V s w fr ((execOp a.eval o).run C.P w) e := by
  have E : ∀ x, Rel ρ V (ev C s x) (a.eval x) := ev_rel hT hG
  have hparts : ∀ ps : Array (Nat × Operand), (ps.map fun (i, x) => (i, a.eval x)).toList.map (·.1) = (ps.toList.map fun p => (p.1, ev C s p.2)).map (·.1) := by
    intro ps; simp
  have hprel : ∀ (ps : Array (Nat × Operand)) (i : Nat) (p : Nat × AV) (q : Nat × Value), (ps.toList.map fun p => (p.1, ev C s p.2))[i]? = some p → (ps.map fun (i, x) => (i, a.eval x)).toList[i]? = some q → Rel ρ V p.2 q.2 := by
    intro ps i p q hp hq
    simp only [List.getElem?_map, Option.map_eq_some_iff, Array.toList_map] at hp hq
    obtain ⟨z, hz, rfl⟩ := hp
    obtain ⟨z', hz', rfl⟩ := hq
    rw [hz] at hz'; cases hz'
    exact E z.2
  obtain ⟨dst, op, type, pos, after, guard⟩ := o
  cases op <;> simp only [opEff] at h <;> try (cases h; done)
  case move x => cases h; exact OpRun.val hI rfl (E x)
  case assign x => cases h; exact OpRun.val hI rfl (E x)
  case pick c x y =>
    split at h
    · rename_i t hc
      cases h
      have hcr := E c
      rw [hc] at hcr
      have hcv := Rel.v_inv hcr
      refine OpRun.val hI (y := if t then a.eval x else a.eval y) ?_ ?_
      · simp [execOp, hcv, asBool]
      · cases t
        · exact E y
        · exact E x
    · cases h
  case alloc t =>
    simp only [Option.map_eq_some_iff] at h
    obtain ⟨cs, h1, rfl⟩ := h
    exact op_alloc hI hfr hlt h1
  case box t x =>
    simp only [Option.map_eq_some_iff] at h
    obtain ⟨cs, h1, rfl⟩ := h
    exact op_box hI hfr hlt (E x) h1
  case build t ps =>
    split at h
    · rename_i zs hz
      split at h
      · rename_i pl hpl
        simp only [Option.map_eq_some_iff] at h
        obtain ⟨cs, h1, rfl⟩ := h
        obtain ⟨fs, hu, hm⟩ : ∃ fs, C.P.underlying t = some (.struct fs) ∧ fs.toList.mapM (fun f => (szOf C.P f.type).map fun n => (f.offset, n)) = some pl := by
          unfold bldS at hpl
          cases hu : C.P.underlying t with
          | none => simp [hu] at hpl
          | some d =>
            cases d <;> simp only [hu, Option.bind_some] at hpl <;> first | (cases hpl; done) | exact ⟨_, rfl, hpl⟩
        have hat : ∀ (i : Nat) f, fs[i]? = some f → (szOf C.P f.type).map (fun n => (f.offset, n)) = pl[i]? := fun i f hf => mapM_some_get hm i f (by rw [Array.getElem?_toList]; exact hf)
        have hlen := mapM_some_length hm
        refine op_build hI hu hz (hparts ps) (hprel ps) ?_ ?_
        · intro i f hf
          have h2 := hat i f hf
          have h3 : i < pl.length := by rw [hlen]; simpa using (Array.getElem?_eq_some_iff.1 hf).1
          rw [List.getElem?_eq_getElem h3] at h2
          cases hs : szOf C.P f.type with
          | none => simp [hs] at h2
          | some n => exact ⟨n, rfl⟩
        · have : (fun (i : Nat) => (fs[i]?).bind fun (f : Field) => (szOf C.P f.type).map fun n => (f.offset, n)) = fun (i : Nat) => pl[i]? := by
            funext i
            cases hf : fs[i]? with
            | none =>
              have : pl.length ≤ i := by rw [hlen]; simpa using Array.getElem?_eq_none_iff.1 hf
              simp [List.getElem?_eq_none this]
            | some f => exact hat i f hf
          rw [this]; exact h1
      · split at h
        · rename_i n el har
          obtain hu : C.P.underlying t = some (.array n el) := by
            unfold arE at har
            cases hu : C.P.underlying t with
            | none => simp [hu] at har
            | some d =>
              cases d <;> simp [hu] at har
              obtain ⟨rfl, rfl⟩ := har; rfl
          split at h
          · rename_i sz hsz
            simp only [Option.map_eq_some_iff] at h
            obtain ⟨cs, h1, rfl⟩ := h
            exact op_buildA hI hu hz (hparts ps) (hprel ps) hsz h1
          · cases h
        · cases h
    · cases h
  case buildSlice t n ps =>
    split at h
    · rename_i el hel
      split at h
      · rename_i sz zs hsz hz
        split at h
        · rename_i hc
          simp only [Option.map_eq_some_iff] at h
          obtain ⟨cs, h1, rfl⟩ := h
          exact op_buildSlice hI hfr hlt hel hz hsz hc.1 hc.2 (hparts ps) (hprel ps) h1
        · cases h
      · cases h
    · cases h
  case load t p =>
    split at h
    · rename_i cells off hc
      simp only [Option.map_eq_some_iff] at h
      obtain ⟨x, h1, rfl⟩ := h
      exact op_load hI (E p) hc h1
    · cases h
  case store t p x =>
    split at h
    · rename_i id off cs n hp hx hn
      split at h
      · rename_i cells ho
        split at h
        · rename_i hc
          cases h
          have hpr := E p
          rw [hp] at hpr
          exact op_store hI hpr (E x) hx hn ho hc.1 hc.2
        · cases h
      · cases h
    · cases h
  case nilCheck x =>
    have hx := E x
    have hev : ∃ y, a.eval x = y := ⟨_, rfl⟩
    obtain ⟨y, hy⟩ := hev
    rw [hy] at hx
    split at h
    · rename_i id off he
      cases h
      rw [he] at hx
      cases hx with
      | ptr _ _ loc hρ => exact OpRun.val hI (by simp [execOp, hy]) (.ptr _ _ loc hρ)
    · rename_i cells off he
      cases h
      rw [he] at hx
      cases hx with
      | iptr _ _ b o' c hV hb H S => exact OpRun.val hI (by simp [execOp, hy]) (.iptr _ _ b o' c hV hb H S)
    · rename_i f c1 c2 he
      cases h
      rw [he] at hx
      cases hx with
      | clo _ _ _ xs ys g1 g2 G1 G2 => exact OpRun.val hI (by simp [execOp, hy]) (.clo _ _ _ xs ys g1 g2 G1 G2)
    · cases h
  case binOp op t x y u =>
    simp only [Option.map_eq_some_iff] at h
    obtain ⟨v, h1, rfl⟩ := h
    exact op_binOp hC hI (E x) (E y) h1 x y
  case unOp op t x =>
    simp only [Option.map_eq_some_iff] at h
    obtain ⟨v, h1, rfl⟩ := h
    exact op_unOp hI (E x) h1
  case convert t u x =>
    split at h
    · rename_i d k k' n hd hk hx
      cases h
      exact op_convert hI (E x) hx hd hk
    · cases h
  case makeFunc fn first caps =>
    split at h
    · rename_i f
      cases h
      have key : ∀ (xs : Array Operand) (i : Nat) x y, (xs.toList.map (ev C s))[i]? = some x → (xs.map a.eval)[i]? = some y → Rel ρ V x y := by
        intro xs i x y hx hy
        simp only [List.getElem?_map, Option.map_eq_some_iff, Array.getElem?_map] at hx hy
        obtain ⟨z, hz, rfl⟩ := hx
        obtain ⟨z', hz', rfl⟩ := hy
        rw [Array.getElem?_toList] at hz
        rw [hz] at hz'; cases hz'
        exact E z
      exact OpRun.val hI (y := .func (.func f) (first.map a.eval) (caps.map a.eval)) rfl (.clo f _ _ _ _ (by simp) (by simp) (key first) (key caps))
    · cases h
  case makeSlice t l c =>
    split at h
    · rename_i el l' c' hel hl hc
      split at h
      · rename_i sz by' zs hsz hby hz
        split at h
        · rename_i hcond
          obtain ⟨h1, h2, h3, h4, h5⟩ := hcond
          cases h
          exact op_makeSlice hI hfr hlt (E l) (E c) hl hc hel hsz hby hz h1 h2 h3 h4 h5
        · cases h
      · cases h
    · cases h
  case slice t x lo hi mx =>
    split at h
    · simp only [Option.map_eq_some_iff] at h
      obtain ⟨v, h1, rfl⟩ := h
      have key : ∀ o : Option Operand, OptRel ρ V (o.map (ev C s)) (o.map a.eval) := by
        intro o; cases o with
        | none => trivial
        | some x => exact E x
      exact op_slice hI (E x) (key lo) (key hi) h1
    · cases h
  case fieldAddr t x f =>
    split at h
    · rename_i o ft hf
      split at h
      · rename_i k hs
        simp only [Option.map_eq_some_iff] at h
        obtain ⟨r, h1, rfl⟩ := h
        exact op_fieldAddr (C := C) hI (E x) hf hs h1
      · cases h
    · cases h
  case field t x f =>
    split at h
    · rename_i o ft cs hf hx
      simp only [Option.map_eq_some_iff] at h
      obtain ⟨r, h1, rfl⟩ := h
      have hr := E x
      rw [hx] at hr
      exact op_field hI hr hf h1
    · cases h
  case indexAddr t x i =>
    simp only [Option.map_eq_some_iff] at h
    obtain ⟨r, h1, rfl⟩ := h
    exact op_indexAddr hI (E x) (E i) h1
  case index t x i =>
    split at h
    · rename_i len el cs n ha hx hn
      split at h
      · rename_i h0
        split at h
        · rename_i sz hsz
          simp only [Option.map_eq_some_iff] at h
          obtain ⟨r, h1, rfl⟩ := h
          have hr := E x
          rw [hx] at hr
          exact op_index hI hr (E i) hn ha h0 hsz h1
        · cases h
      · cases h
    · cases h
  case extract x i =>
    split at h
    · rename_i vs hx
      simp only [Option.map_eq_some_iff] at h
      obtain ⟨r, h1, rfl⟩ := h
      have hr := E x
      rw [hx] at hr
      exact op_extract hI hr h1
    · cases h
  case call c =>
    obtain ⟨callee, args, ts⟩ := c
    cases callee <;> simp only at h <;> try (cases h; done)
    rename_i b
    have hx : (execOp a.eval { dst := dst, op := .call ⟨.builtin b, args, ts⟩, type := type, pos := pos, after := after, guard := guard }) = builtin b ts type (args.map fun | .const _ => true | _ => false) (args.map a.eval) := rfl
    rw [hx]
    unfold builtinE at h
    have one : ∀ {t}, ts.toList = [t] → ts = #[t] := fun {t} h => by apply Array.ext'; exact h
    have two : ∀ {t u}, ts.toList = [t, u] → ts = #[t, u] := fun {t u} h => by apply Array.ext'; exact h
    have a1 : ∀ {x}, args.toList.map (ev C s) = [x] → ∃ X, x = ev C s X ∧ args.map a.eval = #[a.eval X] := by
      intro x h
      obtain ⟨X, hX, rfl⟩ := List.map_eq_singleton_iff.1 h
      exact ⟨X, rfl, by apply Array.ext'; simp [hX]⟩
    have a2 : ∀ {x y}, args.toList.map (ev C s) = [x, y] → ∃ X Y, x = ev C s X ∧ y = ev C s Y ∧ args.map a.eval = #[a.eval X, a.eval Y] := by
      intro x y h
      obtain ⟨X, l, h1, rfl, h2⟩ := List.map_eq_cons_iff.1 h
      obtain ⟨Y, h3, rfl⟩ := List.map_eq_singleton_iff.1 h2
      exact ⟨X, Y, rfl, rfl, by apply Array.ext'; simp [h1, h3]⟩
    split at h
    · rename_i t x hts hargs
      simp only [Option.map_eq_some_iff] at h
      obtain ⟨r, h1, rfl⟩ := h
      obtain ⟨X, rfl, hA⟩ := a1 hargs
      rw [hA, one hts]
      exact op_len hI (E X) h1
    · rename_i x y hts hargs
      simp only [Option.map_eq_some_iff] at h
      obtain ⟨r, h1, rfl⟩ := h
      obtain ⟨X, Y, rfl, rfl, hA⟩ := a2 hargs
      rw [hA]
      exact op_min hI (E X) (E Y) h1
    · rename_i x y hts hargs
      simp only [Option.map_eq_some_iff] at h
      obtain ⟨r, h1, rfl⟩ := h
      obtain ⟨X, Y, rfl, rfl, hA⟩ := a2 hargs
      rw [hA]
      exact op_max hI (E X) (E Y) h1
    · rename_i t u x y hts hargs
      obtain ⟨X, Y, rfl, rfl, hA⟩ := a2 hargs
      rw [hA, two hts]
      exact op_append hI hfr hlt (E X) (E Y) h
    · rename_i t u x y hts hargs
      obtain ⟨X, Y, rfl, rfl, hA⟩ := a2 hargs
      rw [hA, two hts]
      exact op_copy hI (E X) (E Y) h
    · cases h

end
end Go.AX
