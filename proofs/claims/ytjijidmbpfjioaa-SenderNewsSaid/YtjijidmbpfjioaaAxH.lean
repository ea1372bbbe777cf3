/- A part of the proof: AxH. -/
import Derived.Test.YtjijidmbpfjioaaAxG
namespace Go.AX

section
variable {C : Ctx} {ρ : Rho} {V : View} {s : AS} {w : World} {fr : Nat}

theorem runAndThenValue {P : Program} {x : Sem Value} {y : Value} {w' : World} (h : x.run P w = .ok y w') : ((do pure (.value (← x)) : Sem Next)).run P w = .ok (.value y) w' := by
  simp [h]

def HeapLe (w w' : World) : Prop := ∀ (b : Nat) (c : Array Value) (T : TypeId) (fz : Nat × Nat), w.heap[b]? = some (Obj.cells c T fz) → w'.heap[b]? = some (Obj.cells c T fz)

theorem nilS_eq {x : Value} (h : nilS x = true) : x = .slice none 0 0 := by
  unfold nilS at h
  split at h
  · rfl
  · cases h

theorem srcOf_rel {sz : Nat} {x : AV} {y : Value} {xs : List AV} {k : Nat} (hI : Inv ρ V s.toHS w) (hr : Rel ρ V x y) (h : srcOf s sz x = some (xs, k)) :
    ∃ ys : List Value, RelV ρ V xs ys ∧ xs.length = k * sz ∧ (∀ m, m ≤ k → ∀ P : Program, ∀ w' : World, HeapLe w w' →
      (Builtin.firstCells sz m y).run P w' = .ok (ys.take (m * sz)).toArray w') ∧ Builtin.lenOf y = pure k := by
  have frow : ∀ (b o k cap : Nat) (c : Array Value) (T : TypeId) (fz : Nat × Nat), w.heap[b]? = some (.cells c T fz) → xs.length = k * sz → RelC ρ V xs c o →
      ∃ ys : List Value, RelV ρ V xs ys ∧ xs.length = k * sz ∧ (∀ m, m ≤ k → ∀ P : Program, ∀ w' : World, HeapLe w w' →
      (Builtin.firstCells sz m (.slice (some ⟨b, o, none⟩) k cap)).run P w' = .ok (ys.take (m * sz)).toArray w') ∧ Builtin.lenOf (.slice (some ⟨b, o, none⟩) k cap) = pure k := by
    intro b o k cap c T fz hh hlen hc
    refine ⟨rowOf c o xs.length, hc.relV, hlen, fun m hm P w' hw' => ?_, rfl⟩
    have hle := hc.le
    have hmk : m * sz ≤ k * sz := Nat.mul_le_mul_right _ hm
    simp only [Builtin.firstCells]
    rw [loadRow (hw' b c T fz hh) (by omega : o + m * sz ≤ c.size)]
    congr 2
    simp only [rowOf, List.take_take]
    congr 1; omega
  have fempty : ∀ (a : Option Addr) (cap : Nat), xs = [] → k = 0 → ∃ ys : List Value, RelV ρ V xs ys ∧ xs.length = k * sz ∧ (∀ m, m ≤ k → ∀ P : Program, ∀ w' : World, HeapLe w w' →
      (Builtin.firstCells sz m (.slice a k cap)).run P w' = .ok (ys.take (m * sz)).toArray w') ∧ Builtin.lenOf (.slice a k cap) = pure k := by
    intro a cap hx hk
    subst hx; subst hk
    refine ⟨[], .nil, by simp, fun m hm P w' _ => ?_, rfl⟩
    have : m = 0 := by omega
    subst this
    cases a <;> simp [Builtin.firstCells, loadCells, loadCellsFrom]
  cases hr <;> simp only [srcOf] at h <;> try (cases h; done)
  case v =>
    split at h
    · rename_i hn
      have hy := nilS_eq hn
      subst hy
      simp at h
      obtain ⟨rfl, rfl⟩ := h
      exact fempty none 0 rfl rfl
    · cases h
  case imm cells len b o cap c hV hb H S hlc =>
    split at h
    · rename_i hl
      cases h
      obtain ⟨T, fz, hh⟩ := hI.view b c hV
      exact frow b o _ cap c T fz hh hl ⟨hb, H, S⟩
    · cases h
  case imm0 a cap =>
    split at h
    · simp at h
      obtain ⟨rfl, rfl⟩ := h
      exact fempty a cap rfl rfl
    · cases h
  case ref id off len sz' cap loc hρ hc hl =>
    split at h
    · rename_i hsz
      subst hsz
      cases ho : s.objs id with
      | dead => simp [ho] at h
      | live cs =>
        simp only [ho, Option.map_eq_some_iff] at h
        obtain ⟨c, h1, h2⟩ := h
        cases h2
        obtain ⟨hle, rfl⟩ := sub?_eq h1
        obtain ⟨c, T, g1, _, g3, _⟩ := hI.live id cs loc ho hρ
        exact frow loc.b (loc.base + off) _ cap c T (0, 0) g1 (by simp; omega) (g3.sub off _ hle)
      | froz cs =>
        simp only [ho, Option.map_eq_some_iff] at h
        obtain ⟨c, h1, h2⟩ := h
        cases h2
        obtain ⟨hle, rfl⟩ := sub?_eq h1
        obtain ⟨c, g1, g3, _⟩ := hI.froz id cs loc ho hρ
        obtain ⟨T, fz, hh⟩ := hI.view loc.b c g1
        exact frow loc.b (loc.base + off) _ cap c T fz hh (by simp; omega) (g3.sub off _ hle)
    · cases h
  case refE id off sz' a =>
    split at h
    · cases ho : s.objs id with
      | dead => simp [ho] at h
      | live cs =>
        simp only [ho, Option.map_eq_some_iff] at h
        obtain ⟨c, h1, h2⟩ := h
        cases h2
        obtain ⟨hle, rfl⟩ := sub?_eq h1
        exact fempty a 0 (by simp) rfl
      | froz cs =>
        simp only [ho, Option.map_eq_some_iff] at h
        obtain ⟨c, h1, h2⟩ := h
        cases h2
        obtain ⟨hle, rfl⟩ := sub?_eq h1
        exact fempty a 0 (by simp) rfl
    · cases h

theorem op_build {t : Nat} {fs : Array Field} {zs : List AV} {parts : List (Nat × AV)} {vals : Array (Nat × Value)} {cs : List AV} (hI : Inv ρ V s.toHS w) (hu : C.P.underlying t = some (.struct fs)) (hz : zer C.P t = some zs)
    (hm : vals.toList.map (·.1) = parts.map (·.1)) (hrel : ∀ (i : Nat) p q, parts[i]? = some p → vals.toList[i]? = some q → Rel ρ V p.2 q.2)
    (hsz : ∀ (i : Nat) f, fs[i]? = some f → ∃ n, szOf C.P f.type = some n)
    (h : fillA (fun i => (fs[i]?).bind fun f => (szOf C.P f.type).map fun n => (f.offset, n)) zs parts = some cs) :
    OpRun ρ V s w fr ((do pure (.value (← Instr.build t vals)) : Sem Next).run C.P w) ⟨.agg cs, .none⟩ := by
  obtain ⟨z, h1, rfl, h3, _⟩ := zer_run hz w
  have hplaces : (fs.mapM (fun f => do pure (f.offset, ← sizeOf f.type) : Field → Sem (Nat × Nat))).run C.P w = .ok (fs.map fun f => (f.offset, (szOf C.P f.type).getD 0)) w := by
    rw [← Array.toArray_toList (xs := fs)] at hsz ⊢
    generalize fs.toList = l at hsz ⊢
    rw [List.mapM_toArray]
    simp only [Sem.run_map, List.map_toArray]
    have : (l.mapM (fun f => do pure (f.offset, ← sizeOf f.type) : Field → Sem (Nat × Nat))).run C.P w = .ok (l.map fun f => (f.offset, (szOf C.P f.type).getD 0)) w := by
      induction l with
      | nil => simp
      | cons f l ih =>
        obtain ⟨n, hn⟩ := hsz 0 f (by simp)
        have ih' := ih fun i g hg => hsz (i + 1) g (by simpa using hg)
        simp only [List.mapM_cons, Sem.run_bind, szOf_run hn, Result.andThen_ok, Sem.run_pure, List.map_cons, hn, Option.getD_some] at ih' ⊢
        rw [ih']; simp
    rw [this]; rfl
  have hpl : (fun (i : Nat) => (fs[i]?).bind fun (f : Field) => (szOf C.P f.type).map fun n => (f.offset, n)) = (fun (i : Nat) => (fs.map fun (f : Field) => (f.offset, (szOf C.P f.type).getD 0))[i]?) := by
    funext i
    rw [Array.getElem?_map]
    cases hf : fs[i]? with
    | none => rfl
    | some f =>
      obtain ⟨n, hn⟩ := hsz i f hf
      simp [hn]
  rw [hpl] at h
  obtain ⟨ys, hy1, hy2⟩ := fill_sound parts vals.toList _ z.cells cs hm hrel (by simpa using relV_v (ρ := ρ) (V := V) h3) h
  refine OpRun.val hI (y := .agg ys) ?_ (Rel.agg_iff.2 ⟨ys, rfl, by simpa using hy2.len, by simpa using hy2.relC⟩)
  simp only [Instr.build, Sem.run_bind, h1, Result.andThen_ok, run_underlying hu, hplaces, hy1, Sem.run_pure]

theorem op_buildA {t n e sz : Nat} {zs : List AV} {parts : List (Nat × AV)} {vals : Array (Nat × Value)} {cs : List AV} (hI : Inv ρ V s.toHS w) (hu : C.P.underlying t = some (.array n e)) (hz : zer C.P t = some zs)
    (hm : vals.toList.map (·.1) = parts.map (·.1)) (hrel : ∀ (i : Nat) p q, parts[i]? = some p → vals.toList[i]? = some q → Rel ρ V p.2 q.2) (hsz : szOf C.P e = some sz)
    (h : fillA (fun i => some (i * sz, sz)) zs parts = some cs) :
    OpRun ρ V s w fr ((do pure (.value (← Instr.build t vals)) : Sem Next).run C.P w) ⟨.agg cs, .none⟩ := by
  obtain ⟨z, h1, rfl, h3, _⟩ := zer_run hz w
  obtain ⟨ys, hy1, hy2⟩ := fill_sound parts vals.toList _ z.cells cs hm hrel (by simpa using relV_v (ρ := ρ) (V := V) h3) h
  refine OpRun.val hI (y := .agg ys) ?_ (Rel.agg_iff.2 ⟨ys, rfl, by simpa using hy2.len, by simpa using hy2.relC⟩)
  simp only [Instr.build, Sem.run_bind, h1, Result.andThen_ok, run_underlying hu, szOf_run hsz, hy1, Sem.run_pure]

theorem op_buildSlice {t n e sz : Nat} {zs : List AV} {parts : List (Nat × AV)} {vals : Array (Nat × Value)} {cs : List AV} (hI : Inv ρ V s.toHS w) (hfr : ρ fr = none) (hlt : fr < s.next)
    (hu : elS C.P t = some e) (hz : zer C.P e = some zs) (hsz : szOf C.P e = some sz) (hzs : zs.length = sz) (hmax : n * sz ≤ 16777216)
    (hm : vals.toList.map (·.1) = parts.map (·.1)) (hrel : ∀ (i : Nat) p q, parts[i]? = some p → vals.toList[i]? = some q → Rel ρ V p.2 q.2)
    (h : fillA (fun i => some (i * sz, sz)) (rep n zs) parts = some cs) :
    OpRun ρ V s w fr ((do pure (.value (← Instr.buildSlice t n vals)) : Sem Next).run C.P w) ⟨.ref fr 0 n sz, .new cs⟩ := by
  obtain ⟨z, h1, rfl, h3, _⟩ := zer_run hz w
  have hzsz : z.cells.size = sz := by simpa using hzs
  have hrep : RelV ρ V (rep n (z.cells.toList.map .v)) (repV n z.cells.toList) := (relV_v h3).rep n
  obtain ⟨ys, hy1, hy2⟩ := fill_sound parts vals.toList _ (repV n z.cells.toList).toArray cs hm hrel (by simpa using hrep) h
  have hlen : ys.size = n * sz := by
    have a1 := hy2.len
    have a2 : cs.length = (rep n (z.cells.toList.map AV.v)).length := by
      clear hy1 hy2 a1 hrel hm
      revert h
      generalize rep n (z.cells.toList.map AV.v) = cells
      intro h
      induction parts generalizing cells with
      | nil => simp only [fillA, Option.some.injEq] at h; rw [h]
      | cons p ps ih =>
        obtain ⟨i, x⟩ := p
        simp only [fillA] at h
        split at h
        · split at h
          · rename_i hc
            rw [ih _ h, putAt_length]
          · cases h
        · cases h
    rw [a2, rep_length] at a1
    simp [hzsz] at a1
    exact a1
  refine OpRun.new (c := ys) (T := e) hI hfr hlt (y := .slice (some ⟨w.heap.size, 0, none⟩) n n) (w' := { w with heap := w.heap.push (.cells ys e) }) ?_ ⟨rfl, rfl, rfl⟩ (by simpa using hy2.relC) ?_
  · have hgt : ¬ (n * sz > 2 ^ 24) := by simpa using hmax
    by_cases h0 : n * sz = 0
    · have hys : (Array.range (n * sz)).map (fun j => (#[] : Array Value)[j % (#[] : Array Value).size]!) = (repV n z.cells.toList).toArray := by
        rw [h0]
        have e1 := repV_eq z.cells n
        rw [hzsz, h0] at e1
        rw [← e1]
        simp
      simp only [Instr.buildSlice, Sem.run_bind, run_underlying (elS_eq hu), Result.andThen_ok, szOf_run hsz, if_neg hgt, if_pos h0, Sem.run_pure]
      rw [hys]
      simp [newRow, hy1]
    · have hys : (Array.range (n * sz)).map (fun j => z.cells[j % z.cells.size]!) = (repV n z.cells.toList).toArray := by
        rw [← hzsz]; exact repV_eq z.cells n
      simp only [Instr.buildSlice, Sem.run_bind, run_underlying (elS_eq hu), Result.andThen_ok, szOf_run hsz, if_neg hgt, if_neg h0, h1, Sem.run_pure]
      rw [hys]
      simp [newRow, hy1]
  · intro ρ' _ hρ'
    have := Rel.ref (V := V) fr 0 n sz n ⟨w.heap.size, 0, ys.size⟩ hρ' (by simp [hlen]) (Nat.le_refl _)
    simpa using this

end
end Go.AX
