/- A part of the proof: AxG. -/
import Derived.Test.YtjijidmbpfjioaaAxF
namespace Go.AX

def OpRun (ρ : Rho) (V : View) (s : AS) (w : World) (fr : Nat) (r : Result Next) (e : Eff) : Prop :=
  ∃ y ρ' w', (r = .ok (.value y) w' ∨ (r = .ok .skip w' ∧ y = undef)) ∧ Did ρ V s.objs s.next w fr e y ρ' w'

section
variable {C : Ctx} {ρ : Rho} {V : View} {s : AS} {w : World} {fr : Nat}

theorem OpRun.val {x : AV} {y : Value} {r : Result Next} (hI : Inv ρ V s.toHS w) (h : r = .ok (.value y) w) (hr : Rel ρ V x y) : OpRun ρ V s w fr r ⟨x, .none⟩ :=
  ⟨y, ρ, w, .inl h, Did.pure hI hr⟩

/-- A new block. -/
theorem OpRun.new {x : AV} {y : Value} {r : Result Next} {cells : List AV} {c : Array Value} {T : TypeId} {w' : World} (hI : Inv ρ V s.toHS w) (hfr : ρ fr = none) (hlt : fr < s.next)
    (h : r = .ok (.value y) w') (hw : w'.heap = w.heap.push (.cells c T) ∧ w'.os = w.os ∧ w'.output = w.output) (hc : RelC ρ V cells c 0)
    (hr : ∀ ρ' : Rho, (∀ id loc, ρ id = some loc → ρ' id = some loc) → ρ' fr = some ⟨w.heap.size, 0, c.size⟩ → Rel ρ' V x y) :
    OpRun ρ V s w fr r ⟨x, .new cells⟩ :=
  ⟨y, _, w', .inl h, (Did.alloc (objs' := s.objs) (e := ⟨x, .new cells⟩) (T := T) hI hfr hlt (fun _ => .inl rfl) rfl hc hr).heap hw.1 hw.2.1 hw.2.2⟩

theorem op_alloc {t : TypeId} {cs : List AV} (hI : Inv ρ V s.toHS w) (hfr : ρ fr = none) (hlt : fr < s.next) (hz : zer C.P t = some cs) :
    OpRun ρ V s w fr ((do pure (.value (← Instr.alloc t true (.tuple #[]))) : Sem Next).run C.P w) ⟨.ptr fr 0, .new cs⟩ := by
  obtain ⟨z, h1, rfl, h3, _⟩ := zer_run hz w
  refine OpRun.new (c := z.cells) (T := t) hI hfr hlt (y := .pointer (some ⟨w.heap.size, 0, none⟩)) (w' := { w with heap := w.heap.push (.cells z.cells t) }) ?_ ⟨rfl, rfl, rfl⟩ ?_ ?_
  · simp [Instr.alloc, h1, newVar, newRow]
  · exact relC_v h3
  · intro ρ' _ hρ'
    exact .ptr fr 0 ⟨w.heap.size, 0, z.cells.size⟩ hρ'

theorem op_box {t : TypeId} {x : AV} {y : Value} {cs : List AV} (hI : Inv ρ V s.toHS w) (hfr : ρ fr = none) (hlt : fr < s.next) (hr : Rel ρ V x y) (hc : cellsOf x = some cs) :
    OpRun ρ V s w fr ((do pure (.value (← Instr.box t y)) : Sem Next).run C.P w) ⟨.ptr fr 0, .new cs⟩ := by
  obtain ⟨_, h2⟩ := cells_rel hr hc
  refine OpRun.new (c := y.cells) (T := t) hI hfr hlt (y := .pointer (some ⟨w.heap.size, 0, none⟩)) (w' := { w with heap := w.heap.push (.cells y.cells t) }) ?_ ⟨rfl, rfl, rfl⟩ h2 ?_
  · simp [Instr.box, newVar, newRow]
  · intro ρ' _ hρ'
    exact .ptr fr 0 ⟨w.heap.size, 0, y.cells.size⟩ hρ'

theorem op_load {t : TypeId} {p : AV} {q : Value} {cells : List AV} {off : Nat} {x : AV} (hI : Inv ρ V s.toHS w) (hr : Rel ρ V p q) (hc : cellsAt s p = some (cells, off)) (hp : part? C.P t cells off = some x) :
    OpRun ρ V s w fr ((do pure (.value (← Instr.loadAt t q)) : Sem Next).run C.P w) ⟨x, .none⟩ := by
  obtain ⟨b, base, c, T, fz, rfl, hh, hrc⟩ := cellsAt_rel hI hr hc
  obtain ⟨y, h1, h2⟩ := part_load (P := C.P) hh hrc hp
  refine OpRun.val hI (y := y) ?_ h2
  simp [Instr.loadAt, Instr.sureAddr, h1]

/-- What a write into an object's block does. -/
theorem did_wr {objs : Nat → Ob} {nx : Nat} {id off : Nat} {cells cs : List AV} {loc : Loc} {ys : List Value} {x : AV} {y : Value} (hI : Inv ρ V ⟨objs, nx⟩ w) (hl : objs id = .live cells) (hρ : ρ id = some loc)
    (hle : off + cs.length ≤ cells.length) (hv : RelV ρ V cs ys) (hx : Rel ρ V x y) :
    ∃ (cur : Array Value) (T : TypeId), w.heap[loc.b]? = some (.cells cur T (0, 0)) ∧ loc.base + off + ys.length ≤ cur.size ∧
      Did ρ V objs nx w fr ⟨x, .wr id off cs⟩ y ρ (w.setRow loc.b (cur.toList.take (loc.base + off) ++ ys ++ cur.toList.drop (loc.base + off + ys.length)).toArray) := by
  obtain ⟨cur, T, h1, h2, h3, h4⟩ := hI.live id cells loc hl hρ
  have hle3 := h3.le
  have hvl := hv.len
  obtain ⟨hr, hs⟩ := relC_put (off := off) h3 hle hv.len hv.rel hv.sto
  have hact : doAct fr (.wr id off cs) objs = upd objs id (.live (putAt cells off cs)) := by simp [doAct, hl]
  refine ⟨cur, T, h1, by omega, hx, ?_, fun _ _ h => h, fun _ _ => rfl, by simp, fun b hb hn => ?_, fun b ho => ?_, mem_setRow _ _ _⟩
  · rw [hact]
    exact Inv.wr hI hl hρ (fun j hj => upd_ne _ _ hj) (upd_eq _ _ _) (by rw [hs]; exact h2) hr
  · exact setRow_other _ _ _ _ fun hh => hn (by rw [hh]; exact own_of_live hl hρ)
  · rw [hact] at ho
    obtain ⟨j, cj, lj, hj, hρj, rfl⟩ := ho
    by_cases hji : j = id
    · subst hji; exact .inl ⟨j, cells, lj, hl, hρj, rfl⟩
    · simp only [upd_ne _ _ hji] at hj; exact .inl ⟨j, cj, lj, hj, hρj, rfl⟩

theorem sto_one {y : Value} (h : sto y = true) : y.oneCell' = true := by cases y <;> first | rfl | (simp [sto] at h)

theorem op_store {t : TypeId} {q x : Value} {id off n : Nat} {cells cs : List AV} {p : AV} (hI : Inv ρ V s.toHS w) (hq : Rel ρ V (.ptr id off) q) (hx : Rel ρ V p x) (hc : cellsOf p = some cs) (hn : szOf C.P t = some n)
    (hl : s.objs id = .live cells) (hcs : cs.length = n) (hle : off + n ≤ cells.length) :
    OpRun ρ V s w fr ((do Instr.storeAt t q x; pure .skip : Sem Next).run C.P w) ⟨.v undef, .wr id off cs⟩ := by
  cases hq with
  | ptr _ _ loc hρ =>
    have hv := RelV.of_cells hx hc
    obtain ⟨cur, T, h1, h2, h3⟩ := did_wr (fr := fr) (x := .v undef) (y := undef) hI hl hρ (by omega : off + cs.length ≤ cells.length) hv (.v _)
    refine ⟨undef, ρ, _, .inr ⟨?_, rfl⟩, h3⟩
    have hst := run_storeCells_at C.P loc.b (loc.base + off) T x.cells.toList 0 cur w h1 (by simpa using h2) fun v hv' => sto_one (hv.sto v hv')
    simp only [Nat.add_zero] at hst
    have hsz : x.cells.size = n := by have := hv.len; simp at this; omega
    simp [Instr.storeAt, Instr.sureAddr, storeVar, szOf_run hn, hsz, hst]

theorem op_fieldAddr {t f o ft k : Nat} {q : Value} {x r : AV} (hI : Inv ρ V s.toHS w) (hq : Rel ρ V x q) (hf : flE C.P t f = some (o, ft)) (hs : szOf C.P ft = some (k + 1))
    (h : addOff x o = some r) :
    OpRun ρ V s w fr ((do pure (.value (← Instr.fieldAt t q f)) : Sem Next).run C.P w) ⟨r, .none⟩ := by
  obtain ⟨fs, fd, hu, hfd, rfl, rfl⟩ : ∃ fs fd, C.P.underlying t = some (.struct fs) ∧ fs[f]? = some fd ∧ fd.offset = o ∧ fd.type = ft := by
    unfold flE at hf
    cases hu : C.P.underlying t with
    | none => simp [hu] at hf
    | some d =>
      cases d <;> simp [hu] at hf
      rename_i fs
      obtain ⟨fd, h1, h2, h3⟩ := hf
      exact ⟨fs, fd, rfl, h1, h2, h3⟩
  have run : ∀ (b a : Nat), (Instr.fieldAt t (.pointer (some ⟨b, a, none⟩)) f).run C.P w = .ok (.pointer (some ⟨b, a + fd.offset, none⟩)) w := by
    intro b a
    simp [Instr.fieldAt, run_underlying hu, hfd, Instr.sureAddr, fieldPlace, szOf_run hs, addr_add]
  unfold addOff at h
  cases hq <;> simp only at h <;> try (cases h; done)
  case ptr id off loc hρ =>
    cases h
    refine OpRun.val hI (y := .pointer (some ⟨loc.b, loc.base + off + fd.offset, none⟩)) (by simp [run]) ?_
    rw [Nat.add_assoc]; exact .ptr id _ loc hρ
  case iptr cells off b o' c hV hb H S =>
    cases h
    refine OpRun.val hI (y := .pointer (some ⟨b, o' + off + fd.offset, none⟩)) (by simp [run]) ?_
    rw [Nat.add_assoc]; exact .iptr cells _ b o' c hV hb H S

theorem op_field {t f o ft : Nat} {q : Value} {cs : List AV} {r : AV} (hI : Inv ρ V s.toHS w) (hq : Rel ρ V (.agg cs) q) (hf : flE C.P t f = some (o, ft)) (h : part? C.P ft cs o = some r) :
    OpRun ρ V s w fr ((do pure (.value (← Instr.field t q f)) : Sem Next).run C.P w) ⟨r, .none⟩ := by
  obtain ⟨fs, fd, hu, hfd, rfl, rfl⟩ : ∃ fs fd, C.P.underlying t = some (.struct fs) ∧ fs[f]? = some fd ∧ fd.offset = o ∧ fd.type = ft := by
    unfold flE at hf
    cases hu : C.P.underlying t with
    | none => simp [hu] at hf
    | some d =>
      cases d <;> simp [hu] at hf
      rename_i fs
      obtain ⟨fd, h1, h2, h3⟩ := hf
      exact ⟨fs, fd, rfl, h1, h2, h3⟩
  obtain ⟨ys, rfl, _, hc⟩ := Rel.agg_iff.1 hq
  obtain ⟨y, h1, h2⟩ := part_val (P := C.P) (w := w) hc h
  exact OpRun.val hI (y := y) (by simp [Instr.field, run_underlying hu, hfd, asAgg, h1]) h2

theorem intOf?_rel {x : AV} {y : Value} {n : Int} (h : Rel ρ V x y) (hn : intOf? x = some n) : ∃ k, y = .int k n := by
  cases h <;> simp only [intOf?] at hn <;> try (cases hn; done)
  cases y <;> simp at hn
  exact ⟨_, by rw [hn]⟩

theorem arE_eq {P : Program} {t n e : Nat} (h : arE P t = some (n, e)) : P.underlying t = some (.array n e) := by
  unfold arE at h
  cases hu : P.underlying t with
  | none => simp [hu] at h
  | some d => cases d <;> simp [hu] at h; obtain ⟨rfl, rfl⟩ := h; rfl

theorem elS_eq {P : Program} {t e : Nat} (h : elS P t = some e) : P.underlying t = some (.slice e) := by
  unfold elS at h
  cases hu : P.underlying t with
  | none => simp [hu] at h
  | some d => cases d <;> simp [hu] at h; subst h; rfl

theorem op_index {t len e sz : Nat} {q i : Value} {cs : List AV} {n : Int} {x r : AV} (hI : Inv ρ V s.toHS w) (hq : Rel ρ V (.agg cs) q) (hi : Rel ρ V x i) (hn : intOf? x = some n) (ha : arE C.P t = some (len, e))
    (h0 : 0 ≤ n ∧ n < (len : Int)) (hs : szOf C.P e = some sz) (h : part? C.P e cs (n.toNat * sz) = some r) :
    OpRun ρ V s w fr ((do pure (.value (← Instr.index t q i)) : Sem Next).run C.P w) ⟨r, .none⟩ := by
  obtain ⟨k, rfl⟩ := intOf?_rel hi hn
  obtain ⟨ys, rfl, _, hc⟩ := Rel.agg_iff.1 hq
  obtain ⟨y, h1, h2⟩ := part_val (P := C.P) (w := w) hc h
  exact OpRun.val hI (y := y) (by simp [Instr.index, asIntOf, run_underlying (arE_eq ha), h0, szOf_run hs, h1]) h2

theorem op_indexAddr {t : Nat} {q i : Value} {x ix r : AV} (hI : Inv ρ V s.toHS w) (hq : Rel ρ V x q) (hi : Rel ρ V ix i) (h : indexAddrE C.P t x ix = some r) :
    OpRun ρ V s w fr ((do pure (.value (← Instr.indexAt t q i)) : Sem Next).run C.P w) ⟨r, .none⟩ := by
  unfold indexAddrE at h
  cases hn : intOf? ix with
  | none => simp [hn] at h
  | some n =>
    simp only [hn] at h
    obtain ⟨k, rfl⟩ := intOf?_rel hi hn
    split at h
    · rename_i h0
      split at h
      · rename_i len e hu
        cases hs : szOf C.P e with
        | none => simp [hs] at h
        | some sz =>
          simp only [hs] at h
          split at h
          · rename_i h1
            have run : ∀ (b a : Nat), (Instr.indexAt t (.pointer (some ⟨b, a, none⟩)) (.int k n)).run C.P w = .ok (.pointer (some ⟨b, a + n.toNat * sz, none⟩)) w := by
              intro b a
              simp [Instr.indexAt, asIntOf, run_underlying hu, Instr.sureAddr, h0, h1, szOf_run hs, addr_add]
            cases hq <;> simp only at h <;> try (cases h; done)
            case ptr id off loc hρ =>
              cases h
              refine OpRun.val hI (y := .pointer (some ⟨loc.b, loc.base + off + n.toNat * sz, none⟩)) (by simp [run]) ?_
              rw [Nat.add_assoc]; exact .ptr id _ loc hρ
            case iptr cells off b o' c hV hb H S =>
              cases h
              refine OpRun.val hI (y := .pointer (some ⟨b, o' + off + n.toNat * sz, none⟩)) (by simp [run]) ?_
              rw [Nat.add_assoc]; exact .iptr cells _ b o' c hV hb H S
          · cases h
      · rename_i e hu
        cases hs : szOf C.P e with
        | none => simp [hs] at h
        | some sz =>
          simp only [hs] at h
          have run : ∀ (b a len cap : Nat), n < (len : Int) → (Instr.indexAt t (.slice (some ⟨b, a, none⟩) len cap) (.int k n)).run C.P w = .ok (.pointer (some ⟨b, a + n.toNat * sz, none⟩)) w := by
            intro b a len cap h1
            simp [Instr.indexAt, asIntOf, run_underlying hu, h0, h1, szOf_run hs, addr_add]
          cases hq <;> simp only at h <;> try (cases h; done)
          case imm cells len b o cap c hV hb H S hlc =>
            split at h
            · rename_i h1
              cases h
              exact OpRun.val hI (y := .pointer (some ⟨b, o + n.toNat * sz, none⟩)) (by simp [run b o len cap h1]) (.iptr cells _ b o c hV hb H S)
            · cases h
          case imm0 a cap =>
            split at h
            · rename_i h1; simp at h1; omega
            · cases h
          case ref id off len sz' cap loc hρ hc hl =>
            split at h
            · rename_i h1
              obtain ⟨h1, rfl⟩ := h1
              cases h
              refine OpRun.val hI (y := .pointer (some ⟨loc.b, loc.base + off + n.toNat * sz', none⟩)) (by simp [run _ _ len cap h1]) ?_
              rw [Nat.add_assoc]; exact .ptr id _ loc hρ
            · cases h
          case refE id off sz' a =>
            split at h
            · rename_i h1; simp at h1; omega
            · cases h
      · cases h
    · cases h

theorem op_extract {q : Value} {vs : List AV} {i : Nat} {r : AV} (hI : Inv ρ V s.toHS w) (hq : Rel ρ V (.tup vs) q) (h : vs[i]? = some r) :
    OpRun ρ V s w fr ((do pure (.value (← Instr.extract q i)) : Sem Next).run C.P w) ⟨r, .none⟩ := by
  cases hq with
  | tup _ ys hs H =>
    have hi : i < ys.size := by rw [hs]; exact (List.getElem?_eq_some_iff.1 h).1
    refine OpRun.val hI (y := ys[i]) ?_ (H i r _ h (by simp [hi]))
    simp [Instr.extract, hi]

end
end Go.AX
