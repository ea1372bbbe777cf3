/- A part of the proof: AxE. -/
import Derived.Test.YtjijidmbpfjioaaAxD
namespace Go.AX

def GtOk (C : Ctx) (V : View) : Prop := ∀ g cs, C.gt g = some cs → ∃ c, V g = some c ∧ RelC (fun _ => none) (fun _ => none) (cs.map .v) c 0

theorem cst_rel (ρ : Rho) (V : View) (x : Value) : Rel ρ V (cst x) x := by
  unfold cst
  split
  · rename_i cs
    split
    · rename_i h
      refine .agg _ cs (by simp) (fun i x y hx hy => ?_) fun i y hy => ?_
      · simp [hy] at hx; subst hx; exact .v _
      · exact Array.all_eq_true_iff_forall_mem.1 h y (Array.mem_of_getElem? hy)
    · exact .v _
  · exact .v _

theorem ev_rel {C : Ctx} {ρ : Rho} {V : View} {s : AS} {a : Act} (hT : ∀ t, Rel ρ V (s.tmps t) (a.tmps.getD t undef)) (hG : GtOk C V) (x : Operand) : Rel ρ V (ev C s x) (a.eval x) := by
  cases x with
  | tmp t => exact hT t
  | const v => exact cst_rel ρ V v
  | global g =>
    simp only [ev, Act.eval]
    cases h : C.gt g with
    | none => exact .unk _
    | some cs =>
      obtain ⟨c, hv, hc⟩ := hG g cs h
      exact Rel.iptr_of (o := 0) 0 hv (hc.mono (fun _ _ h => by cases h) fun _ _ h => by cases h)
  | func f => exact .clo f [] [] #[] #[] rfl rfl (fun i x y hx _ => by simp at hx) (fun i x y hx _ => by simp at hx)

theorem addr_add (b o n : Nat) : (⟨b, o, none⟩ : Addr).add n = ⟨b, o + n, none⟩ := by unfold Addr.add; split <;> simp_all

theorem cell_at {w : World} {b : Nat} {c : Array Value} {T : TypeId} {fz : Nat × Nat} (h : w.heap[b]? = some (.cells c T fz)) (i : Nat) : w.cell? ⟨b, i, none⟩ = c[i]? := by
  simp [World.cell?, h]

theorem szOf_run {P : Program} {t n : Nat} (h : szOf P t = some n) (w : World) : (sizeOf t).run P w = .ok n w := by
  unfold szOf at h
  cases hi : P.info? t with
  | none => simp [hi] at h
  | some i => simp [hi] at h; simp [sizeOf, typeInfo, hi, h]

theorem zer_run {P : Program} {t : Nat} {zs : List AV} (h : zer P t = some zs) (w : World) : ∃ z : Value, (zeroValue t).run P w = .ok z w ∧ zs = z.cells.toList.map .v ∧ (∀ y ∈ z.cells.toList, sto y = true) ∧ (P.info? t).bind (·.zero) = some z := by
  unfold zer at h
  cases hi : P.info? t with
  | none => simp [hi] at h
  | some i =>
    cases hz : i.zero with
    | none => simp [hi, hz] at h
    | some z =>
      simp only [hi, hz, Option.bind_some] at h
      split at h
      · rename_i hall
        cases h
        exact ⟨z, by simp [zeroValue, typeInfo, hi, hz], rfl, fun y hy => Array.all_eq_true_iff_forall_mem.1 hall y (Array.mem_toList_iff.1 hy), by simp [hz]⟩
      · cases h

theorem agB_run {P : Program} {t : Nat} {r : Bool} (h : agB P t = some r) (w : World) : (isAgg t).run P w = .ok r w := by
  unfold agB at h
  cases hu : P.underlying t with
  | none => simp [hu] at h
  | some d =>
    simp only [hu, Option.map_some, Option.some.injEq] at h
    unfold isAgg
    rw [Sem.run_bind, run_underlying hu w]
    subst h
    cases d <;> rfl

theorem relC_v {ρ : Rho} {V : View} {ys : List Value} (h : ∀ y ∈ ys, sto y = true) : RelC ρ V (ys.map .v) ys.toArray 0 := by
  refine ⟨by simp, fun i x y hx hy => ?_, fun i y hi hy => ?_⟩
  · simp only [Nat.zero_add, List.getElem?_toArray] at hy
    simp [hy] at hx; subst hx; exact .v _
  · simp only [Nat.zero_add, List.getElem?_toArray] at hy
    exact h y (List.mem_of_getElem? hy)

theorem sub?_eq {cells r : List AV} {off n : Nat} (h : sub? cells off n = some r) : off + n ≤ cells.length ∧ r = (cells.drop off).take n := by
  unfold sub? at h
  split at h
  · cases h; exact ⟨by assumption, rfl⟩
  · cases h

section
variable {C : Ctx} {ρ : Rho} {V : View} {s : AS} {w : World}

theorem cellsAt_rel (hI : Inv ρ V s.toHS w) {x : AV} {y : Value} {cells : List AV} {off : Nat} (hr : Rel ρ V x y) (h : cellsAt s x = some (cells, off)) :
    ∃ b base c T fz, y = .pointer (some ⟨b, base + off, none⟩) ∧ w.heap[b]? = some (.cells c T fz) ∧ RelC ρ V cells c base := by
  cases hr <;> simp only [cellsAt] at h <;> try (cases h; done)
  case iptr cells' off' b o c hV hb H S =>
    cases h
    obtain ⟨T, fz, hh⟩ := hI.view b c hV
    exact ⟨b, o, c, T, fz, rfl, hh, ⟨hb, H, S⟩⟩
  case ptr id off' loc hρ =>
    cases ho : s.objs id with
    | dead => simp [ho] at h
    | live cs =>
      simp [ho] at h
      obtain ⟨rfl, rfl⟩ := h
      obtain ⟨c, T, h1, _, h3, _⟩ := hI.live id cs loc ho hρ
      exact ⟨loc.b, loc.base, c, T, (0, 0), rfl, h1, h3⟩
    | froz cs =>
      simp [ho] at h
      obtain ⟨rfl, rfl⟩ := h
      obtain ⟨c, h1, h3, _⟩ := hI.froz id cs loc ho hρ
      obtain ⟨T, fz, hh⟩ := hI.view loc.b c h1
      exact ⟨loc.b, loc.base, c, T, fz, rfl, hh, h3⟩

/-- The values of a row of cells. -/
def rowOf (c : Array Value) (o n : Nat) : List Value := (c.toList.drop o).take n

theorem rowOf_length {c : Array Value} {o n : Nat} (h : o + n ≤ c.size) : (rowOf c o n).length = n := by simp [rowOf]; omega
theorem rowOf_get {c : Array Value} {o n i : Nat} (h : i < n) : (rowOf c o n)[i]? = c[o + i]? := by
  simp [rowOf, h]

theorem loadRow {P : Program} {b : Nat} {c : Array Value} {T : TypeId} {fz : Nat × Nat} (hh : w.heap[b]? = some (.cells c T fz)) {o n : Nat} (hl : o + n ≤ c.size) :
    (loadCells ⟨b, o, none⟩ n).run P w = .ok (rowOf c o n).toArray w := by
  have hlen := rowOf_length hl
  rw [← hlen]
  rw [run_loadCells_list]
  · rw [hlen]
  · intro j v hv
    rw [addr_add, cell_at hh]
    have hj : j < n := by
      have := (List.getElem?_eq_some_iff.1 hv).1
      omega
    rw [← rowOf_get hj]; exact hv

theorem relC_row {cells : List AV} {c : Array Value} {o n : Nat} (h : RelC ρ V cells c o) (hn : cells.length = n) : RelC ρ V cells (rowOf c o n).toArray 0 ∧ (rowOf c o n).toArray.size = cells.length ∧ (∀ y ∈ rowOf c o n, sto y = true) := by
  have hle := h.le
  have hlen : (rowOf c o n).length = n := rowOf_length (by omega)
  refine ⟨⟨by simp [hlen]; omega, fun i x y hx hy => ?_, fun i y hi hy => ?_⟩, by simp [hlen, hn], fun y hy => ?_⟩
  · have hi : i < n := by have := (List.getElem?_eq_some_iff.1 hx).1; omega
    simp only [Nat.zero_add, List.getElem?_toArray, rowOf_get hi] at hy
    exact h.rel i x y hx hy
  · simp only [Nat.zero_add, List.getElem?_toArray, rowOf_get (by omega : i < n)] at hy
    exact h.sto i y hi hy
  · obtain ⟨i, hi⟩ := List.getElem?_of_mem hy
    have hlt : i < n := by have := (List.getElem?_eq_some_iff.1 hi).1; omega
    rw [rowOf_get hlt] at hi
    exact h.sto i y (by omega) hi

theorem part_load {P : Program} {b : Nat} {c : Array Value} {T : TypeId} {fz : Nat × Nat} (hh : w.heap[b]? = some (.cells c T fz)) {cells : List AV} {base off t : Nat} {x : AV} (hc : RelC ρ V cells c base)
    (hp : part? P t cells off = some x) : ∃ y, (loadVar t ⟨b, base + off, none⟩).run P w = .ok y w ∧ Rel ρ V x y := by
  unfold part? at hp
  split at hp
  · rename_i hag
    cases hn : szOf P t with
    | none => simp [hn] at hp
    | some n =>
      simp only [hn, Option.map_eq_some_iff] at hp
      obtain ⟨cs, hs, rfl⟩ := hp
      obtain ⟨hle, rfl⟩ := sub?_eq hs
      have h1 := hc.sub off n hle
      have hle' := hc.le
      obtain ⟨h2, h3, h4⟩ := relC_row (n := n) h1 (by simp; omega)
      refine ⟨.agg (rowOf c (base + off) n).toArray, ?_, Rel.agg_iff.2 ⟨_, rfl, h3, h2⟩⟩
      simp [loadVar, agB_run hag, szOf_run hn, loadRow (P := P) hh (show base + off + n ≤ c.size by omega)]
  · rename_i hag
    obtain ⟨y, hy, hr, _⟩ := hc.get hp
    refine ⟨y, ?_, hr⟩
    simp [loadVar, agB_run hag, cell_at hh, hy]
  · cases hp

theorem part_val {P : Program} {ys : Array Value} {cells : List AV} {off t : Nat} {x : AV} (hc : RelC ρ V cells ys 0)
    (hp : part? P t cells off = some x) : ∃ y, (part t ys off).run P w = .ok y w ∧ Rel ρ V x y := by
  unfold part? at hp
  split at hp
  · rename_i hag
    cases hn : szOf P t with
    | none => simp [hn] at hp
    | some n =>
      simp only [hn, Option.map_eq_some_iff] at hp
      obtain ⟨cs, hsb, rfl⟩ := hp
      obtain ⟨hle, rfl⟩ := sub?_eq hsb
      have h1 := hc.sub off n hle
      obtain ⟨h2, h3, h4⟩ := relC_row (n := n) h1 (by simp; omega)
      refine ⟨.agg (rowOf ys (0 + off) n).toArray, ?_, Rel.agg_iff.2 ⟨_, rfl, h3, h2⟩⟩
      simp only [part, Sem.run_bind, agB_run hag, Result.andThen_ok, if_true, szOf_run hn, Sem.run_pure]
      congr 2
      apply Array.ext'
      simp [rowOf]
  · rename_i hag
    obtain ⟨y, hy, hr, _⟩ := hc.get hp
    refine ⟨y, ?_, hr⟩
    simp only [Nat.zero_add] at hy
    simp [part, agB_run hag, hy]
  · cases hp

end
end Go.AX
