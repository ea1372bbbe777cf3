/- A part of the proof: AxJ. -/
import Derived.Test.YtjijidmbpfjioaaAxI
namespace Go.AX

section
variable {C : Ctx} {ρ : Rho} {V : View} {s : AS} {w : World} {fr : Nat}

theorem byOf_info {P : Program} {t n : Nat} (h : byOf P t = some n) : ∃ i, P.info? t = some i ∧ i.bytes = n := by
  unfold byOf at h
  cases hi : P.info? t with
  | none => simp [hi] at h
  | some i => simp [hi] at h; exact ⟨i, rfl, h⟩

theorem append_room {P : Program} {t u e e' ty sz sLen sCap k : Nat} {base : Option Addr} {y : Value} {ys : List Value} {w' : World} (ht : P.underlying t = some (.slice e)) (hu : P.underlying u = some (.slice e')) (hsz : szOf P e = some sz)
    (hlen : Builtin.lenOf y = pure k) (hf : (Builtin.firstCells sz k y).run P w = .ok ys.toArray w) (hroom : sLen + k ≤ sCap)
    (hst : ∀ a, base = some a → (storeCells (a.add (sLen * sz)) ys).run P w = .ok () w') (hno : base = none → w' = w) :
    (Builtin.append_ #[t, u] ty #[.slice base sLen sCap, y]).run P w = .ok (.slice base (sLen + k) sCap) w' := by
  cases base with
  | none =>
    have := hno rfl
    subst this
    simp [Builtin.append_, run_underlying ht, run_underlying hu, szOf_run hsz, hlen, hf, hroom]
  | some a =>
    have h1 := hst a rfl
    simp [Builtin.append_, run_underlying ht, run_underlying hu, szOf_run hsz, hlen, hf, hroom, h1]

theorem append_grow {P : Program} {t u e e' ty sz by' sLen sCap k : Nat} {base : Option Addr} {y : Value} {xs ys : List Value} {z : Value} (ht : P.underlying t = some (.slice e)) (hu : P.underlying u = some (.slice e')) (hsz : szOf P e = some sz)
    (hby : byOf P e = some by') (hz : ∀ w : World, (zeroValue e).run P w = .ok z w)
    (hlen : Builtin.lenOf y = pure k) (hf : (Builtin.firstCells sz k y).run P w.drew = .ok ys.toArray w.drew) (hfo : (Builtin.firstCells sz sLen (.slice base sLen sCap)).run P w.drew = .ok xs.toArray w.drew)
    (hroom : ¬ sLen + k ≤ sCap) (hb0 : 0 < by') (hbound : (sLen + k) * by' ≤ 140737488355328) :
    ∃ (rest : List Value) (cap : Nat), sLen + k ≤ cap ∧ rest.length = (cap - (sLen + k)) * z.cells.size ∧ (Builtin.append_ #[t, u] ty #[.slice base sLen sCap, y]).run P w =
      .ok (.slice (some ⟨w.heap.size, 0, none⟩) (sLen + k) cap) (w.drew.alloc (.cells (xs ++ ys ++ rest).toArray e)) := by
  obtain ⟨i, hi, hb⟩ := byOf_info hby
  refine ⟨(Builtin.zeroCells z.cells (grownCap w (sLen + k) sCap e - (sLen + k))).toList, grownCap w (sLen + k) sCap e, grownCap_ge _ _ _ _, by rw [Array.length_toList, size_zeroCells], ?_⟩
  have hle : sLen + k ≤ (sLen + k) * by' := Nat.le_mul_of_pos_right _ hb0
  have h63 : ¬ (9223372036854775807 < ((sLen : Int) + (k : Int))) := by omega
  have hfit := growslice_fits (need := sLen + k) (old := sCap) (by omega) hbound
  have h48 : ¬ (281474976710656 < Builtin.nextslicecap (sLen + k) sCap * by') := by omega
  simp [Builtin.append_, run_underlying ht, run_underlying hu, szOf_run hsz, hlen, hroom, typeInfo, hi, hb, h63, h48, Question.forced, hf, hfo, hz, newRow, grownCap]
  congr 2
  apply Array.ext'
  simp

/-- An append into the room behind an object. -/
theorem did_room {objs : Nat → Ob} {nx : Nat} {id off len k cap sz : Nat} {cells xs : List AV} {loc : Loc} {ys : List Value} (hI : Inv ρ V ⟨objs, nx⟩ w) (hfr : ρ fr = none) (hlt : fr < nx) (hl : objs id = .live cells) (hρ : ρ id = some loc)
    (hend : off + len * sz = cells.length) (hv : RelV ρ V xs ys) (hxl : xs.length = k * sz) (hc : loc.base + off + cap * sz ≤ loc.N) (hroom : len + k ≤ cap) :
    ∃ (cur : Array Value) (T : TypeId), w.heap[loc.b]? = some (.cells cur T (0, 0)) ∧ loc.base + off + len * sz + ys.length ≤ cur.size ∧
      Did ρ V objs nx w fr ⟨.ref fr 0 (len + k) sz, .app (some id) (cells.drop off ++ xs)⟩ (.slice (some ⟨loc.b, loc.base + off, none⟩) (len + k) cap) (upd ρ fr (some ⟨loc.b, loc.base + off, loc.N⟩))
        (w.setRow loc.b (cur.toList.take (loc.base + off + len * sz) ++ ys ++ cur.toList.drop (loc.base + off + len * sz + ys.length)).toArray) := by
  obtain ⟨cur, T, h1, h2, h3, h4⟩ := hI.live id cells loc hl hρ
  have hle3 := h3.le
  have hvl := hv.len
  have hmul : (len + k) * sz ≤ cap * sz := Nat.mul_le_mul_right _ hroom
  rw [Nat.add_mul] at hmul
  have hfit : loc.base + off + len * sz + ys.length ≤ cur.size := by omega
  refine ⟨cur, T, h1, hfit, ?_⟩
  generalize hrow : (cur.toList.take (loc.base + off + len * sz) ++ ys ++ cur.toList.drop (loc.base + off + len * sz + ys.length)).toArray = row
  have hrs : row.size = cur.size := by rw [← hrow]; simp; omega
  have hget : ∀ i, row[loc.base + off + i]? = if i < len * sz then cur[loc.base + off + i]? else if i < len * sz + ys.length then ys[i - len * sz]? else cur[loc.base + off + i]? := by
    intro i
    rw [← hrow]
    simp only [List.getElem?_toArray]
    rw [List.getElem?_append, List.getElem?_append]
    simp only [List.length_append, List.length_take, List.getElem?_drop, List.getElem?_take, Array.length_toList, Array.getElem?_toList]
    have hm : min (loc.base + off + len * sz) cur.size = loc.base + off + len * sz := by omega
    rw [hm]
    by_cases c1 : i < len * sz
    · rw [if_pos (by omega), if_pos (by omega), if_pos (by omega), if_pos c1]
    · rw [if_neg c1]
      by_cases c2 : i < len * sz + ys.length
      · rw [if_pos (by omega), if_neg (by omega), if_pos c2]; congr 1; omega
      · rw [if_neg (by omega), if_neg c2]; congr 1; omega
  have hdl : (cells.drop off).length = len * sz := by simp; omega
  have hrc : RelC ρ V (cells.drop off ++ xs) row (loc.base + off) := by
    refine ⟨by simp [hdl, hrs]; omega, fun i x y hx hy => ?_, fun i y hi hy => ?_⟩
    · rw [hget] at hy
      rw [List.getElem?_append, hdl] at hx
      by_cases c1 : i < len * sz
      · rw [if_pos c1] at hx hy
        rw [List.getElem?_drop] at hx
        exact h3.rel (off + i) x y hx (by rw [← Nat.add_assoc]; exact hy)
      · rw [if_neg c1] at hx hy
        have : i - len * sz < xs.length := (List.getElem?_eq_some_iff.1 hx).1
        rw [if_pos (by omega)] at hy
        exact hv.rel _ _ _ hx hy
    · rw [hget] at hy
      simp [hdl] at hi
      by_cases c1 : i < len * sz
      · rw [if_pos c1] at hy
        exact h3.sto (off + i) y (by omega) (by rw [← Nat.add_assoc]; exact hy)
      · rw [if_neg c1, if_pos (by omega)] at hy
        exact hv.sto _ (List.mem_of_getElem? hy)
  have hne : id ≠ fr := fun hh => by rw [hh, hfr] at hρ; cases hρ
  have hρ' : ∀ j lj, ρ j = some lj → upd ρ fr (some ⟨loc.b, loc.base + off, loc.N⟩) j = some lj := by
    intro j lj hj
    have : j ≠ fr := fun hh => by rw [hh, hfr] at hj; cases hj
    rw [upd_ne _ _ this]; exact hj
  have back : ∀ j cj, j ≠ fr → doAct fr (.app (some id) (cells.drop off ++ xs)) objs j = .live cj → objs j = .live cj ∧ j ≠ id := by
    intro j cj hj hh
    simp only [doAct, killO] at hh
    rw [upd_ne _ _ hj] at hh
    by_cases hji : j = id
    · subst hji; rw [upd_eq] at hh; cases hh
    · rw [upd_ne _ _ hji] at hh; exact ⟨hh, hji⟩
  have hfrl : doAct fr (.app (some id) (cells.drop off ++ xs)) objs fr = .live (cells.drop off ++ xs) := upd_eq _ _ _
  refine ⟨.ref fr 0 (len + k) sz cap ⟨loc.b, loc.base + off, loc.N⟩ (upd_eq _ _ _) hc hroom, ?_, hρ', fun j hj => upd_ne _ _ hj, by simp, fun b hb hn => ?_, ?_, mem_setRow _ _ _⟩
  · refine ⟨fun b c' hv' => ?_, fun j hj => ?_, fun j cj lj hj hρj => ?_, fun j cj lj hj hρj => ?_, fun i j li lj ci cj hi hj hρi hρj hb => ?_⟩
    · obtain ⟨T', fz, hb⟩ := hI.view b c' hv'
      have : b ≠ loc.b := fun hh => by rw [hh, h4] at hv'; cases hv'
      exact ⟨T', fz, by rw [setRow_other _ _ _ _ this]; exact hb⟩
    · have hj' : nx ≤ j := hj
      rw [upd_ne _ _ (by omega : j ≠ fr)]; exact hI.fresh j hj
    · by_cases hjf : j = fr
      · subst hjf
        simp only [hfrl] at hj
        cases hj
        rw [upd_eq] at hρj; cases hρj
        exact ⟨row, T, setRow_heap w loc.b cur row T (0, 0) h1, by rw [hrs]; exact h2, hrc.mono hρ' fun _ _ h => h, h4⟩
      · obtain ⟨hj', hji⟩ := back j cj hjf hj
        rw [upd_ne _ _ hjf] at hρj
        obtain ⟨c', T', g1, g2, g3, g4⟩ := hI.live j cj lj hj' hρj
        have hb : lj.b ≠ loc.b := fun hh => hji (hI.inj j id lj loc cj cells hj' hl hρj hρ hh)
        exact ⟨c', T', by rw [setRow_other _ _ _ _ hb]; exact g1, g2, g3.mono hρ' fun _ _ h => h, g4⟩
    · by_cases hjf : j = fr
      · subst hjf; simp only [hfrl] at hj; cases hj
      · simp only [doAct, killO] at hj
        rw [upd_ne _ _ hjf] at hj hρj
        by_cases hji : j = id
        · subst hji; rw [upd_eq] at hj; cases hj
        · rw [upd_ne _ _ hji] at hj
          obtain ⟨c', g5, g6, g7⟩ := hI.froz j cj lj hj hρj
          exact ⟨c', g5, g6.mono hρ' fun _ _ h => h, g7⟩
    · by_cases hif : i = fr <;> by_cases hjf : j = fr
      · omega
      · subst hif
        obtain ⟨hj', hji⟩ := back j cj hjf hj
        rw [upd_eq] at hρi; cases hρi
        rw [upd_ne _ _ hjf] at hρj
        exact absurd (hI.inj j id lj loc cj cells hj' hl hρj hρ hb.symm) hji
      · subst hjf
        obtain ⟨hi', hii⟩ := back i ci hif hi
        rw [upd_eq] at hρj; cases hρj
        rw [upd_ne _ _ hif] at hρi
        exact absurd (hI.inj i id li loc ci cells hi' hl hρi hρ hb) hii
      · obtain ⟨hi', _⟩ := back i ci hif hi
        obtain ⟨hj', _⟩ := back j cj hjf hj
        rw [upd_ne _ _ hif] at hρi
        rw [upd_ne _ _ hjf] at hρj
        exact hI.inj i j li lj ci cj hi' hj' hρi hρj hb
  · exact setRow_other _ _ _ _ fun hh => hn (by rw [hh]; exact own_of_live hl hρ)
  · rintro b ⟨j, cj, lj, hj, hρj, rfl⟩
    by_cases hjf : j = fr
    · subst hjf; rw [upd_eq] at hρj; cases hρj; exact .inl ⟨id, cells, loc, hl, hρ, rfl⟩
    · obtain ⟨hj', _⟩ := back j cj hjf hj
      rw [upd_ne _ _ hjf] at hρj
      exact .inl ⟨j, cj, lj, hj', hρj, rfl⟩

theorem op_append {t u : Nat} {ty : TypeId} {x y : AV} {q r : Value} {e : Eff} (hI : Inv ρ V s.toHS w) (hfr : ρ fr = none) (hlt : fr < s.next) (hq : Rel ρ V x q) (hr : Rel ρ V y r) (h : appE C.P s fr t u x y = some e) :
    OpRun ρ V s w fr ((do pure (.value (← Builtin.append_ #[t, u] ty #[q, r])) : Sem Next).run C.P w) e := by
  unfold appE at h
  split at h
  · rename_i el el' he he'
    split at h
    · rename_i sz by' zs hsz hby hz
      split at h
      rotate_left
      · cases h
      rename_i hzs
      split at h
      · rename_i xs k hsrc
        obtain ⟨ys, hv, hxl, hfc, hlen⟩ := srcOf_rel hI hr hsrc
        have hfc0 := hfc k (Nat.le_refl _) C.P w fun _ _ _ _ h => h
        have hfc1 := hfc k (Nat.le_refl _) C.P w.drew fun _ _ _ _ h => h
        have htake : ys.take (k * sz) = ys := List.take_of_length_le (by rw [hv.len, hxl]; exact Nat.le_refl _)
        rw [htake] at hfc0 hfc1
        have hzv : ∃ z : Value, (∀ w : World, (zeroValue el).run C.P w = .ok z w) ∧ z.cells.size = sz := by
          obtain ⟨z, hz1, hz3, _, hz2⟩ := zer_run hz w
          refine ⟨z, fun w' => ?_, by rw [hz3] at hzs; simpa using hzs⟩
          obtain ⟨z', hz1', _, _, hz2'⟩ := zer_run hz w'
          rw [hz2] at hz2'; cases hz2'; exact hz1'
        obtain ⟨z, hz, hzsz⟩ := hzv
        -- the new block
        have grow : ∀ (base : Option Addr) (sLen sCap : Nat) (os : List Value) (ocs : List AV) (old : Option Nat), q = .slice base sLen sCap → RelV ρ V ocs os → ocs.length = sLen * sz →
            (Builtin.firstCells sz sLen (.slice base sLen sCap)).run C.P w.drew = .ok os.toArray w.drew → ¬ sLen + k ≤ sCap → 0 < by' → (sLen + k) * by' ≤ 140737488355328 →
            OpRun ρ V s w fr ((do pure (.value (← Builtin.append_ #[t, u] ty #[q, r])) : Sem Next).run C.P w) ⟨.ref fr 0 (sLen + k) sz, .app old (ocs ++ xs)⟩ := by
          intro base sLen sCap os ocs old hqe hos holen hfo hroom hb0 hbound
          subst hqe
          obtain ⟨rest, cap, hcap, hrest, hrun⟩ := append_grow (w := w) (ty := ty) (elS_eq he) (elS_eq he') hsz hby hz hlen hfc1 hfo hroom hb0 hbound
          have hnew := hos.append hv
          have hrc : RelC ρ V (ocs ++ xs) (os ++ ys ++ rest).toArray 0 := by
            have hl := hnew.len
            refine ⟨by simp at hl ⊢; omega, fun i a b ha hb => ?_, fun i b hi hb => ?_⟩
            · have hi : i < (os ++ ys).length := by rw [hl]; exact (List.getElem?_eq_some_iff.1 ha).1
              simp only [Nat.zero_add, List.getElem?_toArray] at hb
              rw [List.getElem?_append_left hi] at hb
              exact hnew.rel i a b ha hb
            · have hi' : i < (os ++ ys).length := by rw [hl]; exact hi
              simp only [Nat.zero_add, List.getElem?_toArray] at hb
              rw [List.getElem?_append_left hi'] at hb
              exact hnew.sto b (List.mem_of_getElem? hb)
          have hsize : (os ++ ys ++ rest).toArray.size = cap * sz := by
            have e1 := hos.len
            have e2 := hv.len
            rw [hzsz] at hrest
            have e3 : cap * sz = sLen * sz + k * sz + (cap - (sLen + k)) * sz := by rw [← Nat.add_mul, ← Nat.add_mul]; congr 1; omega
            simp
            omega
          have := Did.alloc (V := V) (objs := s.objs) (nx := s.next) (objs' := killO s.objs old) (fr := fr) (e := ⟨.ref fr 0 (sLen + k) sz, .app old (ocs ++ xs)⟩)
            (y := .slice (some ⟨w.heap.size, 0, none⟩) (sLen + k) cap) (cells := ocs ++ xs) (c := (os ++ ys ++ rest).toArray) (T := el) hI hfr hlt (killO_or s.objs old) rfl hrc
            (fun ρ' _ hρ' => by
              have := Rel.ref (V := V) fr 0 (sLen + k) sz cap ⟨w.heap.size, 0, (os ++ ys ++ rest).toArray.size⟩ hρ' (by rw [hsize]; simp) hcap
              simpa using this)
          exact ⟨_, _, _, .inl (runAndThenValue hrun), this.heap rfl rfl rfl⟩
        have fnil : ∀ (base : Option Addr) (sCap : Nat) (w : World), (Builtin.firstCells sz 0 (.slice base 0 sCap)).run C.P w = .ok ([] : List Value).toArray w := by
          intro base sCap w
          cases base <;> simp [Builtin.firstCells, loadCells, loadCellsFrom]
        -- nothing appended to nothing
        have none0 : ∀ (base : Option Addr) (old : Option Nat) (ocs : List AV), q = .slice base 0 0 → k = 0 → ocs = [] →
            OpRun ρ V s w fr ((do pure (.value (← Builtin.append_ #[t, u] ty #[q, r])) : Sem Next).run C.P w) ⟨.ref fr 0 (0 + k) sz, .app old (ocs ++ xs)⟩ := by
          intro base old ocs hqe hk hoc
          subst hqe; subst hk; subst hoc
          have hys : ys = [] := by
            have := hv.len
            rw [hxl] at this
            simpa using this
          have hxs : xs = [] := by simpa using hxl
          have hrun := append_room (P := C.P) (ty := ty) (sLen := 0) (sCap := 0) (base := base) (w := w) (w' := w) (elS_eq he) (elS_eq he') hsz hlen hfc0 (by omega) (by intro a _; rw [hys]; rfl) (fun _ => rfl)
          refine ⟨_, ρ, w, .inl (runAndThenValue hrun), .refE fr 0 sz base, ?_, fun _ _ h => h, fun _ _ => rfl, Nat.le_refl _, fun _ _ _ => rfl, ?_, Mem.refl _⟩
          · subst hxs
            have hobj : ∀ id, doAct fr (.app old ([] ++ [])) s.objs id = s.objs id ∨ doAct fr (.app old ([] ++ [])) s.objs id = .dead ∨ id = fr := by
              intro id
              by_cases hid : id = fr
              · exact .inr (.inr hid)
              · simp only [doAct]
                rw [upd_ne _ _ hid]
                rcases killO_or s.objs old id with h1 | h1
                · exact .inl h1
                · exact .inr (.inl h1)
            refine ⟨hI.view, hI.fresh, fun id cs loc hl hρ => ?_, fun id cs loc hl hρ => ?_, fun i j li lj ci cj hi hj hρi hρj hb => ?_⟩
            · rcases hobj id with h1 | h1 | h1
              · simp only [h1] at hl; exact hI.live id cs loc hl hρ
              · simp only [h1] at hl; cases hl
              · subst h1; rw [hfr] at hρ; cases hρ
            · rcases hobj id with h1 | h1 | h1
              · simp only [h1] at hl; exact hI.froz id cs loc hl hρ
              · simp only [h1] at hl; cases hl
              · subst h1; rw [hfr] at hρ; cases hρ
            · rcases hobj i with h1 | h1 | h1
              · rcases hobj j with h2 | h2 | h2
                · simp only [h1] at hi; simp only [h2] at hj; exact hI.inj i j li lj ci cj hi hj hρi hρj hb
                · simp only [h2] at hj; cases hj
                · subst h2; rw [hfr] at hρj; cases hρj
              · simp only [h1] at hi; cases hi
              · subst h1; rw [hfr] at hρi; cases hρi
          · rintro b ⟨id, cs, loc, hl, hρ, rfl⟩
            have hne : id ≠ fr := fun hh => by rw [hh, hfr] at hρ; cases hρ
            simp only [doAct] at hl
            rw [upd_ne _ _ hne] at hl
            rcases killO_or s.objs old id with h1 | h1
            · rw [h1] at hl; exact .inl ⟨id, cs, loc, hl, hρ, rfl⟩
            · rw [h1] at hl; cases hl
        cases hq <;> (try simp only at h) <;> try (cases h; done)
        case v =>
          split at h
          · rename_i hn
            have hy := nilS_eq hn
            subst hy
            split at h
            · rename_i hb
              cases h
              by_cases hk : k = 0
              · have := none0 none none [] rfl hk rfl
                simpa using this
              · have := grow none 0 0 [] [] none rfl .nil (by simp) (fnil none 0 _) (by omega) hb.1 (by simpa using hb.2)
                simpa using this
            · cases h
          · cases h
        case ref id off len sz' cap loc hρ hc hl =>
          cases ho : s.objs id with
          | dead => simp [ho] at h
          | froz _ => simp [ho] at h
          | live cells =>
            simp only [ho] at h
            split at h
            · rename_i hcond
              obtain ⟨rfl, hend, hb0, hbound⟩ := hcond
              cases h
              obtain ⟨cur, T, g1, g2, g3, g4⟩ := hI.live id cells loc ho hρ
              have g5 := g3.le
              have hsub := g3.sub off (len * sz') (by omega)
              have hdrop : (cells.drop off).take (len * sz') = cells.drop off := List.take_of_length_le (by simp; omega)
              rw [hdrop] at hsub
              by_cases hroom : len + k ≤ cap
              · obtain ⟨cur', T', k1, k2, k3⟩ := did_room (fr := fr) hI hfr hlt ho hρ hend hv hxl hc hroom
                have hst := run_storeCells_at C.P loc.b (loc.base + off + len * sz') T' ys 0 cur' w k1 (by simpa using k2) fun v hv' => sto_one (hv.sto v hv')
                simp only [Nat.add_zero] at hst
                have hrun := append_room (P := C.P) (ty := ty) (sLen := len) (sCap := cap) (base := some ⟨loc.b, loc.base + off, none⟩) (w := w) (elS_eq he) (elS_eq he') hsz hlen hfc0 hroom
                  (by intro a ha; cases ha; rw [addr_add]; exact hst) (fun hh => by cases hh)
                exact ⟨_, _, _, .inl (runAndThenValue hrun), k3⟩
              · refine grow (some ⟨loc.b, loc.base + off, none⟩) len cap _ (cells.drop off) (some id) rfl hsub.relV (by simp; omega) ?_ hroom hb0 hbound
                have h1 := loadRow (P := C.P) (w := w.drew) (T := T) (fz := (0, 0)) (b := loc.b) (c := cur) (o := loc.base + off) (n := len * sz') g1 (by omega)
                simp only [Builtin.firstCells]
                rw [h1]
                simp
                congr 2
                omega
            · cases h
        case refE id off sz' a =>
          cases ho : s.objs id with
          | dead => simp [ho] at h
          | froz _ => simp [ho] at h
          | live cells =>
            simp only [ho] at h
            split at h
            · rename_i hcond
              obtain ⟨rfl, hend, hb0, hbound⟩ := hcond
              cases h
              have hd : cells.drop off = [] := List.drop_eq_nil_of_le (by omega)
              rw [hd]
              by_cases hk : k = 0
              · exact none0 a (some id) [] rfl hk rfl
              · exact grow a 0 0 [] [] (some id) rfl .nil (by simp) (fnil a 0 _) (by omega) hb0 hbound
            · cases h
      · cases h
    · cases h
  · cases h

end
end Go.AX
