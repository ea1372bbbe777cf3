/- A part of the proof: AxS. -/
import Derived.Test.YtjijidmbpfjioaaAxR
namespace Go.AX

/-! ## What was made is given away: references turned to what they hold -/

/-- References turned to the cells that they reach, down to depth 'n'. -/
def fz (objs : Nat → Ob) : Nat → AV → AV
  | 0, x => x
  | n + 1, .ref id off len sz => match objs id with
    | .live cells => bif (Nat.ble (off + len * sz) cells.length) then .imm (((cells.drop off).take (len * sz)).map (fz objs n)) len else .ref id off len sz
    | .froz cells => bif (Nat.ble (off + len * sz) cells.length) then .imm (((cells.drop off).take (len * sz)).map (fz objs n)) len else .ref id off len sz
    | .dead => .ref id off len sz
  | n + 1, .ptr id off => match objs id with
    | .live cells => .iptr (cells.map (fz objs n)) off
    | .froz cells => .iptr (cells.map (fz objs n)) off
    | .dead => .ptr id off
  | n + 1, .agg cs => .agg (cs.map (fz objs n))
  | n + 1, .tup cs => .tup (cs.map (fz objs n))
  | n + 1, .imm cs len => .imm (cs.map (fz objs n)) len
  | n + 1, .iptr cs off => .iptr (cs.map (fz objs n)) off
  | n + 1, .clo f a b => .clo f (a.map (fz objs n)) (b.map (fz objs n))
  | _ + 1, .v x => bif nilS x then .imm [] 0 else .v x
  | _ + 1, .unk => .unk

open Classical in
/-- The view, the blocks of the live objects in it. -/
noncomputable def VV (ρ : Rho) (V : View) (s : HS) (w : World) : View := fun b =>
  match V b with
  | some c => some c
  | none => if Own ρ s b then match w.heap[b]? with
      | some (.cells c _ _) => some c
      | _ => none
    else none

theorem VV_mono {ρ : Rho} {V : View} {s : HS} {w : World} : ∀ b c, V b = some c → VV ρ V s w b = some c := by
  intro b c h; simp [VV, h]

theorem VV_cases {ρ : Rho} {V : View} {s : HS} {w : World} {b : Nat} {c : Array Value} (h : VV ρ V s w b = some c) :
    V b = some c ∨ (Own ρ s b ∧ ∃ T fz, w.heap[b]? = some (.cells c T fz)) := by
  unfold VV at h
  split at h
  · rename_i c' hc; cases h; exact .inl hc
  · split at h
    · rename_i ho
      split at h
      · rename_i c' T fz hb; cases h; exact .inr ⟨ho, T, fz, hb⟩
      · cases h
    · cases h

theorem VV_own {ρ : Rho} {V : View} {s : HS} {w : World} {b : Nat} {c : Array Value} {T : TypeId} {q : Nat × Nat} (h : V b = none) (ho : Own ρ s b) (hb : w.heap[b]? = some (.cells c T q)) : VV ρ V s w b = some c := by
  simp [VV, h, ho, hb]

/-- The cells of an object, in the view. -/
theorem ob_VV {ρ : Rho} {V : View} {s : HS} {w : World} (hI : Inv ρ V s w) {id : Nat} {cells : List AV} {loc : Loc} (ho : s.objs id = .live cells ∨ s.objs id = .froz cells) (hρ : ρ id = some loc) :
    ∃ c, VV ρ V s w loc.b = some c ∧ RelC ρ V cells c loc.base := by
  rcases ho with h | h
  · obtain ⟨c, T, h1, h2, h3, h4⟩ := hI.live id cells loc h hρ
    exact ⟨c, VV_own h4 ⟨id, cells, loc, h, hρ, rfl⟩ h1, h3⟩
  · obtain ⟨c, h1, h2, h3⟩ := hI.froz id cells loc h hρ
    exact ⟨c, VV_mono _ _ h1, h2⟩

theorem map_rel {f : AV → AV} {cs : List AV} {R : AV → Value → Prop} {g : Nat → Option Value} (H : ∀ (i : Nat) x y, cs[i]? = some x → g i = some y → R (f x) y) :
    ∀ (i : Nat) x y, (cs.map f)[i]? = some x → g i = some y → R x y := by
  intro i x y hx hy
  rw [List.getElem?_map] at hx
  cases hc : cs[i]? with
  | none => simp [hc] at hx
  | some z => simp [hc] at hx; subst hx; exact H i z y hc hy

theorem fz_rel {ρ : Rho} {V : View} {s : HS} {w : World} (hI : Inv ρ V s w) : ∀ (n : Nat) (x : AV) (y : Value), Rel ρ V x y → Rel ρ (VV ρ V s w) (fz s.objs n x) y
  | 0, x, y, h => h.mono (fun _ _ h => h) VV_mono
  | n + 1, x, y, h => by
    have ih := fz_rel hI n
    have hm : ∀ {x y}, Rel ρ V x y → Rel ρ (VV ρ V s w) x y := fun h => h.mono (fun _ _ h => h) VV_mono
    have mp : ∀ {cells : List AV} {c : Array Value} {o : Nat}, RelC ρ V cells c o → RelC ρ (VV ρ V s w) (cells.map (fz s.objs n)) c o := by
      intro cells c o hc
      refine ⟨by simpa using hc.le, map_rel (g := fun i => c[o + i]?) fun i x y hx hy => ih x y (hc.rel i x y hx hy), fun i y hi hy => hc.sto i y (by simpa using hi) hy⟩
    have live : ∀ (id off len sz cap : Nat) (loc : Loc) (cells : List AV), ρ id = some loc → len ≤ cap → (s.objs id = .live cells ∨ s.objs id = .froz cells) → Nat.ble (off + len * sz) cells.length = true →
        Rel ρ (VV ρ V s w) (.imm (((cells.drop off).take (len * sz)).map (fz s.objs n)) len) (.slice (some ⟨loc.b, loc.base + off, none⟩) len cap) := by
      intro id off len sz cap loc cells hρ hl ho hb
      obtain ⟨c, h1, h2⟩ := ob_VV hI ho hρ
      exact Rel.imm_of len cap hl h1 (mp (h2.sub off (len * sz) (by simpa using hb)))
    have livep : ∀ (id off : Nat) (loc : Loc) (cells : List AV), ρ id = some loc → (s.objs id = .live cells ∨ s.objs id = .froz cells) →
        Rel ρ (VV ρ V s w) (.iptr (cells.map (fz s.objs n)) off) (.pointer (some ⟨loc.b, loc.base + off, none⟩)) := by
      intro id off loc cells hρ ho
      obtain ⟨c, h1, h2⟩ := ob_VV hI ho hρ
      exact Rel.iptr_of off h1 (mp h2)
    cases h with
    | v =>
      simp only [fz]
      cases hn : nilS y with
      | true =>
        unfold nilS at hn
        split at hn
        · exact .imm0 none 0
        · cases hn
      | false => exact .v y
    | unk y => exact .unk y
    | agg cs ys h H S => exact .agg _ ys (by simpa using h) (map_rel (g := fun i => ys[i]?) fun i x y hx hy => ih x y (H i x y hx hy)) S
    | tup cs ys h H => exact .tup _ ys (by simpa using h) (map_rel (g := fun i => ys[i]?) fun i x y hx hy => ih x y (H i x y hx hy))
    | imm cells len b o cap c hV hb H S hlc => exact Rel.imm_of len cap hlc (VV_mono _ _ hV) (mp ⟨hb, H, S⟩)
    | imm0 a cap => exact .imm0 a cap
    | iptr cells off b o c hV hb H S => exact Rel.iptr_of off (VV_mono _ _ hV) (mp ⟨hb, H, S⟩)
    | ref id off len sz cap loc hρ hc hl =>
      have keep : Rel ρ (VV ρ V s w) (.ref id off len sz) (.slice (some ⟨loc.b, loc.base + off, none⟩) len cap) := .ref id off len sz cap loc hρ hc hl
      cases ho : s.objs id with
      | dead => simp only [fz, ho]; exact keep
      | live cells =>
        simp only [fz, ho]
        cases hb : Nat.ble (off + len * sz) cells.length with
        | true => exact live id off len sz cap loc cells hρ hl (.inl ho) hb
        | false => exact keep
      | froz cells =>
        simp only [fz, ho]
        cases hb : Nat.ble (off + len * sz) cells.length with
        | true => exact live id off len sz cap loc cells hρ hl (.inr ho) hb
        | false => exact keep
    | refE id off sz a =>
      have keep : Rel ρ (VV ρ V s w) (.ref id off 0 sz) (.slice a 0 0) := .refE id off sz a
      cases ho : s.objs id with
      | dead => simp only [fz, ho]; exact keep
      | live cells =>
        simp only [fz, ho]
        cases hb : Nat.ble (off + 0 * sz) cells.length with
        | true => simp; exact .imm0 a 0
        | false => exact keep
      | froz cells =>
        simp only [fz, ho]
        cases hb : Nat.ble (off + 0 * sz) cells.length with
        | true => simp; exact .imm0 a 0
        | false => exact keep
    | ptr id off loc hρ =>
      cases ho : s.objs id with
      | dead => simp only [fz, ho]; exact .ptr id off loc hρ
      | live cells => simp only [fz, ho]; exact livep id off loc cells hρ (.inl ho)
      | froz cells => simp only [fz, ho]; exact livep id off loc cells hρ (.inr ho)
    | clo f first caps xs ys h1 h2 H1 H2 =>
      exact .clo f _ _ xs ys (by simpa using h1) (by simpa using h2) (map_rel (g := fun i => xs[i]?) fun i x y hx hy => ih x y (H1 i x y hx hy)) (map_rel (g := fun i => ys[i]?) fun i x y hx hy => ih x y (H2 i x y hx hy))

/-- No reference to an object in it. -/
def Clean (x : AV) : Prop := ∀ (ρ ρ' : Rho) (V : View) (y : Value), Rel ρ V x y → Rel ρ' V x y
/-- Nothing of memory in it. -/
def Bare (x : AV) : Prop := ∀ (ρ ρ' : Rho) (V V' : View) (y : Value), Rel ρ V x y → Rel ρ' V' x y

theorem Bare.clean {x : AV} (h : Bare x) : Clean x := fun ρ ρ' V y => h ρ ρ' V V y

theorem Clean.v (x : Value) : Clean (.v x) := fun _ _ _ y h => by cases h; exact .v x
theorem Clean.agg {cs : List AV} (h : ∀ c ∈ cs, Clean c) : Clean (.agg cs) := by
  intro ρ ρ' V y hr
  cases hr with
  | agg _ ys h1 H S => exact .agg cs ys h1 (fun i x y hx hy => h x (List.mem_of_getElem? hx) ρ ρ' V y (H i x y hx hy)) S
theorem Clean.tup {cs : List AV} (h : ∀ c ∈ cs, Clean c) : Clean (.tup cs) := by
  intro ρ ρ' V y hr
  cases hr with
  | tup _ ys h1 H => exact .tup cs ys h1 (fun i x y hx hy => h x (List.mem_of_getElem? hx) ρ ρ' V y (H i x y hx hy))
theorem Clean.imm {cs : List AV} {n : Nat} (h : ∀ c ∈ cs, Clean c) : Clean (.imm cs n) := by
  intro ρ ρ' V y hr
  cases hr with
  | imm _ _ b o cap c hV hb H S hlc => exact .imm cs n b o cap c hV hb (fun i x y hx hy => h x (List.mem_of_getElem? hx) ρ ρ' V y (H i x y hx hy)) S hlc
  | imm0 a cap => exact .imm0 a cap
theorem Clean.iptr {cs : List AV} {n : Nat} (h : ∀ c ∈ cs, Clean c) : Clean (.iptr cs n) := by
  intro ρ ρ' V y hr
  cases hr with
  | iptr _ _ b o c hV hb H S => exact .iptr cs n b o c hV hb (fun i x y hx hy => h x (List.mem_of_getElem? hx) ρ ρ' V y (H i x y hx hy)) S

theorem Clean.clo {f : Nat} {a b : List AV} (ha : ∀ c ∈ a, Clean c) (hb : ∀ c ∈ b, Clean c) : Clean (.clo f a b) := by
  intro ρ ρ' V y hr
  cases hr with
  | clo _ _ _ xs ys h1 h2 H1 H2 => exact .clo f a b xs ys h1 h2 (fun i x y hx hy => ha x (List.mem_of_getElem? hx) ρ ρ' V y (H1 i x y hx hy)) (fun i x y hx hy => hb x (List.mem_of_getElem? hx) ρ ρ' V y (H2 i x y hx hy))

theorem Bare.v (x : Value) : Bare (.v x) := fun _ _ _ _ y h => by cases h; exact .v x
theorem Bare.agg {cs : List AV} (h : ∀ c ∈ cs, Bare c) : Bare (.agg cs) := by
  intro ρ ρ' V V' y hr
  cases hr with
  | agg _ ys h1 H S => exact .agg cs ys h1 (fun i x y hx hy => h x (List.mem_of_getElem? hx) ρ ρ' V V' y (H i x y hx hy)) S
theorem Bare.tup {cs : List AV} (h : ∀ c ∈ cs, Bare c) : Bare (.tup cs) := by
  intro ρ ρ' V V' y hr
  cases hr with
  | tup _ ys h1 H => exact .tup cs ys h1 (fun i x y hx hy => h x (List.mem_of_getElem? hx) ρ ρ' V V' y (H i x y hx hy))
theorem Bare.imm0 : Bare (.imm [] 0) := by
  intro ρ ρ' V V' y hr
  cases hr with
  | imm _ _ b o cap c hV hb H S hlc => exact .imm0 _ cap
  | imm0 a cap => exact .imm0 a cap

/-- Depth to which results are turned. -/
abbrev deep : Nat := 6

def deadH (n : Nat) : HS := ⟨fun _ => .dead, n⟩

/-- THE SUMMARY OF A FUNCTION THAT KEEPS NOTHING: with these arguments it returns this, in every heap, which stays. -/
structure SndP (C : Ctx) (f : FuncId) (args : List AV) (r : AV) : Prop where
  clean : Clean r
  quiet : ∀ s : HS, Snd C f args s fun r' s' => r' = r ∧ s' = s

theorem Inv.dead {ρ : Rho} {V : View} {s : HS} {w : World} (h : Inv ρ V s w) : Inv ρ V (deadH s.next) w :=
  ⟨h.view, h.fresh, fun id cells loc hl => by simp [deadH] at hl, fun id cells loc hl => by simp [deadH] at hl, fun i j li lj ci cj hl => by simp [deadH] at hl⟩

theorem own_dead {ρ : Rho} {n b : Nat} (h : Own ρ (deadH n) b) : False := by
  obtain ⟨id, cells, loc, h1, _⟩ := h
  simp [deadH] at h1

theorem inv_VV {ρ : Rho} {V : View} {s : HS} {w : World} (h : Inv ρ V s w) : Inv ρ (VV ρ V s w) (deadH s.next) w := by
  refine ⟨fun b c hv => ?_, h.fresh, fun id cells loc hl => by simp [deadH] at hl, fun id cells loc hl => by simp [deadH] at hl, fun i j li lj ci cj hl => by simp [deadH] at hl⟩
  rcases VV_cases hv with h1 | ⟨_, T, q, h1⟩
  · exact h.view b c h1
  · exact ⟨T, q, h1⟩

/-- The heap's old part is as it was: what was held of it still is. -/
theorem Inv.keep {ρ : Rho} {V V' : View} {s : HS} {w w' : World} (h : Inv ρ V s w) (hk : ∀ b, b < w.heap.size → w'.heap[b]? = w.heap[b]?) (hv : ∀ b c, V b = some c → V' b = some c) (hn : ∀ b c, V' b = some c → V b = some c ∨ w.heap.size ≤ b)
    (hview : ∀ b c, V' b = some c → ∃ T fz, w'.heap[b]? = some (.cells c T fz)) : Inv ρ V' s w' := by
  refine ⟨hview, h.fresh, fun id cells loc hl hρ => ?_, fun id cells loc hl hρ => ?_, h.inj⟩
  · obtain ⟨c, T, h1, h2, h3, h4⟩ := h.live id cells loc hl hρ
    refine ⟨c, T, by rw [hk _ (lt_of_heap h1)]; exact h1, h2, h3.mono (fun _ _ h => h) hv, ?_⟩
    cases hv' : V' loc.b with
    | none => rfl
    | some c' =>
      rcases hn _ _ hv' with h5 | h5
      · rw [h4] at h5; cases h5
      · have := lt_of_heap h1; omega
  · obtain ⟨c, h1, h2, h3⟩ := h.froz id cells loc hl hρ
    exact ⟨c, hv _ _ h1, h2.mono (fun _ _ h => h) hv, h3⟩

/-- What a run from an empty heap gives. -/
theorem quiet_end {ρ ρ₀ ρ' : Rho} {V V' : View} {n : Nat} {s s' : HS} {w w' : World} {r r' : AV} {y : Value} (hr : Clean r) (h3 : Inv ρ V s w) (he : fz s'.objs deep r' = r) (hrel : Rel ρ' V' r' y) (hinv : Inv ρ' V' s' w') (hg : Grew ρ₀ V (deadH n) w ρ' V' s' w') :
    ∃ ρ' V', Rel ρ' V' r y ∧ Inv ρ' V' s w' ∧ Grew ρ V s w ρ' V' s w' := by
  have hgn : ∀ b c, VV ρ' V' s' w' b = some c → V b = some c ∨ w.heap.size ≤ b := by
    intro b c hv
    rcases VV_cases hv with h5 | ⟨h5, _⟩
    · rcases hg.vnew b c h5 with h6 | h6 | h6
      · exact .inl h6
      · exact (own_dead h6).elim
      · exact .inr h6
    · rcases hg.own b h5 with h6 | h6
      · exact (own_dead h6).elim
      · exact .inr h6
  have hk : ∀ b, b < w.heap.size → w'.heap[b]? = w.heap[b]? := fun b hb => hg.keep b hb own_dead
  have hvm : ∀ b c, V b = some c → VV ρ' V' s' w' b = some c := fun b c hv => VV_mono _ _ (hg.view b c hv)
  have hview := (inv_VV hinv).view
  refine ⟨ρ, VV ρ' V' s' w', ?_, h3.keep hk hvm hgn hview, ?_⟩
  · rw [← he]
    have := fz_rel hinv deep r' y hrel
    rw [he] at this ⊢
    exact hr _ _ _ _ this
  · exact ⟨fun _ _ h => h, fun _ _ => rfl, Nat.le_refl _, hvm, hg.size, fun b hb _ => hk b hb, fun b hb => .inl hb, fun b c hv => (hgn b c hv).elim .inl fun h => .inr (.inr h), hg.mem⟩

/-- A run from every empty heap serves in every heap; the heap stays. -/
theorem SndP.of_dead {C : Ctx} {f : FuncId} {args : List AV} {r : AV} (hr : Clean r) (h : ∀ n, Snd C f args (deadH n) fun r' s' => fz s'.objs deep r' = r) : SndP C f args r := by
  refine ⟨hr, fun s => ⟨(h 0).1, fun ρ V w args' h1 h2 h3 h4 => ?_⟩⟩
  refine ((h s.next).2 ρ V w args' h1 h2 h3.dead h4).mono ?_
  rintro e w' ⟨y, r', s', ρ', V', rfl, he, hrel, hinv, hg⟩
  obtain ⟨ρ2, V2, g1, g2, g3⟩ := quiet_end hr h3 he hrel hinv hg
  exact ⟨y, r, s, ρ2, V2, rfl, ⟨rfl, rfl⟩, g1, g2, g3⟩

/-- A run from the one empty heap whose names begin at 0 does, if nothing in the arguments refers. -/
theorem SndP.of_zero {C : Ctx} {f : FuncId} {args : List AV} {r : AV} (hr : Clean r) (ha : ∀ x ∈ args, Clean x) (h : Snd C f args (deadH 0) fun r' s' => fz s'.objs deep r' = r) : SndP C f args r := by
  refine ⟨hr, fun s => ⟨h.1, fun ρ V w args' h1 h2 h3 h4 => ?_⟩⟩
  have h0 : Inv (fun _ => none) V (deadH 0) w := ⟨h3.view, fun _ _ => rfl, fun id cells loc hl => by simp [deadH] at hl, fun id cells loc hl => by simp [deadH] at hl, fun i j li lj ci cj hl => by simp [deadH] at hl⟩
  refine (h.2 (fun _ => none) V w args' h1 (fun i x y hx hy => ha x (List.mem_of_getElem? hx) _ _ _ _ (h2 i x y hx hy)) h0 h4).mono ?_
  rintro e w' ⟨y, r', s', ρ', V', rfl, he, hrel, hinv, hg⟩
  obtain ⟨ρ2, V2, g1, g2, g3⟩ := quiet_end hr h3 he hrel hinv hg
  exact ⟨y, r, s, ρ2, V2, rfl, ⟨rfl, rfl⟩, g1, g2, g3⟩

theorem getElem?_map_iff {f : AV → AV} {l : List AV} {i : Nat} {x : AV} (h : (l.map f)[i]? = some x) : ∃ z, l[i]? = some z ∧ x = f z := by
  rw [List.getElem?_map] at h
  cases hc : l[i]? with
  | none => simp [hc] at h
  | some z => simp [hc] at h; exact ⟨z, rfl, h.symm⟩

/-- What the caller owns is lent: the callee reads it. -/
theorem SndP.lend {C : Ctx} {f : FuncId} {args : List AV} {r : AV} (s : HS) (h : SndP C f (args.map (fz s.objs deep)) r) (hb : Bare r) : Snd C f args s fun r' s' => r' = r ∧ s' = s := by
  refine ⟨(h.quiet s).1, fun ρ V w args' h1 h2 h3 h4 => ?_⟩
  refine ((h.quiet (deadH s.next)).2 ρ (VV ρ V s w) w args' (by simpa using h1) ?_ (inv_VV h3) (h4.mono VV_mono)).mono ?_
  · intro i x y hx hy
    obtain ⟨z, hz, rfl⟩ := getElem?_map_iff hx
    exact fz_rel h3 deep z y (h2 i z y hz hy)
  · rintro e w' ⟨y, r', s', ρ', V', rfl, ⟨rfl, rfl⟩, hrel, hinv, hg⟩
    have hk : ∀ b, b < w.heap.size → w'.heap[b]? = w.heap[b]? := fun b hb => hg.keep b hb own_dead
    refine ⟨y, r', s, ρ, V, rfl, ⟨rfl, rfl⟩, hb _ _ _ _ _ hrel, h3.keep hk (fun _ _ h => h) (fun b c hv => .inl hv) ?_, ?_⟩
    · intro b c hv
      obtain ⟨T, q, h5⟩ := h3.view b c hv
      exact ⟨T, q, by rw [hk b (lt_of_heap h5)]; exact h5⟩
    · exact ⟨fun _ _ h => h, fun _ _ => rfl, Nat.le_refl _, fun _ _ h => h, hg.size, fun b hb _ => hk b hb, fun b hb => .inl hb, fun b c hv => .inl hv, hg.mem⟩

/-- Objects given up for reading: all that live turn frozen. -/
def froze (objs : Nat → Ob) : Nat → Ob := fun id => match objs id with
  | .live c => .froz c
  | o => o

/-- What the caller owns is given away for good. -/
theorem SndP.give {C : Ctx} {f : FuncId} {args : List AV} {r : AV} (s : HS) (h : SndP C f (args.map (fz s.objs deep)) r) : Snd C f args s fun r' s' => r' = r ∧ s' = ⟨froze s.objs, s.next⟩ := by
  refine ⟨(h.quiet s).1, fun ρ V w args' h1 h2 h3 h4 => ?_⟩
  have hz : Inv ρ (VV ρ V s w) ⟨froze s.objs, s.next⟩ w := by
    refine ⟨(inv_VV h3).view, h3.fresh, fun id cells loc hl => ?_, fun id cells loc hl hρ => ?_, fun i j li lj ci cj hl => ?_⟩
    · simp only [froze] at hl
      cases ho : s.objs id <;> simp [ho] at hl
    · simp only [froze] at hl
      cases ho : s.objs id with
      | dead => simp [ho] at hl
      | live c =>
        simp [ho] at hl; subst hl
        obtain ⟨c', T, g1, g2, g3, g4⟩ := h3.live id c loc ho hρ
        exact ⟨c', VV_own g4 ⟨id, c, loc, ho, hρ, rfl⟩ g1, g3.mono (fun _ _ h => h) VV_mono, g2⟩
      | froz c =>
        simp [ho] at hl; subst hl
        obtain ⟨c', g1, g2, g3⟩ := h3.froz id c loc ho hρ
        exact ⟨c', VV_mono _ _ g1, g2.mono (fun _ _ h => h) VV_mono, g3⟩
    · simp only [froze] at hl
      cases ho : s.objs i <;> simp [ho] at hl
  have q := (SndP.quiet h ⟨froze s.objs, s.next⟩).2 ρ (VV ρ V s w) w args' (by simpa using h1) (fun i x y hx hy => by
    obtain ⟨z, hz, rfl⟩ := getElem?_map_iff hx
    exact fz_rel h3 deep z y (h2 i z y hz hy)) hz (h4.mono VV_mono)
  refine q.mono ?_
  rintro e w' ⟨y, r', s', ρ', V', rfl, hr, hrel, hinv, hg⟩
  have hown : ∀ b, ¬ Own ρ ⟨froze s.objs, s.next⟩ b := by
    rintro b ⟨id, cells, loc, hl, _⟩
    simp only [froze] at hl
    cases ho : s.objs id <;> simp [ho] at hl
  refine ⟨y, r', s', ρ', V', rfl, hr, hrel, hinv, ?_⟩
  refine ⟨hg.rho, hg.old, hg.next, fun b c hv => hg.view b c (VV_mono _ _ hv), hg.size, fun b hb _ => hg.keep b hb (hown b), fun b hb => ?_, fun b c hv => ?_, hg.mem⟩
  · rcases hg.own b hb with h5 | h5
    · exact (hown b h5).elim
    · exact .inr h5
  · rcases hg.vnew b c hv with h5 | h5 | h5
    · rcases VV_cases h5 with h6 | ⟨h6, _⟩
      · exact .inl h6
      · exact .inr (.inl h6)
    · exact (hown b h5).elim
    · exact .inr (.inr h5)

theorem VV_dead {ρ : Rho} {V : View} {n : Nat} {w : World} : VV ρ V (deadH n) w = V := by
  funext b
  unfold VV
  cases hv : V b with
  | some c => rfl
  | none => simp only; rw [if_neg fun h => own_dead h]

/-- A nil slice among the arguments is an empty one. -/
theorem SndP.norm {C : Ctx} {f : FuncId} {args : List AV} {r : AV} (h : SndP C f (args.map (fz (fun _ => .dead) deep)) r) : SndP C f args r := by
  refine ⟨h.clean, fun s => ⟨(h.quiet s).1, fun ρ V w args' h1 h2 h3 h4 => ?_⟩⟩
  refine (h.quiet s).2 ρ V w args' (by simpa using h1) ?_ h3 h4
  intro i x y hx hy
  obtain ⟨z, hz, rfl⟩ := getElem?_map_iff hx
  have := fz_rel h3.dead deep z y (h2 i z y hz hy)
  rw [VV_dead] at this
  exact this

/-- For a region that draws its order. -/
theorem SndP.qcall {C : Ctx} {f : FuncId} {args : List AV} {r : AV} (h : SndP C f args r) (objs : Nat → Ob) : QCall C f args objs [] r :=
  fun hs _ => h.quiet hs

theorem SndP.of_awp {C : Ctx} (hC : COk C) {f : FuncId} {fn : Func} {c : Code} {args : List AV} {r : AV} (hr : Clean r) (hf : C.P.funcs[f]? = some fn) (hb : fn.body = some c) (hn : (fn.name == "runtime.NumGoroutine") = false)
    (hst : stOk fn.ntmps c = true) (hargs : args.length ≤ fn.ntmps) (h : ∀ n, awp C c (endQ C fn fun r' s' => fz s'.objs deep r' = r) (init args (deadH n))) : SndP C f args r :=
  SndP.of_dead hr fun n => snd_of_awp hC hf hb hn hst hargs (h n)

end Go.AX
