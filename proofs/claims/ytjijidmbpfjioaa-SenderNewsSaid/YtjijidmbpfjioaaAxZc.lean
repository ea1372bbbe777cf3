/- A part of the proof: AxZc. -/
import Derived.Test.YtjijidmbpfjioaaAxZb
import Derived.ChangeKeysEq
namespace Go.AX

/-! ## '==' on structs and arrays, cell by cell -/

def flatF (P : Program) (g : TypeId → Option (List (Option IntKind))) : Nat → List Field → Option (List (Option IntKind))
  | _, [] => some []
  | off, f :: fs => if f.offset = off ∧ f.name ≠ "_" then match g f.type with
      | some ks => match flatF P g (off + ks.length) fs with
        | some r => some (ks ++ r)
        | none => none
      | none => none
    else none

def flatK (P : Program) : Nat → TypeId → Option (List (Option IntKind))
  | 0, _ => none
  | n + 1, t => match P.underlying t with
    | some .bool => if szOf P t = some 1 then some [none] else none
    | some (.int k) => if szOf P t = some 1 then some [some k] else none
    | some (.array m e) => match flatK P n e with
      | some ks => if szOf P t = some (m * ks.length) then some (List.replicate m ks).flatten else none
      | none => none
    | some (.struct fs) => if P.stoodInHeld t then none else match flatF P (flatK P n) 0 fs.toList with
      | some ks => if szOf P t = some ks.length then some ks else none
      | none => none
    | _ => none

def kindV : Option IntKind → Value → Bool
  | some k, .int k' _ => k == k'
  | none, .bool _ => true
  | _, _ => false
def kindsV : List (Option IntKind) → List Value → Bool
  | k :: ks, x :: xs => kindV k x && kindsV ks xs
  | [], [] => true
  | _, _ => false
def eq1 : Value → Value → Bool
  | .int _ a, .int _ b => a == b
  | .bool a, .bool b => a == b
  | _, _ => false
def eqL : List Value → List Value → Bool
  | x :: xs, y :: ys => eq1 x y && eqL xs ys
  | [], [] => true
  | _, _ => false

theorem kindsV_len : ∀ {ks : List (Option IntKind)} {xs : List Value}, kindsV ks xs = true → xs.length = ks.length
  | [], [], _ => rfl
  | k :: ks, x :: xs, h => by simp only [kindsV, Bool.and_eq_true] at h; simp [kindsV_len h.2]
  | [], x :: xs, h => by simp [kindsV] at h
  | k :: ks, [], h => by simp [kindsV] at h

theorem kindsV_split : ∀ {ks r : List (Option IntKind)} {xs : List Value}, kindsV (ks ++ r) xs = true → kindsV ks (xs.take ks.length) = true ∧ kindsV r (xs.drop ks.length) = true
  | [], r, xs, h => by simpa [kindsV] using h
  | k :: ks, r, [], h => by simp [kindsV] at h
  | k :: ks, r, x :: xs, h => by
    simp only [List.cons_append, kindsV, Bool.and_eq_true] at h
    obtain ⟨h1, h2⟩ := kindsV_split h.2
    simp only [List.length_cons, List.take_succ_cons, List.drop_succ_cons, kindsV, Bool.and_eq_true]
    exact ⟨⟨h.1, h1⟩, h2⟩

theorem eqL_split : ∀ (n : Nat) (xs ys : List Value), xs.length = ys.length → eqL xs ys = (eqL (xs.take n) (ys.take n) && eqL (xs.drop n) (ys.drop n))
  | 0, xs, ys, _ => by simp [eqL]
  | n + 1, [], [], _ => by simp [eqL]
  | n + 1, x :: xs, y :: ys, h => by
    simp only [List.take_succ_cons, List.drop_succ_cons, eqL]
    rw [eqL_split n xs ys (by simpa using h), Bool.and_assoc]
  | n + 1, [], y :: ys, h => by simp at h
  | n + 1, x :: xs, [], h => by simp at h

/-- The value of a type, from its cells. -/
def mkV (P : Program) (t : TypeId) (xs : List Value) : Value := match agB P t with
  | some true => .agg xs.toArray
  | _ => xs.headD undef

theorem part_list {P : Program} {t : TypeId} {n off : Nat} {cs : List Value} {b : Bool} (hb : agB P t = some b) (hn : szOf P t = some n) (h1 : b = false → n = 1) (hl : off + n ≤ cs.length) (w : World) :
    (part t cs.toArray off).run P w = .ok (mkV P t ((cs.drop off).take n)) w := by
  cases b with
  | true =>
    simp only [part, Sem.run_bind, agB_run hb, Result.andThen_ok, if_true, szOf_run hn, Sem.run_pure, mkV, hb]
    congr 2
    apply Array.ext'
    simp
  | false =>
    have := h1 rfl
    subst this
    have e : cs[off]? = some (cs[off]'(by omega)) := by simp
    have e2 : ((cs.drop off).take 1).headD undef = cs[off]'(by omega) := by
      rw [List.drop_eq_getElem_cons (by omega)]; rfl
    simp only [part, Sem.run_bind, agB_run hb, Result.andThen_ok, mkV, hb, e2]
    simp [e]

theorem kindV_bool {x : Value} (h : kindV none x = true) : ∃ b, x = .bool b := by
  unfold kindV at h
  split at h
  · rename_i h1; cases h1
  · exact ⟨_, rfl⟩
  · cases h
theorem kindV_int {k : IntKind} {x : Value} (h : kindV (some k) x = true) : ∃ n, x = .int k n := by
  unfold kindV at h
  split at h
  · rename_i h1; cases h1; exact ⟨_, by rw [eq_of_beq h]⟩
  · rename_i h1; cases h1
  · cases h

theorem kindsV_one {k : Option IntKind} {xs : List Value} (h : kindsV [k] xs = true) : ∃ x, xs = [x] ∧ kindV k x = true := by
  match xs, h with
  | [x], h => simp only [kindsV, Bool.and_true] at h; exact ⟨x, rfl, h⟩
  | x :: y :: xs, h => simp [kindsV] at h

/-- What is asked of a type. -/
def EqT (P : Program) (n : Nat) (t : TypeId) (ks : List (Option IntKind)) : Prop :=
  szOf P t = some ks.length ∧ (∃ b, agB P t = some b ∧ (b = false → ks.length = 1)) ∧ ∀ d, n ≤ d → ∀ xs ys : List Value, kindsV ks xs = true → kindsV ks ys = true → ∀ w, (Op.equalIn d t (mkV P t xs) (mkV P t ys)).run P w = .ok (eqL xs ys) w

theorem eq_fields {P : Program} {n : Nat} {g : TypeId → Option (List (Option IntKind))} (hg : ∀ t ks, g t = some ks → EqT P n t ks) {d : Nat} (hd : n ≤ d) (xs ys : List Value) :
    ∀ (fs : List Field) (off : Nat) (ks : List (Option IntKind)), flatF P g off fs = some ks → kindsV ks (xs.drop off) = true → kindsV ks (ys.drop off) = true → ∀ w,
      (Op.eqFields d xs.toArray ys.toArray fs).run P w = .ok (eqL (xs.drop off) (ys.drop off)) w
  | [], off, ks, h, hx, hy, w => by
    simp only [flatF, Option.some.injEq] at h
    subst h
    have e1 : xs.drop off = [] := by cases h : xs.drop off with | nil => rfl | cons a l => rw [h] at hx; simp [kindsV] at hx
    have e2 : ys.drop off = [] := by cases h : ys.drop off with | nil => rfl | cons a l => rw [h] at hy; simp [kindsV] at hy
    rw [e1, e2]
    simp [Op.eqFields, eqL]
  | f :: fs, off, ks, h, hx, hy, w => by
    simp only [flatF] at h
    split at h
    · rename_i hc
      split at h
      · rename_i k1 h1
        split at h
        · rename_i k2 h2
          cases h
          obtain ⟨g1, ⟨b, g2, g2'⟩, g3⟩ := hg _ _ h1
          have lx := kindsV_len hx
          have ly := kindsV_len hy
          simp only [List.length_append, List.length_drop] at lx ly
          obtain ⟨a1, a2⟩ := kindsV_split hx
          obtain ⟨b1, b2⟩ := kindsV_split hy
          rw [List.drop_drop] at a2 b2
          have ih := eq_fields hg hd xs ys fs (off + k1.length) k2 h2 a2 b2 w
          have hlx : f.offset + k1.length ≤ xs.length ∨ k1.length = 0 := by omega
          have px : (part f.type xs.toArray f.offset).run P w = .ok (mkV P f.type ((xs.drop off).take k1.length)) w := by
            by_cases hle : off + k1.length ≤ xs.length
            · rw [hc.1]; exact part_list g2 g1 g2' hle w
            · have hz : k1.length = 0 := by omega
              have hbt : b = true := by cases b with | true => rfl | false => have := g2' rfl; omega
              subst hbt
              simp only [part, Sem.run_bind, agB_run g2, Result.andThen_ok, if_true, szOf_run g1, Sem.run_pure, mkV, g2, hz]
              congr 2
              apply Array.ext'
              simp
          have py : (part f.type ys.toArray f.offset).run P w = .ok (mkV P f.type ((ys.drop off).take k1.length)) w := by
            by_cases hle : off + k1.length ≤ ys.length
            · rw [hc.1]; exact part_list g2 g1 g2' hle w
            · have hz : k1.length = 0 := by omega
              have hbt : b = true := by cases b with | true => rfl | false => have := g2' rfl; omega
              subst hbt
              simp only [part, Sem.run_bind, agB_run g2, Result.andThen_ok, if_true, szOf_run g1, Sem.run_pure, mkV, g2, hz]
              congr 2
              apply Array.ext'
              simp
          have he := g3 d hd _ _ a1 b1 w
          rw [eqL_split k1.length (xs.drop off) (ys.drop off) (by simp; omega), List.drop_drop, List.drop_drop]
          simp only [Op.eqFields, hc.2, ne_eq, not_false_eq_true, if_true, Sem.run_bind, px, py, he, Result.andThen_ok]
          cases eqL ((xs.drop off).take k1.length) ((ys.drop off).take k1.length) with
          | true => simpa using ih
          | false => simp
        · cases h
      · cases h
    · cases h

theorem eq_items {P : Program} {n : Nat} {e : TypeId} {ks : List (Option IntKind)} (hg : EqT P n e ks) {d : Nat} (hd : n ≤ d) (xs ys : List Value) :
    ∀ (m k : Nat), kindsV (List.replicate m ks).flatten (xs.drop (k * ks.length)) = true → kindsV (List.replicate m ks).flatten (ys.drop (k * ks.length)) = true → ∀ w,
      (Op.eqItems d e ks.length xs.toArray ys.toArray (List.range' k m)).run P w = .ok (eqL (xs.drop (k * ks.length)) (ys.drop (k * ks.length))) w
  | 0, k, hx, hy, w => by
    have e1 : xs.drop (k * ks.length) = [] := by cases h : xs.drop (k * ks.length) with | nil => rfl | cons a l => rw [h] at hx; simp [kindsV] at hx
    have e2 : ys.drop (k * ks.length) = [] := by cases h : ys.drop (k * ks.length) with | nil => rfl | cons a l => rw [h] at hy; simp [kindsV] at hy
    rw [e1, e2]
    simp [Op.eqItems, eqL]
  | m + 1, k, hx, hy, w => by
    obtain ⟨g1, ⟨b, g2, g2'⟩, g3⟩ := hg
    rw [List.replicate_succ, List.flatten_cons] at hx hy
    have lx := kindsV_len hx
    have ly := kindsV_len hy
    simp only [List.length_append, List.length_drop] at lx ly
    obtain ⟨a1, a2⟩ := kindsV_split hx
    obtain ⟨b1, b2⟩ := kindsV_split hy
    rw [List.drop_drop, show k * ks.length + ks.length = (k + 1) * ks.length by rw [Nat.add_mul]; omega] at a2 b2
    have ih := eq_items ⟨g1, ⟨b, g2, g2'⟩, g3⟩ hd xs ys m (k + 1) a2 b2 w
    have pt : ∀ zs : List Value, zs.length - k * ks.length = ks.length + ((List.replicate m ks).flatten).length → (part e zs.toArray (k * ks.length)).run P w = .ok (mkV P e ((zs.drop (k * ks.length)).take ks.length)) w := by
      intro zs hl
      by_cases hle : k * ks.length + ks.length ≤ zs.length
      · exact part_list g2 g1 g2' hle w
      · have hz : ks.length = 0 := by omega
        have hbt : b = true := by cases b with | true => rfl | false => have := g2' rfl; omega
        subst hbt
        simp only [part, Sem.run_bind, agB_run g2, Result.andThen_ok, if_true, szOf_run g1, Sem.run_pure, mkV, g2, hz]
        congr 2
        apply Array.ext'
        simp
    have he := g3 d hd _ _ a1 b1 w
    rw [eqL_split ks.length (xs.drop (k * ks.length)) (ys.drop (k * ks.length)) (by simp; omega), List.drop_drop, List.drop_drop, show k * ks.length + ks.length = (k + 1) * ks.length by rw [Nat.add_mul]; omega]
    simp only [List.range'_succ, Op.eqItems, Sem.run_bind, pt xs lx, pt ys ly, he, Result.andThen_ok]
    cases eqL ((xs.drop (k * ks.length)).take ks.length) ((ys.drop (k * ks.length)).take ks.length) with
    | true => simpa using ih
    | false => simp

theorem mkV_one {P : Program} {t : TypeId} {x : Value} (h : agB P t = some false) : mkV P t [x] = x := by
  simp [mkV, h]

theorem flatK_sound (P : Program) : ∀ (n : Nat) (t : TypeId) (ks : List (Option IntKind)), flatK P n t = some ks → EqT P n t ks
  | 0, t, ks, h => by simp [flatK] at h
  | n + 1, t, ks, h => by
    have ih := flatK_sound P n
    simp only [flatK] at h
    split at h
    · rename_i hu
      split at h
      · rename_i hs
        cases h
        refine ⟨hs, ⟨false, by simp [agB, hu], fun _ => rfl⟩, fun d hd xs ys hx hy w => ?_⟩
        obtain ⟨d, rfl⟩ : ∃ d', d = d' + 1 := ⟨d - 1, by omega⟩
        obtain ⟨x, rfl, hx1⟩ := kindsV_one hx
        obtain ⟨y, rfl, hy1⟩ := kindsV_one hy
        rw [mkV_one (by simp [agB, hu]), mkV_one (by simp [agB, hu])]
        obtain ⟨a, rfl⟩ := kindV_bool hx1
        obtain ⟨b, rfl⟩ := kindV_bool hy1
        simpa [eqL, eq1] using run_equalIn_bool w d t a b hu
      · cases h
    · rename_i k hu
      split at h
      · rename_i hs
        cases h
        refine ⟨hs, ⟨false, by simp [agB, hu], fun _ => rfl⟩, fun d hd xs ys hx hy w => ?_⟩
        obtain ⟨d, rfl⟩ : ∃ d', d = d' + 1 := ⟨d - 1, by omega⟩
        obtain ⟨x, rfl, hx1⟩ := kindsV_one hx
        obtain ⟨y, rfl, hy1⟩ := kindsV_one hy
        rw [mkV_one (by simp [agB, hu]), mkV_one (by simp [agB, hu])]
        obtain ⟨a, rfl⟩ := kindV_int hx1
        obtain ⟨b, rfl⟩ := kindV_int hy1
        simpa [eqL, eq1] using run_equalIn_int w d t _ _ a b hu
      · cases h
    · rename_i m e hu
      split at h
      · rename_i k1 h1
        split at h
        · rename_i hs
          cases h
          have hE := ih _ _ h1
          obtain ⟨i, hi⟩ : ∃ i, P.info? e = some i := by
            have := hE.1
            unfold szOf at this
            cases hh : P.info? e with
            | none => simp [hh] at this
            | some i => exact ⟨i, rfl⟩
          have hc : P.cellsOf e = k1.length := by
            have := hE.1
            simp only [szOf, hi, Option.map_some, Option.some.injEq] at this
            simp [Program.cellsOf, hi, this]
          have hl : ((List.replicate m k1).flatten).length = m * k1.length := by simp
          refine ⟨by rw [hs, hl], ⟨true, by simp [agB, hu], fun h => by cases h⟩, fun d hd xs ys hx hy w => ?_⟩
          obtain ⟨d, rfl⟩ : ∃ d', d = d' + 1 := ⟨d - 1, by omega⟩
          have ha : agB P t = some true := by simp [agB, hu]
          simp only [mkV, ha]
          rw [run_equalIn_array w d _ _ hu hi, hc, List.range_eq_range']
          have := eq_items hE (show n ≤ d by omega) xs ys m 0 (by simpa using hx) (by simpa using hy) w
          simpa using this
        · cases h
      · cases h
    · rename_i fs hu
      split at h
      · cases h
      · rename_i hst
        split at h
        · rename_i k1 h1
          split at h
          · rename_i hs
            cases h
            refine ⟨hs, ⟨true, by simp [agB, hu], fun h => by cases h⟩, fun d hd xs ys hx hy w => ?_⟩
            obtain ⟨d, rfl⟩ : ∃ d', d = d' + 1 := ⟨d - 1, by omega⟩
            have ha : agB P t = some true := by simp [agB, hu]
            have hf : P.fieldsOf t = fs := by simp [Program.fieldsOf, hu]
            simp only [mkV, ha]
            rw [run_equalIn_struct w d t _ _ (by rw [hf]; exact hu) (by simpa using hst), hf]
            have := eq_fields (fun t ks h => ih t ks h) (show n ≤ d by omega) xs ys fs.toList 0 _ h1 (by simpa using hx) (by simpa using hy) w
            simpa using this
          · cases h
        · cases h
    · cases h

theorem kinds_vals : ∀ {ks : List (Option IntKind)} {xs : List AV}, kindsOk ks xs = true → kindsV ks (xs.map valOf) = true ∧ ∀ {ys : List AV}, kindsOk ks ys = true → eqL (xs.map valOf) (ys.map valOf) = eqCells xs ys
  | [], [], _ => ⟨rfl, fun {ys} h => by cases ys with | nil => rfl | cons y ys => simp [kindsOk] at h⟩
  | k :: ks, x :: xs, h => by
    simp only [kindsOk, Bool.and_eq_true] at h
    obtain ⟨h1, h2⟩ := kinds_vals h.2
    have one : ∀ {x : AV}, kindOk k x = true → kindV k (valOf x) = true := by
      intro x hx
      cases k with
      | none => obtain ⟨a, rfl⟩ := kindOk_bool hx; rfl
      | some k => obtain ⟨a, rfl⟩ := kindOk_int hx; simp [valOf, kindV]
    refine ⟨by simp [kindsV, one h.1, h1], fun {ys} hy => ?_⟩
    cases ys with
    | nil => simp [kindsOk] at hy
    | cons y ys =>
      simp only [kindsOk, Bool.and_eq_true] at hy
      have e1 : eq1 (valOf x) (valOf y) = eqv x y := by
        cases k with
        | none => obtain ⟨a, rfl⟩ := kindOk_bool h.1; obtain ⟨b, rfl⟩ := kindOk_bool hy.1; rfl
        | some k => obtain ⟨a, rfl⟩ := kindOk_int h.1; obtain ⟨b, rfl⟩ := kindOk_int hy.1; rfl
      simp only [List.map_cons, eqL, eqCells, e1, h2 hy.2]
  | [], x :: xs, h => by simp [kindsOk] at h
  | k :: ks, [], h => by simp [kindsOk] at h

/-- The table's types, looked at. -/
def tabB (P : Program) (tab : List (TypeId × List (Option IntKind))) : Bool := tab.all fun p => (flatK P 20 p.1 == some p.2) && (agB P p.1 == some true) && !P.eqGuardType P.depth p.1

def tabK (tab : List (TypeId × List (Option IntKind))) (t : TypeId) : Option (List (Option IntKind)) := (tab.find? fun p => Nat.beq p.1 t).map (·.2)

theorem EqOk.of_tab {C : Ctx} {tab : List (TypeId × List (Option IntKind))} (hk : C.eqk = tabK tab) (h : tabB C.P tab = true) : EqOk C := by
  intro t ks ht
  rw [hk] at ht
  unfold tabK at ht
  obtain ⟨p, hp, rfl⟩ := Option.map_eq_some_iff.1 ht
  have hm := List.mem_of_find?_eq_some hp
  have he : p.1 = t := Nat.eq_of_beq_eq_true (by have := List.find?_some hp; exact this)
  subst he
  have := List.all_eq_true.1 h p hm
  simp only [Bool.and_eq_true, beq_iff_eq, Bool.not_eq_true'] at this
  obtain ⟨⟨h1, h2⟩, h3⟩ := this
  refine ⟨h3, fun xs ys hx hy w => ?_⟩
  obtain ⟨_, _, g3⟩ := flatK_sound C.P 20 _ _ h1
  obtain ⟨k1, k2⟩ := kinds_vals hx
  have := g3 10000 (by omega) _ _ k1 (kinds_vals hy).1 w
  rw [k2 hy] at this
  simpa [mkV, h2, Op.equal, Op.maxDepth] using this

end Go.AX
