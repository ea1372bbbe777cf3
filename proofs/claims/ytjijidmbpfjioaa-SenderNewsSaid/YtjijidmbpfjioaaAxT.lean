/- A part of the proof: AxT. -/
import Derived.Test.YtjijidmbpfjioaaAxS
import Derived.ChangeBears
import Derived.ChangeBook
import Derived.ChangeSame
import Derived.WideKeyArgs
import Derived.RowKit
import Derived.OpenShut
namespace Go.AX

/-! ## The arguments, read -/

/-- The cells of a value of type 't', as a reading at entry gives them; no slice or string is longer than 'B'. -/
def TyAll (R : TypeId → List AV → Prop) : List TypeId → List AV → Prop
  | [], l => l = []
  | t :: ts, l => ∃ a b, l = a ++ b ∧ R t a ∧ TyAll R ts b

def Ty (P : Program) (B : Nat) : Nat → TypeId → List AV → Prop
  | 0, _, _ => False
  | n + 1, t, l => match P.underlying t with
    | some .bool => ∃ b, l = [.v (.bool b)]
    | some (.int k) => ∃ i, l = [.v (.int k i)] ∧ (Lit.int k i).wf = true
    | some .string => ∃ s : ByteArray, l = [.v (.string s)] ∧ s.size ≤ B
    | some (.pointer e) => l = [.v (.pointer none)] ∨ ∃ c, l = [.iptr c 0] ∧ Ty P B n e c
    | some (.slice e) => ∃ ls : List (List AV), l = [.imm ls.flatten ls.length] ∧ ls.length ≤ B ∧ ∀ c ∈ ls, Ty P B n e c
    | some (.struct fs) => TyAll (Ty P B n) (fs.toList.map (·.type)) l
    | some (.array m e) => ∃ ls : List (List AV), l = ls.flatten ∧ ls.length = m ∧ ∀ c ∈ ls, Ty P B n e c
    | _ => ∃ x, l = [.v x]

/-- A measure of readings that bounds lengths. -/
structure Bulk {H : Type} (bk : DataW H → Nat) : Prop where
  ptr : ∀ d, bk d ≤ bk (.ptr d)
  elems : ∀ es sp d, d ∈ es → bk d ≤ bk (.slice es sp)
  len : ∀ es sp, es.length ≤ bk (.slice es sp)
  agg : ∀ ds d, d ∈ ds → bk d ≤ bk (.agg ds)
  str : ∀ bs : List UInt8, bs.length ≤ bk (.lit (.string bs))

/-- No element of a slice, nothing that a pointer shows, is without a cell: of the types met from 't'. -/
def posB (P : Program) (t : TypeId) : Bool := (P.book t).all fun t => match P.underlying t with
  | some (.slice e) => Nat.blt 0 (P.cellsOf e)
  | some (.pointer e) => Nat.blt 0 (P.cellsOf e)
  | _ => true

def Pos (P : Program) (T : TypeId → Prop) : Prop := ∀ t e, T t → (P.underlying t = some (.slice e) → 0 < P.cellsOf e) ∧ (P.underlying t = some (.pointer e) → 0 < P.cellsOf e)

theorem pos_of {P : Program} {t : TypeId} (h : posB P t = true) : Pos P (InBook P t) := by
  intro u e hu
  have := List.all_eq_true.1 h u hu.2
  constructor
  · intro hh; simpa [hh] using this
  · intro hh; simpa [hh] using this

def hv (w : World) : View := fun b => match w.heap[b]? with
  | some (.cells c _ _) => some c
  | _ => none

abbrev r0 : Rho := fun _ => none

/-- A list of abstract cells and one of values. -/
structure RelL (V : View) (l : List AV) (cs : List Value) : Prop where
  len : l.length = cs.length
  rel : ∀ (i : Nat) x y, l[i]? = some x → cs[i]? = some y → Rel r0 V x y
  sto : ∀ y ∈ cs, AX.sto y = true

theorem RelL.one {V : View} {x : AV} {y : Value} (h : Rel r0 V x y) (hs : AX.sto y = true) : RelL V [x] [y] := by
  refine ⟨rfl, fun i a b ha hb => ?_, fun z hz => ?_⟩
  · cases i with
    | zero => simp at ha hb; subst ha; subst hb; exact h
    | succ i => simp at ha
  · simp at hz; subst hz; exact hs

theorem RelL.append {V : View} {l l' : List AV} {cs cs' : List Value} (h : RelL V l cs) (h' : RelL V l' cs') : RelL V (l ++ l') (cs ++ cs') := by
  refine ⟨by simp [h.len, h'.len], fun i x y hx hy => ?_, fun y hy => ?_⟩
  · rw [List.getElem?_append] at hx hy
    rw [h.len] at hx
    split at hx
    · rename_i hlt; rw [if_pos hlt] at hy; exact h.rel i x y hx hy
    · rename_i hlt; rw [if_neg hlt] at hy; exact h'.rel _ x y hx hy
  · rcases List.mem_append.1 hy with h1 | h1
    · exact h.sto y h1
    · exact h'.sto y h1

/-- Rows of equal width, one behind the other. -/
theorem relL_flat {V : View} {n : Nat} : ∀ {ls : List (List AV)} {css : List (List Value)}, ls.length = css.length → (∀ (i : Nat) a b, ls[i]? = some a → css[i]? = some b → RelL V a b) → (∀ b ∈ css, b.length = n) → RelL V ls.flatten css.flatten
  | [], [], _, _, _ => ⟨rfl, fun i x y hx => by simp at hx, fun y hy => by simp at hy⟩
  | a :: ls, b :: css, hl, h, hn => by
    simp only [List.flatten_cons]
    exact (h 0 a b rfl rfl).append (relL_flat (by simpa using hl) (fun i x y hx hy => h (i + 1) x y (by simpa using hx) (by simpa using hy)) (fun c hc => hn c (by simp [hc])))

/-- The parts of a row, joined, are the row. -/
theorem parts_join {n m : Nat} {cs : List Value} (h : cs.length = m * n) : ((List.range m).map fun i => (cs.drop (i * n)).take n).flatten = cs := by
  induction m generalizing cs with
  | zero => simp at h; subst h; rfl
  | succ m ih =>
    rw [List.range_succ_eq_map, List.map_cons, List.flatten_cons, List.map_map]
    have hd : (cs.drop n).length = m * n := by simp [h, Nat.add_mul]
    have := ih hd
    rw [show (fun i => (cs.drop (i * n)).take n) ∘ Nat.succ = fun i => ((cs.drop n).drop (i * n)).take n by
      funext i; simp [List.drop_drop, Nat.succ_mul, Nat.add_comm]]
    rw [this]
    simp

theorem choose_list {α β : Type} {R : α → β → Prop} : ∀ {l : List α}, (∀ a ∈ l, ∃ b, R a b) → ∃ r : List β, r.length = l.length ∧ ∀ (i : Nat) a b, l[i]? = some a → r[i]? = some b → R a b
  | [], _ => ⟨[], rfl, fun i a b h => by simp at h⟩
  | a :: l, h => by
    obtain ⟨b, hb⟩ := h a (by simp)
    obtain ⟨r, h1, h2⟩ := choose_list (l := l) fun x hx => h x (by simp [hx])
    refine ⟨b :: r, by simp [h1], fun i x y hx hy => ?_⟩
    cases i with
    | zero => simp at hx hy; subst hx; subst hy; exact hb
    | succ i => simp at hx hy; exact h2 i x y hx hy

theorem add_block (a : Addr) (i : Nat) : (a.add i).block = a.block := by unfold Addr.add; split <;> rfl
theorem add_off (a : Addr) (i : Nat) : (a.add i).off = a.off + i := by unfold Addr.add; split <;> simp_all
theorem add_add (a : Addr) (i j : Nat) : (a.add i).add j = a.add (i + j) := by
  unfold Addr.add
  by_cases hi : i = 0
  · subst hi; simp
  · by_cases hj : j = 0
    · subst hj; simp
    · simp [hi, hj, Nat.add_assoc]

theorem cell_hv {w : World} {a : Addr} {y : Value} (h : w.cell? a = some y) : a.spot = none ∧ ∃ c, hv w a.block = some c ∧ c[a.off]? = some y := by
  unfold World.cell? at h
  unfold hv
  split at h
  · rename_i c T q hb
    split at h
    · cases h
    · rename_i hs
      refine ⟨?_, c, by rw [hb], h⟩
      cases hsp : a.spot with
      | none => rfl
      | some k => simp [hsp] at hs
  · cases h

/-- Cells that a list of values gives are cells of a block. -/
theorem relC_of_cells {w : World} {a : Addr} {l : List AV} {cs : List Value} (hlen : 0 < cs.length) (hr : RelL (hv w) l cs) (hc : ∀ i, i < cs.length → w.cell? (a.add i) = cs[i]?) :
    a.spot = none ∧ ∃ c, hv w a.block = some c ∧ RelC r0 (hv w) l c a.off := by
  have get : ∀ i, i < cs.length → (a.add i).spot = none ∧ ∃ c, hv w a.block = some c ∧ c[a.off + i]? = cs[i]? := by
    intro i hi
    have h1 := hc i hi
    have e : cs[i]? = some cs[i] := by simp [hi]
    rw [e] at h1
    obtain ⟨h2, c, h3, h4⟩ := cell_hv h1
    exact ⟨h2, c, by rw [← add_block a i]; exact h3, by rw [e, ← add_off]; exact h4⟩
  obtain ⟨h1, c, h2, h3⟩ := get 0 hlen
  have all : ∀ i, i < cs.length → c[a.off + i]? = cs[i]? := by
    intro i hi
    obtain ⟨_, c', h4, h5⟩ := get i hi
    rw [h2] at h4; cases h4; exact h5
  refine ⟨by simpa [Addr.add] using h1, c, h2, ?_, fun i x y hx hy => ?_, fun i y hi hy => ?_⟩
  · have := all (cs.length - 1) (by omega)
    have e : cs[cs.length - 1]? = some (cs[cs.length - 1]'(by omega)) := by simp
    rw [e] at this
    have := (Array.getElem?_eq_some_iff.1 this).1
    have := hr.len
    omega
  · have hi : i < l.length := (List.getElem?_eq_some_iff.1 hx).1
    rw [all i (by rw [← hr.len]; exact hi)] at hy
    exact hr.rel i x y hx hy
  · rw [all i (by rw [← hr.len]; exact hi)] at hy
    exact hr.sto y (List.mem_of_getElem? hy)

theorem join_fields {P : Program} : ∀ (fs : List Field) (cs : List Value) (k : Nat), (∀ (j : Nat) f, fs[j]? = some f → f.offset = k + ((fs.take j).map fun f => P.cellsOf f.type).sum) → cs.length = k + (fs.map fun f => P.cellsOf f.type).sum →
    (fs.map fun f => (cs.drop f.offset).take (P.cellsOf f.type)).flatten = cs.drop k
  | [], cs, k, _, hl => by simp at hl; simp; omega
  | f :: fs, cs, k, h, hl => by
    have h0 := h 0 f rfl
    simp at h0
    simp only [List.map_cons, List.flatten_cons]
    have ih := join_fields (P := P) fs cs (k + P.cellsOf f.type) (fun j g hg => by
      have := h (j + 1) g (by simpa using hg)
      rw [List.take_succ_cons, List.map_cons, List.sum_cons] at this
      omega) (by simp at hl; omega)
    rw [ih, h0]
    rw [← List.drop_drop]
    exact List.take_append_drop _ _

theorem tyAll_of {R : TypeId → List AV → Prop} : ∀ {ts : List TypeId} {ls : List (List AV)}, ls.length = ts.length → (∀ (i : Nat) t a, ts[i]? = some t → ls[i]? = some a → R t a) → TyAll R ts ls.flatten
  | [], [], _, _ => rfl
  | t :: ts, a :: ls, hl, h => ⟨a, ls.flatten, rfl, h 0 t a rfl rfl, tyAll_of (by simpa using hl) fun i t' a' h1 h2 => h (i + 1) t' a' (by simpa using h1) (by simpa using h2)⟩

theorem trod_rel {H : Type} {enc : TypeId × Value → H} {P : Program} {W : World} {sp : Nat → Bool} {held : Bool} {bk : DataW H → Nat} {B : Nat} (hbk : Bulk bk) {T : TypeId → Prop} (hK : Kids P T) (hp : Pos P T) :
    ∀ (fuel : Nat) (t : TypeId) (cs : List Value) (x : DataW H × List MemPlace), T t → DataW.trod enc P W 0 sp held fuel t cs = some x → bk x.1 ≤ B → ∃ l, RelL (hv W) l cs ∧ Ty P B fuel t l := by
  intro fuel
  induction fuel with
  | zero => intro t cs x _ h; simp [DataW.trod] at h
  | succ n ih =>
    intro t cs x ht h hB
    cases hu : P.underlying t with
    | none => simp [DataW.trod, hu] at h
    | some d =>
      cases d with
      | bool =>
        obtain ⟨b, rfl, rfl⟩ := DataW.trod_bool hu h
        refine ⟨[.v (.bool b)], .one (.v _) rfl, ?_⟩
        unfold Ty; rw [hu]; exact ⟨b, rfl⟩
      | int k =>
        obtain ⟨i, rfl, rfl, hw⟩ := DataW.trod_int hu h
        refine ⟨[.v (.int k i)], .one (.v _) rfl, ?_⟩
        unfold Ty; rw [hu]; exact ⟨i, rfl, hw⟩
      | string =>
        obtain ⟨s, rfl, rfl, hw⟩ := DataW.trod_string hu h
        refine ⟨[.v (.string s)], .one (.v _) rfl, ?_⟩
        have := hbk.str s.data.toList
        have h2 : s.data.toList.length = s.size := Array.length_toList
        simp only [Ty, hu]
        exact ⟨s, rfl, by simp only at hB; omega⟩
      | pointer e =>
        have hpos := (hp t e ht).2 hu
        rcases DataW.trod_pointer hu h with ⟨rfl, rfl⟩ | ⟨a, cs', y, m, hm, rfl, rfl, hc, hy⟩
        · refine ⟨[.v (.pointer none)], .one (.v _) rfl, ?_⟩
          unfold Ty; rw [hu]; exact .inl rfl
        · cases hm
          have hb := hbk.ptr y.1
          obtain ⟨l, hr, hty⟩ := ih e cs' y (hK.pointer ht hu) hy (by simp only at hB; omega)
          obtain ⟨_, hcl, hcc⟩ := World.cells?_some hc
          obtain ⟨hs, c, h1, h2⟩ := relC_of_cells (by omega) hr (fun i hi => hcc i (by omega))
          obtain ⟨ab, ao, as⟩ := a
          simp only at hs h1 h2
          subst hs
          refine ⟨[.iptr l 0], .one ?_ rfl, ?_⟩
          · have := Rel.iptr_of (ρ := r0) (b := ab) 0 h1 h2
            simpa using this
          · simp only [Ty, hu]; exact .inr ⟨l, rfl, hty⟩
      | slice e =>
        have hpos := (hp t e ht).1 hu
        rcases DataW.trod_slice hu h with ⟨rfl, rfl⟩ | ⟨a, len, cap, elems, rest, m, hm, rfl, rfl, hb0, hlc, hmax, hel, hat, _⟩
        · refine ⟨[.imm [] 0], .one (.imm0 none 0) rfl, ?_⟩
          simp only [Ty, hu]
          exact ⟨[], rfl, Nat.zero_le _, fun c hc => by simp at hc⟩
        · cases hm
          have hlen := hbk.len (elems.map (·.1)) (rest.map (·.1))
          simp only at hB
          simp only [List.length_map] at hlen
          have each : ∀ i ∈ List.range len, ∃ r : List AV × List Value, RelL (hv W) r.1 r.2 ∧ Ty P B n e r.1 ∧ W.cells? 0 (a.add (i * P.cellsOf e)) (P.cellsOf e) = some r.2 := by
            intro i hi
            have hi' : i < len := by simpa using hi
            have h1 := hat i hi'
            have h2 : elems[i]? = some (elems[i]'(by omega)) := by simp
            rw [h2] at h1
            obtain ⟨cs', h3, h4⟩ := Option.bind_eq_some_iff.1 h1
            have h5 := hbk.elems (elems.map (·.1)) (rest.map (·.1)) (elems[i]'(by omega)).1 (List.mem_map.2 ⟨_, List.getElem_mem _, rfl⟩)
            obtain ⟨l, h6, h7⟩ := ih e cs' _ (hK.slice ht hu) h4 (by omega)
            exact ⟨(l, cs'), h6, h7, h3⟩
          obtain ⟨rs, hrl, hrs⟩ := choose_list each
          simp at hrl
          have hrs' : ∀ (i : Nat) r, rs[i]? = some r → RelL (hv W) r.1 r.2 ∧ Ty P B n e r.1 ∧ W.cells? 0 (a.add (i * P.cellsOf e)) (P.cellsOf e) = some r.2 := by
            intro i r hr
            have : i < len := by have := (List.getElem?_eq_some_iff.1 hr).1; omega
            exact hrs i i r (by simp [this]) hr
          have hmem : ∀ r ∈ rs, ∃ i : Nat, rs[i]? = some r := fun r hr => List.getElem?_of_mem hr
          have hw : ∀ r ∈ rs, r.2.length = P.cellsOf e := by
            intro r hr
            obtain ⟨i, hi⟩ := hmem r hr
            exact (World.cells?_some (hrs' i r hi).2.2).2.1
          have hflat : RelL (hv W) (rs.map (·.1)).flatten (rs.map (·.2)).flatten := by
            refine relL_flat (n := P.cellsOf e) (by simp) ?_ ?_
            · intro i a b ha hb
              simp only [List.getElem?_map, Option.map_eq_some_iff] at ha hb
              obtain ⟨r, hr, rfl⟩ := ha
              obtain ⟨r', hr', rfl⟩ := hb
              rw [hr] at hr'; cases hr'
              exact (hrs' i r hr).1
            · intro b hb
              obtain ⟨r, hr, rfl⟩ := List.mem_map.1 hb
              exact hw r hr
          have hty : ∀ c ∈ rs.map (·.1), Ty P B n e c := by
            intro c hc
            obtain ⟨r, hr, rfl⟩ := List.mem_map.1 hc
            obtain ⟨i, hi⟩ := hmem r hr
            exact (hrs' i r hi).2.1
          refine ⟨[.imm (rs.map (·.1)).flatten (rs.map (·.1)).length], .one ?_ rfl, ?_⟩
          · rw [List.length_map, hrl]
            by_cases h0 : len = 0
            · subst h0
              have : rs = [] := by simpa using hrl
              subst this
              exact .imm0 _ _
            · have hfl : (rs.map (·.2)).flatten.length = len * P.cellsOf e := by
                have : ∀ l : List (List AV × List Value), (∀ r ∈ l, r.2.length = P.cellsOf e) → (l.map (·.2)).flatten.length = l.length * P.cellsOf e := by
                  intro l
                  induction l with
                  | nil => intro _; simp
                  | cons r l ih => intro h; simp only [List.map_cons, List.flatten_cons, List.length_append, h r (by simp), ih fun x hx => h x (by simp [hx]), List.length_cons]; rw [Nat.add_mul]; omega
                rw [this rs hw, hrl]
              have hpl : 0 < len * P.cellsOf e := Nat.mul_pos (by omega) hpos
              have hcell : ∀ i, i < (rs.map (·.2)).flatten.length → W.cell? (a.add i) = (rs.map (·.2)).flatten[i]? := by
                -- by the row that the place lies in
                have gen : ∀ (l : List (List AV × List Value)) (k : Nat), (∀ (i : Nat) r, l[i]? = some r → W.cells? 0 (a.add ((k + i) * P.cellsOf e)) (P.cellsOf e) = some r.2) → ∀ i, i < (l.map (·.2)).flatten.length → W.cell? (a.add (k * P.cellsOf e + i)) = (l.map (·.2)).flatten[i]? := by
                  intro l
                  induction l with
                  | nil => intro k _ i hi; simp at hi
                  | cons r l ihl =>
                    intro k hk i hi
                    obtain ⟨_, e1, e2⟩ := World.cells?_some (hk 0 r rfl)
                    simp only [List.map_cons, List.flatten_cons] at hi ⊢
                    rw [List.getElem?_append]
                    by_cases hlt : i < r.2.length
                    · rw [if_pos hlt]
                      have := e2 i (by omega)
                      rw [← this]
                      rw [add_add, Nat.add_zero]
                    · rw [if_neg hlt]
                      have := ihl (k + 1) (fun j r' hr' => by
                        have := hk (j + 1) r' (by simpa using hr')
                        rw [show k + 1 + j = k + (j + 1) by omega]; exact this) (i - r.2.length) (by simp only [List.length_append] at hi; omega)
                      rw [← this]
                      congr 2
                      rw [Nat.add_mul]; omega
                intro i hi
                have := gen rs 0 (fun i r hr => by simpa using (hrs' i r hr).2.2) i hi
                simpa using this
              obtain ⟨hs, c, h1, h2⟩ := relC_of_cells (by omega) hflat hcell
              obtain ⟨ab, ao, as⟩ := a
              simp only at hs h1 h2
              subst hs
              exact Rel.imm_of len cap hlc h1 h2
          · simp only [Ty, hu]
            exact ⟨rs.map (·.1), rfl, by simp; omega, hty⟩
      | struct fs =>
        obtain ⟨xs, m, hm, rfl, hcl, hxl, hf⟩ := DataW.trod_struct hu h
        cases hm
        obtain ⟨k1, k2, k3⟩ := hK.struct ht hu
        have each : ∀ i ∈ List.range fs.size, ∃ l : List AV, ∀ f, fs[i]? = some f → RelL (hv W) l ((cs.drop f.offset).take (P.cellsOf f.type)) ∧ Ty P B n f.type l := by
          intro i hi
          have hi' : i < fs.size := by simpa using hi
          have e1 : fs[i]? = some fs[i] := by simp [hi']
          have e2 : xs[i]? = some (xs[i]'(by omega)) := by simp
          have h1 := hf i _ e1
          rw [e2] at h1
          have h5 := hbk.agg (xs.map (·.1)) (xs[i]'(by omega)).1 (List.mem_map.2 ⟨_, List.getElem_mem _, rfl⟩)
          simp only at hB
          obtain ⟨l, h6, h7⟩ := ih _ _ _ (k1 fs[i] (by simp)) h1 (by omega)
          exact ⟨l, fun f hff => by rw [e1] at hff; cases hff; exact ⟨h6, h7⟩⟩
        obtain ⟨ls, hll, hls⟩ := choose_list each
        simp at hll
        have hls' : ∀ (i : Nat) l f, ls[i]? = some l → fs[i]? = some f → RelL (hv W) l ((cs.drop f.offset).take (P.cellsOf f.type)) ∧ Ty P B n f.type l := by
          intro i l f h1 h2
          have : i < fs.size := (Array.getElem?_eq_some_iff.1 h2).1
          exact hls i i l (by simp [this]) h1 f h2
        refine ⟨ls.flatten, ?_, ?_⟩
        · have hj := join_fields (P := P) fs.toList cs 0 (fun j f hj => by rw [k3 j f hj]; omega) (by rw [hcl, k2]; omega)
          rw [List.drop_zero] at hj
          rw [← hj]
          have : ∀ (ls : List (List AV)) (css : List (List Value)), ls.length = css.length → (∀ (i : Nat) a b, ls[i]? = some a → css[i]? = some b → RelL (hv W) a b) → RelL (hv W) ls.flatten css.flatten := by
            intro ls
            induction ls with
            | nil => intro css h _; cases css with
              | nil => exact ⟨rfl, fun i x y hx => by simp at hx, fun y hy => by simp at hy⟩
              | cons b css => simp at h
            | cons a ls ihh =>
              intro css h1 h2
              cases css with
              | nil => simp at h1
              | cons b css =>
                simp only [List.flatten_cons]
                exact (h2 0 a b rfl rfl).append (ihh css (by simpa using h1) fun i x y hx hy => h2 (i + 1) x y (by simpa using hx) (by simpa using hy))
          refine this _ _ (by simp [hll]) ?_
          intro i a b ha hb
          simp only [List.getElem?_map, Option.map_eq_some_iff, Array.getElem?_toList] at hb
          obtain ⟨f, hf1, rfl⟩ := hb
          exact (hls' i a f ha hf1).1
        · simp only [Ty, hu]
          refine tyAll_of (by simp [hll]) ?_
          intro i t' a h1 h2
          simp only [List.getElem?_map, Option.map_eq_some_iff, Array.getElem?_toList] at h1
          obtain ⟨f, hf1, rfl⟩ := h1
          exact (hls' i a f h2 hf1).2
      | array m e =>
        simp only [DataW.trod, hu] at h
        split at h
        · rename_i hcl
          obtain ⟨xs, hxs, rfl⟩ := Option.map_eq_some_iff.1 h
          obtain ⟨ke, kc⟩ := hK.array ht hu
          have hxl : xs.length = m := by simpa using mapM_some_length hxs
          simp only at hB
          have each : ∀ i ∈ List.range m, ∃ l : List AV, RelL (hv W) l ((cs.drop (i * P.cellsOf e)).take (P.cellsOf e)) ∧ Ty P B n e l := by
            intro i hi
            have hi' : i < m := by simpa using hi
            have h1 := mapM_some_get hxs i i (by simp [hi'])
            have e2 : xs[i]? = some (xs[i]'(by omega)) := by simp
            rw [e2] at h1
            have h5 := hbk.agg (xs.map (·.1)) (xs[i]'(by omega)).1 (List.mem_map.2 ⟨_, List.getElem_mem _, rfl⟩)
            exact ih _ _ _ ke h1 (by omega)
          obtain ⟨ls, hll, hls⟩ := choose_list each
          simp at hll
          refine ⟨ls.flatten, ?_, ?_⟩
          · have hj := parts_join (n := P.cellsOf e) (m := m) (cs := cs) (by rw [hcl, kc])
            rw [← hj]
            refine relL_flat (n := P.cellsOf e) (by simp [hll]) ?_ ?_
            · intro i a b ha hb
              simp only [List.getElem?_map, Option.map_eq_some_iff] at hb
              obtain ⟨j, hj1, rfl⟩ := hb
              exact (hls i j a hj1 ha).1
            · intro b hb
              obtain ⟨i, hi, rfl⟩ := List.mem_map.1 hb
              have hi' : i < m := by simpa using hi
              have : (i + 1) * P.cellsOf e ≤ m * P.cellsOf e := Nat.mul_le_mul_right _ hi'
              rw [Nat.add_mul] at this
              simp; omega
          · simp only [Ty, hu]
            refine ⟨ls, rfl, hll, fun c hc => ?_⟩
            obtain ⟨i, hi⟩ := List.getElem?_of_mem hc
            have : i < m := by have := (List.getElem?_eq_some_iff.1 hi).1; omega
            exact (hls i i c (by simp [this]) hi).2
        · cases h
      | _ =>
        simp only [DataW.trod, hu] at h
        have one : ∀ y, cs = [y] → AX.sto y = true → ∃ l, RelL (hv W) l cs ∧ Ty P B (n + 1) t l := by
          rintro y rfl hy
          refine ⟨[.v y], .one (.v _) hy, ?_⟩
          unfold Ty; rw [hu]; exact ⟨y, rfl⟩
        first
          | (cases h; done)
          | (split at h <;> first | (cases h; done) | (rename_i h1; cases h1; done) | exact one _ rfl rfl | (simp_all; done))

end Go.AX
