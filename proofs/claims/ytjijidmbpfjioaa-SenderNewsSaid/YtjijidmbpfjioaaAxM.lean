/- A part of the proof: AxM. -/
import Derived.Test.YtjijidmbpfjioaaAxL
namespace Go.AX

/-! ## The order of a region -/

def maskOf (acc : List Nat) (o : Oper) : Nat := o.after.toList.foldl (fun m e => if Region.binds .any e then m ||| (2 ^ e.on ||| acc.getD e.on 0) else m) 0

def befs : List Oper → List Nat → List Nat
  | [], acc => acc
  | o :: os, acc => befs os (acc ++ [maskOf acc o])

theorem befs_pre : ∀ (os : List Oper) (acc : List Nat), ∃ l, befs os acc = acc ++ l ∧ l.length = os.length
  | [], acc => ⟨[], by simp [befs], rfl⟩
  | o :: os, acc => by
    obtain ⟨l, h, hl⟩ := befs_pre os (acc ++ [maskOf acc o])
    exact ⟨maskOf acc o :: l, by simp [befs, h], by simp [hl]⟩

theorem befs_get : ∀ (os : List Oper) (acc : List Nat) (j : Nat) (o : Oper), os[j]? = some o → (befs os acc)[acc.length + j]? = some (maskOf ((befs os acc).take (acc.length + j)) o)
  | [], acc, j, o, h => by simp at h
  | p :: os, acc, 0, o, h => by
    simp at h; subst h
    obtain ⟨l, hl, _⟩ := befs_pre os (acc ++ [maskOf acc p])
    simp [befs, hl]
  | p :: os, acc, j + 1, o, h => by
    simp at h
    have := befs_get os (acc ++ [maskOf acc p]) j o h
    simp only [List.length_append, List.length_singleton] at this
    rw [befs, show acc.length + (j + 1) = acc.length + 1 + j by omega]
    exact this

theorem mask_bit {acc : List Nat} {o : Oper} {i : Nat} (h : (maskOf acc o).testBit i = true) : ∃ e ∈ o.after, Region.binds .any e = true ∧ (e.on = i ∨ (acc.getD e.on 0).testBit i = true) := by
  have key : ∀ (l : List Edge) (m : Nat), (l.foldl (fun m e => if Region.binds .any e then m ||| (2 ^ e.on ||| acc.getD e.on 0) else m) m).testBit i = true →
      m.testBit i = true ∨ ∃ e ∈ l, Region.binds .any e = true ∧ (e.on = i ∨ (acc.getD e.on 0).testBit i = true) := by
    intro l
    induction l with
    | nil => intro m h; exact .inl h
    | cons e l ih =>
      intro m h
      rw [List.foldl_cons] at h
      rcases ih _ h with h1 | ⟨e', h1, h2⟩
      · by_cases hb : Region.binds .any e = true
        · rw [if_pos hb] at h1
          rw [Nat.testBit_or, Nat.testBit_or, Nat.testBit_two_pow] at h1
          simp only [Bool.or_eq_true, decide_eq_true_eq] at h1
          rcases h1 with h1 | h1 | h1
          · exact .inl h1
          · exact .inr ⟨e, by simp, hb, .inl h1⟩
          · exact .inr ⟨e, by simp, hb, .inr h1⟩
        · rw [if_neg hb] at h1; exact .inl h1
      · exact .inr ⟨e', by simp [h1], h2⟩
  rcases key o.after.toList 0 h with h1 | ⟨e, h1, h2⟩
  · simp at h1
  · exact ⟨e, Array.mem_toList_iff.1 h1, h2⟩

def ordered (ops : List Oper) (i j : Nat) : Bool := ((befs ops []).getD j 0).testBit i

/-- Every binding edge points backwards. -/
def edgesOk (ops : List Oper) : Bool := ops.zipIdx.all fun (o, j) => o.after.all fun e => !Region.binds .any e || e.on < j

theorem edgesOk_spec {ops : List Oper} (h : edgesOk ops = true) {j : Nat} {o : Oper} (ho : ops[j]? = some o) {e : Edge} (he : e ∈ o.after) (hb : Region.binds .any e = true) : e.on < j := by
  unfold edgesOk at h
  rw [List.all_eq_true] at h
  have := h (o, j) (List.mem_of_getElem? (i := j) (by simp [List.getElem?_zipIdx, ho]))
  simp only [Array.all_eq_true_iff_forall_mem] at this
  have := this e he
  simpa [hb] using this

theorem ordered_spec {ops : List Oper} (hok : edgesOk ops = true) {D : Nat → Bool} (hD : ∀ j o, ops[j]? = some o → D j = true → ∀ e ∈ o.after, Region.binds .any e = true → D e.on = true) :
    ∀ (j i : Nat), ordered ops i j = true → D j = true → j < ops.length → D i = true := by
  intro j
  induction j using Nat.strongRecOn with
  | _ j ih =>
    intro i h hj hlt
    unfold ordered at h
    have ho : ops[j]? = some ops[j] := by simp [hlt]
    have hg := befs_get ops [] j ops[j] ho
    simp only [List.length_nil, Nat.zero_add] at hg
    rw [List.getD_eq_getElem?_getD, hg, Option.getD_some] at h
    obtain ⟨e, he, hb, h1⟩ := mask_bit h
    have hej := edgesOk_spec hok ho he hb
    have hDe := hD j ops[j] ho hj e he hb
    rcases h1 with h1 | h1
    · rw [← h1]; exact hDe
    · refine ih e.on hej i ?_ hDe (by omega)
      unfold ordered
      rw [List.getD_eq_getElem?_getD, List.getElem?_take, if_pos hej, ← List.getD_eq_getElem?_getD] at h1
      exact h1

/-- Two operations of which neither waits for the other do not meet in a temporary. -/
def tmpsOk (ops : List Oper) : Bool :=
  ops.zipIdx.all fun (x, i) => ops.zipIdx.all fun (y, j) => j ≤ i || ordered ops i j || x.apart ops.toArray y

theorem tmpsOk_spec {ops : List Oper} (h : tmpsOk ops = true) {i j : Nat} {x y : Oper} (hx : ops[i]? = some x) (hy : ops[j]? = some y) (hij : i < j) (ho : ordered ops i j = false) : x.apart ops.toArray y = true := by
  unfold tmpsOk at h
  rw [List.all_eq_true] at h
  have h1 := h (x, i) (List.mem_of_getElem? (i := i) (by simp [List.getElem?_zipIdx, hx]))
  simp only [List.all_eq_true] at h1
  have h2 := h1 (y, j) (List.mem_of_getElem? (i := j) (by simp [List.getElem?_zipIdx, hy]))
  simp only [ho, Bool.or_false, Bool.or_eq_true, decide_eq_true_eq] at h2
  rcases h2 with h2 | h2
  · omega
  · exact h2

/-! ## What an operation reads and writes -/

abbrev Foot := List (Nat × Option (Nat × Nat))

def idsOf : AV → Foot
  | .ref id _ _ _ => [(id, none)]
  | .ptr id _ => [(id, none)]
  | _ => []

def rdOf (C : Ctx) (s : AS) : Op → Foot
  | .load t a => match ev C s a with
    | .ptr id off => [(id, some (off, match agB C.P t with | some true => (szOf C.P t).getD 0 | _ => 1))]
    | _ => []
  | .store t a _ => match ev C s a with
    | .ptr id off => [(id, some (off, (szOf C.P t).getD 0))]
    | _ => []
  | .slice _ x _ _ _ => idsOf (ev C s x)
  | .call c => match c.callee with
    | .builtin _ => c.args.toList.flatMap fun x => idsOf (ev C s x)
    | _ => []
  | _ => []

def wrOf (fr : Nat) : HAct → Foot
  | .none => []
  | .new _ => [(fr, none)]
  | .wr id off cs => [(id, some (off, cs.length))]
  | .app (some old) _ => [(fr, none), (old, none)]
  | .app none _ => [(fr, none)]

def meet : Option (Nat × Nat) → Option (Nat × Nat) → Bool
  | some (o, n), some (o', n') => decide (o < o' + n') && decide (o' < o + n)
  | _, _ => true

def clash (a b : Foot) : Bool := a.any fun x => b.any fun y => x.1 == y.1 && meet x.2 y.2

/-- Read and written: (number, reads, writes). -/
abbrev Print := Nat × Foot × Foot

def apartP (x y : Print) : Bool := !clash x.2.2 y.2.1 && !clash x.2.2 y.2.2 && !clash x.2.1 y.2.2

def printsOk (ops : List Oper) (ps : List Print) : Bool := ps.all fun x => ps.all fun y => decide (y.1 ≤ x.1) || apartP x y || ordered ops x.1 y.1

end Go.AX
