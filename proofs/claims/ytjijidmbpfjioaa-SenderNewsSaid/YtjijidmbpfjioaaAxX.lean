/- A part of the proof: AxX. -/
import Derived.Test.YtjijidmbpfjioaaAxW
namespace Go.AX

section
variable {C : Ctx} {x y : Code} {Q : AExit → AS → Prop} {s : AS}

open Classical in
theorem awp_loopW1 (J : Nat → AS → Prop) (n : Nat) (h0 : ∃ s0, Wk C s s0 ∧ J n s0) (h : ∀ n t, J n t → awp C x (loopQ (fun t' => ∃ t'', Wk C t' t'' ∧ ∃ m, m < n ∧ J m t'') Q) t) : awp C (.loop x) Q s := by
  let ex : AS → Prop := fun t => ∃ n, J n t
  have least : ∀ t, ex t → ∃ n, J n t ∧ ∀ m, J m t → n ≤ m := by
    intro t ht
    have key : ∀ k, J k t → ∃ n, J n t ∧ ∀ m, J m t → n ≤ m := by
      intro k
      induction k using Nat.strongRecOn with
      | _ k ih =>
        intro hk
        by_cases hh : ∃ j, j < k ∧ J j t
        · obtain ⟨j, hj, hjj⟩ := hh; exact ih j hj hjj
        · refine ⟨k, hk, fun m hm => ?_⟩
          rcases Nat.lt_or_ge m k with h1 | h1
          · exact absurd ⟨m, h1, hm⟩ hh
          · exact h1
    obtain ⟨k, hk⟩ := ht
    exact key k hk
  let μ : AS → Nat := fun t => if ht : ex t then Classical.choose (least t ht) else 0
  have hμ : ∀ t, ex t → J (μ t) t ∧ ∀ m, J m t → μ t ≤ m := by
    intro t ht
    have := Classical.choose_spec (least t ht)
    simp only [μ, dif_pos ht]
    exact this
  obtain ⟨s0, hwk0, h0⟩ := h0
  refine awp_loopK1 ex μ ⟨s0, hwk0, n, h0⟩ fun t ht => ?_
  obtain ⟨h1, _⟩ := hμ t ht
  refine awp_mono x (h _ t h1) ?_
  intro e t' ht'
  cases e with
  | normal =>
    obtain ⟨t'', hwk, m, hm, hj⟩ := ht'
    have := (hμ t'' ⟨m, hj⟩).2 m hj
    exact ⟨t'', hwk, ⟨m, hj⟩, by omega⟩
  | exit j => exact ht'
  | ret => exact ht'

theorem awp_loopW (J : Nat → AS → Prop) (n : Nat) (h0 : ∃ s0, Wk C s s0 ∧ J n s0) (h : ∀ n t, J n t → awp C x (loopQ (fun t' => ∃ t'', Wk C t' t'' ∧ ∃ m, m < n ∧ J m t'') (seqQ (awp C y Q) Q)) t) : awp C (.seq (.loop x) y) Q s := awp_seq (awp_loopW1 J n h0 h)

theorem awp_loopN1 (J : Nat → AS → Prop) (n : Nat) (h0 : J n s) (h : ∀ n t, J n t → awp C x (loopQ (fun t' => ∃ m, m < n ∧ J m t') Q) t) : awp C (.loop x) Q s := by
  refine awp_loopW1 J n ⟨s, Wk.refl _ _, h0⟩ fun n t ht => awp_mono x (h n t ht) ?_
  intro e t' ht'
  cases e with
  | normal => exact ⟨t', Wk.refl _ _, ht'⟩
  | exit j => exact ht'
  | ret => exact ht'

theorem awp_loopN (J : Nat → AS → Prop) (n : Nat) (h0 : J n s) (h : ∀ n t, J n t → awp C x (loopQ (fun t' => ∃ m, m < n ∧ J m t') (seqQ (awp C y Q) Q)) t) : awp C (.seq (.loop x) y) Q s := awp_seq (awp_loopN1 J n h0 h)

/-- A loop whose body is left at once. -/
theorem awp_once1 (h : awp C x (loopQ (fun _ => False) Q) s) : awp C (.loop x) Q s := by
  refine awp_loop1 (fun t => t = s) (fun _ => 0) rfl ?_
  rintro t rfl
  refine awp_mono x h ?_
  intro e t' ht'
  cases e with
  | normal => exact ht'.elim
  | exit j => exact ht'
  | ret => exact ht'

theorem awp_once (h : awp C x (loopQ (fun _ => False) (seqQ (awp C y Q) Q)) s) : awp C (.seq (.loop x) y) Q s := awp_seq (awp_once1 h)

theorem awp_condT {c : Operand} {z : Code} (hc : ev C s c = .v (.bool true)) (h : awp C (.seq x z) Q s) : awp C (.seq (.cond c x y) z) Q s := awp_cond hc (fun _ => h) (fun h => by cases h)
theorem awp_condF {c : Operand} {z : Code} (hc : ev C s c = .v (.bool false)) (h : awp C (.seq y z) Q s) : awp C (.seq (.cond c x y) z) Q s := awp_cond hc (fun h => by cases h) (fun _ => h)
theorem awp_condT1 {c : Operand} (hc : ev C s c = .v (.bool true)) (h : awp C x Q s) : awp C (.cond c x y) Q s := awp_cond1 hc (fun _ => h) (fun h => by cases h)
theorem awp_condF1 {c : Operand} (hc : ev C s c = .v (.bool false)) (h : awp C y Q s) : awp C (.cond c x y) Q s := awp_cond1 hc (fun h => by cases h) (fun _ => h)

end

theorem init0 (s : HS) : init [] s = { s with tmps := fun _ => .v undef } := by
  unfold init; simp
theorem init_cons (a : AV) (l : List AV) (s : HS) : (init (a :: l) s).tmps = fun t => match t with | 0 => a | t + 1 => (init l s).tmps t := by
  funext t; cases t <;> simp [init]
def arg (l : List AV) (t : Nat) : AV := l.getD t (.v undef)
theorem init_arg (l : List AV) (s : HS) : init l s = { s with tmps := arg l } := rfl
theorem arg_z (a : AV) (l : List AV) : arg (a :: l) 0 = a := rfl
theorem arg_s (a : AV) (l : List AV) (t : Nat) : arg (a :: l) (t + 1) = arg l t := rfl

theorem wrap64 {x : Int} (h1 : -9223372036854775808 ≤ x) (h2 : x ≤ 9223372036854775807) : IntKind.wrap .i64 x = x := by
  have e1 : ((2 : Int) ^ 64) = 18446744073709551616 := by decide
  have e2 : ((2 : Int) ^ 63) = 9223372036854775808 := by decide
  simp only [IntKind.wrap, IntKind.signed, IntKind.bits, Bool.true_and, e1, e2, show 64 - 1 = 63 from rfl]
  split
  · rename_i h; simp at h; omega
  · rename_i h; simp at h; omega

/-- Rows of equal width. -/
theorem flat_get {α : Type} {f : α → List AV} {sz : Nat} (hf : ∀ a, (f a).length = sz) : ∀ (l : List α) (i : Nat) (a : α) (o : Nat), l[i]? = some a → o < sz → (l.flatMap f)[i * sz + o]? = (f a)[o]?
  | [], i, a, o, h, _ => by simp at h
  | b :: l, 0, a, o, h, ho => by
    simp at h; subst h
    rw [List.flatMap_cons, List.getElem?_append_left (by rw [hf]; omega)]; simp
  | b :: l, i + 1, a, o, h, ho => by
    simp at h
    rw [List.flatMap_cons, List.getElem?_append_right (by rw [hf]; rw [Nat.add_mul]; omega)]
    have := flat_get hf l i a o h ho
    rw [← this, hf]
    congr 1
    rw [Nat.add_mul]; omega

theorem flat_len {α : Type} {f : α → List AV} {sz : Nat} (hf : ∀ a, (f a).length = sz) : ∀ (l : List α), (l.flatMap f).length = l.length * sz
  | [] => by simp
  | b :: l => by rw [List.flatMap_cons, List.length_append, hf, flat_len hf l, List.length_cons, Nat.add_mul]; omega

theorem flat_sub {α : Type} {f : α → List AV} {sz : Nat} (hf : ∀ a, (f a).length = sz) : ∀ (l : List α) (i : Nat) (a : α), l[i]? = some a → ((l.flatMap f).drop (i * sz)).take sz = f a
  | [], i, a, h => by simp at h
  | b :: l, 0, a, h => by
    simp at h; subst h
    rw [List.flatMap_cons, Nat.zero_mul, List.drop_zero, List.take_append_of_le_length (by rw [hf]; omega), List.take_of_length_le (by rw [hf]; omega)]
  | b :: l, i + 1, a, h => by
    simp at h
    rw [List.flatMap_cons, List.drop_append, hf]
    rw [List.drop_of_length_le (by rw [hf, Nat.add_mul]; omega), List.nil_append]
    rw [show (i + 1) * sz - sz = i * sz by rw [Nat.add_mul]; omega]
    exact flat_sub hf l i a h

theorem xcall_n {C : Ctx} {d : Bool} {fr : Nat} {f : FuncId} {args : List AV} {s : HS} {k : AV → HS → Prop} {r : AV} (h : SndP C f (args.map (fz (fun _ => .dead) deep)) r) (hk : k r s) : xcall C d fr (some (f, args)) s k := xcall_p h.norm hk

/-- What is lent is of the caller's own. -/
theorem xcall_l {C : Ctx} {fr : Nat} {f : FuncId} {args : List AV} {s : HS} {k : AV → HS → Prop} {r : AV} (h : SndP C f (args.map (fz s.objs deep)) r) (hb : Bare r) (hk : k r s) : xcall C false fr (some (f, args)) s k :=
  xcall_g (h.lend s hb) (by rintro r' hs' ⟨rfl, rfl⟩; exact hk)

theorem kindOk_int {k : IntKind} {x : AV} (h : kindOk (some k) x = true) : ∃ a, x = .v (.int k a) := by
  unfold kindOk at h
  split at h
  · rename_i k1 k2 n h1
    cases h1
    exact ⟨n, by rw [eq_of_beq h]⟩
  · rename_i h1; cases h1
  · cases h
theorem kindOk_bool {x : AV} (h : kindOk none x = true) : ∃ a, x = .v (.bool a) := by
  unfold kindOk at h
  split at h
  · rename_i h1; cases h1
  · exact ⟨_, rfl⟩
  · cases h
theorem kindsOk_cons {k : Option IntKind} {ks : List (Option IntKind)} {xs : List AV} (h : kindsOk (k :: ks) xs = true) : ∃ x r, xs = x :: r ∧ kindOk k x = true ∧ kindsOk ks r = true := by
  cases xs with
  | nil => simp [kindsOk] at h
  | cons x r => simp only [kindsOk, Bool.and_eq_true] at h; exact ⟨x, r, rfl, h.1, h.2⟩
theorem kindsOk_nil {xs : List AV} (h : kindsOk [] xs = true) : xs = [] := by
  cases xs with
  | nil => rfl
  | cons x r => simp [kindsOk] at h

theorem putAt_1 (cells : List AV) (off : Nat) (x : AV) : putAt cells off [x] = cells.set off x := rfl
theorem putAt_cc (cells : List AV) (off : Nat) (x y : AV) (r : List AV) : putAt cells off (x :: y :: r) = if off + (x :: y :: r).length ≤ cells.length then cells.take off ++ (x :: y :: r) ++ cells.drop (off + (x :: y :: r).length) else cells := rfl
theorem putAt_all {cells cs : List AV} (h : cs.length = cells.length) : putAt cells 0 cs = cs := by
  unfold putAt
  split
  · rename_i x
    match cells, h with
    | [c], _ => rfl
  · rw [if_pos (by omega)]
    simp [h]

end Go.AX
