/- A part of the proof: AxI. -/
import Derived.Test.YtjijidmbpfjioaaAxH
namespace Go.AX

section
variable {C : Ctx} {ρ : Rho} {V : View} {s : AS} {w : World} {fr : Nat}

/-- A bound that is given, or not. -/
def OptRel (ρ : Rho) (V : View) : Option AV → Option Value → Prop
  | none, none => True
  | some x, some y => Rel ρ V x y
  | _, _ => False

theorem bounds_run {P : Program} {isSl : Bool} {len cap : Nat} {lo hi : Option AV} {lo' hi' : Option Value} {l h : Int} (hlo : OptRel ρ V lo lo') (hhi : OptRel ρ V hi hi')
    (h1 : loOf lo = some l) (h2 : hiOf len hi = some h) (h3 : 0 ≤ l) (h4 : l ≤ h) (h5 : h ≤ (len : Int)) (h6 : len ≤ cap) :
    (Instr.sliceBounds isSl len cap lo' hi' none).run P w = .ok (l.toNat, h.toNat, cap) w := by
  have key : ∀ (k : IntKind) (i : Int) (y : Nat) (code : BoundsCode), 0 ≤ i → i ≤ (y : Int) → (Instr.sliceBound (.int k i) y code).run P w = .ok i.toNat w := fun k i y code a b => run_sliceBound w k i y code a b
  cases lo with
  | none =>
    cases lo' with
    | some _ => exact hlo.elim
    | none =>
      simp only [loOf, Option.some.injEq] at h1
      subst h1
      cases hi with
      | none =>
        cases hi' with
        | some _ => exact hhi.elim
        | none => simp only [hiOf, Option.some.injEq] at h2; subst h2; simp [Instr.sliceBounds]
      | some x =>
        cases hi' with
        | none => exact hhi.elim
        | some y =>
          obtain ⟨k, rfl⟩ := intOf?_rel hhi h2
          simp [Instr.sliceBounds, key k h cap _ (by omega) (by omega)]
  | some z =>
    cases lo' with
    | none => exact hlo.elim
    | some z' =>
      obtain ⟨k', rfl⟩ := intOf?_rel hlo h1
      cases hi with
      | none =>
        cases hi' with
        | some _ => exact hhi.elim
        | none => simp only [hiOf, Option.some.injEq] at h2; subst h2; simp [Instr.sliceBounds, key k' l len _ h3 h4]
      | some x =>
        cases hi' with
        | none => exact hhi.elim
        | some y =>
          obtain ⟨k, rfl⟩ := intOf?_rel hhi h2
          simp [Instr.sliceBounds, key k h cap _ (by omega) (by omega), key k' l h.toNat _ h3 (by omega)]

theorem op_slice {t : Nat} {x : AV} {q : Value} {lo hi : Option AV} {lo' hi' : Option Value} {r : AV} (hI : Inv ρ V s.toHS w) (hq : Rel ρ V x q) (hlo : OptRel ρ V lo lo') (hhi : OptRel ρ V hi hi')
    (h : sliceE C.P s t x lo hi = some r) :
    OpRun ρ V s w fr ((do pure (.value (← Instr.sliceAt t q lo' hi' none)) : Sem Next).run C.P w) ⟨r, .none⟩ := by
  unfold sliceE at h
  split at h
  · rename_i n e hu
    split at h
    · rename_i sz l h' hsz hl1 hh1
      split at h
      · rename_i hb
        obtain ⟨b1, b2, b3⟩ := hb
        have hbr := bounds_run (P := C.P) (w := w) (isSl := false) (cap := n) hlo hhi hl1 hh1 b1 b2 b3 (Nat.le_refl _)
        have run : ∀ (b a : Nat), (Instr.sliceAt t (.pointer (some ⟨b, a, none⟩)) lo' hi' none).run C.P w =
            .ok (.slice (some (if n = l.toNat then ⟨b, a, none⟩ else ⟨b, a + l.toNat * sz, none⟩)) (h'.toNat - l.toNat) (n - l.toNat)) w := by
          intro b a
          simp [Instr.sliceAt, run_underlying hu, Instr.sureAddr, hbr, szOf_run hsz, addr_add]
        have hsub : h'.toNat - l.toNat = (h' - l).toNat := by omega
        have hmul : l.toNat * sz + (n - l.toNat) * sz = n * sz := by rw [← Nat.add_mul]; congr 1; omega
        cases hq <;> simp only at h <;> try (cases h; done)
        case ptr id off loc hρ =>
          cases ho : s.objs id with
          | dead => simp [ho] at h
          | froz _ => simp [ho] at h
          | live cells =>
            simp only [ho] at h
            split at h
            · rename_i hle
              cases h
              refine OpRun.val hI (runAndThenValue (run _ _)) ?_
              obtain ⟨c, T, g1, g2, g3, g4⟩ := hI.live id cells loc ho hρ
              have g5 := g3.le
              rw [hsub]
              by_cases hz : n = l.toNat
              · have : (h' - l).toNat = 0 := by omega
                rw [this, hz, Nat.sub_self]
                exact .refE _ _ _ _
              · rw [if_neg hz, Nat.add_assoc]
                exact .ref id _ _ sz _ loc hρ (by omega) (by omega)
            · cases h
        case iptr cells off b o c hV hb H S =>
          split at h
          · rename_i hle
            cases h
            refine OpRun.val hI (runAndThenValue (run _ _)) ?_
            rw [hsub]
            by_cases hz : (h' - l).toNat = 0
            · rw [hz]
              simp only [Nat.zero_mul, List.take_zero]
              exact .imm0 _ _
            · rw [if_neg (by omega), Nat.add_assoc]
              have hrc : RelC ρ V cells c o := ⟨hb, H, S⟩
              have hm2 : l.toNat * sz + (h' - l).toNat * sz ≤ n * sz := by rw [← Nat.add_mul]; exact Nat.mul_le_mul_right _ (by omega)
              exact Rel.imm_of _ _ (by omega) hV (hrc.sub (off + l.toNat * sz) ((h' - l).toNat * sz) (by omega))
          · cases h
      · cases h
    · cases h
  · rename_i e hu
    have hu' : C.P.underlying t = some (.slice (C.P.elem t)) := by
      have : C.P.elem t = e := by simp [Program.elem, hu]
      rw [this]; exact hu
    have hel : C.P.elem t = e := by simp [Program.elem, hu]
    cases hsz : szOf C.P e with
    | none => simp [hsz] at h
    | some sz =>
      simp only [hsz] at h
      have run : ∀ (a : Option Addr) (len cap : Nat) (l h' : Int), loOf lo = some l → hiOf len hi = some h' → 0 ≤ l → l ≤ h' → h' ≤ (len : Int) → len ≤ cap →
          (Instr.sliceAt t (.slice a len cap) lo' hi' none).run C.P w = .ok (.slice (if cap = l.toNat then a else a.map (·.add (l.toNat * sz))) (h'.toNat - l.toNat) (cap - l.toNat)) w := by
        intro a len cap l h' e1 e2 e3 e4 e5 e6
        have hbr := bounds_run (P := C.P) (w := w) (isSl := true) hlo hhi e1 e2 e3 e4 e5 e6
        rw [run_sliceAt_slice _ _ _ _ _ _ hu', run_slice_any _ _ _ _ _ hu', hbr, hel]
        simp [szOf_run hsz, sliced]
      cases hq <;> (try simp only at h) <;> try (cases h; done)
      case v =>
        split at h
        · rename_i hn
          have hy := nilS_eq hn
          subst hy
          split at h
          · rename_i l h' e1 e2
            split at h
            · rename_i e3
              obtain ⟨rfl, rfl⟩ := e3
              cases h
              exact OpRun.val hI (runAndThenValue (run none 0 0 0 0 e1 e2 (by omega) (by omega) (by simp) (by omega))) (.v _)
            · cases h
          · cases h
        · cases h
      case imm cells len b o cap c hV hb H S hlc =>
        split at h
        · rename_i l h' e1 e2
          split at h
          · rename_i e3
            obtain ⟨b1, b2, b3, b4⟩ := e3
            cases h
            have hrc : RelC ρ V cells c o := ⟨hb, H, S⟩
            refine OpRun.val hI (runAndThenValue (run (some ⟨b, o, none⟩) len cap l h' e1 e2 b1 b2 b3 hlc)) ?_
            have hsub : h'.toNat - l.toNat = (h' - l).toNat := by omega
            rw [hsub]
            by_cases hz : (h' - l).toNat = 0
            · rw [hz]; simp only [Nat.zero_mul, List.take_zero]; exact .imm0 _ _
            · rw [if_neg (by omega)]
              simp only [Option.map_some, addr_add]
              have hm2 : l.toNat * sz + (h' - l).toNat * sz ≤ len * sz := by rw [← Nat.add_mul]; exact Nat.mul_le_mul_right _ (by omega)
              exact Rel.imm_of _ _ (by omega) hV (hrc.sub (l.toNat * sz) ((h' - l).toNat * sz) (by omega))
          · cases h
        · cases h
      case imm0 a cap =>
        split at h
        · rename_i l h' e1 e2
          split at h
          · rename_i e3
            obtain ⟨b1, b2, b3, b4⟩ := e3
            simp at b3
            have : l = 0 := by omega
            have : h' = 0 := by omega
            subst l; subst h'
            cases h
            refine OpRun.val hI (runAndThenValue (run a 0 cap 0 0 e1 e2 (by omega) (by omega) (by simp) (by omega))) ?_
            simp; exact .imm0 _ _
          · cases h
        · cases h
      case ref id off len sz' cap loc hρ hc hl =>
        split at h
        · rename_i l h' e1 e2
          split at h
          · rename_i e3
            obtain ⟨b1, b2, b3, rfl⟩ := e3
            cases h
            refine OpRun.val hI (runAndThenValue (run (some ⟨loc.b, loc.base + off, none⟩) len cap l h' e1 e2 b1 b2 b3 hl)) ?_
            have hsub : h'.toNat - l.toNat = (h' - l).toNat := by omega
            rw [hsub]
            by_cases hz : cap = l.toNat
            · have : (h' - l).toNat = 0 := by omega
              rw [this, hz, Nat.sub_self]
              exact .refE _ _ _ _
            · rw [if_neg hz]
              simp only [Option.map_some, addr_add]
              rw [Nat.add_assoc]
              have hmul : l.toNat * sz' + (cap - l.toNat) * sz' = cap * sz' := by rw [← Nat.add_mul]; congr 1; omega
              exact .ref id _ _ sz' _ loc hρ (by omega) (by omega)
          · cases h
        · cases h
      case refE id off sz' a =>
        split at h
        · rename_i l h' e1 e2
          split at h
          · rename_i e3
            obtain ⟨b1, b2, b3, rfl⟩ := e3
            simp at b3
            have : l = 0 := by omega
            have : h' = 0 := by omega
            subst l; subst h'
            cases h
            refine OpRun.val hI (runAndThenValue (run a 0 0 0 0 e1 e2 (by omega) (by omega) (by simp) (by omega))) ?_
            simp; exact .refE _ _ _ _
          · cases h
        · cases h
  · cases h

end
end Go.AX
