/- MetricNames: the law returns true whatever its arguments. -/
import Derived.Test.YtlnpmlkhbnjgnaaWalka
import Derived.Test.YtlnpmlkhbnjgnaaRows
import Derived.WalkKit
import Derived.ProofKit
import Derived.OpenShut
import Derived.JoinedCond
set_option linter.unusedVariables false
set_option linter.unusedSimpArgs false

/-! (TMP) -/

set_option linter.unusedVariables false
set_option linter.unusedSimpArgs false
namespace Go.AX.Z.TM
open Go.AX

/-! ## Costs, plainly -/

theorem alive_e : hotspotlaw38_alive = some true := by decide +kernel

def cl (x : Int) : Int := if 1099511627776 < (if x < 0 then 0 else x) then 1099511627776 else (if x < 0 then 0 else x)
theorem cl_s (x : Int) : (x < 0 ∧ cl x = 0) ∨ (0 ≤ x ∧ x ≤ 1099511627776 ∧ cl x = x) ∨ (1099511627776 < x ∧ cl x = 1099511627776) := by
  unfold cl
  split <;> split at * <;> omega
theorem cl_b (x : Int) : 0 ≤ cl x ∧ cl x ≤ 1099511627776 := by have := cl_s x; omega
def add (a b : Int) : Int := cl (cl a + cl b)
theorem add_e (a b : Int) : metric_Add a b = some (add a b) := by
  unfold metric_Add metric_Add_1
  simp only [bindS]
  have h1 := cl_b a
  have h2 := cl_b b
  rw [show (if 1099511627776 < (if a < 0 then 0 else a) then 1099511627776 else (if a < 0 then 0 else a)) = cl a from rfl, show (if 1099511627776 < (if b < 0 then 0 else b) then 1099511627776 else (if b < 0 then 0 else b)) = cl b from rfl, wrapI (by omega) (by omega)]
  rfl
theorem add_b (a b : Int) : 0 ≤ add a b ∧ add a b ≤ 1099511627776 := cl_b _
theorem add_comm' (a b : Int) : add a b = add b a := by unfold add; rw [Int.add_comm]
theorem cl_id {x : Int} (h : 0 ≤ x ∧ x ≤ 1099511627776) : cl x = x := by have := cl_s x; omega
theorem add_assoc' (a b c : Int) : add (add a b) c = add a (add b c) := by
  have ha := cl_b a
  have hb := cl_b b
  have hc := cl_b c
  unfold add
  rw [cl_id (cl_b (cl a + cl b)), cl_id (cl_b (cl b + cl c))]
  have h1 := cl_s (cl a + cl b)
  have h2 := cl_s (cl b + cl c)
  have h3 := cl_s (cl (cl a + cl b) + cl c)
  have h4 := cl_s (cl a + cl (cl b + cl c))
  omega
theorem add_mono (a : Int) {b c : Int} (h : b ≤ c) : add a b ≤ add a c := by
  have hb := cl_s b
  have hc := cl_s c
  have h3 := cl_s (cl a + cl b)
  have h4 := cl_s (cl a + cl c)
  have ha := cl_b a
  unfold add
  omega

theorem sums_e (a b c : Int) : hotspotlaw38_MetricSums a b c = some true := by
  unfold hotspotlaw38_MetricSums
  simp only [add_e, alive_e, bindS, cond_true]
  rw [show (add a b == add b a) = true by rw [add_comm' a b]; simp, cond_true, bindS, show (add (add a b) c == add a (add b c)) = true by rw [add_assoc']; simp]
  have h := add_b a b
  rw [decide_eq_true h.1, decide_eq_true h.2]
  simp only [Bool.and_self, cond_true]
  by_cases hc : c < b
  · rw [decide_eq_true hc]; rfl
  · rw [decide_eq_false hc, cond_false, decide_eq_true (add_mono a (by omega))]; rfl

theorem twelve {a : Int} (h0 : 0 ≤ a) (h1 : a ≤ 11) : a = 0 ∨ a = 1 ∨ a = 2 ∨ a = 3 ∨ a = 4 ∨ a = 5 ∨ a = 6 ∨ a = 7 ∨ a = 8 ∨ a = 9 ∨ a = 10 ∨ a = 11 := by omega

theorem shares_e (a : Int) : hotspotlaw38_MetricShares a = some true := by
  unfold hotspotlaw38_MetricShares
  rw [alive_e, bindS]
  by_cases h : 0 ≤ a ∧ a ≤ 11
  · have e : ((decide (a < 0) || decide (11 < a)) || !true) = false := by simp; omega
    rw [e, cond_false]
    rcases twelve h.1 h.2 with rfl | rfl | rfl | rfl | rfl | rfl | rfl | rfl | rfl | rfl | rfl | rfl <;> decide +kernel
  · have e : ((decide (a < 0) || decide (11 < a)) || !true) = true := by simp; omega
    rw [e]; rfl

def air (a : Int) : Int := match rate_Total a 1024 with | some r => r.1 | none => 0
theorem air_e {a : Int} (h0 : 0 ≤ a) (h1 : a ≤ 11) : rate_Total a 1024 = some (air a, 0) ∧ 136 ≤ air a ∧ air a ≤ 1452 := by
  rcases twelve h0 h1 with rfl | rfl | rfl | rfl | rfl | rfl | rfl | rfl | rfl | rfl | rfl | rfl <;> decide +kernel
theorem air_fin : ∀ r f : Fin 12, r.val ≤ f.val → air f.val ≤ air r.val := by decide +kernel
theorem air_mono {r f : Int} (h0 : 0 ≤ r) (h1 : r ≤ f) (h2 : f ≤ 11) : air f ≤ air r := by
  have := air_fin ⟨r.toNat, by omega⟩ ⟨f.toNat, by omega⟩ (by show r.toNat ≤ f.toNat; omega)
  rwa [show ((r.toNat : Nat) : Int) = r by omega, show ((f.toNat : Nat) : Int) = f by omega] at this

/-- n divided by d, rounded up. -/
def up (n d : Int) : Int := (n + d - 1) / d
theorem up_le {n d q : Int} (hd : 0 < d) (h : n ≤ q * d) : up n d ≤ q := by
  unfold up
  have : (n + d - 1) / d < q + 1 := Int.ediv_lt_of_lt_mul hd (by rw [Int.add_mul]; omega)
  omega
theorem le_up (n : Int) {d : Int} (hd : 0 < d) : n ≤ up n d * d := by
  unfold up
  have := Int.lt_ediv_add_one_mul_self (n + d - 1) hd
  rw [Int.add_mul] at this
  omega
theorem up_mono {n n' d d' : Int} (hn : n ≤ n') (hd : 0 < d') (hd' : d' ≤ d) (h0 : 0 ≤ n) : up n d ≤ up n' d' := by
  refine up_le (by omega) ?_
  have h1 := le_up n' hd
  have h2 : 0 ≤ up n' d' := by
    rcases Int.lt_or_le (up n' d') 0 with h | h
    · have : up n' d' * d' < 0 := Int.mul_neg_of_neg_of_pos h hd
      omega
    · exact h
  have h3 : up n' d' * d' ≤ up n' d' * d := Int.mul_le_mul_of_nonneg_left hd' h2
  omega
theorem up_pos {n d : Int} (hd : 0 < d) (hn : 1 ≤ n) : 1 ≤ up n d := by
  have h1 := le_up n hd
  rcases Int.lt_or_le (up n d) 1 with h | h
  · have : up n d * d ≤ 0 := Int.mul_nonpos_of_nonpos_of_nonneg (by omega) (by omega)
    omega
  · exact h

def cost (a l : Int) : Int := if l = 1000 then 1099511627776 else up (air a * 100000) (1000 - l)
theorem cost_e {a l : Int} (h0 : 0 ≤ a) (h1 : a ≤ 11) (h2 : 0 ≤ l) (h3 : l ≤ 1000) : metric_Cost a l = some (cost a l, 0) := by
  obtain ⟨e, b1, b2⟩ := air_e h0 h1
  unfold metric_Cost
  rw [e, bindS]
  have e1 : (((((0 : Int) != 0) || decide (l < 0))) || decide (1000 < l)) = false := by simp; omega
  simp only [e1, cond_false]
  rw [wrapI (i := 1000 - l) (by omega) (by omega)]
  unfold cost
  by_cases hl : l = 1000
  · subst hl; rfl
  · have e2 : ((1000 - l) == 0) = false := by
      have : 1000 - l ≠ 0 := by omega
      simpa using this
    rw [e2, cond_false, if_neg hl, chk_d (by omega), bindS]
    rw [wrapI (i := air a * 100) (by omega) (by omega), wrapI (i := air a * 100 * 1000) (by omega) (by omega), wrapI (i := air a * 100 * 1000 + (1000 - l)) (by omega) (by omega), wrapI (i := air a * 100 * 1000 + (1000 - l) - 1) (by omega) (by omega)]
    rw [Int.tdiv_eq_ediv_of_nonneg (by omega)]
    have e3 : (air a * 100 * 1000 + (1000 - l) - 1) / (1000 - l) = up (air a * 100000) (1000 - l) := by
      unfold up
      congr 1; omega
    rw [e3]
    have u1 : up (air a * 100000) (1000 - l) ≤ air a * 100000 := by
      refine up_le (by omega) ?_
      have : air a * 100000 * 1 ≤ air a * 100000 * (1000 - l) := Int.mul_le_mul_of_nonneg_left (by omega) (by omega)
      omega
    have u2 := up_pos (d := 1000 - l) (n := air a * 100000) (by omega) (by omega)
    rw [wrapI (by omega) (by omega)]

theorem cost_le {a l : Int} (h0 : 0 ≤ a) (h1 : a ≤ 11) (h2 : 0 ≤ l) (h3 : l < 1000) : up (air a * 100000) (1000 - l) ≤ 1099511627776 := by
  obtain ⟨e, b1, b2⟩ := air_e h0 h1
  have u1 : up (air a * 100000) (1000 - l) ≤ air a * 100000 := by
    refine up_le (by omega) ?_
    have : air a * 100000 * 1 ≤ air a * 100000 * (1000 - l) := Int.mul_le_mul_of_nonneg_left (by omega) (by omega)
    omega
  omega

theorem monotone_e (r f l m : Int) : hotspotlaw38_MetricMonotone r f l m = some true := by
  unfold hotspotlaw38_MetricMonotone
  rw [alive_e, bindS]
  by_cases h : 0 ≤ r ∧ r ≤ f ∧ f ≤ 11 ∧ 0 ≤ l ∧ l ≤ m ∧ m ≤ 1000
  · obtain ⟨h1, h2, h3, h4, h5, h6⟩ := h
    have e : (((((((decide (r < 0)) || (decide (f < r))) || (decide (11 < f))) || (decide (l < 0))) || (decide (m < l))) || (decide (1000 < m))) || (!true)) = false := by simp; omega
    rw [e, cond_false, cost_e h1 (by omega) h4 (by omega), bindS, cost_e h1 (by omega) (by omega) h6, bindS, cost_e (by omega) h3 h4 (by omega), bindS]
    obtain ⟨_, b1, b2⟩ := air_e h1 (show r ≤ 11 by omega)
    obtain ⟨_, c1, c2⟩ := air_e (show 0 ≤ f by omega) h3
    have am := air_mono h1 h2 h3
    have p1 : 1 ≤ cost f l := by
      unfold cost
      split
      · decide
      · exact up_pos (by omega) (by omega)
    have p2 : cost r l ≤ cost r m := by
      unfold cost
      by_cases hm : m = 1000
      · rw [if_pos hm]
        split
        · exact Int.le_refl _
        · exact cost_le h1 (by omega) h4 (by omega)
      · rw [if_neg hm, if_neg (by omega)]
        exact up_mono (Int.le_refl _) (by omega) (by omega) (by omega)
    have p3 : cost f l ≤ cost r l := by
      unfold cost
      by_cases hl : l = 1000
      · rw [if_pos hl, if_pos hl]; exact Int.le_refl _
      · rw [if_neg hl, if_neg hl]
        exact up_mono (by omega) (by omega) (Int.le_refl _) (by omega)
    simp only [decide_eq_true p1, decide_eq_true p2, decide_eq_true p3]
    rfl
  · have e : (((((((decide (r < 0)) || (decide (f < r))) || (decide (11 < f))) || (decide (l < 0))) || (decide (m < l))) || (decide (1000 < m))) || (!true)) = true := by simp; omega
    rw [e]; rfl
end Go.AX.Z.TM

/-! (TMN) -/

namespace Go.AX.Z.TM
open Go.AX
theorem names_e : hotspotlaw38_MetricNames = some true := by decide +kernel
end Go.AX.Z.TM

/-! (TMY) -/

set_option linter.unusedVariables false
namespace Go.AX.Z.TM
open Go.AX Go.Proofs

/-! ## Arguments, read -/

theorem ud3 : K.P.underlying 3 = some (.int .i64) := by kernel_rfl

end Go.AX.Z.TM

/-! (TMU) -/

/- How bulks bound what a reading holds. -/
namespace Go.Proofs.Ytlnpmlkhbnjgnaa.bulks
open Go.AX

theorem one_le {H : Type} (d : DataW H) : 1 ≤ Rows.uptoBulk d := by
  cases d with
  | lit l => cases l <;> simp [Rows.uptoBulk]
  | nil => simp [Rows.uptoBulk]
  | ptr d => simp [Rows.uptoBulk]
  | slice elems spare => simp [Rows.uptoBulk]
  | agg parts => simp [Rows.uptoBulk]
  | iface t d => simp [Rows.uptoBulk]
  | map entries => simp [Rows.uptoBulk]
  | held h => simp [Rows.uptoBulk]

theorem part_le {H : Type} {d : DataW H} {l : List (DataW H)} (h : d ∈ l) : Rows.uptoBulk d ≤ Rows.uptoBulkAll l := by
  induction l with
  | nil => cases h
  | cons x r ih =>
    simp only [Rows.uptoBulkAll]
    cases List.mem_cons.1 h with
    | inl e => subst e; omega
    | inr e => have := ih e; omega

theorem length_le {H : Type} (l : List (DataW H)) : l.length ≤ Rows.uptoBulkAll l := by
  induction l with
  | nil => simp [Rows.uptoBulkAll]
  | cons x r ih => have := one_le x; simp only [Rows.uptoBulkAll, List.length_cons]; omega

theorem bulk {H : Type} : Bulk (H := H) Rows.uptoBulk where
  ptr d := by simp [Rows.uptoBulk]
  elems es sp d h := by have := part_le h; simp only [Rows.uptoBulk]; omega
  len es sp := by have := length_le es; simp only [Rows.uptoBulk]; omega
  agg ds d h := by have := part_le h; simp only [Rows.uptoBulk]; omega
  str bs := by simp [Rows.uptoBulk]

theorem bound {H : Type} {l : List (DataW H)} (hk : Rows.uptoSmall H l = true) : Rows.uptoBulkAll l ≤ 1048576 := by
  have := of_decide_eq_true hk
  exact this

end Go.Proofs.Ytlnpmlkhbnjgnaa.bulks

/-! (TMTMetricNames) -/

/- MetricNames: the law returns true whatever its arguments. -/
namespace Go.Proofs.Ytlnpmlkhbnjgnaa.metricNames
open Go.ChangeShapes Go.WideShapes Go.ChangeAt Go.RowKit Go.AX Go.AX.Z Go.AX.Z.TM

theorem own : ownKnob Try.prog.godebug = none := by kernel_rfl
theorem laid : laidOutB K.P = true := by kernel_rfl
theorem par : parB K.P Try.f9.params.toList = true := by kernel_rfl

theorem law (B : Nat) (xs : List AV) (h : TyArgs K.P B Try.f9.params.toList xs) : SndP K 9 xs (.v (.bool true)) := by
  have h' : TyArgs K.P B [] xs := h
  obtain ⟨rfl⟩ := h'
  exact hotspotlaw38_MetricNames_p  (names_e)

set_option maxRecDepth 100000 in
theorem lifted (os : Os) (started : os.Started) (H : Type) (enc : TypeId × Value → H) :
    ReturnsInHanded {} Try.checked os 9 .any (Rows.metricNamesSpec.pre6 enc Try.prog Try.f9 Rows.metricNamesRow.domain false) (Rows.metricNamesSpec.post enc Try.prog Try.f9 false true false false) := by
  refine returnsInHanded_of_change (C := Try.checked) own started (by kernel_rfl) Try.func9
    (ChangeSpec.witness6 (enc := enc) (C := Try.checked) false ⟨#[], #[], []⟩ 8 (by kernel_rfl) (by kernel_rfl) (by kernel_rfl) (by kernel_rfl)) ?_
  intro W base args ds gs before hval hW hcnd _
  exact law_contract (C := K) (f := 9) ⟨Try.f9, Try.func9, rfl, by decide +kernel⟩ (fn := Try.f9) (tb := 4) (B := Rows.uptoBulkAll ds) (bk := Rows.uptoBulk) rfl laid par rfl Try.underlying4 (law _) rfl
    (fun ds hds => by match ds, hds with | [], _ => rfl) bulks.bulk hval hW (fun d hd => bulks.part_le hd)

theorem over : Rows.MetricNamesSaid :=
  OpenClaim.holds_of_wide 9 Try.f9 rfl rfl rfl rfl rfl rfl rfl ⟨rfl, rfl, rfl, rfl, rfl⟩ rfl rfl rfl rfl rfl (by kernel_rfl) Try.func9 (by kernel_rfl)
    (of_decide_eq_true (by kernel_rfl)) (by unfold Func.isWrapper; first | (rw [if_pos (by decide +kernel)]; kernel_rfl) | (rw [if_neg (by decide +kernel)]; exact ⟨rfl, rfl⟩))
    (fun os started H enc _ => lifted os started H enc)

end Go.Proofs.Ytlnpmlkhbnjgnaa.metricNames
