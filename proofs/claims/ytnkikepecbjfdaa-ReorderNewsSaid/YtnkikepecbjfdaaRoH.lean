/- A part of the proof: RoH. -/
import Derived.Test.YtnkikepecbjfdaaRoF
import Derived.ChangeKeysEq
namespace Go.AX.RO
open Go.Proofs

theorem stood25 : K.P.stoodInHeld 25 = false := by kernel_rfl
theorem g25 : K.P.eqGuardType K.P.depth 25 = false := by kernel_rfl
theorem mixed : K.P.follows .mixedOrders = true := by kernel_rfl
theorem u3 : K.P.underlying 3 = some (.int .i64) := by kernel_rfl
theorem u23 : K.P.underlying 23 = some (.int .u64) := by kernel_rfl
theorem eq25 (a b a' b' : Int) (w : World) : (Op.equal 25 (.agg #[.int .i64 a, .int .u64 b]) (.agg #[.int .i64 a', .int .u64 b'])).run K.P w = .ok (a == a' && b == b') w := by
  have hu : K.P.underlying 25 = some _ := Try.underlying25
  unfold Op.equal Op.maxDepth Op.equalIn
  simp [run_underlying hu, stood25, part, isAgg, run_underlying u3, run_underlying u23, run_equalIn_int _ _ _ _ _ _ _ u3, run_equalIn_int _ _ _ _ _ _ _ u23]
  by_cases h1 : a = a' <;> by_cases h2 : b = b' <;> simp [h1, h2]

theorem hC : COk K := by
  refine ⟨?_, mixed⟩
  intro t ks h
  have : t = 25 ∧ ks = [some .i64, some .u64] := by
    simp only [K] at h
    unfold eqk at h
    split at h
    · cases h; exact ⟨rfl, rfl⟩
    · cases h
  obtain ⟨rfl, rfl⟩ := this
  refine ⟨g25, fun xs ys hx hy w => ?_⟩
  have key : ∀ xs : List AV, kindsOk [some .i64, some .u64] xs = true → ∃ a b, xs = [.v (.int .i64 a), .v (.int .u64 b)] := by
    intro xs h
    obtain ⟨x, r, rfl, h1, h2⟩ := kindsOk_cons h
    obtain ⟨y, r', rfl, h3, h4⟩ := kindsOk_cons h2
    obtain ⟨a, rfl⟩ := kindOk_int h1
    obtain ⟨b, rfl⟩ := kindOk_int h3
    rw [kindsOk_nil h4]
    exact ⟨a, b, rfl⟩
  obtain ⟨a, b, rfl⟩ := key xs hx
  obtain ⟨a', b', rfl⟩ := key ys hy
  have := eq25 a b a' b' w
  simpa [valOf, eqCells, eqv] using this

end Go.AX.RO
