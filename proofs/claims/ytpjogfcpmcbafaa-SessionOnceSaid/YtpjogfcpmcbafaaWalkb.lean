/- A part of the proof: walks through the functions that the statement reaches. -/
import Derived.Test.YtpjogfcpmcbafaaWalka
set_option linter.unusedVariables false
set_option linter.unusedSimpArgs false

/-! (walks) -/

set_option linter.unusedSimpArgs false
set_option linter.unusedVariables false
set_option maxHeartbeats 4000000
set_option maxRecDepth 20000
namespace Go.AX.Z.TN
open Go.AX Go.Proofs
attribute [local irreducible] awp xw xop kf gsp ob xd gI jp kJ mj jX xo
attribute [local go_sem ↓] zk Bw yI vd
attribute [local go_sem] Nat.reduceAdd
theorem dL (a0 : Int) (a1 : List HeldSeq) (a2 : List HeldSeq) {r : (List HeldSeq)} (h0 : cq a0 a1 a2 = some r) : cP K 67 2 (fun q => [(.ref (q 0) 0 a1.length 42), (vi a0), (.ref (q 1) 0 a2.length 42)]) [(fun q => (List.flatMap ai a1)), (fun q => (List.flatMap ai a2))] (fun q => (.ref (q 2) 0 r.length 42)) [none, (some (fun q => (List.flatMap ai a2))), (some (fun q => (List.flatMap ai r)))] := by
 refine cP.of_walkW hC (RenML.cons (aF.ref 0 0 _ _) (RenML.cons rv (RenML.cons (aF.ref 1 0 _ _) RenML.nil))) (aK (RenML.const (au _)) (aK (RenML.const (au _)) dW)) (ez (aD (RenML.const (au _)) (aD (RenML.const (au _)) dg))) (aF.ref 2 0 _ _) rfl (qB2 rfl) (show K.P.funcs[67]? = some Try.f67 from Try.func67) rfl rfl (by decide +kernel) (qB2 rfl) ?_; unfold cq at h0; refine aa [0,1,2] fun tz U u => ?_; (try simp only [go_sem]); refine qU u ?_; clear u U; refine aa [0,1,2] fun tz U u => ?_; obtain ⟨x81, bx81, h0⟩ := bnd h0; have bx81 := bQ bx81; simp only [Bool.and_eq_true, decide_eq_true_eq] at bx81; obtain ⟨gx81_0, gx81_1⟩ := bx81; (have g1 : (((a1.length : Nat) : Int) - a0).toNat = a1.length - (a0).toNat := by omega); (try simp only [go_sem, gx81_0, gx81_1, g1]); refine qU u ?_; clear u U; refine aa [0,1,2] fun tz U u => ?_; (try simp only [go_sem]); refine qU u ?_; clear u U; refine aj ?_; refine aa [0,1,2,7] fun tz U u => ?_; (try simp only [go_sem]); refine qU u ?_; clear u U; refine aN (b := (((a2.length : Nat) : Int) == 0)) rfl (fun h2 => ?_) (fun h2 => ?_)
 ·
  have h0 := cT h0 h2; refine aj ?_; refine aa [0] fun tz U u => ?_; (try simp only [go_sem]); refine qU u ?_; clear u U; refine bB ?_; obtain rfl := ak h0; refine aH ?_; refine ax Ft (rfl) ?_; refine dt.mk [] [some 0, some 1, some 0] rfl (gS (aS qM rfl (TmL.of_eq qL (au _)) (aS qM rfl (TmL.of_eq qL (au _)) en))) tr; (all_goals exact qN)
 ·
  have h0 := cF h0 h2; refine aO ?_; refine aa [0,1,2,7] fun tz U u => ?_; (try simp only [go_sem]); refine qU u ?_; clear u U; refine aj ?_; refine aa [0,1,2,7,8] fun tz U u => ?_; (try simp only [go_sem]); refine qU u ?_; clear u U; refine aN (b := (a0 == ((a1.length : Nat) : Int))) rfl (fun h3 => ?_) (fun h3 => ?_)
  ·
   have h0 := cT h0 h3; refine aj ?_; refine aa [0,2] fun tz U u => ?_; obtain ⟨x82, bx82, h0⟩ := bnd h0; have bx82 := bQ bx82; simp only [Bool.and_eq_true, decide_eq_true_eq] at bx82; have gx82_0 := bx82; (try simp only [go_sem, gx82_0]); refine qU u ?_; clear u U; refine bB ?_; obtain rfl := ak h0; refine aH ?_; refine ax Ft (rfl) ?_; refine dt.mk [] [some 0, some 1, some 19] rfl (gS (aS qM rfl (TmL.of_eq qL (au _)) (aS qM rfl (TmL.of_eq qL (au _)) en))) tr; (all_goals exact qN)
  ·
   have h0 := cF h0 h3; refine aO ?_; refine aj ?_; refine aa [0,1,2,7,8] fun tz U u => ?_; cases h0

theorem ge (a0 : Int) (a1 : List HeldSeq) (a2 : List HeldSeq) {r : (List HeldSeq)} (h0 : bR a0 a1 a2 = some r) : cP K 67 2 (fun q => [(.ref (q 0) 0 a1.length 42), (vi a0), (.ref (q 1) 0 a2.length 42)]) [(fun q => (List.flatMap ai a1)), (fun q => (List.flatMap ai a2))] (fun q => (.ref (q 2) 0 ((r).length) 42)) [none, (some (fun q => (List.flatMap ai a2))), (some (fun q => (List.flatMap ai r)))] := by
 unfold bR at h0; obtain ⟨x13, bx13, h0⟩ := bnd h0; have bx13' := bx13; have bx13 := bQ bx13; simp only [Bool.and_eq_true, decide_eq_true_eq] at bx13; obtain ⟨gx13_0, gx13_1⟩ := bx13; have bx13' := bx13'; obtain ⟨i, rfl⟩ : ∃ i : Nat, a0 = (i : Int) := ⟨a0.toNat, by omega⟩; rcases bE (((a2.length : Nat) : Int) == 0) with h2 | h2
 ·
  exact dL _ _ _ (by unfold cq; simp only [bx13', Option.bind_some, h2, cond_true]; exact cT h0 h2)
 have h0 := cF h0 h2; rcases bE (((i : Nat) : Int) == ((a1.length : Nat) : Int)) with h3 | h3
 ·
  exact dL _ _ _ (by unfold cq; simp only [bx13', Option.bind_some, h2, cond_false, h3, cond_true]; exact cT h0 h3)
 have h0 := cF h0 h3; obtain ⟨x15, bx15, h0⟩ := bnd h0; have bx15 := bQ bx15; simp only [Bool.and_eq_true, decide_eq_true_eq] at bx15; obtain ⟨hm, hb⟩ := bx15; obtain rfl := ak h0; (have hne : (i : Int) ≠ (a1.length : Int) := by simpa using h3); (have hlt : i < a1.length := by omega); simp only [Int.toNat_natCast]; refine cP.of_walkC hC (RenML.cons (aF.ref 0 0 _ _) (RenML.cons rv (RenML.cons (aF.ref 1 0 _ _) RenML.nil))) (aK (RenML.const (au _)) (aK (RenML.const (au _)) dW)) (ez (aD (RenML.const (au _)) (aD (RenML.const (au _)) dg))) (aF.ref 2 0 _ _) rfl (qB2 rfl) (show K.P.funcs[67]? = some Try.f67 from Try.func67) rfl rfl (by decide +kernel) (qB2 rfl) rfl (by omega) fun cap hcap => ?_; have g0 : (0 ≤ (i : Int)) = True := eq_true (by omega); have g1 : ((i : Int) ≤ (a1.length : Int)) = True := eq_true (by omega); have g2 : ((a1.length : Int) ≤ (cap : Int)) = True := eq_true (by omega); have g3 : ((i : Int) < (cap : Int)) = True := eq_true (by omega); (have hw1 : IntKind.wrap .i64 ((a1.length : Int) + 1) = (a1.length : Int) + 1 := by rw [IntKind.wrap_i64]; omega); (have hw2 : IntKind.wrap .i64 ((a1.length : Int) + 1 - (i : Int)) = (a1.length : Int) + 1 - (i : Int) := by rw [IntKind.wrap_i64]; omega); have hLr : ∀ l : List HeldSeq, (List.flatMap ai l).length = l.length * 42 := fun l => fZ l; (repeat refine aj ?_); refine aa [0,1,2] fun tz U u => ?_; (try simp only [go_sem, Nat.reduceEqDiff, reduceIte, Nat.reduceMul, Nat.reduceSub, Nat.reduceLT, Nat.reduceLeDiff, Int.reduceToNat, Int.reduceBEq, Int.reduceBNe, Int.reduceLT, Int.reduceLE, Int.reduceAdd, Int.reduceSub, Int.reduceMul, Int.reduceNeg, Int.reduceEq, Int.reduceNe, g0, g1, g2, g3, hm, hLr, Int.sub_zero, Int.toNat_natCast, Nat.sub_zero]); refine qU u ?_; clear u U; (repeat refine aj ?_); refine aa [0,1,2] fun tz U u => ?_; (try simp only [go_sem, Nat.reduceEqDiff, reduceIte, Nat.reduceMul, Nat.reduceSub, Nat.reduceLT, Nat.reduceLeDiff, Int.reduceToNat, Int.reduceBEq, Int.reduceBNe, Int.reduceLT, Int.reduceLE, Int.reduceAdd, Int.reduceSub, Int.reduceMul, Int.reduceNeg, Int.reduceEq, Int.reduceNe, g0, g1, g2, g3, hm, hLr, Int.sub_zero, Int.toNat_natCast, Nat.sub_zero]); refine qU u ?_; clear u U; (repeat refine aj ?_); refine aa [0,1,2] fun tz U u => ?_; (try simp only [go_sem, Nat.reduceEqDiff, reduceIte, Nat.reduceMul, Nat.reduceSub, Nat.reduceLT, Nat.reduceLeDiff, Int.reduceToNat, Int.reduceBEq, Int.reduceBNe, Int.reduceLT, Int.reduceLE, Int.reduceAdd, Int.reduceSub, Int.reduceMul, Int.reduceNeg, Int.reduceEq, Int.reduceNe, g0, g1, g2, g3, hm, hLr, Int.sub_zero, Int.toNat_natCast, Nat.sub_zero]); refine qU u ?_; clear u U; refine aj ?_; (repeat refine aj ?_); refine aa [0,1,2,7] fun tz U u => ?_; (try simp only [go_sem, Nat.reduceEqDiff, reduceIte, Nat.reduceMul, Nat.reduceSub, Nat.reduceLT, Nat.reduceLeDiff, Int.reduceToNat, Int.reduceBEq, Int.reduceBNe, Int.reduceLT, Int.reduceLE, Int.reduceAdd, Int.reduceSub, Int.reduceMul, Int.reduceNeg, Int.reduceEq, Int.reduceNe, g0, g1, g2, g3, hm, hLr, Int.sub_zero, Int.toNat_natCast, Nat.sub_zero]); refine qU u ?_; clear u U; refine aN (b := false) rfl (fun h => by cases h) (fun _ => ?_); refine aO ?_; (repeat refine aj ?_); refine aa [0,1,2,7] fun tz U u => ?_; (try simp only [go_sem, Nat.reduceEqDiff, reduceIte, Nat.reduceMul, Nat.reduceSub, Nat.reduceLT, Nat.reduceLeDiff, Int.reduceToNat, Int.reduceBEq, Int.reduceBNe, Int.reduceLT, Int.reduceLE, Int.reduceAdd, Int.reduceSub, Int.reduceMul, Int.reduceNeg, Int.reduceEq, Int.reduceNe, g0, g1, g2, g3, hm, hLr, Int.sub_zero, Int.toNat_natCast, Nat.sub_zero]); refine qU u ?_; clear u U; refine aj ?_; (repeat refine aj ?_); refine aa [0,1,2,7,8] fun tz U u => ?_; (try simp only [go_sem, Nat.reduceEqDiff, reduceIte, Nat.reduceMul, Nat.reduceSub, Nat.reduceLT, Nat.reduceLeDiff, Int.reduceToNat, Int.reduceBEq, Int.reduceBNe, Int.reduceLT, Int.reduceLE, Int.reduceAdd, Int.reduceSub, Int.reduceMul, Int.reduceNeg, Int.reduceEq, Int.reduceNe, g0, g1, g2, g3, hm, hLr, Int.sub_zero, Int.toNat_natCast, Nat.sub_zero]); refine qU u ?_; clear u U; refine aN (b := (((i : Nat) : Int) == ((a1.length : Nat) : Int))) rfl (fun h => absurd h (by simp only [beq_iff_eq]; omega)) (fun _ => ?_); refine aO ?_; refine aj ?_; (repeat refine aj ?_); refine aa [0,1,2,7,8] fun tz U u => ?_; (try simp only [go_sem, Nat.reduceEqDiff, reduceIte, Nat.reduceMul, Nat.reduceSub, Nat.reduceLT, Nat.reduceLeDiff, Int.reduceToNat, Int.reduceBEq, Int.reduceBNe, Int.reduceLT, Int.reduceLE, Int.reduceAdd, Int.reduceSub, Int.reduceMul, Int.reduceNeg, Int.reduceEq, Int.reduceNe, g0, g1, g2, g3, hm, hLr, Int.sub_zero, Int.toNat_natCast, Nat.sub_zero, hw1]); refine qU u ?_; clear u U; refine aN (b := decide ((cap : Int) < (a1.length : Int) + 1)) rfl (fun h3 => ?_) (fun h3 => ?_)
 ·
  have h3 := of_decide_eq_true h3; refine aj ?_; (have elI : elS K.P 3 = none := by kernel_rfl); (have e1 : ((i : Int) + ((a1.length : Int) + 1 - (i : Int))) = (a1.length : Int) + 1 := by omega); (have e2 : ((a1.length : Int) + 1 - (i : Int)).toNat = a1.length + 1 - i := by omega); (have e3 : (i + (a1.length + 1 - i)) = a1.length + 1 := by omega); have e4 : (0 < (a1.length : Int) + 1 - (i : Int)) = True := eq_true (by omega); have e5 : ((a1.length : Int) + 1 - (i : Int) < 9223372036854775808) = True := eq_true (by omega); have e6 : ((cap : Int) < (a1.length : Int) + 1) = True := eq_true h3; have e7 : (((a1.length : Int) + 1) * 112 ≤ 140737488355328) = True := eq_true (by omega); have e8 : (i * 42 ≤ a1.length * 42) = True := eq_true (by omega); have e9 : ((i : Int) ≤ (cap : Int)) = True := eq_true (by omega); have e10 : ((0 : Int) < (cap : Int)) = True := eq_true (by omega); obtain ⟨c0, hc0⟩ : ∃ c, c = (List.flatMap ai (List.take i a1)) ++ rep (a1.length + 1 - i) (bU HeldSeq.z cJ) := ⟨_, rfl⟩; (have hl0 : c0.length = (a1.length + 1) * 42 := by rw [hc0, List.length_append, hLr, List.length_take, dK]; rw [l5]; omega); (repeat refine aj ?_); refine aa [0,1,2,7,8] fun tz U u => ?_; (try simp only [go_sem, Nat.reduceEqDiff, reduceIte, Nat.reduceMul, Nat.reduceSub, Nat.reduceLT, Nat.reduceLeDiff, Int.reduceToNat, Int.reduceBEq, Int.reduceBNe, Int.reduceLT, Int.reduceLE, Int.reduceAdd, Int.reduceSub, Int.reduceMul, Int.reduceNeg, Int.reduceEq, Int.reduceNe, g0, g1, g2, g3, hm, hLr, Int.sub_zero, Int.toNat_natCast, Nat.sub_zero, hw1, hw2, e1, e2, e3, e4, e5, e6, e7, e8, e9, e10, elI, ← hc0]); refine qU u ?_; clear u U; have f1 : ((i : Int) ≤ ((a1.length + 1 : Nat) : Int)) = True := eq_true (by omega); (have f2 : (((a1.length + 1 : Nat) : Int) - (i : Int)).toNat = a1.length + 1 - i := by omega); (have s2 : cg (List.flatMap ai a2) 0 42 = some (List.flatMap ai a2) := by unfold cg; rw [if_pos (by rw [hLr, hm]; omega), List.drop_zero, List.take_of_length_le (by rw [hLr, hm]; omega)]); have t2 : List.take 42 (List.flatMap ai a2) = (List.flatMap ai a2) := List.take_of_length_le (by rw [hLr, hm]; omega); (have m1 : min 1 (a1.length + 1 - i) = 1 := by omega); have q1 : (i * 42 + 42 ≤ c0.length) = True := eq_true (by rw [hl0]; omega); obtain ⟨c1, hc1⟩ : ∃ c, c = cC c0 (i * 42) (List.flatMap ai a2) := ⟨_, rfl⟩; (have hl1 : c1.length = (a1.length + 1) * 42 := by rw [hc1, eF, hl0]); (repeat refine aj ?_); refine aa [0,1,2,7,8,9] fun tz U u => ?_; (try simp only [go_sem, Nat.reduceEqDiff, reduceIte, Nat.reduceMul, Nat.reduceSub, Nat.reduceLT, Nat.reduceLeDiff, Int.reduceToNat, Int.reduceBEq, Int.reduceBNe, Int.reduceLT, Int.reduceLE, Int.reduceAdd, Int.reduceSub, Int.reduceMul, Int.reduceNeg, Int.reduceEq, Int.reduceNe, g0, g1, g2, g3, hm, hLr, Int.sub_zero, Int.toNat_natCast, Nat.sub_zero, f1, f2, s2, t2, m1, q1, ← hc1]); refine qU u ?_; clear u U; have f3 : ((i : Int) + 1 ≤ ((a1.length + 1 : Nat) : Int)) = True := eq_true (by omega); (have f4 : (((a1.length + 1 : Nat) : Int) - ((i : Int) + 1)).toNat = a1.length - i := by omega); (have f5 : ((i : Int) + 1).toNat = i + 1 := by omega); (have f6 : ((a1.length : Int) - (i : Int)).toNat = a1.length - i := by omega); have f7 : (0 ≤ (i : Int) + 1) = True := eq_true (by omega); (have hw3 : IntKind.wrap .i64 ((i : Int) + 1) = (i : Int) + 1 := by rw [IntKind.wrap_i64]; omega); have s3 : cg (List.flatMap ai a1) (i * 42) ((a1.length - i) * 42) = some (List.flatMap ai (List.drop i a1)) := xH cZ a1 i (by omega); have t3 : List.take ((a1.length - i) * 42) (List.flatMap ai (List.drop i a1)) = (List.flatMap ai (List.drop i a1)) := List.take_of_length_le (by rw [hLr, List.length_drop]; exact Nat.le_refl _); have q2 : ((i + 1) * 42 + (a1.length - i) * 42 ≤ c1.length) = True := eq_true (by rw [hl1]; omega); have m2 : min (a1.length - i) (a1.length - i) = a1.length - i := Nat.min_self _
  have hfin : cC c1 ((i + 1) * 42) (List.flatMap ai (List.drop i a1)) = (List.flatMap ai (List.take i a1 ++ a2 ++ List.drop i a1)) := by
   have := Ez (fun l => (List.flatMap ai l)) 42 (fun l => fZ l) (fun x y => List.flatMap_append) a1 a2 i hm hlt (bU HeldSeq.z cJ) (by rw [l5]); rw [hc1, hc0]; simpa using this
  (repeat refine aj ?_); refine d8 [0,1,2,7,8,9] (fun _ => rfl) fun tz => ?_; refine ct fun U u all hall => ?_; refine cu ?_; (try simp only [go_sem, Nat.reduceEqDiff, reduceIte, Nat.reduceMul, Nat.reduceSub, Nat.reduceLT, Nat.reduceLeDiff, Int.reduceToNat, Int.reduceBEq, Int.reduceBNe, Int.reduceLT, Int.reduceLE, Int.reduceAdd, Int.reduceSub, Int.reduceMul, Int.reduceNeg, Int.reduceEq, Int.reduceNe, g0, g1, g2, g3, hm, hLr, Int.sub_zero, Int.toNat_natCast, Nat.sub_zero, f3, f4, f5, f6, f7, hw3, s3, t3, q2, m2, hfin]); refine And.intro ?_ (u _ _ (Wk.refl _ _ _) ?_)
  ·
   subst hall; clear u U; (first | (simp [bS, gh, ek, kg]; done) | (simp [bS, gh, ek, kg]; decide +kernel) | decide +kernel)
  ·
   clear u U hall all; (repeat refine aj ?_); refine aa [0,1,2,7,8,9] fun tz U u => ?_; (try simp only [go_sem, Nat.reduceEqDiff, reduceIte, Nat.reduceMul, Nat.reduceSub, Nat.reduceLT, Nat.reduceLeDiff, Int.reduceToNat, Int.reduceBEq, Int.reduceBNe, Int.reduceLT, Int.reduceLE, Int.reduceAdd, Int.reduceSub, Int.reduceMul, Int.reduceNeg, Int.reduceEq, Int.reduceNe, g0, g1, g2, g3, hm, hLr, Int.sub_zero, Int.toNat_natCast, Nat.sub_zero]); refine qU u ?_; clear u U; (repeat refine aj ?_); refine bB ?_; refine aH ?_; refine ax Ft (rfl) ?_; refine dt.mk [] [some 0, some 1, some 31] rfl (gS (aS qM (by simp only [eC, Nat.reduceEqDiff, reduceIte, Nat.reduceMul, Nat.reduceSub, Nat.reduceLT, Nat.reduceLeDiff, Int.reduceToNat, Int.reduceBEq, Int.reduceBNe, Int.reduceLT, Int.reduceLE, Int.reduceAdd, Int.reduceSub, Int.reduceMul, Int.reduceNeg, Int.reduceEq, Int.reduceNe, Nat.reduceAdd, if_true, if_false] <;> rfl) (TmL.of_eq rfl (au _)) (aS qM (by simp only [eC, Nat.reduceEqDiff, reduceIte, Nat.reduceMul, Nat.reduceSub, Nat.reduceLT, Nat.reduceLeDiff, Int.reduceToNat, Int.reduceBEq, Int.reduceBNe, Int.reduceLT, Int.reduceLE, Int.reduceAdd, Int.reduceSub, Int.reduceMul, Int.reduceNeg, Int.reduceEq, Int.reduceNe, Nat.reduceAdd, if_true, if_false] <;> rfl) (TmL.of_eq rfl (au _)) en))) tr; (all_goals (first | rfl | (simp only [List.length_append, List.length_take, List.length_drop, hm]; omega)))
 ·
  have h3 := of_decide_eq_false h3; refine aO ?_; have k0 : (0 ≤ (a1.length : Int) + 1) = True := eq_true (by omega); have k1 : ((a1.length : Int) + 1 ≤ (cap : Int)) = True := eq_true (by omega); have k2 : ((0 : Int) < (cap : Int)) = True := eq_true (by omega); (have k3 : ((a1.length : Int) + 1).toNat = a1.length + 1 := by omega); (repeat refine aj ?_); refine aa [0,1,2,7,8] fun tz U u => ?_; (try simp only [go_sem, Nat.reduceEqDiff, reduceIte, Nat.reduceMul, Nat.reduceSub, Nat.reduceLT, Nat.reduceLeDiff, Int.reduceToNat, Int.reduceBEq, Int.reduceBNe, Int.reduceLT, Int.reduceLE, Int.reduceAdd, Int.reduceSub, Int.reduceMul, Int.reduceNeg, Int.reduceEq, Int.reduceNe, g0, g1, g2, g3, hm, hLr, Int.sub_zero, Int.toNat_natCast, Nat.sub_zero, hw1, k0, k1, k2, k3]); refine qU u ?_; clear u U; have f3 : ((i : Int) + 1 ≤ ((a1.length + 1 : Nat) : Int)) = True := eq_true (by omega); (have f4 : (((a1.length + 1 : Nat) : Int) - ((i : Int) + 1)).toNat = a1.length - i := by omega); (have f5 : ((i : Int) + 1).toNat = i + 1 := by omega); (have f6 : (((a1.length + 1 : Nat) : Int) - (i : Int)).toNat = a1.length + 1 - i := by omega); have f7 : (0 ≤ (i : Int) + 1) = True := eq_true (by omega); have f8 : ((i : Int) + 1 < (cap : Int)) = True := eq_true (by omega); have f9 : (((a1.length + 1 : Nat) : Int) ≤ (cap : Int)) = True := eq_true (by omega); have f1 : ((i : Int) ≤ ((a1.length + 1 : Nat) : Int)) = True := eq_true (by omega); (have hw3 : IntKind.wrap .i64 ((i : Int) + 1) = (i : Int) + 1 := by rw [IntKind.wrap_i64]; omega); (repeat refine aj ?_); refine aa [0,1,2,7,8] fun tz U u => ?_; (try simp only [go_sem, Nat.reduceEqDiff, reduceIte, Nat.reduceMul, Nat.reduceSub, Nat.reduceLT, Nat.reduceLeDiff, Int.reduceToNat, Int.reduceBEq, Int.reduceBNe, Int.reduceLT, Int.reduceLE, Int.reduceAdd, Int.reduceSub, Int.reduceMul, Int.reduceNeg, Int.reduceEq, Int.reduceNe, g0, g1, g2, g3, hm, hLr, Int.sub_zero, Int.toNat_natCast, Nat.sub_zero, f3, f4, f5, f6, f7, f8, f9, hw3]); refine uF (vm (tS := 46) (tR := 4) (show K.P.funcs[78]? = some Try.f78 from Try.func78) rfl rfl rfl (by kernel_rfl) (ej Ke) GW (by omega) (by simp only [eC, Nat.reduceEqDiff, reduceIte]; rfl) (by simp only [eC, Nat.reduceEqDiff, reduceIte]; rfl) (by decide) (by omega) (by omega)) ?_; rintro r hs ⟨rfl, rfl⟩; refine ap ?_; (try simp only [go_sem, Nat.reduceEqDiff, reduceIte, Nat.reduceMul, Nat.reduceSub, Nat.reduceLT, Nat.reduceLeDiff, Int.reduceToNat, Int.reduceBEq, Int.reduceBNe, Int.reduceLT, Int.reduceLE, Int.reduceAdd, Int.reduceSub, Int.reduceMul, Int.reduceNeg, Int.reduceEq, Int.reduceNe, g0, g1, g2, g3, hm, hLr, Int.sub_zero, Int.toNat_natCast, Nat.sub_zero]); refine qU u ?_; clear u U; (repeat refine aj ?_); refine aN (b := true) rfl (fun _ => ?_) (fun h => by cases h); obtain ⟨c1, hc1⟩ : ∃ c, c = (List.flatMap ai (List.take (i + 1) a1 ++ List.drop i a1)) ++ List.drop ((i + 1) * 42 + (a1.length - i) * 42) (List.flatMap ai a1) := ⟨_, rfl⟩; obtain ⟨hl1, hfin⟩ := EG (fun l => (List.flatMap ai l)) 42 (fun l => fZ l) (fun x y => List.flatMap_append) (fun x n => iT cZ x n) a1 a2 i hlt (c1 := c1) (by rw [hc1, List.flatMap_append, iT cZ]); (try simp only [Nat.mul_one] at hfin hl1); have s3 : cg (List.flatMap ai a1) (i * 42) ((a1.length - i) * 42) = some (List.flatMap ai (List.drop i a1)) := xH cZ a1 i (by omega); (have m2 : min (a1.length + 1 - i) (a1.length - i) = a1.length - i := by omega); have q2 : ((i + 1) * 42 ≤ a1.length * 42) = True := eq_true (by omega); (have s9 : cg (List.flatMap ai a1) (i * 42) ((a1.length + 1 - i) * 42) = none := by unfold cg; rw [if_neg]; rw [hLr]; omega); (repeat refine aj ?_); refine d8 [0,1,2,7,8] (fun _ => rfl) fun tz => ?_; refine ct fun U u all hall => ?_; refine cu ?_; (try simp only [go_sem, Nat.reduceEqDiff, reduceIte, Nat.reduceMul, Nat.reduceSub, Nat.reduceLT, Nat.reduceLeDiff, Int.reduceToNat, Int.reduceBEq, Int.reduceBNe, Int.reduceLT, Int.reduceLE, Int.reduceAdd, Int.reduceSub, Int.reduceMul, Int.reduceNeg, Int.reduceEq, Int.reduceNe, g0, g1, g2, g3, hm, hLr, Int.sub_zero, Int.toNat_natCast, Nat.sub_zero, f1, f3, f4, f5, f6, f7, f8, f9, hw3, s3, s9, m2, q2, ← hc1]); refine And.intro ?_ (u _ _ (Wk.refl _ _ _) ?_)
  ·
   subst hall; clear u U; (first | (simp [bS, gh, ek, kg]; done) | (simp [bS, gh, ek, kg]; decide +kernel) | decide +kernel)
  ·
   clear u U hall all; (have s2 : cg (List.flatMap ai a2) 0 42 = some (List.flatMap ai a2) := by unfold cg; rw [if_pos (by rw [hLr, hm]; omega), List.drop_zero, List.take_of_length_le (by rw [hLr, hm]; omega)]); have t2 : List.take 42 (List.flatMap ai a2) = (List.flatMap ai a2) := List.take_of_length_le (by rw [hLr, hm]; omega); (have m1 : min 1 (a1.length + 1 - i) = 1 := by omega); have q1 : (i * 42 ≤ c1.length) = True := eq_true (by rw [hl1]; omega); (repeat refine aj ?_); refine aa [0,1,2,7,8] fun tz U u => ?_; (try simp only [go_sem, Nat.reduceEqDiff, reduceIte, Nat.reduceMul, Nat.reduceSub, Nat.reduceLT, Nat.reduceLeDiff, Int.reduceToNat, Int.reduceBEq, Int.reduceBNe, Int.reduceLT, Int.reduceLE, Int.reduceAdd, Int.reduceSub, Int.reduceMul, Int.reduceNeg, Int.reduceEq, Int.reduceNe, g0, g1, g2, g3, hm, hLr, Int.sub_zero, Int.toNat_natCast, Nat.sub_zero, f1, f6, f7, f9, s2, t2, m1, q1, hfin]); refine qU u ?_; clear u U; (repeat refine aj ?_); refine aa [0,1,2,7,8] fun tz U u => ?_; (try simp only [go_sem, Nat.reduceEqDiff, reduceIte, Nat.reduceMul, Nat.reduceSub, Nat.reduceLT, Nat.reduceLeDiff, Int.reduceToNat, Int.reduceBEq, Int.reduceBNe, Int.reduceLT, Int.reduceLE, Int.reduceAdd, Int.reduceSub, Int.reduceMul, Int.reduceNeg, Int.reduceEq, Int.reduceNe, g0, g1, g2, g3, hm, hLr, Int.sub_zero, Int.toNat_natCast, Nat.sub_zero]); refine u _ _ (Wk.cap 6 (by simp only [eC, Nat.reduceEqDiff, reduceIte]; rfl)) ?_; clear u U; (repeat refine aj ?_); refine bB ?_; refine aH ?_; refine ax Ft (rfl) ?_; refine dt.mk [] [some 0, some 1, some 0] rfl (gS (aS qM (by simp only [eC, Nat.reduceEqDiff, reduceIte, Nat.reduceMul, Nat.reduceSub, Nat.reduceLT, Nat.reduceLeDiff, Int.reduceToNat, Int.reduceBEq, Int.reduceBNe, Int.reduceLT, Int.reduceLE, Int.reduceAdd, Int.reduceSub, Int.reduceMul, Int.reduceNeg, Int.reduceEq, Int.reduceNe, Nat.reduceAdd, if_true, if_false] <;> rfl) (TmL.of_eq rfl (au _)) (aS qM (by simp only [eC, Nat.reduceEqDiff, reduceIte, Nat.reduceMul, Nat.reduceSub, Nat.reduceLT, Nat.reduceLeDiff, Int.reduceToNat, Int.reduceBEq, Int.reduceBNe, Int.reduceLT, Int.reduceLE, Int.reduceAdd, Int.reduceSub, Int.reduceMul, Int.reduceNeg, Int.reduceEq, Int.reduceNe, Nat.reduceAdd, if_true, if_false] <;> rfl) (TmL.of_eq rfl (au _)) en))) tr; (all_goals (first | rfl | (simp only [List.length_append, List.length_take, List.length_drop, hm]; omega)))
def oD (a0 : Reorder) (a1 : Frame) (a2 : Int) (x67 : Int) : AS :=
 { objs := (upd (upd (upd (fun _ => .dead) 0 (.live (aB a0 (.imm (List.flatMap ai a0.Held) a0.Held.length)))) 1 (.live (bn a1 (.imm (List.map vu a1.Body) a1.Body.length)))) 2 (.live (aB Reorder.z cJ))), next := 3, tmps := (upd (upd (upd (upd (upd (upd (fun _ => .unk) 2 (vi a2)) 3 (.ptr 0 0)) 4 (.ptr 1 0)) 7 (.ptr 2 0)) 9 (vi a1.Head.Seq)) 10 (vi x67)) }

def pv (a0 : Reorder) (a1 : Frame) (a2 : Int) (x71 : Int) (x72 : (Int × Bool)) : AS :=
 { objs := (upd (upd (upd (fun _ => .dead) 0 (.live (aB a0 (.imm (List.flatMap ai a0.Held) a0.Held.length)))) 1 (.live (bn a1 (.imm (List.map vu a1.Body) a1.Body.length)))) 2 (.live (aB Reorder.z cJ))), next := 3, tmps := (upd (upd (upd (upd (upd (upd (upd (upd (fun _ => .unk) 2 (vi a2)) 3 (.ptr 0 0)) 4 (.ptr 1 0)) 7 (.ptr 2 0)) 9 (vi a1.Head.Seq)) 11 (vi x71)) 12 (vi x72.1)) 13 (vb x72.2)) }

def pR (a0 : Reorder) (x73 : Window) (x76 : (List HeldSeq)) (a1 : Frame) (x71 : Int) : AS :=
 { objs := (upd (upd (upd (fun _ => .dead) 0 (.live (aB { a0 with Seen := x73 } (.ref 1 0 x76.length 42)))) 1 (.live (List.flatMap ai x76))) 2 (.live (aB Reorder.z cJ))), next := 3, tmps := (upd (upd (upd (upd (fun _ => .unk) 3 (.ptr 0 0)) 7 (.ptr 2 0)) 9 (vi a1.Head.Seq)) 11 (vi x71)) }

def pf (a0 : Reorder) (x73 : Window) (x76 : (List HeldSeq)) (d77 : Int) : AS :=
 { objs := (upd (upd (upd (fun _ => .dead) 0 (.live (aB { a0 with Seen := x73 } (.ref 1 0 x76.length 42)))) 1 (.live (List.flatMap ai x76))) 2 (.live (aB Reorder.z cJ))), next := 3, tmps := (upd (upd (upd (fun _ => .unk) 3 (.ptr 0 0)) 7 (.ptr 2 0)) 14 (vi d77)) }

theorem xh (a0 : Reorder) (a1 : Frame) (a2 : Int) {r : ((List Frame) × Reorder × Int)} (h0 : iQ a0 a1 a2 = some r) : ga K 51 [(.agg (c6 a0)), (.agg (aY a1)), (vi a2)] (fun q => (.tup [(.ref (q 0) 0 r.1.length 41), (.agg (aB r.2.1 (.ref (q 1) 0 r.2.1.Held.length 42))), (vi r.2.2)])) [(List.flatMap aY r.1), (List.flatMap ai r.2.1.Held)] := by
 refine ga.of_walkW hC (show K.P.funcs[51]? = some Try.f51 from Try.func51) rfl rfl (by decide +kernel) (qB2 rfl) ?_; unfold iQ at h0; refine aa [0,1,2] fun tz U u => ?_; (try simp only [go_sem]); refine qU u ?_; clear u U; refine aa [2,3,4,7] fun tz U u => ?_; (try simp only [go_sem]); refine qU u ?_; clear u U; refine aj ?_; refine aa [2,3,4,7,9] fun tz U u => ?_; obtain ⟨x67, bx67, h0⟩ := bnd h0; (try simp only [go_sem]); (refine aQ (fV a0 bx67) ?_; try dsimp only); (try refine ap ?_); (try simp only [go_sem]); refine u _ (oD a0 a1 a2 x67) (Wk.canonD [] [] [some 0, some 1, some 3] rfl trivial rfl (ar 2 (ar 1 (ar 0 bo rfl qM rfl (aJ (by rfl) (tI (au _)))) rfl qM rfl (da (by rfl) (tI (fy _)))) rfl qM rfl (aJ (by rfl) tv)) (tA 10 (tA 9 (tA 7 (tA 4 (tA 3 (tA 2 aG tv) tp) tp) tp) tv) tv)) ?_; clear u U; unfold oD; refine aj ?_; refine aa [2,3,4,7,9,10] fun tz U u => ?_; (try simp only [go_sem]); refine qU u ?_; clear u U; refine aN (b := (x67 != 0)) rfl (fun h1 => ?_) (fun h1 => ?_)
 ·
  have h0 := cT h0 h1; refine aj ?_; refine aa [7,10] fun tz U u => ?_; (try simp only [go_sem]); refine qU u ?_; clear u U; refine bB ?_; obtain rfl := ak h0; refine aH ?_; refine ax E0 qR ?_; refine Res.mk [] [none, none] rfl (cY (cY cX)) (Tm.tup (tc tT (tc (Tm.agg (aJ (by rfl) tT)) (tc tv tn))))
 ·
  have h0 := cF h0 h1; refine aO ?_; refine aj ?_; refine aa [2,3,4,7,9] fun tz U u => ?_; obtain ⟨x68, bx68, h0⟩ := bnd h0; (try simp only [go_sem]); (refine aQ (jP a2 bx68) ?_; try dsimp only); (try refine ap ?_); refine bf 2 qS qS (by rfl) fun V v => ?_; refine ap ?_; (try simp only [go_sem]); refine v _ ?_; clear v V; obtain ⟨x70, hvh2, h0⟩ := bnd h0; refine bu 4 [(2, (vi a2)), (3, (.ptr 0 0)), (4, (.ptr 1 0)), (7, (.ptr 2 0)), (9, (vi a1.Head.Seq)), (31, (vb x70))] qS qS (by rfl) (fun V v => ?_) fun tz => ?_
  ·
   refine ap ?_; rcases bE (!x68) with h2 | h2
   ·
    have hvh2 := cT hvh2 h2; (try simp only [go_sem, h2]); obtain rfl := ak hvh2; exact v _ ⟨rfl, rfl, rfl, rfl, rfl, rfl, (qB h2), trivial⟩
   ·
    have hvh2 := cF hvh2 h2; obtain ⟨x69, bx69, hvh2⟩ := bnd hvh2; (try simp only [go_sem, h2]); (refine aQ (gK a1.Head.Seq bx69) ?_; try dsimp only); (try refine ap ?_); (try simp only [go_sem, h2]); obtain rfl := ak hvh2; exact v _ ⟨rfl, rfl, rfl, rfl, rfl, rfl, (qB h2), trivial⟩
  ·
   refine ap ?_; (try simp only [go_sem]); refine qU u ?_; clear u U; refine aN (b := x70) rfl (fun h3 => ?_) (fun h3 => ?_)
   ·
    have h0 := cT h0 h3; refine aj ?_; refine aa [7] fun tz U u => ?_; (try simp only [go_sem]); refine qU u ?_; clear u U; refine bB ?_; obtain rfl := ak h0; refine aH ?_; refine ax E0 qR ?_; refine Res.mk [] [none, none] rfl (cY (cY cX)) (Tm.tup (tc tT (tc (Tm.agg (aJ (by rfl) tT)) (tc tv tn))))
   ·
    have h0 := cF h0 h3; refine aO ?_; refine aa [2,3,4,7,9] fun tz U u => ?_; obtain ⟨x71, bx71, h0⟩ := bnd h0; (try simp only [go_sem]); (refine aQ (cK a0.Start a1.Head.Seq bx71) ?_; try dsimp only); (try refine ap ?_); (try simp only [go_sem]); refine qU u ?_; clear u U; refine aa [2,3,4,7,9,11] fun tz U u => ?_; obtain ⟨x72, bx72, h0⟩ := bnd h0; (try simp only [go_sem]); (refine aQ (nE a0 a1.Head.Seq bx72) ?_; try dsimp only); (try refine ap ?_); (try simp only [go_sem]); refine u _ (pv a0 a1 a2 x71 x72) (Wk.canonD [] [] [some 0, some 1, some 2] rfl trivial rfl (ar 2 (ar 1 (ar 0 bo rfl qM rfl (aJ (by rfl) (tI (au _)))) rfl qM rfl (da (by rfl) (tI (fy _)))) rfl qM rfl (aJ (by rfl) tv)) (tA 13 (tA 12 (tA 11 (tA 9 (tA 7 (tA 4 (tA 3 (tA 2 aG tv) tp) tp) tp) tv) tv) tv) tv)) ?_; clear u U; unfold pv; refine aj ?_; refine aa [2,3,4,7,9,11,12,13] fun tz U u => ?_; refine bf 3 qS qS (by rfl) fun V v => ?_; refine ap ?_; (try simp only [go_sem]); refine v _ ?_; clear v V; refine bu 2 [(2, (vi a2)), (3, (.ptr 0 0)), (4, (.ptr 1 0)), (7, (.ptr 2 0)), (9, (vi a1.Head.Seq)), (11, (vi x71)), (12, (vi x72.1)), (47, (vb ((decide (2048 ≤ x71)) || x72.2)))] qS qS (by rfl) (fun V v => ?_) fun tz => ?_
    ·
     refine ap ?_; rcases bE (decide (2048 ≤ x71)) with h4 | h4
     ·
      (try simp only [go_sem, h4]); exact v _ ⟨rfl, rfl, rfl, rfl, rfl, rfl, rfl, rfl, (qB h4), trivial⟩
     ·
      (try simp only [go_sem, h4]); exact v _ ⟨rfl, rfl, rfl, rfl, rfl, rfl, rfl, rfl, (qB h4), trivial⟩
    ·
     refine ap ?_; (try simp only [go_sem]); refine qU u ?_; clear u U; refine aN (b := ((decide (2048 ≤ x71)) || x72.2)) rfl (fun h5 => ?_) (fun h5 => ?_)
     ·
      have h0 := cT h0 h5; refine aj ?_; refine aa [7] fun tz U u => ?_; (try simp only [go_sem]); refine qU u ?_; clear u U; refine bB ?_; obtain rfl := ak h0; refine aH ?_; refine ax E0 qR ?_; refine Res.mk [] [none, none] rfl (cY (cY cX)) (Tm.tup (tc tT (tc (Tm.agg (aJ (by rfl) tT)) (tc tv tn))))
     ·
      have h0 := cF h0 h5; refine aO ?_; refine aa [2,3,4,7,9,11,12] fun tz U u => ?_; obtain ⟨x73, bx73, h0⟩ := bnd h0; (try simp only [go_sem]); (refine aQ (wh a0.Seen a1.Head.Seq bx73) ?_; try dsimp only); (try refine ap ?_); (try simp only [go_sem]); refine qU u ?_; clear u U; refine d8 [2,3,4,7,9,11,12] (fun _ => rfl) fun tz => ?_; refine ct fun U u all hall => ?_; refine cu ?_; (try simp only [List.toList_toArray, List.map_cons, List.map_nil, List.size_toArray, List.length_cons, List.length_nil, Nat.zero_add]); (try simp only [Nat.reduceAdd]); obtain ⟨x74, bx74, h0⟩ := bnd h0; (iterate 3 ((try simp only [go_sem, -Nat.reduceAdd]); try simp only [Nat.reduceAdd])); (refine oT (vB a0.Held bx74 _) ?_; try dsimp only); (try refine cu ?_); obtain ⟨x75, bx75, h0⟩ := bnd h0; (iterate 3 ((try simp only [go_sem, -Nat.reduceAdd]); try simp only [Nat.reduceAdd])); (refine fe (fW a1 bx75) ?_; try dsimp only); (try refine cu ?_); obtain ⟨x76, bx76, h0⟩ := bnd h0; (iterate 3 ((try simp only [go_sem, -Nat.reduceAdd]); try simp only [Nat.reduceAdd])); (refine Aq [16, 22] (ge x72.1 x74 [{ HeldSeq.z with At := a2, Frame := x75 }] bx76) (by decide) (by decide) ⟨qG, qG, trivial⟩ qG (by subst hall; decide +kernel) (by subst hall; first | decide +kernel | (simp [bS, gh, ek, kg]; done) | (simp [bS, gh, ek, kg]; decide +kernel)) ?_; try dsimp only); (try refine cu ?_); (iterate 3 ((try simp only [go_sem, -Nat.reduceAdd, lc, ln]); try simp only [Nat.reduceAdd])); refine And.intro ?_ (u _ (pR a0 x73 x76 a1 x71) (by refine Wk.canonD [] [] [some 0, some 26, some 2] rfl trivial rfl (ar 2 (ar 1 (ar 0 bo rfl qM rfl (aJ (by rfl) tr)) rfl qM rfl (TmL.of_eq qL (au _))) rfl qM rfl (aJ (by rfl) tv)) (tA 11 (tA 9 (tA 7 (tA 3 aG tp) tp) tv) tv); all_goals exact qN) ?_)
      ·
       subst hall; clear u U; exact qP
      ·
       clear u U hall all; unfold pR; refine aa [3,7,9,11] fun tz U u => ?_; (try simp only [go_sem]); refine qU u ?_; clear u U; refine aj ?_; refine aa [3,7,9,11,14] fun tz U u => ?_; (try simp only [go_sem]); refine qU u ?_; clear u U; obtain ⟨d77, hi6, h0⟩ := bnd h0; refine c7 (fun z => d77 = z) (fun d77 : Int => pf a0 x73 x76 d77) ?_ ?_
       ·
        refine bC (b := (decide (a0.Size ≤ x71))) rfl (fun h7 => ?_) (fun h7 => ?_)
        ·
         have hi6 := cT hi6 h7; refine br [3,7,9] fun tz U u => ?_; obtain ⟨x78, bx78, hi6⟩ := bnd hi6; (try simp only [go_sem]); (refine aQ (jm a1.Head.Seq (IntKind.wrap .i64 (1 - a0.Size)) bx78) ?_; try dsimp only); (try refine ap ?_); (try simp only [go_sem]); refine u _ ?_; clear u U; refine fC ?_; obtain rfl := ak hi6; exact ⟨_, rfl, (by refine Wk.canonD [] [] [some 0, some 1, some 2] rfl trivial rfl (ar 2 (ar 1 (ar 0 bo rfl qM rfl (aJ (by rfl) tr)) rfl qM rfl (TmL.of_eq qL (au _))) rfl qM rfl (aJ (by rfl) tv)) (tA 14 (tA 7 (tA 3 aG tp) tp) tv); all_goals exact qN)⟩
        ·
         have hi6 := cF hi6 h7; refine cS ?_; refine fC ?_; obtain rfl := ak hi6; exact ⟨_, rfl, (by refine Wk.canonD [] [] [some 0, some 1, some 2] rfl trivial rfl (ar 2 (ar 1 (ar 0 bo rfl qM rfl (aJ (by rfl) tr)) rfl qM rfl (TmL.of_eq qL (au _))) rfl qM rfl (aJ (by rfl) tv)) (tA 14 (tA 7 (tA 3 aG tp) tp) tv); all_goals exact qN)⟩
       ·
        rintro _ rfl; clear hi6; unfold pf; refine aa [3,7,14] fun tz U u => ?_; obtain ⟨x79, bx79, h0⟩ := bnd h0; (try simp only [go_sem]); (refine bJ [1] (km { a0 with Held := x76, Seen := x73 } d77 bx79) (by decide) (by decide) ⟨qG, trivial⟩ qG ?_; try dsimp only); (try refine ap ?_); (try simp only [go_sem, lc, ln]); refine qU u ?_; clear u U; refine d8 [6,7] (fun _ => rfl) fun tz => ?_; refine ct fun U u all hall => ?_; refine cu ?_; (try simp only [List.toList_toArray, List.map_cons, List.map_nil, List.size_toArray, List.length_cons, List.length_nil, Nat.zero_add]); (try simp only [Nat.reduceAdd]); (iterate 3 ((try simp only [go_sem, -Nat.reduceAdd]); try simp only [Nat.reduceAdd])); refine And.intro ?_ (u _ _ (Wk.refl _ _ _) ?_)
        ·
         subst hall; clear u U; exact qP
        ·
         clear u U hall all; refine aL ?_; obtain rfl := ak h0; refine aH ?_; refine ax E0 qR ?_; refine Res.mk [] [some 11, some 12] rfl (fo qM rfl (TmL.of_eq qL (bW _)) (fo qM rfl (TmL.of_eq qL (au _)) cX)) (Tm.tup (tc tr (tc (Tm.agg (aJ (by rfl) tr)) (tc tv tn)))); (all_goals exact qN)


theorem wX (a0 : Reorder) (a1 : Frame) (a2 : Int) {r : ((List Frame) × Reorder × Int)} (h0 : iQ a0 a1 a2 = some r) : SndP K 51 [(.agg (c6 a0)), (.agg (aY a1)), (vi a2)] (.tup [(kN r.1), (.agg (c6 r.2.1)), (vi r.2.2)]) :=
 lC.pure (rM (xh a0 a1 a2 h0) (aF.tup (RenML.cons (aF.ref 0 0 _ _) (RenML.cons (aF.agg (im _ (aF.ref 1 0 _ _))) (RenML.cons rv RenML.nil)))) (bq (bW _) (bq (au _) cH)) (af (aw.agg (bA _)) (af (aw.agg (dF _)) (af cv aA)))) (aw.tup (af (jS _) (af (aw.agg (bA _)) (af cv aA)))) (af (aw.agg (bA _)) (af (aw.agg (dF _)) (af cv aA))) qV
def i5 (x57 : Session_session) (a1 : Session_session) (a2 : (List Bool)) (x56 : ((List Frame) × Sender × Int)) (a0 : Int) : AS :=
 { objs := (upd (upd (upd (upd (upd (upd (fun _ => .dead) 0 (.live (ae x57 (.imm (List.flatMap ag x57.sides.Sender.Out) x57.sides.Sender.Out.length) (.imm (List.flatMap ai x57.sides.Reorder.Held) x57.sides.Reorder.Held.length) (.clo 17 [] [(.ptr 1 0)]) (.ref 2 0 a1.out.Delivered.length 1) (.ref 3 0 a1.out.Acked.length 1) (.ref 4 0 a1.out.Dropped.length 1)))) 1 (.live [(.imm (List.map vb a2) a2.length)])) 2 (.live (List.map vi a1.out.Delivered))) 3 (.live (List.map vi a1.out.Acked))) 4 (.live (List.map vi a1.out.Dropped))) 5 (.live (av x56.2.1 (.imm (List.flatMap ag x56.2.1.Out) x56.2.1.Out.length)))), next := 6, tmps := (upd (upd (upd (upd (fun _ => .unk) 0 (.ptr 0 0)) 1 (vi a0)) 5 (.imm (List.flatMap aY x56.1) x56.1.length)) 6 (.ptr 5 0)) }

def iS (a1 : Session_session) (x56 : ((List Frame) × Sender × Int)) (d58 : (Session_session × List Bool × List Int)) : AS :=
 { objs := (upd (upd (upd (upd (upd (fun _ => .dead) 0 (.live (ae d58.1 (.imm (List.flatMap ag d58.1.sides.Sender.Out) d58.1.sides.Sender.Out.length) (.imm (List.flatMap ai d58.1.sides.Reorder.Held) d58.1.sides.Reorder.Held.length) (.clo 17 [] [(.ptr 1 0)]) (.ref 5 0 d58.2.2.length 1) (.ref 3 0 a1.out.Acked.length 1) (.ref 4 0 a1.out.Dropped.length 1)))) 1 (.live [(.imm (List.map vb d58.2.1) d58.2.1.length)])) 3 (.live (List.map vi a1.out.Acked))) 4 (.live (List.map vi a1.out.Dropped))) 5 (.live (List.map vi d58.2.2))), next := 6, tmps := (upd (fun _ => .unk) 5 (.imm (List.flatMap aY x56.1) x56.1.length)) }

def i6 (a1 : Session_session) (a0 : Int) (x56 : ((List Frame) × Sender × Int)) (d59 : (Session_session × List Bool × List Int × Int)) : AS :=
 { objs := (upd (upd (upd (upd (upd (fun _ => .dead) 0 (.live (ae d59.1 (.imm (List.flatMap ag d59.1.sides.Sender.Out) d59.1.sides.Sender.Out.length) (.imm (List.flatMap ai d59.1.sides.Reorder.Held) d59.1.sides.Reorder.Held.length) (.clo 17 [] [(.ptr 1 0)]) (.ref 5 0 d59.2.2.1.length 1) (.ref 3 0 a1.out.Acked.length 1) (.ref 4 0 a1.out.Dropped.length 1)))) 1 (.live [(.imm (List.map vb d59.2.1) d59.2.1.length)])) 3 (.live (List.map vi a1.out.Acked))) 4 (.live (List.map vi a1.out.Dropped))) 5 (.live (List.map vi d59.2.2.1))), next := 6, tmps := (upd (upd (upd (upd (upd (upd (fun _ => .unk) 0 (.ptr 0 0)) 1 (vi a0)) 5 (.imm (List.flatMap aY x56.1) x56.1.length)) 36 (.imm (List.flatMap aY x56.1) x56.1.length)) 37 (vi (x56.1.length : Int))) 38 (vi d59.2.2.2)) }

def i4 (d59 : (Session_session × List Bool × List Int × Int)) (a1 : Session_session) (x61 : (Bool × List Bool)) (x62 : ((List Frame) × Reorder × Int)) (a0 : Int) (x56 : ((List Frame) × Sender × Int)) : AS :=
 { objs := (upd (upd (upd (upd (upd (upd (fun _ => .dead) 0 (.live (ae d59.1 (.imm (List.flatMap ag d59.1.sides.Sender.Out) d59.1.sides.Sender.Out.length) (.imm (List.flatMap ai d59.1.sides.Reorder.Held) d59.1.sides.Reorder.Held.length) (.clo 17 [] [(.ptr 1 0)]) (.ref 5 0 d59.2.2.1.length 1) (.ref 3 0 a1.out.Acked.length 1) (.ref 4 0 a1.out.Dropped.length 1)))) 1 (.live [(.imm (List.map vb x61.2) x61.2.length)])) 3 (.live (List.map vi a1.out.Acked))) 4 (.live (List.map vi a1.out.Dropped))) 5 (.live (List.map vi d59.2.2.1))) 6 (.live (aB x62.2.1 (.imm (List.flatMap ai x62.2.1.Held) x62.2.1.Held.length)))), next := 7, tmps := (upd (upd (upd (upd (upd (upd (upd (upd (upd (fun _ => .unk) 0 (.ptr 0 0)) 1 (vi a0)) 5 (.imm (List.flatMap aY x56.1) x56.1.length)) 10 (.imm (List.flatMap aY x62.1) x62.1.length)) 11 (.ptr 6 0)) 12 (vi x62.2.2)) 36 (.imm (List.flatMap aY x56.1) x56.1.length)) 37 (vi (x56.1.length : Int))) 38 (vi d59.2.2.2)) }

theorem iW (a0 : Int) (a1 : Session_session) (a2 : (List Bool)) {r : (Int × Session_session × List Bool × List Int)} (h0 : c9 a0 a1 a2 = some r) : cP K 35 5 (fun q => [(.ptr (q 0) 0), (vi a0)]) [(fun q => (ae a1 (.imm (List.flatMap ag a1.sides.Sender.Out) a1.sides.Sender.Out.length) (.imm (List.flatMap ai a1.sides.Reorder.Held) a1.sides.Reorder.Held.length) (.clo 17 [] [(.ptr (q 1) 0)]) (.ref (q 2) 0 a1.out.Delivered.length 1) (.ref (q 3) 0 a1.out.Acked.length 1) (.ref (q 4) 0 a1.out.Dropped.length 1))), (fun q => [(.imm (List.map vb a2) a2.length)]), (fun q => (List.map vi a1.out.Delivered)), (fun q => (List.map vi a1.out.Acked)), (fun q => (List.map vi a1.out.Dropped))] (fun q => (vi r.1)) [(some (fun q => (ae r.2.1 (.imm (List.flatMap ag r.2.1.sides.Sender.Out) r.2.1.sides.Sender.Out.length) (.imm (List.flatMap ai r.2.1.sides.Reorder.Held) r.2.1.sides.Reorder.Held.length) (.clo 17 [] [(.ptr (q 1) 0)]) (.ref (q 5) 0 r.2.2.2.length 1) (.ref (q 3) 0 a1.out.Acked.length 1) (.ref (q 4) 0 a1.out.Dropped.length 1)))), (some (fun q => [(.imm (List.map vb r.2.2.1) r.2.2.1.length)])), none, (some (fun q => (List.map vi a1.out.Acked))), (some (fun q => (List.map vi a1.out.Dropped))), (some (fun q => (List.map vi r.2.2.2)))] := by
 refine cP.of_walkW hC (RenML.cons (aF.ptr 0 0) (RenML.cons rv RenML.nil)) (aK (bb _ (rI (ah _)) (rI (au _)) (aF.clo RenML.nil (RenML.cons (aF.ptr 1 0) RenML.nil)) (aF.ref 2 0 _ _) (aF.ref 3 0 _ _) (aF.ref 4 0 _ _)) (aK (RenML.cons (rI (aP _)) RenML.nil) (aK (RenML.const (ac _)) (aK (RenML.const (ac _)) (aK (RenML.const (ac _)) dW))))) (aD (bb _ (rI (ah _)) (rI (au _)) (aF.clo RenML.nil (RenML.cons (aF.ptr 1 0) RenML.nil)) (aF.ref 5 0 _ _) (aF.ref 3 0 _ _) (aF.ref 4 0 _ _)) (aD (RenML.cons (rI (aP _)) RenML.nil) (ez (aD (RenML.const (ac _)) (aD (RenML.const (ac _)) (aD (RenML.const (ac _)) dg)))))) rv rfl (qB2 rfl) (show K.P.funcs[35]? = some Try.f35 from Try.func35) rfl rfl (by decide +kernel) (qB2 rfl) ?_; unfold c9 at h0; refine aa [0,1] fun tz U u => ?_; (try simp only [go_sem]); refine qU u ?_; clear u U; refine d8 [0,1] (fun _ => rfl) fun tz => ?_; refine ct fun U u all hall => ?_; refine cu ?_; (try simp only [List.toList_toArray, List.map_cons, List.map_nil, List.size_toArray, List.length_cons, List.length_nil, Nat.zero_add]); (try simp only [Nat.reduceAdd]); obtain ⟨x56, bx56, h0⟩ := bnd h0; (iterate 3 ((try simp only [go_sem, -Nat.reduceAdd]); try simp only [Nat.reduceAdd])); (refine fe (wZ a1.sides.Sender a1.plan.Burst bx56) ?_; try dsimp only); (try refine cu ?_); (iterate 3 ((try simp only [go_sem, -Nat.reduceAdd]); try simp only [Nat.reduceAdd])); refine And.intro ?_ (u _ _ (Wk.refl _ _ _) ?_)
 ·
  subst hall; clear u U; exact qP
 ·
  clear u U hall all; refine aa [0,1,5,6,7] fun tz U u => ?_; obtain ⟨x57, bx57, h0⟩ := bnd h0; (try simp only [go_sem]); (refine bJ [0, 1, 2, 3, 4] (be x56.2.2 a1 a2 bx57) (by decide) (by decide) ⟨qG, qG, qG, qG, qG, trivial⟩ qG ?_; try dsimp only); (try refine ap ?_); (try simp only [go_sem, lc, ln]); refine u _ (i5 x57 a1 a2 x56 a0) (by refine Wk.canonD [] [] [some 0, some 1, some 2, some 3, some 4, some 21] rfl trivial rfl (ar 5 (ar 4 (ar 3 (ar 2 (ar 1 (ar 0 bo rfl qM rfl (aq (by rfl) (tI (ah _)) (tI (au _)) (Tm.clo tn (tc tp tn)) tr tr tr)) rfl qM rfl (tc (tI (aP _)) tn)) rfl qM rfl (TmL.of_eq qL (ac _))) rfl qM rfl (TmL.of_eq qL (ac _))) rfl qM rfl (TmL.of_eq qL (ac _))) rfl qM rfl (al (by rfl) (tI (ah _)))) (tA 6 (tA 5 (tA 1 (tA 0 aG tp) tv) (tI (bW _))) tp); all_goals exact qN) ?_; clear u U; unfold i5; refine aa [0,1,5,6] fun tz U u => ?_; (try simp only [go_sem]); refine qU u ?_; clear u U; refine aj ?_; refine aa [0,1,5] fun tz U u => ?_; (try simp only [go_sem]); refine qU u ?_; clear u U; obtain ⟨d58, hi1, h0⟩ := bnd h0; refine c7 (fun z => d58 = z) (fun d58 : (Session_session × List Bool × List Int) => iS a1 x56 d58) ?_ ?_
  ·
   refine bp ?_; refine cz (fun n (d59 : (Session_session × List Bool × List Int × Int)) => bL x56 a0 a1 n d59 = some d58) (fun d59 : (Session_session × List Bool × List Int × Int) => i6 a1 a0 x56 d59) big ({ x57 with sides.Sender := x56.2.1 }, a2, a1.out.Delivered, 0) (by refine Wk.canonD [] [2] [some 0, some 1, some 2, some 3, some 4, some 2] rfl ⟨rfl, trivial⟩ rfl (ar 5 (ar 4 (ar 3 (ar 1 (ar 0 bo rfl qM rfl (aq (by rfl) (tI (ah _)) (tI (au _)) (Tm.clo tn (tc tp tn)) tr tr tr)) rfl qM rfl (tc (tI (aP _)) tn)) rfl qM rfl (TmL.of_eq qL (ac _))) rfl qM rfl (TmL.of_eq qL (ac _))) rfl qM rfl (TmL.of_eq qL (ac _))) (tA 38 (tA 37 (tA 36 (tA 5 (tA 1 (tA 0 aG tp) tv) (tI (bW _))) (tI (bW _))) tv) tv); all_goals exact qN) hi1 ?_; clear hi1; rintro n d59 hl3; rcases n with _ | n2
   ·
    (rw [bL] at hl3; cases hl3)
   ·
    rw [bL] at hl3; unfold i6; refine aa [0,1,5,36,37,38] fun tz U u => ?_; (try simp only [go_sem]); refine qU u ?_; clear u U; refine aN (b := (decide (d59.2.2.2 < (x56.1.length : Int)))) rfl (fun h4 => ?_) (fun h4 => ?_)
    ·
     have hl3 := cT hl3 h4; refine aO ?_; refine cd ?_; refine aa [0,1,5,36,37,38] fun tz U u => ?_; obtain ⟨x60, bx60, hl3⟩ := bnd hl3; obtain ⟨fx60_0, fx60_1, fx60_2, fx60_3⟩ := co bx60; (try simp only [go_sem, fx60_0, fx60_1, fx60_2]); refine qU u ?_; clear u U; refine aj ?_; refine aa [0,1,5,9,36,37,38] fun tz U u => ?_; obtain ⟨x61, bx61, hl3⟩ := bnd hl3; (try simp only [go_sem, fx60_0, fx60_1, fx60_2]); (refine bJ [1] (jO d59.2.1 bx61) (by decide) (by decide) ⟨(by first | rfl | (simp only [go_sem, fx60_0, fx60_1, fx60_2] <;> rfl)), trivial⟩ (by first | rfl | (simp only [go_sem, fx60_0, fx60_1, fx60_2] <;> rfl)) ?_; try dsimp only); (try refine ap ?_); (try simp only [go_sem, fx60_0, fx60_1, fx60_2, lc, ln]); refine qU u ?_; clear u U; refine aN (b := x61.1) rfl (fun h5 => ?_) (fun h5 => ?_)
     ·
      have hl3 := cT hl3 h5; refine cx ?_; refine js ?_; refine dM ?_; refine br [0,1,5,36,37,38] fun tz U u => ?_; (try simp only [go_sem, fx60_0, fx60_1, fx60_2]); refine u _ ?_; clear u U; refine iL ?_; exact ⟨n2, (d59.1, x61.2, d59.2.2.1, IntKind.wrap .i64 (d59.2.2.2 + 1)), rfl, hl3, (by refine Wk.canonD [] [2] [some 0, some 1, some 2, some 3, some 4, some 5] rfl ⟨rfl, trivial⟩ rfl (ar 5 (ar 4 (ar 3 (ar 1 (ar 0 bo rfl qM rfl (aq (by rfl) (tI (ah _)) (tI (au _)) (Tm.clo tn (tc tp tn)) tr tr tr)) rfl qM rfl (tc (tI (aP _)) tn)) rfl qM rfl (TmL.of_eq qL (ac _))) rfl qM rfl (TmL.of_eq qL (ac _))) rfl qM rfl (TmL.of_eq qL (ac _))) (tA 38 (tA 37 (tA 36 (tA 5 (tA 1 (tA 0 aG tp) tv) (tI (bW _))) (tI (bW _))) tv) tv); all_goals exact qN)⟩
     ·
      have hl3 := cF hl3 h5; refine aO ?_; refine d8 [0,1,5,9,36,37,38] (fun _ => rfl) fun tz => ?_; refine ct fun U u all hall => ?_; refine cu ?_; (try simp only [List.toList_toArray, List.map_cons, List.map_nil, List.size_toArray, List.length_cons, List.length_nil, Nat.zero_add]); (try simp only [Nat.reduceAdd]); obtain ⟨x62, bx62, hl3⟩ := bnd hl3; (iterate 3 ((try simp only [go_sem, -Nat.reduceAdd, fx60_0, fx60_1, fx60_2]); try simp only [Nat.reduceAdd])); (refine fe (wX d59.1.sides.Reorder x60 a0 bx62) ?_; try dsimp only); (try refine cu ?_); (iterate 3 ((try simp only [go_sem, -Nat.reduceAdd, fx60_0, fx60_1, fx60_2]); try simp only [Nat.reduceAdd])); refine And.intro ?_ (u _ (i4 d59 a1 x61 x62 a0 x56) (by refine Wk.canonD [] [2] [some 0, some 1, some 2, some 3, some 4, some 5, some 28] rfl ⟨rfl, trivial⟩ rfl (ar 6 (ar 5 (ar 4 (ar 3 (ar 1 (ar 0 bo rfl qM rfl (aq (by rfl) (tI (ah _)) (tI (au _)) (Tm.clo tn (tc tp tn)) tr tr tr)) rfl qM rfl (tc (tI (aP _)) tn)) rfl qM rfl (TmL.of_eq qL (ac _))) rfl qM rfl (TmL.of_eq qL (ac _))) rfl qM rfl (TmL.of_eq qL (ac _))) rfl qM rfl (aJ (by rfl) (tI (au _)))) (tA 38 (tA 37 (tA 36 (tA 12 (tA 11 (tA 10 (tA 5 (tA 1 (tA 0 aG tp) tv) (tI (bW _))) (tI (bW _))) tp) tv) (tI (bW _))) tv) tv); all_goals exact qN) ?_)
      ·
       subst hall; clear u U; exact qP
      ·
       clear u U hall all; unfold i4; refine aa [0,1,5,10,11,12,36,37,38] fun tz U u => ?_; (try simp only [go_sem, fx60_0, fx60_1, fx60_2]); refine qU u ?_; clear u U; refine bC (b := (x62.2.2 == 0)) rfl (fun h6 => ?_) (fun h6 => ?_)
       ·
        have hl3 := cT hl3 h6; refine aa [0,1,5,10,11,36,37,38] fun tz U u => ?_; (try simp only [go_sem, fx60_0, fx60_1, fx60_2]); refine qU u ?_; clear u U; refine br [0,1,5,10,36,37,38] fun tz U u => ?_; obtain ⟨x63, bx63, hl3⟩ := bnd hl3; (try simp only [go_sem, fx60_0, fx60_1, fx60_2]); (refine bJ [0, 1, 5, 3, 4] (dC x62.1 { d59.1 with out.Acked := a1.out.Acked, out.Delivered := d59.2.2.1, out.Dropped := a1.out.Dropped, sides.Reorder := x62.2.1 } x61.2 bx63) (by decide) (by decide) ⟨(by first | rfl | (simp only [go_sem, fx60_0, fx60_1, fx60_2] <;> rfl)), (by first | rfl | (simp only [go_sem, fx60_0, fx60_1, fx60_2] <;> rfl)), (by first | rfl | (simp only [go_sem, fx60_0, fx60_1, fx60_2] <;> rfl)), (by first | rfl | (simp only [go_sem, fx60_0, fx60_1, fx60_2] <;> rfl)), (by first | rfl | (simp only [go_sem, fx60_0, fx60_1, fx60_2] <;> rfl)), trivial⟩ (by first | rfl | (simp only [go_sem, fx60_0, fx60_1, fx60_2] <;> rfl)) ?_; try dsimp only); (try refine ap ?_); (try simp only [go_sem, fx60_0, fx60_1, fx60_2, lc, ln]); refine u _ ?_; clear u U; refine gO ?_; refine dM ?_; refine br [0,1,5,36,37,38] fun tz U u => ?_; (try simp only [go_sem, fx60_0, fx60_1, fx60_2]); refine u _ ?_; clear u U; refine iL ?_; exact ⟨n2, ({ d59.1 with out.Acked := a1.out.Acked, out.Delivered := d59.2.2.1, out.Dropped := a1.out.Dropped, sides.Reorder := x62.2.1 }, x61.2, x63, IntKind.wrap .i64 (d59.2.2.2 + 1)), rfl, hl3, (by refine Wk.canonD [] [2] [some 0, some 1, some 2, some 3, some 4, some 18] rfl ⟨rfl, trivial⟩ rfl (ar 5 (ar 4 (ar 3 (ar 1 (ar 0 bo rfl qM rfl (aq (by rfl) (tI (ah _)) (tI (au _)) (Tm.clo tn (tc tp tn)) tr tr tr)) rfl qM rfl (tc (tI (aP _)) tn)) rfl qM rfl (TmL.of_eq qL (ac _))) rfl qM rfl (TmL.of_eq qL (ac _))) rfl qM rfl (TmL.of_eq qL (ac _))) (tA 38 (tA 37 (tA 36 (tA 5 (tA 1 (tA 0 aG tp) tv) (tI (bW _))) (tI (bW _))) tv) tv); all_goals exact qN)⟩
       ·
        have hl3 := cF hl3 h6; refine cS ?_; refine gO ?_; refine dM ?_; refine br [0,1,5,36,37,38] fun tz U u => ?_; (try simp only [go_sem, fx60_0, fx60_1, fx60_2]); refine u _ ?_; clear u U; refine iL ?_; exact ⟨n2, (d59.1, x61.2, d59.2.2.1, IntKind.wrap .i64 (d59.2.2.2 + 1)), rfl, hl3, (by refine Wk.canonD [] [2] [some 0, some 1, some 2, some 3, some 4, some 5] rfl ⟨rfl, trivial⟩ rfl (ar 5 (ar 4 (ar 3 (ar 1 (ar 0 bo rfl qM rfl (aq (by rfl) (tI (ah _)) (tI (au _)) (Tm.clo tn (tc tp tn)) tr tr tr)) rfl qM rfl (tc (tI (aP _)) tn)) rfl qM rfl (TmL.of_eq qL (ac _))) rfl qM rfl (TmL.of_eq qL (ac _))) rfl qM rfl (TmL.of_eq qL (ac _))) (tA 38 (tA 37 (tA 36 (tA 5 (tA 1 (tA 0 aG tp) tv) (tI (bW _))) (tI (bW _))) tv) tv); all_goals exact qN)⟩
    ·
     have hl3 := cF hl3 h4; refine cx ?_; refine j9 ?_; refine js ?_; refine fC ?_; obtain rfl := ak hl3; exact ⟨_, rfl, (by refine Wk.canonD [] [2] [some 0, some 1, some 2, some 3, some 4, some 5] rfl ⟨rfl, trivial⟩ rfl (ar 5 (ar 4 (ar 3 (ar 1 (ar 0 bo rfl qM rfl (aq (by rfl) (tI (ah _)) (tI (au _)) (Tm.clo tn (tc tp tn)) tr tr tr)) rfl qM rfl (tc (tI (aP _)) tn)) rfl qM rfl (TmL.of_eq qL (ac _))) rfl qM rfl (TmL.of_eq qL (ac _))) rfl qM rfl (TmL.of_eq qL (ac _))) (tA 5 aG (tI (bW _))); all_goals exact qN)⟩
  ·
   rintro _ rfl; clear hi1; unfold iS; refine aa [5] fun tz U u => ?_; (try simp only [go_sem]); refine qU u ?_; clear u U; refine aL ?_; obtain rfl := ak h0; refine aH ?_; refine ax LJ (rfl) ?_; refine dt.mk [] [some 0, some 1, some 2, some 3, some 4, some 5] rfl (aS qM rfl (aq (by rfl) (tI (ah _)) (tI (au _)) (Tm.clo tn (tc tp tn)) tr tr tr) (aS qM rfl (tc (tI (aP _)) tn) (gS (aS qM rfl (TmL.of_eq qL (ac _)) (aS qM rfl (TmL.of_eq qL (ac _)) (aS qM rfl (TmL.of_eq qL (ac _)) en)))))) tv; (all_goals exact qN)
def pP (a0 : Sender) (d67 : (List Unacked)) : AS :=
 { objs := (upd (upd (fun _ => .dead) 0 (.live (av a0 (.ref 1 0 d67.length 44)))) 1 (.live (List.flatMap ag d67))), next := 2, tmps := (fun _ => .unk) }

def oL (a0 : Sender) (d68 : (List Unacked × Int)) : AS :=
 { objs := (upd (upd (fun _ => .dead) 0 (.live (av a0 (.ref 1 0 d68.1.length 44)))) 1 (.live (List.flatMap ag d68.1))), next := 2, tmps := (upd (upd (upd (fun _ => .unk) 0 (.ptr 0 0)) 7 (vi ((a0.Out.length : Nat) : Int))) 8 (vi d68.2)) }

theorem o6 (a0 : Sender) {r : (List Unacked)} (h0 : iR a0 = some r) : cP K 68 2 (fun q => [(.ptr (q 0) 0)]) [(fun q => (av a0 (.ref (q 1) 0 a0.Out.length 44))), (fun q => (List.flatMap ag a0.Out))] (fun q => (.tup [])) [(some (fun q => (av a0 (.ref (q 1) 0 r.length 44)))), (some (fun q => (List.flatMap ag r)))] := by
 refine cP.of_walkW hC (RenML.cons (aF.ptr 0 0) RenML.nil) (aK (bD _ (aF.ref 1 0 _ _)) (aK (RenML.const (ah _)) dW)) (aD (bD _ (aF.ref 1 0 _ _)) (aD (RenML.const (ah _)) dg)) (aF.tup RenML.nil) rfl (qB2 rfl) (show K.P.funcs[68]? = some Try.f68 from Try.func68) rfl rfl (by decide +kernel) (qB2 rfl) ?_; unfold iR at h0; refine aa [0] fun tz U u => ?_; (try simp only [go_sem]); refine qU u ?_; clear u U; obtain ⟨d67, hi1, h0⟩ := bnd h0; refine vO (fun z => d67 = z) (fun d67 : (List Unacked) => pP a0 d67) yM ?_ ?_
 ·
  refine bp ?_; refine cz (fun n (d68 : (List Unacked × Int)) => ep a0 n d68 = some d67) (fun d68 : (List Unacked × Int) => oL a0 d68) big (a0.Out, 0) (by refine Wk.canonD [] [] [some 0, some 1] rfl trivial rfl (ar 1 (ar 0 bo rfl qM rfl (al (by rfl) tr)) rfl qM rfl (TmL.of_eq qL (ah _))) (tA 8 (tA 7 (tA 0 aG tp) tv) tv); all_goals exact qN) hi1 ?_; clear hi1; rintro n d68 hl3; rcases n with _ | n2
  ·
   (rw [ep] at hl3; cases hl3)
  ·
   rw [ep] at hl3; unfold oL; refine aa [0,7,8] fun tz U u => ?_; (try simp only [go_sem]); refine qU u ?_; clear u U; refine aN (b := (decide (d68.2 < ((a0.Out.length : Nat) : Int)))) rfl (fun h4 => ?_) (fun h4 => ?_)
   ·
    have hl3 := cT hl3 h4; refine aO ?_; refine cd ?_; refine aa [0,7,8] fun tz U u => ?_; (try simp only [go_sem]); refine qU u ?_; clear u U; refine br [0,2,7,8] fun tz U u => ?_; obtain ⟨x69, bx69, hl3⟩ := bnd hl3; obtain ⟨fx69_0, fx69_1, fx69_2, fx69_3⟩ := co bx69; (have fx69_5 : ((d68.2 : Int) < ((d68.1.length : Nat) : Int)) = True := by first | exact fx69_1 | (simp [List.length_modify, List.length_set]; omega)); have gs5 : ((d68.2).toNat * 44 + 3 ≤ d68.1.length * 44) = True := eq_true (by (try simp only [List.length_modify, List.length_set]); omega); have gm6 : (d68.1.modify ((d68.2).toNat) fun y => { y with Flying := false })[(d68.2).toNat]? = some ({ x69 with Flying := false }) := Bc _ fx69_2; (try simp only [go_sem, fx69_0, fx69_1, fx69_2, fx69_5, gs5, gm6]); refine u _ ?_; clear u U; refine gO ?_; refine dM ?_; refine br [0,7,8] fun tz U u => ?_; (try simp only [go_sem, fx69_0, fx69_1, fx69_2, fx69_5, gm6]); refine u _ ?_; clear u U; refine iL ?_; exact ⟨n2, ((d68.1.modify ((d68.2).toNat) fun y => { y with Flying := false }), IntKind.wrap .i64 (d68.2 + 1)), rfl, hl3, (by refine Wk.canonD [] [] [some 0, some 1] rfl trivial rfl (ar 1 (ar 0 bo rfl qM rfl (al (by rfl) tr)) rfl qM rfl (TmL.of_eq qL (ah _))) (tA 8 (tA 7 (tA 0 aG tp) tv) tv); all_goals exact qN)⟩
   ·
    have hl3 := cF hl3 h4; refine cx ?_; refine j9 ?_; refine js ?_; refine fC ?_; obtain rfl := ak hl3; exact ⟨_, rfl, (by refine Wk.canonD [] [] [some 0, some 1] rfl trivial rfl (ar 1 (ar 0 bo rfl qM rfl (al (by rfl) tr)) rfl qM rfl (TmL.of_eq qL (ah _))) aG; all_goals exact qN)⟩
 ·
  rintro _ rfl; clear hi1; unfold pP; obtain rfl := ak h0; refine aH ?_; refine ei LV (rfl) ?_; refine dt.mk [] [some 0, some 1] rfl (aS qM rfl (al (by rfl) tr) (aS qM rfl (TmL.of_eq qL (ah _)) en)) (Tm.tup tn); (all_goals exact qN)
def oX (x66 : (Sender × Int)) : AS :=
 { objs := (upd (upd (upd (fun _ => .dead) 0 (.live (av x66.1 (.ref 1 0 x66.1.Out.length 44)))) 1 (.live (List.flatMap ag x66.1.Out))) 2 (.live (av Sender.z cJ))), next := 3, tmps := (upd (upd (upd (fun _ => .unk) 1 (.ptr 0 0)) 2 (.ptr 2 0)) 4 (vi x66.2)) }

theorem xv (a0 : Sender) {r : (Sender × Int)} (h0 : gC a0 = some r) : ga K 52 [(.agg (bt a0))] (fun q => (.tup [(.agg (av r.1 (.ref (q 0) 0 r.1.Out.length 44))), (vi r.2)])) [(List.flatMap ag r.1.Out)] := by
 refine ga.of_walkW hC (show K.P.funcs[52]? = some Try.f52 from Try.func52) rfl rfl (by decide +kernel) (qB2 rfl) ?_; unfold gC at h0; refine aa [0] fun tz U u => ?_; (try simp only [go_sem]); refine qU u ?_; clear u U; refine aa [1,2] fun tz U u => ?_; obtain ⟨x66, bx66, h0⟩ := bnd h0; (try simp only [go_sem]); (refine lI (lX a0 true bx66) ?_; try dsimp only); (try refine ap ?_); (try simp only [go_sem]); refine u _ (oX x66) (by refine Wk.canonD [] [] [some 0, some 10, some 1] rfl trivial rfl (ar 2 (ar 1 (ar 0 bo rfl qM rfl (al (by rfl) tr)) rfl qM rfl (TmL.of_eq qL (ah _))) rfl qM rfl (al (by rfl) tv)) (tA 4 (tA 2 (tA 1 aG tp) tp) tv); all_goals exact qN) ?_; clear u U; unfold oX; refine aj ?_; refine aa [1,2,4] fun tz U u => ?_; (try simp only [go_sem]); refine qU u ?_; clear u U; refine aN (b := (x66.2 != 0)) rfl (fun h1 => ?_) (fun h1 => ?_)
 ·
  have h0 := cT h0 h1; refine aj ?_; refine aa [2,4] fun tz U u => ?_; (try simp only [go_sem]); refine qU u ?_; clear u U; refine bB ?_; obtain rfl := ak h0; refine aH ?_; refine ax Kk qR ?_; refine Res.mk [] [none] rfl (cY cX) (Tm.tup (tc (Tm.agg (al (by rfl) tT)) (tc tv tn)))
 ·
  have h0 := cF h0 h1; refine aO ?_; refine aa [1,2] fun tz U u => ?_; obtain ⟨x67, bx67, h0⟩ := bnd h0; (try simp only [go_sem]); (refine bJ [0, 1] (o6 x66.1 bx67) (by decide) (by decide) ⟨qG, qG, trivial⟩ qG ?_; try dsimp only); (try refine ap ?_); (try simp only [go_sem, lc, ln]); refine qU u ?_; clear u U; refine aa [1,2] fun tz U u => ?_; (try simp only [go_sem]); refine qU u ?_; clear u U; refine aL ?_; obtain rfl := ak h0; refine aH ?_; refine ax Kk qR ?_; refine Res.mk [] [some 1] rfl (fo qM rfl (TmL.of_eq qL (ah _)) cX) (Tm.tup (tc (Tm.agg (al (by rfl) tr)) (tc tv tn))); (all_goals exact qN)


theorem wF (a0 : Sender) {r : (Sender × Int)} (h0 : gC a0 = some r) : SndP K 52 [(.agg (bt a0))] (.tup [(.agg (bt r.1)), (vi r.2)]) :=
 lC.pure (rM (xv a0 h0) (aF.tup (RenML.cons (aF.agg (bD _ (aF.ref 0 0 _ _))) (RenML.cons rv RenML.nil))) (bq (ah _) cH) (af (aw.agg (aR _)) aA)) (aw.tup (af (aw.agg (aR _)) (af cv aA))) (af (aw.agg (aR _)) aA) qV
theorem tG (a0 : Reorder) {r : (Window × Int)} (h0 : fp a0 = some r) : SndP K 53 [(.agg (c6 a0))] (.tup [(.agg (aU r.1)), (vi r.2)]) := by
 refine SndP.of_walkW hC (aw.tup (af (aw.agg (aI _)) (af cv aA))) (af (aw.agg (bA _)) aA) (show K.P.funcs[53]? = some Try.f53 from Try.func53) rfl rfl (by decide +kernel) (qB2 rfl) ?_; unfold fp at h0; refine aa [0] fun tz U u => ?_; (try simp only [go_sem]); refine qU u ?_; clear u U; refine aj ?_; refine aa [1,2] fun tz U u => ?_; obtain ⟨x70, bx70, h0⟩ := bnd h0; (try simp only [go_sem]); (refine aQ (fV a0 bx70) ?_; try dsimp only); (try refine ap ?_); (try simp only [go_sem]); refine qU u ?_; clear u U; refine aj ?_; refine aa [1,2,4] fun tz U u => ?_; (try simp only [go_sem]); refine qU u ?_; clear u U; refine aN (b := (x70 != 0)) rfl (fun h1 => ?_) (fun h1 => ?_)
 ·
  have h0 := cT h0 h1; refine aj ?_; refine aa [2,4] fun tz U u => ?_; (try simp only [go_sem]); refine qU u ?_; clear u U; refine bB ?_; obtain rfl := ak h0; refine aH ?_; refine ax KA qR ?_; exact qF
 ·
  have h0 := cF h0 h1; refine aO ?_; refine aa [1,2] fun tz U u => ?_; (try simp only [go_sem]); refine qU u ?_; clear u U; refine aL ?_; obtain rfl := ak h0; refine aH ?_; refine ax KA qR ?_; exact qF
theorem zh (a0 : Window) (a1 : Int) {r : Bool} (h0 : ll a0 a1 = some r) : SndP K 70 [(.agg (aU a0)), (vi a1)] (vb r) := by
 refine SndP.of_walkW hC cv (af (aw.agg (aI _)) (af cv aA)) (show K.P.funcs[70]? = some Try.f70 from Try.func70) rfl rfl (by decide +kernel) (qB2 rfl) ?_; unfold ll at h0; refine aa [0,1] fun tz U u => ?_; (try simp only [go_sem]); refine qU u ?_; clear u U; refine aj ?_; refine aa [1,2] fun tz U u => ?_; obtain ⟨x77, bx77, h0⟩ := bnd h0; (try simp only [go_sem]); (refine aQ (lz a0 a1 bx77) ?_; try dsimp only); (try refine ap ?_); (try simp only [go_sem]); refine qU u ?_; clear u U; refine aN (b := (x77 != 0)) rfl (fun h1 => ?_) (fun h1 => ?_)
 ·
  have h0 := cT h0 h1; refine aj ?_; refine aa [] fun tz U u => ?_; (try simp only [go_sem]); refine qU u ?_; clear u U; refine bB ?_; obtain rfl := ak h0; refine aH ?_; refine ax KO (rfl) ?_; exact qF
 ·
  have h0 := cF h0 h1; refine aO ?_; refine aa [1,2] fun tz U u => ?_; obtain ⟨x78, bx78, h0⟩ := bnd h0; (try simp only [go_sem]); (refine aQ (cK a0.Start a1 bx78) ?_; try dsimp only); (try refine ap ?_); (try simp only [go_sem]); refine qU u ?_; clear u U; refine aa [2,5] fun tz U u => ?_; refine bf 3 qS qS (by rfl) fun V v => ?_; refine ap ?_; (try simp only [go_sem]); refine v _ ?_; clear v V; obtain ⟨x80, hvh2, h0⟩ := bnd h0; refine bu 7 [(23, (vb x80))] qS qS (by rfl) (fun V v => ?_) fun tz => ?_
  ·
   refine ap ?_; rcases bE (decide (x78 < 64)) with h2 | h2
   ·
    have hvh2 := cT hvh2 h2; obtain ⟨x79, bx79, hvh2⟩ := bnd hvh2; have bx79 := bQ bx79; simp only [Bool.and_eq_true, decide_eq_true_eq] at bx79; have gx79_0 := bx79; (try simp only [go_sem, h2, gx79_0]); obtain rfl := ak hvh2; exact v _ ⟨rfl, (qB h2), trivial⟩
   ·
    have hvh2 := cF hvh2 h2; (try simp only [go_sem, h2]); obtain rfl := ak hvh2; exact v _ ⟨rfl, (qB h2), trivial⟩
  ·
   refine ap ?_; (try simp only [go_sem]); refine qU u ?_; clear u U; refine aL ?_; obtain rfl := ak h0; refine aH ?_; refine ax KO (rfl) ?_; exact qF
theorem tD (a0 : Unacked) (a1 : Window) {r : Bool} (h0 : gD a0 a1 = some r) : SndP K 69 [(.agg (ag a0)), (.iptr (aU a1) 0)] (vb r) := by
 refine SndP.of_walkW hC cv (af (aw.agg (iF _)) (af (aw.iptr (aI _)) aA)) (show K.P.funcs[69]? = some Try.f69 from Try.func69) rfl rfl (by decide +kernel) (qB2 rfl) ?_; unfold gD at h0; refine aa [0,1] fun tz U u => ?_; (try simp only [go_sem]); refine qU u ?_; clear u U; refine aa [1,2] fun tz U u => ?_; refine bf 4 qS qS (by rfl) fun V v => ?_; refine ap ?_; (try simp only [go_sem]); refine v _ ?_; clear v V; obtain ⟨x78, hvh1, h0⟩ := bnd h0; refine bu 7 [(14, (vb x78))] qS qS (by rfl) (fun V v => ?_) fun tz => ?_
 ·
  refine ap ?_; rcases bE (decide (0 < a0.Tries)) with h1 | h1
  ·
   have hvh1 := cT hvh1 h1; obtain ⟨x77, bx77, hvh1⟩ := bnd hvh1; (try simp only [go_sem, h1]); (refine aQ (zh a1 a0.Frame.Head.Seq bx77) ?_; try dsimp only); (try refine ap ?_); (try simp only [go_sem, h1]); obtain rfl := ak hvh1; exact v _ ⟨rfl, (qB h1), trivial⟩
  ·
   have hvh1 := cF hvh1 h1; (try simp only [go_sem, h1]); obtain rfl := ak hvh1; exact v _ ⟨rfl, (qB h1), trivial⟩
 ·
  refine ap ?_; (try simp only [go_sem]); refine qU u ?_; clear u U; refine aL ?_; obtain rfl := ak h0; refine aH ?_; refine ax LW (rfl) ?_; exact qF
theorem kd (a0 : Unacked) (a1 : Window) (a2 : List Int) {r : (Bool × List Int)} (h0 : eu a0 a1 a2 = some r) : cP K 64 4 (fun q => [(.agg (bh a0 (.imm (List.map vu a0.Frame.Body) a0.Frame.Body.length))), (.ptr (q 0) 0), (.ptr (q 1) 0)]) [(fun q => [(.clo 69 [] [(.ptr (q 2) 0)])]), (fun q => [(.ref (q 3) 0 a2.length 1)]), (fun q => (aU a1)), (fun q => (List.map vi a2))] (fun q => (vb r.1)) [(some (fun q => [(.clo 69 [] [(.ptr (q 2) 0)])])), (some (fun q => [(.ref (q 4) 0 r.2.length 1)])), (some (fun q => (aU a1))), none, (some (fun q => (List.map vi r.2)))] := by
 refine cP.of_walkW hC (RenML.cons (aF.agg (qd _ (rI (fy _)))) (RenML.cons (aF.ptr 0 0) (RenML.cons (aF.ptr 1 0) RenML.nil))) (aK (RenML.cons (aF.clo RenML.nil (RenML.cons (aF.ptr 2 0) RenML.nil)) RenML.nil) (aK (RenML.cons (aF.ref 3 0 _ _) RenML.nil) (aK (RenML.const (aI _)) (aK (RenML.const (ac _)) dW)))) (aD (RenML.cons (aF.clo RenML.nil (RenML.cons (aF.ptr 2 0) RenML.nil)) RenML.nil) (aD (RenML.cons (aF.ref 4 0 _ _) RenML.nil) (aD (RenML.const (aI _)) (ez (aD (RenML.const (ac _)) dg))))) rv rfl (qB2 rfl) (show K.P.funcs[64]? = some Try.f64 from Try.func64) rfl rfl (by decide +kernel) (qB2 rfl) ?_; unfold eu at h0; refine aa [0,1,2] fun tz U u => ?_; (try simp only [go_sem]); refine qU u ?_; clear u U; refine aa [1,2,3] fun tz U u => ?_; obtain ⟨x77, bx77, h0⟩ := bnd h0; (try simp only [go_sem]); (refine lN (by first | (simp only [go_sem, fz] <;> rfl) | (simp only [go_sem, fz, List.length_set, eO, gG, cond_true, cond_false] <;> rfl)) (tD a0 a1 bx77) (kP.v _) ?_; try dsimp only); (try refine ap ?_); (try simp only [go_sem]); refine qU u ?_; clear u U; refine aj ?_; refine aa [2,3,5] fun tz U u => ?_; (try simp only [go_sem]); refine qU u ?_; clear u U; refine aN (b := x77) rfl (fun h1 => ?_) (fun h1 => ?_)
 ·
  have h0 := cT h0 h1; refine aa [2,3,5] fun tz U u => ?_; obtain ⟨x78, bx78, h0⟩ := bnd h0; have bx78 := bQ bx78; simp only [Bool.and_eq_true, decide_eq_true_eq] at bx78; have gx78_0 := bx78; (try simp only [go_sem, gx78_0]); refine qU u ?_; clear u U; refine aa [5] fun tz U u => ?_; (try simp only [go_sem]); refine qU u ?_; clear u U; refine aL ?_; obtain rfl := ak h0; refine aH ?_; refine ax Ff (rfl) ?_; refine dt.mk [] [some 0, some 1, some 2, some 3, some 17] rfl (aS qM rfl (tc (Tm.clo tn (tc tp tn)) tn) (aS qM rfl (tc tr tn) (aS qM rfl (TmL.clean (aI _)) (gS (aS qM rfl (TmL.of_eq qL (ac _)) en))))) tv; (all_goals exact qN)
 ·
  have h0 := cF h0 h1; refine aO ?_; refine aa [5] fun tz U u => ?_; (try simp only [go_sem]); refine qU u ?_; clear u U; refine aL ?_; obtain rfl := ak h0; refine aH ?_; refine ax Ff (rfl) ?_; refine dt.mk [] [some 0, some 1, some 2, some 3, some 3] rfl (aS qM rfl (tc (Tm.clo tn (tc tp tn)) tn) (aS qM rfl (tc tr tn) (aS qM rfl (TmL.clean (aI _)) (gS (aS qM rfl (TmL.of_eq qL (ac _)) en))))) tv; (all_goals exact qN)
def du (a1 : List Unacked) (a0 : Window) (d75 : (List Int)) : AS :=
 { objs := (upd (upd (upd (upd (upd (fun _ => .dead) 0 (.live (List.flatMap ag a1))) 1 (.live [(.clo 69 [] [(.ptr 3 0)])])) 2 (.live [(.ref 4 0 d75.length 1)])) 3 (.live (aU a0))) 4 (.live (List.map vi d75))), next := 5, tmps := (fun _ => .unk) }

def dv (a1 : List Unacked) (a0 : Window) (d77 : (List Int × Int)) : AS :=
 { objs := (upd (upd (upd (upd (upd (fun _ => .dead) 0 (.live (List.flatMap ag a1))) 1 (.live [(.clo 69 [] [(.ptr 3 0)])])) 2 (.live [(.ref 4 0 d77.1.length 1)])) 3 (.live (aU a0))) 4 (.live (List.map vi d77.1))), next := 5, tmps := (upd (upd (upd (upd (fun _ => .unk) 0 (.ref 0 0 a1.length 44)) 1 (.clo 64 [] [(.ptr 1 0), (.ptr 2 0)])) 7 (vi ((a1.length : Nat) : Int))) 8 (vi d77.2)) }

theorem fl (a0 : Window) (a1 : List Unacked) {r : (Int × List Int)} (h0 : bV a0 a1 = some r) : cP K 73 4 (fun q => [(.ref (q 0) 0 a1.length 44), (.clo 64 [] [(.ptr (q 1) 0), (.ptr (q 2) 0)])]) [(fun q => (List.flatMap ag a1)), (fun q => [(.clo 69 [] [(.ptr (q 3) 0)])]), (fun q => [cJ]), (fun q => (aU a0))] (fun q => (vi r.1)) [(some (fun q => (List.flatMap ag a1))), (some (fun q => [(.clo 69 [] [(.ptr (q 3) 0)])])), (some (fun q => [(.ref (q 4) 0 r.2.length 1)])), (some (fun q => (aU a0))), (some (fun q => (List.map vi r.2)))] := by
 refine cP.of_walkW hC (RenML.cons (aF.ref 0 0 _ _) (RenML.cons (aF.clo RenML.nil (RenML.cons (aF.ptr 1 0) (RenML.cons (aF.ptr 2 0) RenML.nil))) RenML.nil)) (aK (RenML.const (ah _)) (aK (RenML.cons (aF.clo RenML.nil (RenML.cons (aF.ptr 3 0) RenML.nil)) RenML.nil) (aK (RenML.cons rv RenML.nil) (aK (RenML.const (aI _)) dW)))) (aD (RenML.const (ah _)) (aD (RenML.cons (aF.clo RenML.nil (RenML.cons (aF.ptr 3 0) RenML.nil)) RenML.nil) (aD (RenML.cons (aF.ref 4 0 _ _) RenML.nil) (aD (RenML.const (aI _)) (aD (RenML.const (ac _)) dg))))) rv rfl (qB2 rfl) (show K.P.funcs[73]? = some Try.f73 from Try.func73) rfl rfl (by decide +kernel) (qB2 rfl) ?_; unfold bV at h0; refine aa [0,1] fun tz U u => ?_; (try simp only [go_sem]); refine qU u ?_; clear u U; refine aj ?_; refine aa [0,1] fun tz U u => ?_; (try simp only [go_sem]); refine qU u ?_; clear u U; obtain ⟨o76, hi1, h0⟩ := bnd h0; refine c7 (fun d75 : (List Int) => o76 = Ex.go d75) (fun d75 : (List Int) => du a1 a0 d75) ?_ ?_
 ·
  refine bp ?_; refine cz (fun n (d77 : (List Int × Int)) => aX a1 a0 n d77 = some o76) (fun d77 : (List Int × Int) => dv a1 a0 d77) big ([], 0) (by refine Wk.canonD [] [] [some 0, some 1, some 2, some 3, none] rfl trivial rfl (vI 4 (ar 3 (ar 2 (ar 1 (ar 0 bo rfl qM rfl (TmL.of_eq qL (ah _))) rfl qM rfl (tc (Tm.clo tn (tc tp tn)) tn)) rfl qM rfl (tc tT tn)) rfl qM rfl (TmL.clean (aI _))) rfl) (tA 8 (tA 7 (tA 1 (tA 0 aG tr) (Tm.clo tn (tc tp (tc tp tn)))) tv) tv); all_goals exact qN) hi1 ?_; clear hi1; rintro n d77 hl3; rcases n with _ | n2
  ·
   (rw [aX] at hl3; cases hl3)
  ·
   rw [aX] at hl3; unfold dv; refine aa [0,1,7,8] fun tz U u => ?_; (try simp only [go_sem]); refine qU u ?_; clear u U; refine aN (b := (decide (d77.2 < ((a1.length : Nat) : Int)))) rfl (fun h4 => ?_) (fun h4 => ?_)
   ·
    have hl3 := cT hl3 h4; refine aO ?_; refine cd ?_; refine aa [0,1,7,8] fun tz U u => ?_; (try simp only [go_sem]); refine qU u ?_; clear u U; refine aa [0,1,5,7,8] fun tz U u => ?_; obtain ⟨x78, bx78, hl3⟩ := bnd hl3; obtain ⟨fx78_0, fx78_1, fx78_2, fx78_3⟩ := co bx78; (have fx78_5 : ((d77.2 : Int) < ((a1.length : Nat) : Int)) = True := by first | exact fx78_1 | (simp [List.length_modify, List.length_set]; omega)); obtain ⟨x79, bx79, hl3⟩ := bnd hl3; (try simp only [go_sem, fx78_0, fx78_1, fx78_2, fx78_5]); (refine bJ [1, 2, 3, 4] (kd x78 a0 d77.1 bx79) (by decide) (by decide) ⟨(by first | rfl | (simp only [go_sem, fx78_0, fx78_1, fx78_2, fx78_5] <;> rfl)), (by first | rfl | (simp only [go_sem, fx78_0, fx78_1, fx78_2, fx78_5] <;> rfl)), (by first | rfl | (simp only [go_sem, fx78_0, fx78_1, fx78_2, fx78_5] <;> rfl)), (by first | rfl | (simp only [go_sem, fx78_0, fx78_1, fx78_2, fx78_5] <;> rfl)), trivial⟩ (by first | rfl | (simp only [go_sem, fx78_0, fx78_1, fx78_2, fx78_5] <;> rfl)) ?_; try dsimp only); (try refine ap ?_); (try simp only [go_sem, fx78_0, fx78_1, fx78_2, fx78_5, lc, ln]); refine qU u ?_; clear u U; refine bC (b := x79.1) rfl (fun h5 => ?_) (fun h5 => ?_)
    ·
     have hl3 := cT hl3 h5; refine aa [5] fun tz U u => ?_; (try simp only [go_sem, fx78_0, fx78_1, fx78_2, fx78_5]); refine qU u ?_; clear u U; refine aL ?_; refine iN ?_; refine jk ?_; refine z7 ?_; refine iN ?_; refine jk ?_; obtain rfl := ak hl3; obtain rfl := Ex.k_ret h0; refine aH ?_; refine ax Fh (rfl) ?_; refine dt.mk [] [some 0, some 1, some 2, some 3, some 14] rfl (aS qM rfl (TmL.of_eq qL (ah _)) (aS qM rfl (tc (Tm.clo tn (tc tp tn)) tn) (aS qM rfl (tc tr tn) (aS qM rfl (TmL.clean (aI _)) (aS qM rfl (TmL.of_eq qL (ac _)) en))))) tv; (all_goals exact qN)
    ·
     have hl3 := cF hl3 h5; refine cS ?_; refine gO ?_; refine dM ?_; refine br [0,1,7,8] fun tz U u => ?_; (try simp only [go_sem, fx78_0, fx78_1, fx78_2, fx78_5]); refine u _ ?_; clear u U; refine iL ?_; exact ⟨n2, (x79.2, IntKind.wrap .i64 (d77.2 + 1)), rfl, hl3, (by refine Wk.canonD [] [] [some 0, some 1, some 2, some 3, some 14] rfl trivial rfl (ar 4 (ar 3 (ar 2 (ar 1 (ar 0 bo rfl qM rfl (TmL.of_eq qL (ah _))) rfl qM rfl (tc (Tm.clo tn (tc tp tn)) tn)) rfl qM rfl (tc tr tn)) rfl qM rfl (TmL.clean (aI _))) rfl qM rfl (TmL.of_eq qL (ac _))) (tA 8 (tA 7 (tA 1 (tA 0 aG tr) (Tm.clo tn (tc tp (tc tp tn)))) tv) tv); all_goals exact qN)⟩
   ·
    have hl3 := cF hl3 h4; refine cx ?_; refine j9 ?_; refine js ?_; refine fC ?_; obtain rfl := ak hl3; exact ⟨_, rfl, (by refine Wk.canonD [] [] [some 0, some 1, some 2, some 3, some 4] rfl trivial rfl (ar 4 (ar 3 (ar 2 (ar 1 (ar 0 bo rfl qM rfl (TmL.of_eq qL (ah _))) rfl qM rfl (tc (Tm.clo tn (tc tp tn)) tn)) rfl qM rfl (tc tr tn)) rfl qM rfl (TmL.clean (aI _))) rfl qM rfl (TmL.of_eq qL (ac _))) aG; all_goals exact qN)⟩
 ·
  rintro d75 rfl; have h0 := Ex.k_go h0; clear hi1; unfold du; refine aa [] fun tz U u => ?_; (try simp only [go_sem]); refine qU u ?_; clear u U; refine aL ?_; obtain rfl := ak h0; refine aH ?_; refine ax Fh (rfl) ?_; refine dt.mk [] [some 0, some 1, some 2, some 3, some 4] rfl (aS qM rfl (TmL.of_eq qL (ah _)) (aS qM rfl (tc (Tm.clo tn (tc tp tn)) tn) (aS qM rfl (tc tr tn) (aS qM rfl (TmL.clean (aI _)) (aS qM rfl (TmL.of_eq qL (ac _)) en))))) tv; (all_goals exact qN)
def dn (a0 : Window) (d76 : (List Unacked × Int × List Int)) : AS :=
 { objs := (upd (upd (upd (upd (upd (fun _ => .dead) 0 (.live (List.flatMap ag d76.1))) 1 (.live [(.clo 69 [] [(.ptr 3 0)])])) 2 (.live [(.ref 4 0 d76.2.2.length 1)])) 3 (.live (aU a0))) 4 (.live (List.map vi d76.2.2))), next := 5, tmps := (upd (upd (fun _ => .unk) 0 (.ref 0 0 d76.1.length 44)) 5 (vi d76.2.1)) }

def dm (a0 : Window) (d77 : (List Unacked × List Int × Int × Int)) : AS :=
 { objs := (upd (upd (upd (upd (upd (fun _ => .dead) 0 (.live (List.flatMap ag d77.1))) 1 (.live [(.clo 69 [] [(.ptr 3 0)])])) 2 (.live [(.ref 4 0 d77.2.1.length 1)])) 3 (.live (aU a0))) 4 (.live (List.map vi d77.2.1))), next := 5, tmps := (upd (upd (upd (upd (fun _ => .unk) 0 (.ref 0 0 d77.1.length 44)) 1 (.clo 64 [] [(.ptr 1 0), (.ptr 2 0)])) 5 (vi d77.2.2.1)) 6 (vi d77.2.2.2)) }

theorem fk (a0 : Window) (a1 : List Unacked) {r : (List Unacked × List Int)} (h0 : bF a0 a1 = some r) : cP K 63 4 (fun q => [(.ref (q 0) 0 a1.length 44), (.clo 64 [] [(.ptr (q 1) 0), (.ptr (q 2) 0)])]) [(fun q => (List.flatMap ag a1)), (fun q => [(.clo 69 [] [(.ptr (q 3) 0)])]), (fun q => [cJ]), (fun q => (aU a0))] (fun q => (.ref (q 0) 0 r.1.length 44)) [(some (fun q => (List.flatMap ag r.1))), (some (fun q => [(.clo 69 [] [(.ptr (q 3) 0)])])), (some (fun q => [(.ref (q 4) 0 r.2.length 1)])), (some (fun q => (aU a0))), (some (fun q => (List.map vi r.2)))] := by
 refine cP.of_walkW hC (RenML.cons (aF.ref 0 0 _ _) (RenML.cons (aF.clo RenML.nil (RenML.cons (aF.ptr 1 0) (RenML.cons (aF.ptr 2 0) RenML.nil))) RenML.nil)) (aK (RenML.const (ah _)) (aK (RenML.cons (aF.clo RenML.nil (RenML.cons (aF.ptr 3 0) RenML.nil)) RenML.nil) (aK (RenML.cons rv RenML.nil) (aK (RenML.const (aI _)) dW)))) (aD (RenML.const (ah _)) (aD (RenML.cons (aF.clo RenML.nil (RenML.cons (aF.ptr 3 0) RenML.nil)) RenML.nil) (aD (RenML.cons (aF.ref 4 0 _ _) RenML.nil) (aD (RenML.const (aI _)) (aD (RenML.const (ac _)) dg))))) (aF.ref 0 0 _ _) rfl (qB2 rfl) (show K.P.funcs[63]? = some Try.f63 from Try.func63) rfl rfl (by decide +kernel) (qB2 rfl) ?_; unfold bF at h0; refine aa [0,1] fun tz U u => ?_; (try simp only [go_sem]); refine qU u ?_; clear u U; refine aa [0,1] fun tz U u => ?_; obtain ⟨x75, bx75, h0⟩ := bnd h0; (try simp only [go_sem]); (refine bJ [0, 1, 2, 3] (fl a0 a1 bx75) (by decide) (by decide) ⟨qG, qG, qG, qG, trivial⟩ qG ?_; try dsimp only); (try refine ap ?_); (try simp only [go_sem, lc, ln]); refine qU u ?_; clear u U; refine aj ?_; refine aa [0,1,5] fun tz U u => ?_; (try simp only [go_sem, Int.reduceNeg]); refine qU u ?_; clear u U; refine aN (b := (x75.1 == (-1))) rfl (fun h1 => ?_) (fun h1 => ?_)
 ·
  have h0 := cT h0 h1; refine aj ?_; refine aa [0] fun tz U u => ?_; (try simp only [go_sem]); refine qU u ?_; clear u U; refine bB ?_; obtain rfl := ak h0; refine aH ?_; refine ax E8 (rfl) ?_; refine dt.mk [] [some 0, some 1, some 2, some 3, some 9] rfl (aS qM rfl (TmL.of_eq qL (ah _)) (aS qM rfl (tc (Tm.clo tn (tc tp tn)) tn) (aS qM rfl (tc tr tn) (aS qM rfl (TmL.clean (aI _)) (aS qM rfl (TmL.of_eq qL (ac _)) en))))) tr; (all_goals exact qN)
 ·
  have h0 := cF h0 h1; refine aO ?_; refine aj ?_; refine aa [0,1,5] fun tz U u => ?_; (try simp only [go_sem]); refine qU u ?_; clear u U; obtain ⟨d76, hi2, h0⟩ := bnd h0; refine c7 (fun z => d76 = z) (fun d76 : (List Unacked × Int × List Int) => dn a0 d76) ?_ ?_
  ·
   refine bp ?_; refine cz (fun n (d77 : (List Unacked × List Int × Int × Int)) => aT a0 n d77 = some d76) (fun d77 : (List Unacked × List Int × Int × Int) => dm a0 d77) big (a1, x75.2, x75.1, IntKind.wrap .i64 (x75.1 + 1)) (by refine Wk.canonD [] [] [some 0, some 1, some 2, some 3, some 9] rfl trivial rfl (ar 4 (ar 3 (ar 2 (ar 1 (ar 0 bo rfl qM rfl (TmL.of_eq qL (ah _))) rfl qM rfl (tc (Tm.clo tn (tc tp tn)) tn)) rfl qM rfl (tc tr tn)) rfl qM rfl (TmL.clean (aI _))) rfl qM rfl (TmL.of_eq qL (ac _))) (tA 6 (tA 5 (tA 1 (tA 0 aG tr) (Tm.clo tn (tc tp (tc tp tn)))) tv) tv); all_goals exact qN) hi2 ?_; clear hi2; rintro n d77 hl4; rcases n with _ | n3
   ·
    (rw [aT] at hl4; cases hl4)
   ·
    rw [aT] at hl4; unfold dm; refine aj ?_; refine aa [0,1,5,6] fun tz U u => ?_; (try simp only [go_sem]); refine qU u ?_; clear u U; refine aN (b := (decide (d77.2.2.2 < ((d77.1.length : Nat) : Int)))) rfl (fun h5 => ?_) (fun h5 => ?_)
    ·
     have hl4 := cT hl4 h5; refine aO ?_; refine cd ?_; refine aa [0,1,5,6] fun tz U u => ?_; obtain ⟨x78, bx78, hl4⟩ := bnd hl4; obtain ⟨fx78_0, fx78_1, fx78_2, fx78_3⟩ := co bx78; (have fx78_5 : ((d77.2.2.2 : Int) < ((d77.1.length : Nat) : Int)) = True := by first | exact fx78_1 | (simp [List.length_modify, List.length_set]; omega)); (try simp only [go_sem, fx78_0, fx78_1, fx78_2, fx78_5]); refine qU u ?_; clear u U; refine aa [0,1,5,6,7] fun tz U u => ?_; obtain ⟨x79, bx79, hl4⟩ := bnd hl4; (try simp only [go_sem, fx78_0, fx78_1, fx78_2, fx78_5]); (refine bJ [1, 2, 3, 4] (kd x78 a0 d77.2.1 bx79) (by decide) (by decide) ⟨(by first | rfl | (simp only [go_sem, fx78_0, fx78_1, fx78_2, fx78_5] <;> rfl)), (by first | rfl | (simp only [go_sem, fx78_0, fx78_1, fx78_2, fx78_5] <;> rfl)), (by first | rfl | (simp only [go_sem, fx78_0, fx78_1, fx78_2, fx78_5] <;> rfl)), (by first | rfl | (simp only [go_sem, fx78_0, fx78_1, fx78_2, fx78_5] <;> rfl)), trivial⟩ (by first | rfl | (simp only [go_sem, fx78_0, fx78_1, fx78_2, fx78_5] <;> rfl)) ?_; try dsimp only); (try refine ap ?_); (try simp only [go_sem, fx78_0, fx78_1, fx78_2, fx78_5, lc, ln]); refine qU u ?_; clear u U; refine bC (b := (!x79.1)) rfl (fun h6 => ?_) (fun h6 => ?_)
     ·
      have hl4 := cT hl4 h6; refine aa [0,1,5,6,7] fun tz U u => ?_; obtain ⟨x80, bx80, hl4⟩ := bnd hl4; obtain ⟨fx80_0, fx80_1, fx80_2, fx80_3⟩ := co bx80; (have fx80_5 : ((d77.2.2.1 : Int) < ((d77.1.length : Nat) : Int)) = True := by first | exact fx80_1 | (simp [List.length_modify, List.length_set]; omega)); have gs7 : ((d77.2.2.1).toNat * 44 + 44 ≤ d77.1.length * 44) = True := eq_true (by (try simp only [List.length_modify, List.length_set]); omega); have gm8 : (d77.1.set ((d77.2.2.1).toNat) x78)[(d77.2.2.1).toNat]? = some x78 := DJ _ fx80_2; (try simp only [go_sem, fx78_0, fx78_1, fx78_2, fx78_5, fx80_0, fx80_1, fx80_2, fx80_5, gs7, gm8]); refine qU u ?_; clear u U; refine br [0,1,5,6] fun tz U u => ?_; (try simp only [go_sem, gm8, fx80_0, fx80_1, fx80_2, fx80_5]); refine u _ ?_; clear u U; refine gO ?_; refine dM ?_; refine br [0,1,5,6] fun tz U u => ?_; (try simp only [go_sem, gm8, fx80_0, fx80_1, fx80_2, fx80_5]); refine u _ ?_; clear u U; refine iL ?_; exact ⟨n3, ((d77.1.set ((d77.2.2.1).toNat) x78), x79.2, IntKind.wrap .i64 (d77.2.2.1 + 1), IntKind.wrap .i64 (d77.2.2.2 + 1)), rfl, hl4, (by refine Wk.canonD [] [] [some 0, some 1, some 2, some 3, some 19] rfl trivial rfl (ar 4 (ar 3 (ar 2 (ar 1 (ar 0 bo rfl qM rfl (TmL.of_eq qL (ah _))) rfl qM rfl (tc (Tm.clo tn (tc tp tn)) tn)) rfl qM rfl (tc tr tn)) rfl qM rfl (TmL.clean (aI _))) rfl qM rfl (TmL.of_eq qL (ac _))) (tA 6 (tA 5 (tA 1 (tA 0 aG tr) (Tm.clo tn (tc tp (tc tp tn)))) tv) tv); all_goals exact qN)⟩
     ·
      have hl4 := cF hl4 h6; refine cS ?_; refine gO ?_; refine dM ?_; refine br [0,1,5,6] fun tz U u => ?_; (try simp only [go_sem, fx78_0, fx78_1, fx78_2, fx78_5]); refine u _ ?_; clear u U; refine iL ?_; exact ⟨n3, (d77.1, x79.2, d77.2.2.1, IntKind.wrap .i64 (d77.2.2.2 + 1)), rfl, hl4, (by refine Wk.canonD [] [] [some 0, some 1, some 2, some 3, some 19] rfl trivial rfl (ar 4 (ar 3 (ar 2 (ar 1 (ar 0 bo rfl qM rfl (TmL.of_eq qL (ah _))) rfl qM rfl (tc (Tm.clo tn (tc tp tn)) tn)) rfl qM rfl (tc tr tn)) rfl qM rfl (TmL.clean (aI _))) rfl qM rfl (TmL.of_eq qL (ac _))) (tA 6 (tA 5 (tA 1 (tA 0 aG tr) (Tm.clo tn (tc tp (tc tp tn)))) tv) tv); all_goals exact qN)⟩
    ·
     have hl4 := cF hl4 h5; refine cx ?_; refine j9 ?_; refine js ?_; refine fC ?_; obtain rfl := ak hl4; exact ⟨_, rfl, (by refine Wk.canonD [] [] [some 0, some 1, some 2, some 3, some 4] rfl trivial rfl (ar 4 (ar 3 (ar 2 (ar 1 (ar 0 bo rfl qM rfl (TmL.of_eq qL (ah _))) rfl qM rfl (tc (Tm.clo tn (tc tp tn)) tn)) rfl qM rfl (tc tr tn)) rfl qM rfl (TmL.clean (aI _))) rfl qM rfl (TmL.of_eq qL (ac _))) (tA 5 (tA 0 aG tr) tv); all_goals exact qN)⟩
  ·
   rintro _ rfl; clear hi2; unfold dn; refine aa [0,5] fun tz U u => ?_; obtain ⟨x81, bx81, h0⟩ := bnd h0; have bx81 := bQ bx81; simp only [Bool.and_eq_true, decide_eq_true_eq] at bx81; obtain ⟨gx81_0, gx81_1⟩ := bx81; (have g9 : (((d76.1.length : Nat) : Int) - d76.2.1).toNat = d76.1.length - (d76.2.1).toNat := by omega); have gs10 : ((d76.2.1).toNat * 44 + (d76.1.length - (d76.2.1).toNat) * 44 ≤ d76.1.length * 44) = True := eq_true (by omega); (try simp only [go_sem, gx81_0, gx81_1, g9, gs10]); have ht : cC (List.flatMap ag d76.1) ((d76.2.1).toNat * 44) (rep (d76.1.length - (d76.2.1).toNat) (bh Unacked.z cJ)) = (List.flatMap ag (List.take ((d76.2.1).toNat) d76.1)) ++ _ := wv c4 _ _ _ (by rw [dK]; exact of_eq_true gs10); refine u _ _ (Wk.trim 0 ?_ ht) ?_
   ·
    simp only [eC, Nat.reduceEqDiff, reduceIte, if_true, if_false] <;> rfl
   clear u U ht; refine aa [0,5] fun tz U u => ?_; obtain ⟨x82, bx82, h0⟩ := bnd h0; have bx82 := bQ bx82; simp only [Bool.and_eq_true, decide_eq_true_eq] at bx82; obtain ⟨gx82_0, gx82_1⟩ := bx82; (try simp only [go_sem, gx82_0, gx82_1, Int.sub_zero]); refine qU u ?_; clear u U; refine aL ?_; obtain rfl := ak h0; refine aH ?_; refine ax E8 (rfl) ?_; refine dt.mk [] [some 0, some 1, some 2, some 3, some 4] rfl (aS qM rfl (TmL.of_eq qL (ah _)) (aS qM rfl (tc (Tm.clo tn (tc tp tn)) tn) (aS qM rfl (tc tr tn) (aS qM rfl (TmL.clean (aI _)) (aS qM rfl (TmL.of_eq qL (ac _)) en))))) tr; (all_goals exact qN)
theorem qX (a0 : Sender) (a1 : Window) {r : (List Int × List Unacked)} (h0 : fR a0 a1 = some r) : cP K 46 3 (fun q => [(.ptr (q 0) 0), (.clo 69 [] [(.ptr (q 1) 0)])]) [(fun q => (av a0 (.ref (q 2) 0 a0.Out.length 44))), (fun q => (aU a1)), (fun q => (List.flatMap ag a0.Out))] (fun q => (.ref (q 3) 0 r.1.length 1)) [(some (fun q => (av a0 (.ref (q 2) 0 r.2.length 44)))), (some (fun q => (aU a1))), (some (fun q => (List.flatMap ag r.2))), (some (fun q => (List.map vi r.1)))] := by
 refine cP.of_walkW hC (RenML.cons (aF.ptr 0 0) (RenML.cons (aF.clo RenML.nil (RenML.cons (aF.ptr 1 0) RenML.nil)) RenML.nil)) (aK (bD _ (aF.ref 2 0 _ _)) (aK (RenML.const (aI _)) (aK (RenML.const (ah _)) dW))) (aD (bD _ (aF.ref 2 0 _ _)) (aD (RenML.const (aI _)) (aD (RenML.const (ah _)) (aD (RenML.const (ac _)) dg)))) (aF.ref 3 0 _ _) rfl (qB2 rfl) (show K.P.funcs[46]? = some Try.f46 from Try.func46) rfl rfl (by decide +kernel) (qB2 rfl) ?_; unfold fR at h0; refine aa [0,1] fun tz U u => ?_; (try simp only [go_sem]); refine qU u ?_; clear u U; refine aa [0,3,4] fun tz U u => ?_; obtain ⟨x75, bx75, h0⟩ := bnd h0; (try simp only [go_sem]); (refine bJ [2, 3, 4, 1] (fk a1 a0.Out bx75) (by decide) (by decide) ⟨qG, qG, qG, qG, trivial⟩ qG ?_; try dsimp only); (try refine ap ?_); (try simp only [go_sem, lc, ln]); refine qU u ?_; clear u U; refine aa [4] fun tz U u => ?_; (try simp only [go_sem]); refine qU u ?_; clear u U; refine aL ?_; obtain rfl := ak h0; refine aH ?_; refine ax Kq qR ?_; refine dt.mk [] [some 0, some 1, some 2, some 15] rfl (aS qM rfl (al (by rfl) tr) (aS qM rfl (TmL.clean (aI _)) (aS qM rfl (TmL.of_eq qL (ah _)) (aS qM rfl (TmL.of_eq qL (ac _)) en)))) tr; (all_goals exact qN)
def ns (x74 : (Sender × Int)) (a1 : Window) : AS :=
 { objs := (upd (upd (upd (upd (fun _ => .dead) 0 (.live (av x74.1 (.ref 1 0 x74.1.Out.length 44)))) 1 (.live (List.flatMap ag x74.1.Out))) 2 (.live (aU a1))) 3 (.live (av Sender.z cJ))), next := 4, tmps := (upd (upd (upd (upd (fun _ => .unk) 2 (.ptr 0 0)) 3 (.ptr 2 0)) 5 (.ptr 3 0)) 6 (vi x74.2)) }

theorem vU (a0 : Sender) (a1 : Window) {r : ((List Int) × Sender × Int)} (h0 : fN a0 a1 = some r) : ga K 54 [(.agg (bt a0)), (.agg (aU a1))] (fun q => (.tup [(.ref (q 0) 0 r.1.length 1), (.agg (av r.2.1 (.ref (q 1) 0 r.2.1.Out.length 44))), (vi r.2.2)])) [(List.map vi r.1), (List.flatMap ag r.2.1.Out)] := by
 refine ga.of_walkW hC (show K.P.funcs[54]? = some Try.f54 from Try.func54) rfl rfl (by decide +kernel) (qB2 rfl) ?_; unfold fN at h0; refine aa [0,1] fun tz U u => ?_; (try simp only [go_sem]); refine qU u ?_; clear u U; refine d8 [2,3,5] (fun _ => rfl) fun tz => ?_; refine ct fun U u all hall => ?_; refine cu ?_; (try simp only [List.toList_toArray, List.map_cons, List.map_nil, List.size_toArray, List.length_cons, List.length_nil, Nat.zero_add]); (try simp only [Nat.reduceAdd]); obtain ⟨x73, bx73, h0⟩ := bnd h0; (iterate 3 ((try simp only [go_sem, -Nat.reduceAdd]); try simp only [Nat.reduceAdd])); (refine fe (k8 a1 bx73) ?_; try dsimp only); (try refine cu ?_); obtain ⟨x74, bx74, h0⟩ := bnd h0; (iterate 3 ((try simp only [go_sem, -Nat.reduceAdd]); try simp only [Nat.reduceAdd])); (refine oT (lU a0 (x73 == 0) bx74 _) ?_; try dsimp only); (try refine cu ?_); (iterate 3 ((try simp only [go_sem, -Nat.reduceAdd]); try simp only [Nat.reduceAdd])); refine And.intro ?_ (u _ (ns x74 a1) (by refine Wk.canonD [] [] [some 0, some 9, some 1, some 3] rfl trivial rfl (ar 3 (ar 2 (ar 1 (ar 0 bo rfl qM rfl (al (by rfl) tr)) rfl qM rfl (TmL.of_eq qL (ah _))) rfl qM rfl (TmL.clean (aI _))) rfl qM rfl (al (by rfl) tv)) (tA 6 (tA 5 (tA 3 (tA 2 aG tp) tp) tp) tv); all_goals exact qN) ?_)
 ·
  subst hall; clear u U; exact qP
 ·
  clear u U hall all; unfold ns; refine aj ?_; refine aa [2,3,5,6] fun tz U u => ?_; (try simp only [go_sem]); refine qU u ?_; clear u U; refine aN (b := (x74.2 != 0)) rfl (fun h1 => ?_) (fun h1 => ?_)
  ·
   have h0 := cT h0 h1; refine aj ?_; refine aa [5,6] fun tz U u => ?_; (try simp only [go_sem]); refine qU u ?_; clear u U; refine bB ?_; obtain rfl := ak h0; refine aH ?_; refine ax KF qR ?_; refine Res.mk [] [none, none] rfl (cY (cY cX)) (Tm.tup (tc tT (tc (Tm.agg (al (by rfl) tT)) (tc tv tn))))
  ·
   have h0 := cF h0 h1; refine aO ?_; refine aa [2,3,5] fun tz U u => ?_; obtain ⟨x75, bx75, h0⟩ := bnd h0; (try simp only [go_sem]); (refine bJ [0, 2, 1] (qX x74.1 a1 bx75) (by decide) (by decide) ⟨qG, qG, qG, trivial⟩ qG ?_; try dsimp only); (try refine ap ?_); (try simp only [go_sem, lc, ln]); refine qU u ?_; clear u U; refine aa [2,4,5] fun tz U u => ?_; obtain ⟨x76, bx76, h0⟩ := bnd h0; (try simp only [go_sem]); (refine bJ [0, 1] (o6 { x74.1 with Out := x75.2 } bx76) (by decide) (by decide) ⟨qG, qG, trivial⟩ qG ?_; try dsimp only); (try refine ap ?_); (try simp only [go_sem, lc, ln]); refine qU u ?_; clear u U; refine d8 [2,4,5] (fun _ => rfl) fun tz => ?_; refine ct fun U u all hall => ?_; refine cu ?_; (try simp only [List.toList_toArray, List.map_cons, List.map_nil, List.size_toArray, List.length_cons, List.length_nil, Nat.zero_add]); (try simp only [Nat.reduceAdd]); (iterate 3 ((try simp only [go_sem, -Nat.reduceAdd]); try simp only [Nat.reduceAdd])); refine And.intro ?_ (u _ _ (Wk.refl _ _ _) ?_)
   ·
    subst hall; clear u U; exact qP
   ·
    clear u U hall all; refine aL ?_; obtain rfl := ak h0; refine aH ?_; refine ax KF qR ?_; refine Res.mk [] [some 9, some 1] rfl (fo qM rfl (TmL.of_eq qL (ac _)) (fo qM rfl (TmL.of_eq qL (ah _)) cX)) (Tm.tup (tc tr (tc (Tm.agg (al (by rfl) tr)) (tc tv tn)))); (all_goals exact qN)


theorem ws (a0 : Sender) (a1 : Window) {r : ((List Int) × Sender × Int)} (h0 : fN a0 a1 = some r) : SndP K 54 [(.agg (bt a0)), (.agg (aU a1))] (.tup [(lE r.1), (.agg (bt r.2.1)), (vi r.2.2)]) :=
 lC.pure (rM (vU a0 a1 h0) (aF.tup (RenML.cons (aF.ref 0 0 _ _) (RenML.cons (aF.agg (bD _ (aF.ref 1 0 _ _))) (RenML.cons rv RenML.nil)))) (bq (ac _) (bq (ah _) cH)) (af (aw.agg (aR _)) (af (aw.agg (aI _)) aA))) (aw.tup (af (dh _) (af (aw.agg (aR _)) (af cv aA)))) (af (aw.agg (aR _)) (af (aw.agg (aI _)) aA)) qV
def gR (a0 : Session_session) (x65 : (Bool × List Bool)) (x66 : (Sender × Int)) : AS :=
 { objs := (upd (upd (upd (upd (upd (upd (fun _ => .dead) 0 (.live (ae a0 (.imm (List.flatMap ag a0.sides.Sender.Out) a0.sides.Sender.Out.length) (.imm (List.flatMap ai a0.sides.Reorder.Held) a0.sides.Reorder.Held.length) (.clo 17 [] [(.ptr 1 0)]) (.ref 2 0 a0.out.Delivered.length 1) (.ref 3 0 a0.out.Acked.length 1) (.ref 4 0 a0.out.Dropped.length 1)))) 1 (.live [(.imm (List.map vb x65.2) x65.2.length)])) 2 (.live (List.map vi a0.out.Delivered))) 3 (.live (List.map vi a0.out.Acked))) 4 (.live (List.map vi a0.out.Dropped))) 5 (.live (av x66.1 (.imm (List.flatMap ag x66.1.Out) x66.1.Out.length)))), next := 6, tmps := (upd (upd (upd (fun _ => .unk) 0 (.ptr 0 0)) 2 (.ptr 5 0)) 3 (vi x66.2)) }

def gV (a0 : Session_session) (x65 : (Bool × List Bool)) (x68 : (Window × Int)) : AS :=
 { objs := (upd (upd (upd (upd (upd (upd (fun _ => .dead) 0 (.live (ae a0 (.imm (List.flatMap ag a0.sides.Sender.Out) a0.sides.Sender.Out.length) (.imm (List.flatMap ai a0.sides.Reorder.Held) a0.sides.Reorder.Held.length) (.clo 17 [] [(.ptr 1 0)]) (.ref 2 0 a0.out.Delivered.length 1) (.ref 3 0 a0.out.Acked.length 1) (.ref 4 0 a0.out.Dropped.length 1)))) 1 (.live [(.imm (List.map vb x65.2) x65.2.length)])) 2 (.live (List.map vi a0.out.Delivered))) 3 (.live (List.map vi a0.out.Acked))) 4 (.live (List.map vi a0.out.Dropped))) 5 (.live (aU x68.1))), next := 6, tmps := (upd (upd (upd (fun _ => .unk) 0 (.ptr 0 0)) 4 (.ptr 5 0)) 5 (vi x68.2)) }

def gT (x69 : Session_session) (a0 : Session_session) (x65 : (Bool × List Bool)) (x70 : ((List Int) × Sender × Int)) : AS :=
 { objs := (upd (upd (upd (upd (upd (upd (fun _ => .dead) 0 (.live (ae x69 (.imm (List.flatMap ag x69.sides.Sender.Out) x69.sides.Sender.Out.length) (.imm (List.flatMap ai x69.sides.Reorder.Held) x69.sides.Reorder.Held.length) (.clo 17 [] [(.ptr 1 0)]) (.ref 2 0 a0.out.Delivered.length 1) (.ref 3 0 a0.out.Acked.length 1) (.ref 4 0 a0.out.Dropped.length 1)))) 1 (.live [(.imm (List.map vb x65.2) x65.2.length)])) 2 (.live (List.map vi a0.out.Delivered))) 3 (.live (List.map vi a0.out.Acked))) 4 (.live (List.map vi a0.out.Dropped))) 5 (.live (av x70.2.1 (.imm (List.flatMap ag x70.2.1.Out) x70.2.1.Out.length)))), next := 6, tmps := (upd (upd (upd (upd (fun _ => .unk) 0 (.ptr 0 0)) 5 (vi x70.2.2)) 6 (.imm (List.map vi x70.1) x70.1.length)) 7 (.ptr 5 0)) }

theorem gW (a0 : Session_session) (a1 : (List Bool)) {r : (Session_session × List Bool × List Int)} (h0 : cL a0 a1 = some r) : cP K 36 5 (fun q => [(.ptr (q 0) 0)]) [(fun q => (ae a0 (.imm (List.flatMap ag a0.sides.Sender.Out) a0.sides.Sender.Out.length) (.imm (List.flatMap ai a0.sides.Reorder.Held) a0.sides.Reorder.Held.length) (.clo 17 [] [(.ptr (q 1) 0)]) (.ref (q 2) 0 a0.out.Delivered.length 1) (.ref (q 3) 0 a0.out.Acked.length 1) (.ref (q 4) 0 a0.out.Dropped.length 1))), (fun q => [(.imm (List.map vb a1) a1.length)]), (fun q => (List.map vi a0.out.Delivered)), (fun q => (List.map vi a0.out.Acked)), (fun q => (List.map vi a0.out.Dropped))] (fun q => (.tup [])) [(some (fun q => (ae r.1 (.imm (List.flatMap ag r.1.sides.Sender.Out) r.1.sides.Sender.Out.length) (.imm (List.flatMap ai r.1.sides.Reorder.Held) r.1.sides.Reorder.Held.length) (.clo 17 [] [(.ptr (q 1) 0)]) (.ref (q 2) 0 a0.out.Delivered.length 1) (.ref (q 5) 0 r.2.2.length 1) (.ref (q 4) 0 a0.out.Dropped.length 1)))), (some (fun q => [(.imm (List.map vb r.2.1) r.2.1.length)])), (some (fun q => (List.map vi a0.out.Delivered))), none, (some (fun q => (List.map vi a0.out.Dropped))), (some (fun q => (List.map vi r.2.2)))] := by
 refine cP.of_walkW hC (RenML.cons (aF.ptr 0 0) RenML.nil) (aK (bb _ (rI (ah _)) (rI (au _)) (aF.clo RenML.nil (RenML.cons (aF.ptr 1 0) RenML.nil)) (aF.ref 2 0 _ _) (aF.ref 3 0 _ _) (aF.ref 4 0 _ _)) (aK (RenML.cons (rI (aP _)) RenML.nil) (aK (RenML.const (ac _)) (aK (RenML.const (ac _)) (aK (RenML.const (ac _)) dW))))) (aD (bb _ (rI (ah _)) (rI (au _)) (aF.clo RenML.nil (RenML.cons (aF.ptr 1 0) RenML.nil)) (aF.ref 2 0 _ _) (aF.ref 5 0 _ _) (aF.ref 4 0 _ _)) (aD (RenML.cons (rI (aP _)) RenML.nil) (aD (RenML.const (ac _)) (ez (aD (RenML.const (ac _)) (aD (RenML.const (ac _)) dg)))))) (aF.tup RenML.nil) rfl (qB2 rfl) (show K.P.funcs[36]? = some Try.f36 from Try.func36) rfl rfl (by decide +kernel) (qB2 rfl) ?_; unfold cL at h0; refine aj ?_; refine aa [0] fun tz U u => ?_; obtain ⟨x65, bx65, h0⟩ := bnd h0; (try simp only [go_sem]); (refine bJ [1] (jO a1 bx65) (by decide) (by decide) ⟨qG, trivial⟩ qG ?_; try dsimp only); (try refine ap ?_); (try simp only [go_sem, lc, ln]); refine qU u ?_; clear u U; refine aN (b := x65.1) rfl (fun h1 => ?_) (fun h1 => ?_)
 ·
  have h0 := cT h0 h1; refine aj ?_; refine aa [0] fun tz U u => ?_; obtain ⟨x66, bx66, h0⟩ := bnd h0; (try simp only [go_sem]); (refine aQ (wF a0.sides.Sender bx66) ?_; try dsimp only); (try refine ap ?_); (try simp only [go_sem]); refine u _ (gR a0 x65 x66) (by refine Wk.canonD [] [] [some 0, some 1, some 2, some 3, some 4, some 19] rfl trivial rfl (ar 5 (ar 4 (ar 3 (ar 2 (ar 1 (ar 0 bo rfl qM rfl (aq (by rfl) (tI (ah _)) (tI (au _)) (Tm.clo tn (tc tp tn)) tr tr tr)) rfl qM rfl (tc (tI (aP _)) tn)) rfl qM rfl (TmL.of_eq qL (ac _))) rfl qM rfl (TmL.of_eq qL (ac _))) rfl qM rfl (TmL.of_eq qL (ac _))) rfl qM rfl (al (by rfl) (tI (ah _)))) (tA 3 (tA 2 (tA 0 aG tp) tp) tv); all_goals exact qN) ?_; clear u U; unfold gR; refine aj ?_; refine aa [0,2,3] fun tz U u => ?_; obtain ⟨x67, bx67, h0⟩ := bnd h0; (try simp only [go_sem]); (refine bJ [0, 1, 2, 3, 4] (be x66.2 a0 x65.2 bx67) (by decide) (by decide) ⟨qG, qG, qG, qG, qG, trivial⟩ qG ?_; try dsimp only); (try refine ap ?_); (try simp only [go_sem, lc, ln]); refine qU u ?_; clear u U; refine aj ?_; refine aa [0,2] fun tz U u => ?_; (try simp only [go_sem]); refine qU u ?_; clear u U; refine bB ?_; obtain rfl := ak h0; refine aH ?_; refine ax KD (rfl) ?_; refine dt.mk [] [some 0, some 1, some 2, some 3, some 4, some 3] rfl (aS qM rfl (aq (by rfl) (tI (ah _)) (tI (au _)) (Tm.clo tn (tc tp tn)) tr tr tr) (aS qM rfl (tc (tI (aP _)) tn) (aS qM rfl (TmL.of_eq qL (ac _)) (gS (aS qM rfl (TmL.of_eq qL (ac _)) (aS qM rfl (TmL.of_eq qL (ac _)) en)))))) (Tm.tup tn); (all_goals exact qN)
 ·
  have h0 := cF h0 h1; refine aO ?_; refine aa [0] fun tz U u => ?_; obtain ⟨x68, bx68, h0⟩ := bnd h0; (try simp only [go_sem]); (refine aQ (tG a0.sides.Reorder bx68) ?_; try dsimp only); (try refine ap ?_); (try simp only [go_sem]); refine u _ (gV a0 x65 x68) (by refine Wk.canonD [] [] [some 0, some 1, some 2, some 3, some 4, some 19] rfl trivial rfl (ar 5 (ar 4 (ar 3 (ar 2 (ar 1 (ar 0 bo rfl qM rfl (aq (by rfl) (tI (ah _)) (tI (au _)) (Tm.clo tn (tc tp tn)) tr tr tr)) rfl qM rfl (tc (tI (aP _)) tn)) rfl qM rfl (TmL.of_eq qL (ac _))) rfl qM rfl (TmL.of_eq qL (ac _))) rfl qM rfl (TmL.of_eq qL (ac _))) rfl qM rfl (TmL.clean (aI _))) (tA 5 (tA 4 (tA 0 aG tp) tp) tv); all_goals exact qN) ?_; clear u U; unfold gV; refine aa [0,4,5] fun tz U u => ?_; obtain ⟨x69, bx69, h0⟩ := bnd h0; (try simp only [go_sem]); (refine bJ [0, 1, 2, 3, 4] (be x68.2 a0 x65.2 bx69) (by decide) (by decide) ⟨qG, qG, qG, qG, qG, trivial⟩ qG ?_; try dsimp only); (try refine ap ?_); (try simp only [go_sem, lc, ln]); refine qU u ?_; clear u U; refine d8 [0,4] (fun _ => rfl) fun tz => ?_; refine ct fun U u all hall => ?_; refine cu ?_; (try simp only [List.toList_toArray, List.map_cons, List.map_nil, List.size_toArray, List.length_cons, List.length_nil, Nat.zero_add]); (try simp only [Nat.reduceAdd]); obtain ⟨x70, bx70, h0⟩ := bnd h0; (iterate 3 ((try simp only [go_sem, -Nat.reduceAdd]); try simp only [Nat.reduceAdd])); (refine fe (ws x69.sides.Sender x68.1 bx70) ?_; try dsimp only); (try refine cu ?_); (iterate 3 ((try simp only [go_sem, -Nat.reduceAdd]); try simp only [Nat.reduceAdd])); refine And.intro ?_ (u _ (gT x69 a0 x65 x70) (by refine Wk.canonD [] [] [some 0, some 1, some 2, some 3, some 4, some 20] rfl trivial rfl (ar 5 (ar 4 (ar 3 (ar 2 (ar 1 (ar 0 bo rfl qM rfl (aq (by rfl) (tI (ah _)) (tI (au _)) (Tm.clo tn (tc tp tn)) tr tr tr)) rfl qM rfl (tc (tI (aP _)) tn)) rfl qM rfl (TmL.of_eq qL (ac _))) rfl qM rfl (TmL.of_eq qL (ac _))) rfl qM rfl (TmL.of_eq qL (ac _))) rfl qM rfl (al (by rfl) (tI (ah _)))) (tA 7 (tA 6 (tA 5 (tA 0 aG tp) tv) (tI (ac _))) tp); all_goals exact qN) ?_)
  ·
   subst hall; clear u U; exact qP
  ·
   clear u U hall all; unfold gT; refine aa [0,5,6,7] fun tz U u => ?_; obtain ⟨x71, bx71, h0⟩ := bnd h0; (try simp only [go_sem]); (refine bJ [0, 1, 2, 3, 4] (be x70.2.2 { x69 with out.Acked := a0.out.Acked, out.Delivered := a0.out.Delivered, out.Dropped := a0.out.Dropped } x65.2 bx71) (by decide) (by decide) ⟨qG, qG, qG, qG, qG, trivial⟩ qG ?_; try dsimp only); (try refine ap ?_); (try simp only [go_sem, lc, ln]); refine qU u ?_; clear u U; refine aa [0,6,7] fun tz U u => ?_; (try simp only [go_sem]); refine qU u ?_; clear u U; refine kD [0,6] (fun _ => rfl) fun tz => ?_; refine iU fun U u all hall => ?_; refine cu ?_; (try simp only [List.toList_toArray, List.map_cons, List.map_nil, List.size_toArray, List.length_cons, List.length_nil, Nat.zero_add]); (try simp only [Nat.reduceAdd]); obtain ⟨x72, bx72, h0⟩ := bnd h0; (iterate 3 ((try simp only [go_sem, -Nat.reduceAdd]); try simp only [Nat.reduceAdd])); (refine s6 (by first | (simp only [go_sem, fz, kS, cond_true, cond_false] <;> rfl) | (simp only [go_sem, fz, List.length_set, eO, gG, cond_true, cond_false] <;> rfl)) (by first | (simp only [go_sem, bc] <;> rfl)) (eU { x71 with out.Acked := a0.out.Acked, out.Delivered := a0.out.Delivered, out.Dropped := a0.out.Dropped, sides.Sender := x70.2.1 } x65.2 x70.1 bx72 _) (by repeat' (first | exact NoV.v _ | exact NoV.ref _ _ _ _ | exact NoV.onil | refine NoV.ocons ?_ ?_ | exact NoV.nil | refine NoV.tup ?_ | refine NoV.agg ?_ | refine NoV.rows (fun _ => ?_) _ | refine NoV.maps (fun _ => ?_) _ | refine NoV.cons ?_ ?_)) (by repeat' (first | exact NoV.v _ | exact NoV.ref _ _ _ _ | exact NoV.onil | refine NoV.ocons ?_ ?_ | exact NoV.nil | refine NoV.tup ?_ | refine NoV.agg ?_ | refine NoV.rows (fun _ => ?_) _ | refine NoV.maps (fun _ => ?_) _ | refine NoV.cons ?_ ?_)) ?_; try dsimp only); (try refine cu ?_); obtain ⟨x73, bx73, h0⟩ := bnd h0; have bx73 := bQ bx73; simp only [Bool.and_eq_true, decide_eq_true_eq] at bx73; have gx73_0 := bx73; (iterate 3 ((try simp only [go_sem, -Nat.reduceAdd, gx73_0]); try simp only [Nat.reduceAdd])); refine And.intro ?_ (u _ ?_)
   ·
    subst hall; clear u U; exact qP
   ·
    clear u U hall all; obtain rfl := ak h0; refine aH ?_; refine ei KD (rfl) ?_; refine dt.mk [] [some 0, some 1, some 2, some 3, some 4, some 24] rfl (aS qM rfl (aq (by rfl) (tI (ah _)) (tI (au _)) (Tm.clo tn (tc tp tn)) tr tr tr) (aS qM rfl (tc (tI (aP _)) tn) (aS qM rfl (TmL.of_eq qL (ac _)) (gS (aS qM rfl (TmL.of_eq qL (ac _)) (aS qM rfl (TmL.of_eq qL (ac _)) en)))))) (Tm.tup tn); (all_goals exact qN)
end Go.AX.Z.TN

/-! (walks) -/

set_option linter.unusedSimpArgs false
set_option linter.unusedVariables false
set_option maxHeartbeats 4000000
set_option maxRecDepth 20000
namespace Go.AX.Z.TN
open Go.AX Go.Proofs
attribute [local irreducible] awp xw xop kf gsp ob xd gI jp kJ mj jX xo
def tlE (c : Option Code) : Code := match c with
 | some (.seq _ (.seq _ (.seq _ (.seq _ c)))) => c
 | _ => .skip

theorem zX {s : AS} (b : Reorder) (now : Int) (l : List HeldSeq) {r : List Frame × Reorder × Int} (h2 : s.tmps 2 = .ptr 0 0) (h3 : s.tmps 3 = .ptr 2 0) (h4 : s.tmps 4 = .ptr 3 0) (h5 : s.tmps 5 = .ptr 4 0) (h6 : s.tmps 6 = .ptr 5 0)
  (g0 : s.objs 0 = .live (aB b (.ref 1 0 l.length 42))) (g1 : s.objs 1 = .live (List.flatMap ai l)) (g2 : s.objs 2 = .live [vi now]) (g3 : s.objs 3 = .live [cJ]) (g4 : s.objs 4 = .live (aB Reorder.z cJ)) (g5 : s.objs 5 = .live [vi 0]) (hn : s.next = 6)
  (hL : l.length < 4611686018427387904) {o : Ex (List Frame × Reorder × Int) Unit} (ho : cW b now l l.length = some o) (h0 : (o.k fun _ => some ([], { b with Held := l }, 0)) = some r) :
  awp 0 K (tlE Try.f37.body) (wG 0 K Try.f37 (fun r' s' => Res r' s' (fun q => .tup [.ref (q 0) 0 r.1.length 41, .agg (aB r.2.1 (.ref (q 1) 0 r.2.1.Held.length 42)), vi r.2.2]) [List.flatMap aY r.1, List.flatMap ai r.2.1.Held])) s := by
 obtain ⟨⟨objs, nx⟩, tm⟩ := s
 simp only at h2 h3 h4 h5 h6 g0 g1 g2 g3 g4 g5 hn
 subst hn
 show awp 0 K (.seq (.seq _ _) _) _ _
 refine aj ?_
 refine rD fun KK hKK => ?_
 refine ap ?_
 simp only [go_sem, Nat.reduceEqDiff, reduceIte, Nat.reduceAdd, Nat.reduceMul, Nat.reduceSub, Nat.reduceLT, Nat.reduceLeDiff, Int.reduceToNat, Int.reduceBEq, Int.reduceBNe, Int.reduceLT, Int.reduceLE, Int.reduceAdd, Int.reduceSub, Int.reduceMul, Int.reduceNeg, Int.reduceEq, Int.reduceNe, h2, g0]
 refine uF (Dt l.length 1 _) ?_
 rintro r' hs' ⟨rfl, hob, hnx⟩
 obtain ⟨objs', nx'⟩ := hs'
 simp only at hob hnx
 try dsimp only
 refine hKK _ ?_; clear hKK KK
 have k9 : objs' 9 = .live [.ref 1 0 l.length 42] := by rw [hob, cB]
 have k0 : objs' 0 = .live (aB b (.ref 1 0 l.length 42)) := by rw [hob, ba _ _ (by decide)]; exact g0
 have k1 : objs' 1 = .live (List.flatMap ai l) := by rw [hob, ba _ _ (by decide)]; exact g1
 have k2 : objs' 2 = .live [vi now] := by rw [hob, ba _ _ (by decide)]; exact g2
 have k3 : objs' 3 = .live [cJ] := by rw [hob, ba _ _ (by decide)]; exact g3
 have k4 : objs' 4 = .live (aB Reorder.z cJ) := by rw [hob, ba _ _ (by decide)]; exact g4
 have k5 : objs' 5 = .live [vi 0] := by rw [hob, ba _ _ (by decide)]; exact g5
 clear hob g0 g1 g2 g3 g4 g5
 refine xE ?_
 refine wO hC (gf := 71) (caps := [.ptr 9 0]) (xs := rP l) rfl (Ci l hL 9 1) ⟨Try.f71, Try.func71, rfl, rfl⟩ (by
   intro x hx
   obtain ⟨i, hi⟩ := List.mem_iff_getElem?.1 hx
   obtain ⟨_, _, _, _, rfl⟩ := yg hi
   rfl) (by decide +kernel) (by decide +kernel)
  (fun i hs => 9 < hs.next ∧ (hs.objs 9 = .live [.ref 1 0 l.length 42] ∧ hs.objs 0 = .live (aB b (.ref 1 0 l.length 42)) ∧ hs.objs 1 = .live (List.flatMap ai l) ∧ hs.objs 2 = .live [vi now] ∧ hs.objs 3 = .live [cJ] ∧
   hs.objs 4 = .live (aB Reorder.z cJ) ∧ hs.objs 5 = .live [vi 0]) ∧ ∃ c, i + c = l.length ∧ cW b now l c = some o)
  (fun e hs => e = .ret ∧ ∃ (z : List Frame × Reorder × List HeldSeq) (a c : Nat), o = Ex.ret (z.1, { z.2.1 with Held := z.2.2 }, 0) ∧ (9 < a ∧ 9 < c ∧ a ≠ c ∧ a < hs.next ∧ c < hs.next) ∧ hs.objs 3 = .live [.ref a 0 z.1.length 41] ∧
   hs.objs 4 = .live (aB z.2.1 (.ref c 0 z.2.2.length 42)) ∧ hs.objs 5 = .live [vi 0] ∧ hs.objs a = .live (List.flatMap aY z.1) ∧ hs.objs c = .live (List.flatMap ai z.2.2)) ?_ ?_ ?_ ?_ ?_ ?_ ?_
 ·
  rintro i ⟨ob, n⟩ n' ⟨a1, a2, a3⟩ hle
  exact ⟨by simp only at a1 hle ⊢; omega, a2, a3⟩
 ·
  rintro e ⟨ob, n⟩ n' ⟨he, z, a, c, b1, ⟨b2, b3, b4, b5, b6⟩, b7⟩ hle
  simp only at b5 b6 hle
  exact ⟨he, z, a, c, b1, ⟨b2, b3, b4, by simp only; omega, by simp only; omega⟩, b7⟩
 ·
  rintro i hs ⟨_, ⟨a2, _, a3, _⟩, _⟩; exact ⟨a2, a3⟩
 ·
  exact ⟨hnx, ⟨k9, k0, k1, k2, k3, k4, k5⟩, l.length, by omega, ho⟩
 ·
  rintro k x ⟨ob, n⟩ hx ⟨a1, ⟨k9, k0, k1, k2, k3, k4, k5⟩, c, hc, hLc⟩
  simp only at a1 k9 k0 k1 k2 k3 k4 k5
  obtain ⟨i, e, hi, he, rfl⟩ := yg hx
  have hci : c = i + 1 := by omega
  subst hci
  rw [cW, he, Option.bind_some] at hLc
  have n0 : (0 = n) = False := eq_false (by omega)
  have n1 : (1 = n) = False := eq_false (by omega)
  have n2 : (2 = n) = False := eq_false (by omega)
  have n3 : (3 = n) = False := eq_false (by omega)
  have n4 : (4 = n) = False := eq_false (by omega)
  have n5 : (5 = n) = False := eq_false (by omega)
  have n9 : (9 = n) = False := eq_false (by omega)
  refine vN fun KK hKK => ?_
  refine ap ?_
  simp only [sX, go_sem, Nat.reduceEqDiff, reduceIte, Nat.reduceAdd, Nat.reduceMul, Nat.reduceSub, Nat.reduceLT, Nat.reduceLeDiff, Int.reduceToNat, Int.reduceBEq, Int.reduceBNe, Int.reduceLT, Int.reduceLE, Int.reduceAdd, Int.reduceSub, Int.reduceMul, Int.reduceNeg, Int.reduceEq, Int.reduceNe]
  refine hKK _ ?_; clear hKK KK
  rw [Bg]
  refine bp ?_
  refine rD fun KK hKK => ?_
  refine ap ?_
  simp only [go_sem, Nat.reduceEqDiff, reduceIte, Nat.reduceAdd, Nat.reduceMul, Nat.reduceSub, Nat.reduceLT, Nat.reduceLeDiff, Int.reduceToNat, Int.reduceBEq, Int.reduceBNe, Int.reduceLT, Int.reduceLE, Int.reduceAdd, Int.reduceSub, Int.reduceMul, Int.reduceNeg, Int.reduceEq, Int.reduceNe, h2, h3, k0, k2, n0, n2]
  refine hKK _ ?_; clear hKK KK
  refine bC (b := decide (IntKind.wrap .i64 (e.At + b.Hold) ≤ now)) rfl (fun hT => ?_) (fun hF => ?_)
  ·
   rw [hT, cond_true] at hLc
   obtain ⟨y, by_, hLc⟩ := bnd hLc
   obtain ⟨z, bz, hLc⟩ := bnd hLc
   obtain rfl := ak hLc
   refine rE fun KK hKK all hall => ?_
   refine cu ?_
   try simp only [List.toList_toArray, List.map_cons, List.map_nil, List.size_toArray, List.length_cons, List.length_nil, Nat.zero_add]
   try simp only [Nat.reduceAdd]
   simp only [go_sem, Nat.reduceEqDiff, reduceIte, Nat.reduceAdd, Nat.reduceMul, Nat.reduceSub, Nat.reduceLT, Nat.reduceLeDiff, Int.reduceToNat, Int.reduceBEq, Int.reduceBNe, Int.reduceLT, Int.reduceLE, Int.reduceAdd, Int.reduceSub, Int.reduceMul, Int.reduceNeg, Int.reduceEq, Int.reduceNe, h2, h3, h4, h5, h6, k0, k1, k2, n0, n1, n2]
   refine fe (jm _ _ by_) ?_; try dsimp only
   try refine cu ?_
   simp only [go_sem, Nat.reduceEqDiff, reduceIte, Nat.reduceAdd, Nat.reduceMul, Nat.reduceSub, Nat.reduceLT, Nat.reduceLeDiff, Int.reduceToNat, Int.reduceBEq, Int.reduceBNe, Int.reduceLT, Int.reduceLE, Int.reduceAdd, Int.reduceSub, Int.reduceMul, Int.reduceNeg, Int.reduceEq, Int.reduceNe, h2, h3, h4, h5, h6, k0, k1, k2, n0, n1, n2]
   refine Aq [1] (km { b with Held := l } y bz) (by decide) (by intro x hx; rw [List.mem_singleton.1 hx]; omega) ⟨(by rw [ba _ _ (by omega), ba _ _ (by omega)]; exact k1), trivial⟩ (by simp only [go_sem, Nat.reduceAdd]; rfl) (by subst hall; decide +kernel) (by subst hall; first | decide +kernel | (simp [bS, gh, ek, kg]; done) | (simp [bS, gh, ek, kg]; decide +kernel))  ?_; try dsimp only
   try refine cu ?_
   have m3 : (3 = n + 21) = False := eq_false (by omega)
   have m3' : (3 = n + 22) = False := eq_false (by omega)
   have m4 : (4 = n + 21) = False := eq_false (by omega)
   have m4' : (4 = n + 22) = False := eq_false (by omega)
   simp only [go_sem, Nat.reduceEqDiff, reduceIte, Nat.reduceAdd, Nat.reduceMul, Nat.reduceSub, Nat.reduceLT, Nat.reduceLeDiff, Int.reduceToNat, Int.reduceBEq, Int.reduceBNe, Int.reduceLT, Int.reduceLE, Int.reduceAdd, Int.reduceSub, Int.reduceMul, Int.reduceNeg, Int.reduceEq, Int.reduceNe, h2, h3, h4, h5, h6, k3, k4, n3, n4, m3, m3', m4, m4']
   refine And.intro ?_ (hKK _ ?_)
   ·
    subst hall
    clear hKK KK
    first | decide +kernel | (simp [bS, gh, ek, kg]; done) | (simp [bS, gh, ek, kg]; decide +kernel)
   ·
    clear hKK KK hall all
    have m5 : (5 = n + 21) = False := eq_false (by omega)
    have m5' : (5 = n + 22) = False := eq_false (by omega)
    refine rE fun KK hKK all hall => ?_
    refine cu ?_
    try simp only [List.toList_toArray, List.map_cons, List.map_nil, List.size_toArray, List.length_cons, List.length_nil, Nat.zero_add]
    try simp only [Nat.reduceAdd]
    simp only [go_sem, Nat.reduceEqDiff, reduceIte, Nat.reduceAdd, Nat.reduceMul, Nat.reduceSub, Nat.reduceLT, Nat.reduceLeDiff, Int.reduceToNat, Int.reduceBEq, Int.reduceBNe, Int.reduceLT, Int.reduceLE, Int.reduceAdd, Int.reduceSub, Int.reduceMul, Int.reduceNeg, Int.reduceEq, Int.reduceNe, h2, h3, h4, h5, h6, k5, n5, m5, m5']
    refine And.intro ?_ (hKK _ ?_)
    ·
     subst hall
     clear hKK KK
     first | decide +kernel | (simp [bS, gh, ek, kg]; done) | (simp [bS, gh, ek, kg]; decide +kernel)
    ·
     clear hKK KK hall all
     refine aL ?_
     have q1 : (n + 21 = 5) = False := eq_false (by omega)
     have q2 : (n + 21 = 4) = False := eq_false (by omega)
     have q3 : (n + 21 = 3) = False := eq_false (by omega)
     have q4 : (n + 21 = n + 22) = False := eq_false (by omega)
     have q5 : (n + 22 = 5) = False := eq_false (by omega)
     have q6 : (n + 22 = 4) = False := eq_false (by omega)
     have q7 : (n + 22 = 3) = False := eq_false (by omega)
     refine iN ?_
     refine ⟨rfl, z, n + 21, n + 22, rfl, ⟨by omega, by omega, by omega, ?_, ?_⟩, ?_, ?_, ?_, ?_, ?_⟩
     ·
      show n + 21 < n + 28; omega
     ·
      show n + 22 < n + 28; omega
     all_goals simp only [eC, Nat.reduceAdd, q1, q2, q3, q4, q5, q6, q7, if_true, if_false] <;> rfl
  ·
   rw [hF, cond_false] at hLc
   refine cS ?_
   rw [BE]
   have q0 : (0 = n) = False := eq_false (by omega)
   refine ⟨by show 9 < n + 9; omega, ⟨?_, ?_, ?_, ?_, ?_, ?_, ?_⟩, i, by omega, hLc⟩
   ·
    simp only [eC, Nat.reduceAdd, n9, if_false]; exact k9
   ·
    simp only [eC, Nat.reduceAdd, n0, if_false]; exact k0
   ·
    simp only [eC, Nat.reduceAdd, n1, if_false]; exact k1
   ·
    simp only [eC, Nat.reduceAdd, n2, if_false]; exact k2
   ·
    simp only [eC, Nat.reduceAdd, n3, if_false]; exact k3
   ·
    simp only [eC, Nat.reduceAdd, n4, if_false]; exact k4
   ·
    simp only [eC, Nat.reduceAdd, n5, if_false]; exact k5
 ·
  rintro ⟨ob, n⟩ ⟨a1, ⟨k9, k0, k1, k2, k3, k4, k5⟩, c, hc, hLc⟩
  simp only at a1 k9 k0 k1 k2 k3 k4 k5
  rw [sW] at hc
  have hc0 : c = 0 := by omega
  subst hc0
  rw [cW] at hLc
  obtain rfl := ak hLc
  obtain rfl := ak h0
  rw [BE, Bg]
  refine rE fun KK hKK all hall => ?_
  refine cu ?_
  try simp only [List.toList_toArray, List.map_cons, List.map_nil, List.size_toArray, List.length_cons, List.length_nil, Nat.zero_add]
  try simp only [Nat.reduceAdd]
  simp only [go_sem, Nat.reduceEqDiff, reduceIte, Nat.reduceAdd, Nat.reduceMul, Nat.reduceSub, Nat.reduceLT, Nat.reduceLeDiff, Int.reduceToNat, Int.reduceBEq, Int.reduceBNe, Int.reduceLT, Int.reduceLE, Int.reduceAdd, Int.reduceSub, Int.reduceMul, Int.reduceNeg, Int.reduceEq, Int.reduceNe, h2, h3, h4, h5, h6, k0, k1, k2, k3, k4, k5]
  refine And.intro ?_ (hKK _ ?_)
  ·
   subst hall
   clear hKK KK
   first | decide +kernel | (simp [bS, gh, ek, kg]; done) | (simp [bS, gh, ek, kg]; decide +kernel)
  ·
   clear hKK KK hall all
   refine aL ?_
   refine ⟨_, Wk.refl _ _ _, ?_⟩
   refine ax (fn := Try.f37) (rs := #[.cell 4 79, .cell 5 51, .cell 6 28]) rfl (by simp only [go_sem, sL, lr, se, vY, Nat.reduceEqDiff, reduceIte, Nat.reduceAdd, Nat.reduceMul, Nat.reduceSub, Nat.reduceLT, Nat.reduceLeDiff, Int.reduceToNat, Int.reduceBEq, Int.reduceBNe, Int.reduceLT, Int.reduceLE, Int.reduceAdd, Int.reduceSub, Int.reduceMul, Int.reduceNeg, Int.reduceEq, Int.reduceNe, h2, h3, h4, h5, h6, k0, k1, k2, k3, k4, k5]; rfl) ?_
   exact Res.mk [] [none, some 1] rfl (cY (fo List.not_mem_nil (by simp only [eC, Nat.reduceAdd, if_true, if_false]; exact k1) (TmL.of_eq rfl (au _)) cX)) (Tm.tup (TmL.cons (Tm.thaw _ _ _) (TmL.cons (Tm.agg (aJ (by rfl) (Tm.refL rfl rfl))) (TmL.cons (Tm.v _) TmL.nil))))
 ·
  rintro e ⟨ob, n⟩ hne ⟨rfl, z, a, c, rfl, ⟨b1, b2, b3, b4, b5⟩, k3, k4, k5, ka, kc⟩
  simp only at b4 b5 k3 k4 k5 ka kc
  obtain rfl := ak h0
  refine iN ?_
  refine jk ?_
  refine ⟨_, Wk.refl _ _ _, ?_⟩
  refine ax (fn := Try.f37) (rs := #[.cell 4 79, .cell 5 51, .cell 6 28]) rfl (by simp only [go_sem, sL, lr, se, vY, Nat.reduceEqDiff, reduceIte, Nat.reduceAdd, Nat.reduceMul, Nat.reduceSub, Nat.reduceLT, Nat.reduceLeDiff, Int.reduceToNat, Int.reduceBEq, Int.reduceBNe, Int.reduceLT, Int.reduceLE, Int.reduceAdd, Int.reduceSub, Int.reduceMul, Int.reduceNeg, Int.reduceEq, Int.reduceNe, h2, h3, h4, h5, h6, k3, k4, k5]; rfl) ?_
  exact Res.mk [] [some a, some c] (by first | rfl | (simp [sgB]; omega)) (fo List.not_mem_nil ka (TmL.of_eq rfl (bW _)) (fo List.not_mem_nil kc (TmL.of_eq rfl (au _)) cX)) (Tm.tup (TmL.cons (Tm.refL rfl rfl) (TmL.cons (Tm.agg (aJ (by rfl) (Tm.refL rfl rfl))) (TmL.cons (Tm.v _) TmL.nil))))
end Go.AX.Z.TN

/-! (walks) -/

set_option linter.unusedSimpArgs false
set_option linter.unusedVariables false
set_option maxHeartbeats 4000000
set_option maxRecDepth 20000
namespace Go.AX.Z.TN
open Go.AX Go.Proofs
attribute [local irreducible] awp xw xop kf gsp ob xd gI jp kJ mj jX xo
attribute [local go_sem ↓] zk Bw yI vd
attribute [local go_sem] Nat.reduceAdd
def lM (a0 : Reorder) (a1 : Int) : AS :=
 { objs := (upd (upd (upd (upd (upd (fun _ => .dead) 0 (.live (aB a0 (.imm (List.flatMap ai a0.Held) a0.Held.length)))) 1 (.live [(vi a1)])) 2 (.live [cJ])) 3 (.live (aB Reorder.z cJ))) 4 (.live [(vi 0)])), next := 5, tmps := (upd (upd (upd (upd (upd (fun _ => .unk) 2 (.ptr 0 0)) 3 (.ptr 1 0)) 4 (.ptr 2 0)) 5 (.ptr 3 0)) 6 (.ptr 4 0)) }

def lS (a0 : Reorder) (x69 : (List HeldSeq)) (a1 : Int) : AS :=
 { objs := (upd (upd (upd (upd (upd (upd (fun _ => .dead) 0 (.live (aB a0 (.ref 1 0 x69.length 42)))) 1 (.live (List.flatMap ai x69))) 2 (.live [(vi a1)])) 3 (.live [cJ])) 4 (.live (aB Reorder.z cJ))) 5 (.live [(vi 0)])), next := 6, tmps := (upd (upd (upd (upd (upd (fun _ => .unk) 2 (.ptr 0 0)) 3 (.ptr 2 0)) 4 (.ptr 3 0)) 5 (.ptr 4 0)) 6 (.ptr 5 0)) }

theorem te (a0 : Reorder) (a1 : Int) {r : ((List Frame) × Reorder × Int)} (h0 : dI a0 a1 = some r) : ga K 37 [(.agg (c6 a0)), (vi a1)] (fun q => (.tup [(.ref (q 0) 0 r.1.length 41), (.agg (aB r.2.1 (.ref (q 1) 0 r.2.1.Held.length 42))), (vi r.2.2)])) [(List.flatMap aY r.1), (List.flatMap ai r.2.1.Held)] := by
 refine ga.of_walkW hC (show K.P.funcs[37]? = some Try.f37 from Try.func37) rfl rfl (by decide +kernel) (qB2 rfl) ?_; unfold dI at h0; refine aa [0,1] fun tz U u => ?_; (try simp only [go_sem]); refine u _ (lM a0 a1) (Wk.canonD [] [] [some 0, some 1, some 2, some 3, some 4] rfl trivial rfl (ar 4 (ar 3 (ar 2 (ar 1 (ar 0 bo rfl qM rfl (aJ (by rfl) (tI (au _)))) rfl qM rfl (tc tv tn)) rfl qM rfl (tc tv tn)) rfl qM rfl (aJ (by rfl) tv)) rfl qM rfl (tc tv tn)) (tA 6 (tA 5 (tA 4 (tA 3 (tA 2 aG tp) tp) tp) tp) tp)) ?_; clear u U; unfold lM; refine aj ?_; refine aa [2,3,4,5,6] fun tz U u => ?_; obtain ⟨x67, bx67, h0⟩ := bnd h0; (try simp only [go_sem]); (refine aQ (fV a0 bx67) ?_; try dsimp only); (try refine ap ?_); (try simp only [go_sem]); refine qU u ?_; clear u U; refine aj ?_; refine aa [2,3,4,5,6,7] fun tz U u => ?_; (try simp only [go_sem]); refine qU u ?_; clear u U; refine aN (b := (x67 != 0)) rfl (fun h1 => ?_) (fun h1 => ?_)
 ·
  have h0 := cT h0 h1; refine aj ?_; refine aa [4,5,6,7] fun tz U u => ?_; (try simp only [go_sem]); refine qU u ?_; clear u U; refine bB ?_; obtain rfl := ak h0; refine aH ?_; refine ax Kf qR ?_; refine Res.mk [] [none, none] rfl (cY (cY cX)) (Tm.tup (tc tT (tc (Tm.agg (aJ (by rfl) tT)) (tc tv tn))))
 ·
  have h0 := cF h0 h1; refine aO ?_; refine aj ?_; refine aa [2,3,4,5,6] fun tz U u => ?_; obtain ⟨x68, bx68, h0⟩ := bnd h0; (try simp only [go_sem]); (refine aQ (jP a1 bx68) ?_; try dsimp only); (try refine ap ?_); (try simp only [go_sem]); refine qU u ?_; clear u U; refine aN (b := (!x68)) rfl (fun h2 => ?_) (fun h2 => ?_)
  ·
   have h0 := cT h0 h2; refine aj ?_; refine aa [4,5,6] fun tz U u => ?_; (try simp only [go_sem]); refine qU u ?_; clear u U; refine bB ?_; obtain rfl := ak h0; refine aH ?_; refine ax Kf qR ?_; refine Res.mk [] [none, none] rfl (cY (cY cX)) (Tm.tup (tc tT (tc (Tm.agg (aJ (by rfl) tT)) (tc tv tn))))
  ·
   have h0 := cF h0 h2; refine aO ?_; refine aa [2,3,4,5,6] fun tz U u => ?_; obtain ⟨x69, bx69, h0⟩ := bnd h0; (try simp only [go_sem]); (refine lI (pG a0.Held bx69) ?_; try dsimp only); (try refine ap ?_); (try simp only [go_sem]); refine u _ (lS a0 x69 a1) (by refine Wk.canonD [] [] [some 0, some 18, some 1, some 2, some 3, some 4] rfl trivial rfl (ar 5 (ar 4 (ar 3 (ar 2 (ar 1 (ar 0 bo rfl qM rfl (aJ (by rfl) tr)) rfl qM rfl (TmL.of_eq qL (au _))) rfl qM rfl (tc tv tn)) rfl qM rfl (tc tv tn)) rfl qM rfl (aJ (by rfl) tv)) rfl qM rfl (tc tv tn)) (tA 6 (tA 5 (tA 4 (tA 3 (tA 2 aG tp) tp) tp) tp) tp); all_goals exact qN) ?_; clear u U; unfold lS; obtain ⟨x70, bx70, h0⟩ := bnd h0; have bx70 := bQ bx70; simp only [decide_eq_true_eq] at bx70; obtain ⟨o71, bo71, h0⟩ := bnd h0; refine zX a0 a1 x69 ?_ ?_ ?_ ?_ ?_ ?_ ?_ ?_ ?_ ?_ ?_ ?_ bx70 bo71 h0; (all_goals rfl)


theorem mJ (a0 : Reorder) (a1 : Int) {r : ((List Frame) × Reorder × Int)} (h0 : dI a0 a1 = some r) : SndP K 37 [(.agg (c6 a0)), (vi a1)] (.tup [(kN r.1), (.agg (c6 r.2.1)), (vi r.2.2)]) :=
 lC.pure (rM (te a0 a1 h0) (aF.tup (RenML.cons (aF.ref 0 0 _ _) (RenML.cons (aF.agg (im _ (aF.ref 1 0 _ _))) (RenML.cons rv RenML.nil)))) (bq (bW _) (bq (au _) cH)) (af (aw.agg (bA _)) (af cv aA))) (aw.tup (af (jS _) (af (aw.agg (bA _)) (af cv aA)))) (af (aw.agg (bA _)) (af cv aA)) qV
def ij (x36 : Session_session) (a0 : Session_session) (a1 : (List Bool)) (x35 : ((List Int) × Sender × Int)) : AS :=
 { objs := (upd (upd (upd (upd (upd (upd (fun _ => .dead) 0 (.live (ae x36 (.imm (List.flatMap ag x36.sides.Sender.Out) x36.sides.Sender.Out.length) (.imm (List.flatMap ai x36.sides.Reorder.Held) x36.sides.Reorder.Held.length) (.clo 17 [] [(.ptr 1 0)]) (.ref 2 0 a0.out.Delivered.length 1) (.ref 3 0 a0.out.Acked.length 1) (.ref 4 0 a0.out.Dropped.length 1)))) 1 (.live [(.imm (List.map vb a1) a1.length)])) 2 (.live (List.map vi a0.out.Delivered))) 3 (.live (List.map vi a0.out.Acked))) 4 (.live (List.map vi a0.out.Dropped))) 5 (.live (av x35.2.1 (.imm (List.flatMap ag x35.2.1.Out) x35.2.1.Out.length)))), next := 6, tmps := (upd (upd (upd (upd (fun _ => .unk) 0 (.ptr 0 0)) 2 (vi (IntKind.wrap .i64 (a0.out.Rounds * a0.plan.Round)))) 3 (.imm (List.map vi x35.1) x35.1.length)) 4 (.ptr 5 0)) }

def ii (x36 : Session_session) (x35 : ((List Int) × Sender × Int)) (a0 : Session_session) (x37 : (List Int)) (a1 : (List Bool)) : AS :=
 { objs := (upd (upd (upd (upd (upd (fun _ => .dead) 0 (.live (ae { x36 with sides.Sender := x35.2.1 } (.imm (List.flatMap ag x35.2.1.Out) x35.2.1.Out.length) (.imm (List.flatMap ai x36.sides.Reorder.Held) x36.sides.Reorder.Held.length) (.clo 17 [] [(.ptr 1 0)]) (.ref 2 0 a0.out.Delivered.length 1) (.ref 3 0 a0.out.Acked.length 1) (.ref 5 0 ((a0.out.Dropped ++ x37).length) 1)))) 1 (.live [(.imm (List.map vb a1) a1.length)])) 2 (.live (List.map vi a0.out.Delivered))) 3 (.live (List.map vi a0.out.Acked))) 5 (.live (List.map vi (a0.out.Dropped ++ x37)))), next := 6, tmps := (upd (upd (fun _ => .unk) 0 (.ptr 0 0)) 2 (vi (IntKind.wrap .i64 (a0.out.Rounds * a0.plan.Round)))) }

def ie (a0 : Session_session) (x37 : (List Int)) (x39 : (Bool × List Bool)) (d40 : (Session_session × List Int)) : AS :=
 { objs := (upd (upd (upd (upd (upd (fun _ => .dead) 0 (.live (ae d40.1 (.imm (List.flatMap ag d40.1.sides.Sender.Out) d40.1.sides.Sender.Out.length) (.imm (List.flatMap ai d40.1.sides.Reorder.Held) d40.1.sides.Reorder.Held.length) (.clo 17 [] [(.ptr 1 0)]) (.ref 5 0 d40.2.length 1) (.ref 3 0 a0.out.Acked.length 1) (.ref 6 0 ((a0.out.Dropped ++ x37).length) 1)))) 1 (.live [(.imm (List.map vb x39.2) x39.2.length)])) 3 (.live (List.map vi a0.out.Acked))) 5 (.live (List.map vi d40.2))) 6 (.live (List.map vi (a0.out.Dropped ++ x37)))), next := 7, tmps := (upd (upd (fun _ => .unk) 0 (.ptr 0 0)) 2 (vi (IntKind.wrap .i64 (a0.out.Rounds * a0.plan.Round)))) }

def io (x42 : (Session_session × List Int)) (x43 : (Sender × Int)) (a0 : Session_session) (x37 : (List Int)) (x39 : (Bool × List Bool)) : AS :=
 { objs := (upd (upd (upd (upd (upd (fun _ => .dead) 0 (.live (ae { x42.1 with sides.Sender := x43.1 } (.imm (List.flatMap ag x43.1.Out) x43.1.Out.length) (.imm (List.flatMap ai x42.1.sides.Reorder.Held) x42.1.sides.Reorder.Held.length) (.clo 17 [] [(.ptr 1 0)]) (.ref 5 0 x42.2.length 1) (.ref 3 0 a0.out.Acked.length 1) (.ref 6 0 ((a0.out.Dropped ++ x37).length) 1)))) 1 (.live [(.imm (List.map vb x39.2) x39.2.length)])) 3 (.live (List.map vi a0.out.Acked))) 5 (.live (List.map vi x42.2))) 6 (.live (List.map vi (a0.out.Dropped ++ x37)))), next := 7, tmps := (upd (upd (upd (fun _ => .unk) 0 (.ptr 0 0)) 2 (vi (IntKind.wrap .i64 (a0.out.Rounds * a0.plan.Round)))) 5 (vi x43.2)) }

def iA (x46 : (Int × Session_session × List Bool × List Int)) (a0 : Session_session) (x37 : (List Int)) (d47 : (Session_session × List Bool × List Int)) : AS :=
 { objs := (upd (upd (upd (upd (upd (fun _ => .dead) 0 (.live (ae d47.1 (.imm (List.flatMap ag d47.1.sides.Sender.Out) d47.1.sides.Sender.Out.length) (.imm (List.flatMap ai d47.1.sides.Reorder.Held) d47.1.sides.Reorder.Held.length) (.clo 17 [] [(.ptr 1 0)]) (.ref 5 0 x46.2.2.2.length 1) (.ref 6 0 d47.2.2.length 1) (.ref 7 0 ((a0.out.Dropped ++ x37).length) 1)))) 1 (.live [(.imm (List.map vb d47.2.1) d47.2.1.length)])) 5 (.live (List.map vi x46.2.2.2))) 6 (.live (List.map vi d47.2.2))) 7 (.live (List.map vi (a0.out.Dropped ++ x37)))), next := 8, tmps := (upd (upd (fun _ => .unk) 0 (.ptr 0 0)) 2 (vi (IntKind.wrap .i64 (a0.out.Rounds * a0.plan.Round)))) }

def iB (x50 : Session_session) (x46 : (Int × Session_session × List Bool × List Int)) (d47 : (Session_session × List Bool × List Int)) (a0 : Session_session) (x37 : (List Int)) (x49 : ((List Frame) × Reorder × Int)) : AS :=
 { objs := (upd (upd (upd (upd (upd (upd (fun _ => .dead) 0 (.live (ae x50 (.imm (List.flatMap ag x50.sides.Sender.Out) x50.sides.Sender.Out.length) (.imm (List.flatMap ai x50.sides.Reorder.Held) x50.sides.Reorder.Held.length) (.clo 17 [] [(.ptr 1 0)]) (.ref 5 0 x46.2.2.2.length 1) (.ref 6 0 d47.2.2.length 1) (.ref 7 0 ((a0.out.Dropped ++ x37).length) 1)))) 1 (.live [(.imm (List.map vb d47.2.1) d47.2.1.length)])) 5 (.live (List.map vi x46.2.2.2))) 6 (.live (List.map vi d47.2.2))) 7 (.live (List.map vi (a0.out.Dropped ++ x37)))) 8 (.live (aB x49.2.1 (.imm (List.flatMap ai x49.2.1.Held) x49.2.1.Held.length)))), next := 9, tmps := (upd (upd (upd (fun _ => .unk) 0 (.ptr 0 0)) 6 (.imm (List.flatMap aY x49.1) x49.1.length)) 7 (.ptr 8 0)) }

def ik (x53 : (Int × Session_session × List Bool × List Int)) (a0 : Session_session) (x37 : (List Int)) (d54 : (Session_session × List Bool × List Int)) : AS :=
 { objs := (upd (upd (upd (upd (upd (fun _ => .dead) 0 (.live (ae d54.1 (.imm (List.flatMap ag d54.1.sides.Sender.Out) d54.1.sides.Sender.Out.length) (.imm (List.flatMap ai d54.1.sides.Reorder.Held) d54.1.sides.Reorder.Held.length) (.clo 17 [] [(.ptr 1 0)]) (.ref 5 0 x53.2.2.2.length 1) (.ref 6 0 d54.2.2.length 1) (.ref 7 0 ((a0.out.Dropped ++ x37).length) 1)))) 1 (.live [(.imm (List.map vb d54.2.1) d54.2.1.length)])) 5 (.live (List.map vi x53.2.2.2))) 6 (.live (List.map vi d54.2.2))) 7 (.live (List.map vi (a0.out.Dropped ++ x37)))), next := 8, tmps := (upd (upd (fun _ => .unk) 0 (.ptr 0 0)) 2 (vi (IntKind.wrap .i64 (a0.out.Rounds * a0.plan.Round)))) }

def iD (x57 : Session_session) (x53 : (Int × Session_session × List Bool × List Int)) (d54 : (Session_session × List Bool × List Int)) (a0 : Session_session) (x37 : (List Int)) (x56 : ((List Frame) × Reorder × Int)) : AS :=
 { objs := (upd (upd (upd (upd (upd (upd (fun _ => .dead) 0 (.live (ae x57 (.imm (List.flatMap ag x57.sides.Sender.Out) x57.sides.Sender.Out.length) (.imm (List.flatMap ai x57.sides.Reorder.Held) x57.sides.Reorder.Held.length) (.clo 17 [] [(.ptr 1 0)]) (.ref 5 0 x53.2.2.2.length 1) (.ref 6 0 d54.2.2.length 1) (.ref 7 0 ((a0.out.Dropped ++ x37).length) 1)))) 1 (.live [(.imm (List.map vb d54.2.1) d54.2.1.length)])) 5 (.live (List.map vi x53.2.2.2))) 6 (.live (List.map vi d54.2.2))) 7 (.live (List.map vi (a0.out.Dropped ++ x37)))) 8 (.live (aB x56.2.1 (.imm (List.flatMap ai x56.2.1.Held) x56.2.1.Held.length)))), next := 9, tmps := (upd (upd (upd (fun _ => .unk) 0 (.ptr 0 0)) 6 (.imm (List.flatMap aY x56.1) x56.1.length)) 7 (.ptr 8 0)) }

theorem l3 (a0 : Session_session) (a1 : (List Bool)) {r : (Session_session × List Bool × List Int × List Int × List Int)} (h0 : dj a0 a1 = some r) : cP K 20 5 (fun q => [(.ptr (q 0) 0)]) [(fun q => (ae a0 (.imm (List.flatMap ag a0.sides.Sender.Out) a0.sides.Sender.Out.length) (.imm (List.flatMap ai a0.sides.Reorder.Held) a0.sides.Reorder.Held.length) (.clo 17 [] [(.ptr (q 1) 0)]) (.ref (q 2) 0 a0.out.Delivered.length 1) (.ref (q 3) 0 a0.out.Acked.length 1) (.ref (q 4) 0 a0.out.Dropped.length 1))), (fun q => [(.imm (List.map vb a1) a1.length)]), (fun q => (List.map vi a0.out.Delivered)), (fun q => (List.map vi a0.out.Acked)), (fun q => (List.map vi a0.out.Dropped))] (fun q => (.tup [])) [(some (fun q => (ae r.1 (.imm (List.flatMap ag r.1.sides.Sender.Out) r.1.sides.Sender.Out.length) (.imm (List.flatMap ai r.1.sides.Reorder.Held) r.1.sides.Reorder.Held.length) (.clo 17 [] [(.ptr (q 1) 0)]) (.ref (q 5) 0 r.2.2.1.length 1) (.ref (q 6) 0 r.2.2.2.1.length 1) (.ref (q 7) 0 r.2.2.2.2.length 1)))), (some (fun q => [(.imm (List.map vb r.2.1) r.2.1.length)])), none, none, none, (some (fun q => (List.map vi r.2.2.1))), (some (fun q => (List.map vi r.2.2.2.1))), (some (fun q => (List.map vi r.2.2.2.2)))] := by
 refine cP.of_walkW hC (RenML.cons (aF.ptr 0 0) RenML.nil) (aK (bb _ (rI (ah _)) (rI (au _)) (aF.clo RenML.nil (RenML.cons (aF.ptr 1 0) RenML.nil)) (aF.ref 2 0 _ _) (aF.ref 3 0 _ _) (aF.ref 4 0 _ _)) (aK (RenML.cons (rI (aP _)) RenML.nil) (aK (RenML.const (ac _)) (aK (RenML.const (ac _)) (aK (RenML.const (ac _)) dW))))) (aD (bb _ (rI (ah _)) (rI (au _)) (aF.clo RenML.nil (RenML.cons (aF.ptr 1 0) RenML.nil)) (aF.ref 5 0 _ _) (aF.ref 6 0 _ _) (aF.ref 7 0 _ _)) (aD (RenML.cons (rI (aP _)) RenML.nil) (ez (ez (ez (aD (RenML.const (ac _)) (aD (RenML.const (ac _)) (aD (RenML.const (ac _)) dg)))))))) (aF.tup RenML.nil) rfl (qB2 rfl) (show K.P.funcs[20]? = some Try.f20 from Try.func20) rfl rfl (by decide +kernel) (qB2 rfl) ?_; unfold dj at h0; refine aa [0] fun tz U u => ?_; (try simp only [go_sem]); refine qU u ?_; clear u U; refine aa [0,2] fun tz U u => ?_; obtain ⟨x35, bx35, h0⟩ := bnd h0; (try simp only [go_sem]); (refine aQ (uv a0.sides.Sender (IntKind.wrap .i64 (a0.out.Rounds * a0.plan.Round)) bx35) ?_; try dsimp only); (try refine ap ?_); (try simp only [go_sem]); refine qU u ?_; clear u U; refine aa [0,2,3,4,5] fun tz U u => ?_; obtain ⟨x36, bx36, h0⟩ := bnd h0; (try simp only [go_sem]); (refine bJ [0, 1, 2, 3, 4] (be x35.2.2 a0 a1 bx36) (by decide) (by decide) ⟨qG, qG, qG, qG, qG, trivial⟩ qG ?_; try dsimp only); (try refine ap ?_); (try simp only [go_sem, lc, ln]); refine u _ (ij x36 a0 a1 x35) (by refine Wk.canonD [] [] [some 0, some 1, some 2, some 3, some 4, some 28] rfl trivial rfl (ar 5 (ar 4 (ar 3 (ar 2 (ar 1 (ar 0 bo rfl qM rfl (aq (by rfl) (tI (ah _)) (tI (au _)) (Tm.clo tn (tc tp tn)) tr tr tr)) rfl qM rfl (tc (tI (aP _)) tn)) rfl qM rfl (TmL.of_eq qL (ac _))) rfl qM rfl (TmL.of_eq qL (ac _))) rfl qM rfl (TmL.of_eq qL (ac _))) rfl qM rfl (al (by rfl) (tI (ah _)))) (tA 4 (tA 3 (tA 2 (tA 0 aG tp) tv) (tI (ac _))) tp); all_goals exact qN) ?_; clear u U; unfold ij; refine aa [0,2,3,4] fun tz U u => ?_; (try simp only [go_sem]); refine qU u ?_; clear u U; refine d8 [0,2,3] (fun _ => rfl) fun tz => ?_; refine ct fun U u all hall => ?_; refine cu ?_; (try simp only [List.toList_toArray, List.map_cons, List.map_nil, List.size_toArray, List.length_cons, List.length_nil, Nat.zero_add]); (try simp only [Nat.reduceAdd]); obtain ⟨x37, bx37, h0⟩ := bnd h0; (iterate 3 ((try simp only [go_sem, -Nat.reduceAdd]); try simp only [Nat.reduceAdd])); (refine s6 (by first | (simp only [go_sem, fz, kS, cond_true, cond_false] <;> rfl) | (simp only [go_sem, fz, List.length_set, eO, gG, cond_true, cond_false] <;> rfl)) (by first | (simp only [go_sem, bc] <;> rfl)) (eU { x36 with out.Acked := a0.out.Acked, out.Delivered := a0.out.Delivered, out.Dropped := a0.out.Dropped, sides.Sender := x35.2.1 } a1 x35.1 bx37 _) (by repeat' (first | exact NoV.v _ | exact NoV.ref _ _ _ _ | exact NoV.onil | refine NoV.ocons ?_ ?_ | exact NoV.nil | refine NoV.tup ?_ | refine NoV.agg ?_ | refine NoV.rows (fun _ => ?_) _ | refine NoV.maps (fun _ => ?_) _ | refine NoV.cons ?_ ?_)) (by repeat' (first | exact NoV.v _ | exact NoV.ref _ _ _ _ | exact NoV.onil | refine NoV.ocons ?_ ?_ | exact NoV.nil | refine NoV.tup ?_ | refine NoV.agg ?_ | refine NoV.rows (fun _ => ?_) _ | refine NoV.maps (fun _ => ?_) _ | refine NoV.cons ?_ ?_)) ?_; try dsimp only); (try refine cu ?_); obtain ⟨x38, bx38, h0⟩ := bnd h0; have bx38 := bQ bx38; simp only [Bool.and_eq_true, decide_eq_true_eq] at bx38; have gx38_0 := bx38; (iterate 3 ((try simp only [go_sem, -Nat.reduceAdd, gx38_0]); try simp only [Nat.reduceAdd])); refine And.intro ?_ (u _ (ii x36 x35 a0 x37 a1) (by refine Wk.canonD [] [4] [some 0, some 1, some 2, some 3, some 4, some 21] rfl ⟨rfl, trivial⟩ rfl (ar 5 (ar 3 (ar 2 (ar 1 (ar 0 bo rfl qM rfl (aq (by rfl) (tI (ah _)) (tI (au _)) (Tm.clo tn (tc tp tn)) tr tr tr)) rfl qM rfl (tc (tI (aP _)) tn)) rfl qM rfl (TmL.of_eq qL (ac _))) rfl qM rfl (TmL.of_eq qL (ac _))) rfl qM rfl (TmL.of_eq qL (ac _))) (tA 2 (tA 0 aG tp) tv); all_goals exact qN) ?_)
 ·
  subst hall; clear u U; exact qP
 ·
  clear u U hall all; unfold ii; refine aj ?_; refine aa [0,2] fun tz U u => ?_; rcases bE x35.2.1.Bar with h1 | h1
  ·
   have h0 := cT h0 h1; obtain ⟨x39, bx39, h0⟩ := bnd h0; (try simp only [go_sem, h1]); (refine bJ [1] (jO a1 bx39) (by decide) (by decide) ⟨(by first | rfl | (simp only [go_sem, h1] <;> rfl)), trivial⟩ (by first | rfl | (simp only [go_sem, h1] <;> rfl)) ?_; try dsimp only); (try refine ap ?_); (try simp only [go_sem, h1, lc, ln]); refine qU u ?_; clear u U; obtain ⟨d40, hi2, h0⟩ := bnd h0; refine c7 (fun z => d40 = z) (fun d40 : (Session_session × List Int) => ie a0 x37 x39 d40) ?_ ?_
   ·
    refine bC (b := (!x39.1)) rfl (fun h3 => ?_) (fun h3 => ?_)
    ·
     have hi2 := cT hi2 h3; refine aa [0,2] fun tz U u => ?_; obtain ⟨x41, bx41, hi2⟩ := bnd hi2; (try simp only [go_sem]); (refine aQ (vy x35.2.1 bx41) ?_; try dsimp only); (try refine ap ?_); obtain ⟨x42, bx42, hi2⟩ := bnd hi2; (try simp only [go_sem]); (refine bJ [0, 1, 2, 3, 5] (iV x41 { x36 with out.Acked := a0.out.Acked, out.Delivered := a0.out.Delivered, out.Dropped := (a0.out.Dropped ++ x37), sides.Sender := x35.2.1 } x39.2 bx42) (by decide) (by decide) ⟨qG, qG, qG, qG, qG, trivial⟩ qG ?_; try dsimp only); (try refine ap ?_); (try simp only [go_sem, lc, ln]); refine qU u ?_; clear u U; refine aa [0,2] fun tz U u => ?_; obtain ⟨x43, bx43, hi2⟩ := bnd hi2; (try simp only [go_sem]); (refine aQ (tZ x42.1.sides.Sender bx43) ?_; try dsimp only); (try refine ap ?_); (try simp only [go_sem]); refine u _ (io x42 x43 a0 x37 x39) (by refine Wk.canonD [] [2, 4] [some 0, some 1, some 2, some 3, some 4, some 28, some 5] rfl ⟨rfl, rfl, trivial⟩ rfl (ar 6 (ar 5 (ar 3 (ar 1 (ar 0 bo rfl qM rfl (aq (by rfl) (tI (ah _)) (tI (au _)) (Tm.clo tn (tc tp tn)) tr tr tr)) rfl qM rfl (tc (tI (aP _)) tn)) rfl qM rfl (TmL.of_eq qL (ac _))) rfl qM rfl (TmL.of_eq qL (ac _))) rfl qM rfl (TmL.of_eq qL (ac _))) (tA 5 (tA 2 (tA 0 aG tp) tv) tv); all_goals exact qN) ?_; clear u U; unfold io; refine br [0,2,5] fun tz U u => ?_; obtain ⟨x44, bx44, hi2⟩ := bnd hi2; (try simp only [go_sem]); (refine bJ [0, 1, 5, 3, 6] (be x43.2 { x42.1 with out.Acked := a0.out.Acked, out.Delivered := x42.2, out.Dropped := (a0.out.Dropped ++ x37), sides.Sender := x43.1 } x39.2 bx44) (by decide) (by decide) ⟨qG, qG, qG, qG, qG, trivial⟩ qG ?_; try dsimp only); (try refine ap ?_); (try simp only [go_sem, lc, ln]); refine u _ ?_; clear u U; refine fC ?_; obtain rfl := ak hi2; exact ⟨_, rfl, (by refine Wk.canonD [] [2, 4] [some 0, some 1, some 2, some 3, some 4, some 5, some 6] rfl ⟨rfl, rfl, trivial⟩ rfl (ar 6 (ar 5 (ar 3 (ar 1 (ar 0 bo rfl qM rfl (aq (by rfl) (tI (ah _)) (tI (au _)) (Tm.clo tn (tc tp tn)) tr tr tr)) rfl qM rfl (tc (tI (aP _)) tn)) rfl qM rfl (TmL.of_eq qL (ac _))) rfl qM rfl (TmL.of_eq qL (ac _))) rfl qM rfl (TmL.of_eq qL (ac _))) (tA 2 (tA 0 aG tp) tv); all_goals exact qN)⟩
    ·
     have hi2 := cF hi2 h3; refine cS ?_; refine fC ?_; obtain rfl := ak hi2; exact ⟨_, rfl, (by refine Wk.canonD [] [2, 4] [some 0, some 1, some 2, some 3, some 4, some 2, some 5] rfl ⟨rfl, rfl, trivial⟩ rfl (ar 6 (ar 5 (ar 3 (ar 1 (ar 0 bo rfl qM rfl (aq (by rfl) (tI (ah _)) (tI (au _)) (Tm.clo tn (tc tp tn)) tr tr tr)) rfl qM rfl (tc (tI (aP _)) tn)) rfl qM rfl (TmL.of_eq qL (ac _))) rfl qM rfl (TmL.of_eq qL (ac _))) rfl qM rfl (TmL.of_eq qL (ac _))) (tA 2 (tA 0 aG tp) tv); all_goals exact qN)⟩
   ·
    rintro _ rfl; clear hi2; unfold ie; refine aa [0,2] fun tz U u => ?_; obtain ⟨x45, bx45, h0⟩ := bnd h0; (try simp only [go_sem]); (refine bJ [0, 1, 5, 3, 6] (ip (IntKind.wrap .i64 (a0.out.Rounds * a0.plan.Round)) { d40.1 with out.Acked := a0.out.Acked, out.Delivered := d40.2, out.Dropped := (a0.out.Dropped ++ x37) } x39.2 bx45) (by decide) (by decide) ⟨qG, qG, qG, qG, qG, trivial⟩ qG ?_; try dsimp only); (try refine ap ?_); (try simp only [go_sem, lc, ln]); refine qU u ?_; clear u U; refine aj ?_; refine aa [0,2] fun tz U u => ?_; obtain ⟨x46, bx46, h0⟩ := bnd h0; (try simp only [go_sem]); (refine bJ [0, 1, 5, 3, 6] (iW (IntKind.wrap .i64 (a0.out.Rounds * a0.plan.Round)) { x45 with out.Acked := a0.out.Acked, out.Delivered := d40.2, out.Dropped := (a0.out.Dropped ++ x37) } x39.2 bx46) (by decide) (by decide) ⟨qG, qG, qG, qG, qG, trivial⟩ qG ?_; try dsimp only); (try refine ap ?_); (try simp only [go_sem, lc, ln]); refine qU u ?_; clear u U; obtain ⟨d47, hi4, h0⟩ := bnd h0; refine c7 (fun z => d47 = z) (fun d47 : (Session_session × List Bool × List Int) => iA x46 a0 x37 d47) ?_ ?_
    ·
     refine bC (b := (decide (0 < x46.1))) rfl (fun h5 => ?_) (fun h5 => ?_)
     ·
      have hi4 := cT hi4 h5; refine br [0,2] fun tz U u => ?_; obtain ⟨x48, bx48, hi4⟩ := bnd hi4; (try simp only [go_sem]); (refine bJ [0, 1, 14, 3, 6] (gW { x46.2.1 with out.Acked := a0.out.Acked, out.Delivered := x46.2.2.2, out.Dropped := (a0.out.Dropped ++ x37) } x46.2.2.1 bx48) (by decide) (by decide) ⟨qG, qG, qG, qG, qG, trivial⟩ qG ?_; try dsimp only); (try refine ap ?_); (try simp only [go_sem, lc, ln]); refine u _ ?_; clear u U; refine fC ?_; obtain rfl := ak hi4; exact ⟨_, rfl, (by refine Wk.canonD [] [2, 3, 4] [some 0, some 1, some 2, some 3, some 4, some 14, some 17, some 6] rfl ⟨rfl, rfl, rfl, trivial⟩ rfl (ar 7 (ar 6 (ar 5 (ar 1 (ar 0 bo rfl qM rfl (aq (by rfl) (tI (ah _)) (tI (au _)) (Tm.clo tn (tc tp tn)) tr tr tr)) rfl qM rfl (tc (tI (aP _)) tn)) rfl qM rfl (TmL.of_eq qL (ac _))) rfl qM rfl (TmL.of_eq qL (ac _))) rfl qM rfl (TmL.of_eq qL (ac _))) (tA 2 (tA 0 aG tp) tv); all_goals exact qN)⟩
     ·
      have hi4 := cF hi4 h5; refine cS ?_; refine fC ?_; obtain rfl := ak hi4; exact ⟨_, rfl, (by refine Wk.canonD [] [2, 3, 4] [some 0, some 1, some 2, some 3, some 4, some 14, some 3, some 6] rfl ⟨rfl, rfl, rfl, trivial⟩ rfl (ar 7 (ar 6 (ar 5 (ar 1 (ar 0 bo rfl qM rfl (aq (by rfl) (tI (ah _)) (tI (au _)) (Tm.clo tn (tc tp tn)) tr tr tr)) rfl qM rfl (tc (tI (aP _)) tn)) rfl qM rfl (TmL.of_eq qL (ac _))) rfl qM rfl (TmL.of_eq qL (ac _))) rfl qM rfl (TmL.of_eq qL (ac _))) (tA 2 (tA 0 aG tp) tv); all_goals exact qN)⟩
    ·
     rintro _ rfl; clear hi4; unfold iA; refine aa [0,2] fun tz U u => ?_; obtain ⟨x49, bx49, h0⟩ := bnd h0; (try simp only [go_sem]); (refine aQ (mJ d47.1.sides.Reorder (IntKind.wrap .i64 (a0.out.Rounds * a0.plan.Round)) bx49) ?_; try dsimp only); (try refine ap ?_); (try simp only [go_sem]); refine qU u ?_; clear u U; refine aa [0,5,6,7] fun tz U u => ?_; obtain ⟨x50, bx50, h0⟩ := bnd h0; (try simp only [go_sem]); (refine bJ [0, 1, 5, 6, 7] (be x49.2.2 { d47.1 with out.Acked := d47.2.2, out.Delivered := x46.2.2.2, out.Dropped := (a0.out.Dropped ++ x37) } d47.2.1 bx50) (by decide) (by decide) ⟨qG, qG, qG, qG, qG, trivial⟩ qG ?_; try dsimp only); (try refine ap ?_); (try simp only [go_sem, lc, ln]); refine u _ (iB x50 x46 d47 a0 x37 x49) (by refine Wk.canonD [] [2, 3, 4] [some 0, some 1, some 2, some 3, some 4, some 5, some 6, some 7, some 19] rfl ⟨rfl, rfl, rfl, trivial⟩ rfl (ar 8 (ar 7 (ar 6 (ar 5 (ar 1 (ar 0 bo rfl qM rfl (aq (by rfl) (tI (ah _)) (tI (au _)) (Tm.clo tn (tc tp tn)) tr tr tr)) rfl qM rfl (tc (tI (aP _)) tn)) rfl qM rfl (TmL.of_eq qL (ac _))) rfl qM rfl (TmL.of_eq qL (ac _))) rfl qM rfl (TmL.of_eq qL (ac _))) rfl qM rfl (aJ (by rfl) (tI (au _)))) (tA 7 (tA 6 (tA 0 aG tp) (tI (bW _))) tp); all_goals exact qN) ?_; clear u U; unfold iB; refine aa [0,6,7] fun tz U u => ?_; (try simp only [go_sem]); refine qU u ?_; clear u U; refine aa [0,6] fun tz U u => ?_; obtain ⟨x51, bx51, h0⟩ := bnd h0; (try simp only [go_sem]); (refine bJ [0, 1, 5, 6, 7] (dC x49.1 { x50 with out.Acked := d47.2.2, out.Delivered := x46.2.2.2, out.Dropped := (a0.out.Dropped ++ x37), sides.Reorder := x49.2.1 } d47.2.1 bx51) (by decide) (by decide) ⟨qG, qG, qG, qG, qG, trivial⟩ qG ?_; try dsimp only); (try refine ap ?_); (try simp only [go_sem, lc, ln]); refine qU u ?_; clear u U; refine br [0] fun tz U u => ?_; (try simp only [go_sem]); refine u _ ?_; clear u U; obtain rfl := ak h0; refine aH ?_; refine ei Kg (rfl) ?_; refine dt.mk [] [some 0, some 1, some 2, some 3, some 4, some 18, some 6, some 7] rfl (aS qM rfl (aq (by rfl) (tI (ah _)) (tI (au _)) (Tm.clo tn (tc tp tn)) tr tr tr) (aS qM rfl (tc (tI (aP _)) tn) (gS (gS (gS (aS qM rfl (TmL.of_eq qL (ac _)) (aS qM rfl (TmL.of_eq qL (ac _)) (aS qM rfl (TmL.of_eq qL (ac _)) en)))))))) (Tm.tup tn); (all_goals exact qN)
  ·
   have h0 := cF h0 h1; (try simp only [go_sem, h1]); refine qU u ?_; clear u U; refine xO rfl ?_; refine aO ?_; refine aa [0,2] fun tz U u => ?_; obtain ⟨x52, bx52, h0⟩ := bnd h0; (try simp only [go_sem]); (refine bJ [0, 1, 2, 3, 5] (ip (IntKind.wrap .i64 (a0.out.Rounds * a0.plan.Round)) { x36 with out.Acked := a0.out.Acked, out.Delivered := a0.out.Delivered, out.Dropped := (a0.out.Dropped ++ x37), sides.Sender := x35.2.1 } a1 bx52) (by decide) (by decide) ⟨qG, qG, qG, qG, qG, trivial⟩ qG ?_; try dsimp only); (try refine ap ?_); (try simp only [go_sem, lc, ln]); refine qU u ?_; clear u U; refine aj ?_; refine aa [0,2] fun tz U u => ?_; obtain ⟨x53, bx53, h0⟩ := bnd h0; (try simp only [go_sem]); (refine bJ [0, 1, 2, 3, 5] (iW (IntKind.wrap .i64 (a0.out.Rounds * a0.plan.Round)) { x52 with out.Acked := a0.out.Acked, out.Delivered := a0.out.Delivered, out.Dropped := (a0.out.Dropped ++ x37) } a1 bx53) (by decide) (by decide) ⟨qG, qG, qG, qG, qG, trivial⟩ qG ?_; try dsimp only); (try refine ap ?_); (try simp only [go_sem, lc, ln]); refine qU u ?_; clear u U; obtain ⟨d54, hi6, h0⟩ := bnd h0; refine c7 (fun z => d54 = z) (fun d54 : (Session_session × List Bool × List Int) => ik x53 a0 x37 d54) ?_ ?_
   ·
    refine bC (b := (decide (0 < x53.1))) rfl (fun h7 => ?_) (fun h7 => ?_)
    ·
     have hi6 := cT hi6 h7; refine br [0,2] fun tz U u => ?_; obtain ⟨x55, bx55, hi6⟩ := bnd hi6; (try simp only [go_sem]); (refine bJ [0, 1, 27, 3, 5] (gW { x53.2.1 with out.Acked := a0.out.Acked, out.Delivered := x53.2.2.2, out.Dropped := (a0.out.Dropped ++ x37) } x53.2.2.1 bx55) (by decide) (by decide) ⟨qG, qG, qG, qG, qG, trivial⟩ qG ?_; try dsimp only); (try refine ap ?_); (try simp only [go_sem, lc, ln]); refine u _ ?_; clear u U; refine fC ?_; obtain rfl := ak hi6; exact ⟨_, rfl, (by refine Wk.canonD [] [2, 3, 4] [some 0, some 1, some 2, some 3, some 4, some 27, some 30, some 5] rfl ⟨rfl, rfl, rfl, trivial⟩ rfl (ar 7 (ar 6 (ar 5 (ar 1 (ar 0 bo rfl qM rfl (aq (by rfl) (tI (ah _)) (tI (au _)) (Tm.clo tn (tc tp tn)) tr tr tr)) rfl qM rfl (tc (tI (aP _)) tn)) rfl qM rfl (TmL.of_eq qL (ac _))) rfl qM rfl (TmL.of_eq qL (ac _))) rfl qM rfl (TmL.of_eq qL (ac _))) (tA 2 (tA 0 aG tp) tv); all_goals exact qN)⟩
    ·
     have hi6 := cF hi6 h7; refine cS ?_; refine fC ?_; obtain rfl := ak hi6; exact ⟨_, rfl, (by refine Wk.canonD [] [2, 3, 4] [some 0, some 1, some 2, some 3, some 4, some 27, some 3, some 5] rfl ⟨rfl, rfl, rfl, trivial⟩ rfl (ar 7 (ar 6 (ar 5 (ar 1 (ar 0 bo rfl qM rfl (aq (by rfl) (tI (ah _)) (tI (au _)) (Tm.clo tn (tc tp tn)) tr tr tr)) rfl qM rfl (tc (tI (aP _)) tn)) rfl qM rfl (TmL.of_eq qL (ac _))) rfl qM rfl (TmL.of_eq qL (ac _))) rfl qM rfl (TmL.of_eq qL (ac _))) (tA 2 (tA 0 aG tp) tv); all_goals exact qN)⟩
   ·
    rintro _ rfl; clear hi6; unfold ik; refine aa [0,2] fun tz U u => ?_; obtain ⟨x56, bx56, h0⟩ := bnd h0; (try simp only [go_sem]); (refine aQ (mJ d54.1.sides.Reorder (IntKind.wrap .i64 (a0.out.Rounds * a0.plan.Round)) bx56) ?_; try dsimp only); (try refine ap ?_); (try simp only [go_sem]); refine qU u ?_; clear u U; refine aa [0,5,6,7] fun tz U u => ?_; obtain ⟨x57, bx57, h0⟩ := bnd h0; (try simp only [go_sem]); (refine bJ [0, 1, 5, 6, 7] (be x56.2.2 { d54.1 with out.Acked := d54.2.2, out.Delivered := x53.2.2.2, out.Dropped := (a0.out.Dropped ++ x37) } d54.2.1 bx57) (by decide) (by decide) ⟨qG, qG, qG, qG, qG, trivial⟩ qG ?_; try dsimp only); (try refine ap ?_); (try simp only [go_sem, lc, ln]); refine u _ (iD x57 x53 d54 a0 x37 x56) (by refine Wk.canonD [] [2, 3, 4] [some 0, some 1, some 2, some 3, some 4, some 5, some 6, some 7, some 19] rfl ⟨rfl, rfl, rfl, trivial⟩ rfl (ar 8 (ar 7 (ar 6 (ar 5 (ar 1 (ar 0 bo rfl qM rfl (aq (by rfl) (tI (ah _)) (tI (au _)) (Tm.clo tn (tc tp tn)) tr tr tr)) rfl qM rfl (tc (tI (aP _)) tn)) rfl qM rfl (TmL.of_eq qL (ac _))) rfl qM rfl (TmL.of_eq qL (ac _))) rfl qM rfl (TmL.of_eq qL (ac _))) rfl qM rfl (aJ (by rfl) (tI (au _)))) (tA 7 (tA 6 (tA 0 aG tp) (tI (bW _))) tp); all_goals exact qN) ?_; clear u U; unfold iD; refine aa [0,6,7] fun tz U u => ?_; (try simp only [go_sem]); refine qU u ?_; clear u U; refine aa [0,6] fun tz U u => ?_; obtain ⟨x58, bx58, h0⟩ := bnd h0; (try simp only [go_sem]); (refine bJ [0, 1, 5, 6, 7] (dC x56.1 { x57 with out.Acked := d54.2.2, out.Delivered := x53.2.2.2, out.Dropped := (a0.out.Dropped ++ x37), sides.Reorder := x56.2.1 } d54.2.1 bx58) (by decide) (by decide) ⟨qG, qG, qG, qG, qG, trivial⟩ qG ?_; try dsimp only); (try refine ap ?_); (try simp only [go_sem, lc, ln]); refine qU u ?_; clear u U; refine br [0] fun tz U u => ?_; (try simp only [go_sem]); refine u _ ?_; clear u U; obtain rfl := ak h0; refine aH ?_; refine ei Kg (rfl) ?_; refine dt.mk [] [some 0, some 1, some 2, some 3, some 4, some 18, some 6, some 7] rfl (aS qM rfl (aq (by rfl) (tI (ah _)) (tI (au _)) (Tm.clo tn (tc tp tn)) tr tr tr) (aS qM rfl (tc (tI (aP _)) tn) (gS (gS (gS (aS qM rfl (TmL.of_eq qL (ac _)) (aS qM rfl (TmL.of_eq qL (ac _)) (aS qM rfl (TmL.of_eq qL (ac _)) en)))))))) (Tm.tup tn); (all_goals exact qN)
def po (a0 : SessionPlan) (a2 : (List Bool)) (a1 : Int) (x2 : Int) : AS :=
 { objs := (upd (upd (upd (fun _ => .dead) 0 (.live (am a0))) 1 (.live [(.imm (List.map vb a2) a2.length)])) 2 (.live (az SessionResult.z cJ cJ cJ))), next := 3, tmps := (upd (upd (upd (upd (upd (fun _ => .unk) 1 (vi a1)) 3 (.ptr 0 0)) 5 (.ptr 1 0)) 6 (.ptr 2 0)) 8 (vi x2)) }

def pB (a2 : (List Bool)) (a1 : Int) (a0 : SessionPlan) : AS :=
 { objs := (upd (upd (upd (upd (upd (upd (fun _ => .dead) 0 (.live [(.imm (List.map vb a2) a2.length)])) 1 (.live (az SessionResult.z cJ cJ cJ))) 2 (.live (ae { Session_session.z with many := a1, plan := a0 } (.imm (List.flatMap ag Session_session.z.sides.Sender.Out) Session_session.z.sides.Sender.Out.length) (.imm (List.flatMap ai Session_session.z.sides.Reorder.Held) Session_session.z.sides.Reorder.Held.length) (.v .nilFunc) (.ref 3 0 0 1) (.ref 4 0 0 1) (.ref 5 0 0 1)))) 3 (.live (List.map vi ([] : List Int)))) 4 (.live (List.map vi ([] : List Int)))) 5 (.live (List.map vi ([] : List Int)))), next := 6, tmps := (upd (upd (upd (upd (fun _ => .unk) 1 (vi a1)) 5 (.ptr 0 0)) 6 (.ptr 1 0)) 9 (.ptr 2 0)) }

def pD (d5 : (Session_session × List Bool × List Int × List Int × List Int)) : AS :=
 { objs := (upd (upd (upd (upd (upd (upd (fun _ => .dead) 0 (.live (az SessionResult.z cJ cJ cJ))) 1 (.live (ae d5.1 (.imm (List.flatMap ag d5.1.sides.Sender.Out) d5.1.sides.Sender.Out.length) (.imm (List.flatMap ai d5.1.sides.Reorder.Held) d5.1.sides.Reorder.Held.length) (.clo 17 [] [(.ptr 2 0)]) (.ref 3 0 d5.2.2.1.length 1) (.ref 4 0 d5.2.2.2.1.length 1) (.ref 5 0 d5.2.2.2.2.length 1)))) 2 (.live [(.imm (List.map vb d5.2.1) d5.2.1.length)])) 3 (.live (List.map vi d5.2.2.1))) 4 (.live (List.map vi d5.2.2.2.1))) 5 (.live (List.map vi d5.2.2.2.2))), next := 6, tmps := (upd (upd (fun _ => .unk) 6 (.ptr 0 0)) 9 (.ptr 1 0)) }

def pC (a1 : Int) (d6 : (Session_session × List Bool × List Int × List Int × List Int)) : AS :=
 { objs := (upd (upd (upd (upd (upd (upd (fun _ => .dead) 0 (.live (az SessionResult.z cJ cJ cJ))) 1 (.live (ae d6.1 (.imm (List.flatMap ag d6.1.sides.Sender.Out) d6.1.sides.Sender.Out.length) (.imm (List.flatMap ai d6.1.sides.Reorder.Held) d6.1.sides.Reorder.Held.length) (.clo 17 [] [(.ptr 2 0)]) (.ref 3 0 d6.2.2.1.length 1) (.ref 4 0 d6.2.2.2.1.length 1) (.ref 5 0 d6.2.2.2.2.length 1)))) 2 (.live [(.imm (List.map vb d6.2.1) d6.2.1.length)])) 3 (.live (List.map vi d6.2.2.1))) 4 (.live (List.map vi d6.2.2.2.1))) 5 (.live (List.map vi d6.2.2.2.2))), next := 6, tmps := (upd (upd (upd (fun _ => .unk) 1 (vi a1)) 6 (.ptr 0 0)) 9 (.ptr 1 0)) }

theorem w9 (a0 : SessionPlan) (a1 : Int) (a2 : (List Bool)) {r : (SessionResult × Int)} (h0 : gF a0 a1 a2 = some r) : ga K 10 [(.agg (am a0)), (vi a1), (xA a2)] (fun q => (.tup [(.agg (az r.1 (.ref (q 0) 0 r.1.Delivered.length 1) (.ref (q 1) 0 r.1.Acked.length 1) (.ref (q 2) 0 r.1.Dropped.length 1))), (vi r.2)])) [(List.map vi r.1.Delivered), (List.map vi r.1.Acked), (List.map vi r.1.Dropped)] := by
 refine ga.of_walkW hC (show K.P.funcs[10]? = some Try.f10 from Try.func10) rfl rfl (by decide +kernel) (qB2 rfl) ?_; unfold gF at h0; refine aa [0,1,2] fun tz U u => ?_; (try simp only [go_sem]); refine qU u ?_; clear u U; refine aj ?_; refine aa [1,3,5,6] fun tz U u => ?_; obtain ⟨x2, bx2, h0⟩ := bnd h0; (try simp only [go_sem]); (refine aQ (up a0 bx2) ?_; try dsimp only); (try refine ap ?_); (try simp only [go_sem]); refine u _ (po a0 a2 a1 x2) (Wk.canonD [] [] [some 0, some 1, some 2] rfl trivial rfl (ar 2 (ar 1 (ar 0 bo rfl qM rfl (TmL.clean (cn _))) rfl qM rfl (tc (tI (aP _)) tn)) rfl qM rfl (bm (by rfl) tv tv tv)) (tA 8 (tA 6 (tA 5 (tA 3 (tA 1 aG tv) tp) tp) tp) tv)) ?_; clear u U; unfold po; refine aj ?_; refine aa [1,3,5,6,8] fun tz U u => ?_; (try simp only [go_sem]); refine qU u ?_; clear u U; refine aN (b := (x2 != 0)) rfl (fun h1 => ?_) (fun h1 => ?_)
 ·
  have h0 := cT h0 h1; refine aj ?_; refine aa [6,8] fun tz U u => ?_; (try simp only [go_sem]); refine qU u ?_; clear u U; refine bB ?_; obtain rfl := ak h0; refine aH ?_; refine ax Fc qR ?_; refine Res.mk [] [none, none, none] rfl (cY (cY (cY cX))) (Tm.tup (tc (Tm.agg (bm (by rfl) tT tT tT)) (tc tv tn)))
 ·
  have h0 := cF h0 h1; refine aO ?_; refine aj ?_; refine aa [1,3,5,6] fun tz U u => ?_; obtain ⟨x3, bx3, h0⟩ := bnd h0; (try simp only [go_sem]); (refine aQ (dy a1 0 200 bx3) ?_; try dsimp only); (try refine ap ?_); (try simp only [go_sem]); refine qU u ?_; clear u U; refine aN (b := (!x3)) rfl (fun h2 => ?_) (fun h2 => ?_)
  ·
   have h0 := cT h0 h2; refine aj ?_; refine aa [6] fun tz U u => ?_; (try simp only [go_sem]); refine qU u ?_; clear u U; refine bB ?_; obtain rfl := ak h0; refine aH ?_; refine ax Fc qR ?_; refine Res.mk [] [none, none, none] rfl (cY (cY (cY cX))) (Tm.tup (tc (Tm.agg (bm (by rfl) tT tT tT)) (tc tv tn)))
  ·
   have h0 := cF h0 h2; refine aO ?_; refine aa [1,3,5,6] fun tz U u => ?_; (try simp only [go_sem]); refine u _ (pB a2 a1 a0) (Wk.canonD [] [] [some 1, some 2, some 11, none, none, none] rfl trivial rfl (vI 5 (vI 4 (vI 3 (ar 2 (ar 1 (ar 0 bo rfl qM rfl (tc (tI (aP _)) tn)) rfl qM rfl (bm (by rfl) tv tv tv)) rfl qM rfl (aq (by rfl) (Tm.nil) (Tm.nil) tv tT tT tT)) rfl) rfl) rfl) (tA 9 (tA 6 (tA 5 (tA 1 aG tv) tp) tp) tp)) ?_; clear u U; unfold pB; refine aa [1,5,6,9] fun tz U u => ?_; (try simp only [go_sem]); refine qU u ?_; clear u U; refine aa [1,6,9] fun tz U u => ?_; obtain ⟨x4, bx4, h0⟩ := bnd h0; (try simp only [go_sem]); (refine bJ [2, 0, 3, 4, 5] (mb { Session_session.z with many := a1, out.Acked := ([] : List Int), out.Delivered := ([] : List Int), out.Dropped := ([] : List Int), plan := a0 } a2 bx4) (by decide) (by decide) ⟨qG, qG, qG, qG, qG, trivial⟩ qG ?_; try dsimp only); (try refine ap ?_); (try simp only [go_sem, lc, ln]); refine qU u ?_; clear u U; obtain ⟨d5, hi3, h0⟩ := bnd h0; refine c7 (fun z => d5 = z) (fun d5 : (Session_session × List Bool × List Int × List Int × List Int) => pD d5) ?_ ?_
   ·
    refine bp ?_; refine cz (fun n (d6 : (Session_session × List Bool × List Int × List Int × List Int)) => et a1 n d6 = some d5) (fun d6 : (Session_session × List Bool × List Int × List Int × List Int) => pC a1 d6) big (x4, a2, ([] : List Int), ([] : List Int), ([] : List Int)) (by refine Wk.canonD [] [] [some 1, some 2, some 0, some 3, some 4, some 5] rfl trivial rfl (ar 5 (ar 4 (ar 3 (ar 2 (ar 1 (ar 0 bo rfl qM rfl (bm (by rfl) tv tv tv)) rfl qM rfl (aq (by rfl) (tI (ah _)) (tI (au _)) (Tm.clo tn (tc tp tn)) tr tr tr)) rfl qM rfl (tc (tI (aP _)) tn)) rfl qM rfl (TmL.of_eq qL (ac _))) rfl qM rfl (TmL.of_eq qL (ac _))) rfl qM rfl (TmL.of_eq qL (ac _))) (tA 9 (tA 6 (tA 1 aG tv) tp) tp); all_goals exact qN) hi3 ?_; clear hi3; rintro n d6 hl5; rcases n with _ | n4
    ·
     (rw [et] at hl5; cases hl5)
    ·
     rw [et] at hl5; unfold pC; refine aj ?_; refine aa [1,6,9] fun tz U u => ?_; (try simp only [List.append_eq, Array.toList_append, List.append_toArray, List.toList_toArray, List.cons_append, List.nil_append]); refine bf 6 qS qS (by rfl) fun V v => ?_; refine ap ?_; (try simp only [go_sem]); refine v _ ?_; clear v V; refine bu 25 [(1, (vi a1)), (6, (.ptr 0 0)), (9, (.ptr 1 0)), (60, (vb ((d6.1.err == 0) && (((decide (d6.1.accepted < a1)) || (decide (0 < (d6.1.sides.Sender.Out.length : Int)))) || d6.1.sides.Sender.Bar))))] qS qS (by rfl) (fun V v => ?_) fun tz => ?_
     ·
      refine ap ?_; rcases bE (d6.1.err == 0) with h6 | h6
      ·
       refine bf 7 qS qS (by rfl) fun V v => ?_; refine ap ?_; (try simp only [go_sem, h6]); refine v _ ?_; clear v V; refine bu 9 [(1, (vi a1)), (6, (.ptr 0 0)), (9, (.ptr 1 0)), (35, (vb true)), (51, (vb ((decide (d6.1.accepted < a1)) || (decide (0 < (d6.1.sides.Sender.Out.length : Int))))))] qS qS (by rfl) (fun V v => ?_) fun tz => ?_
       ·
        refine ap ?_; rcases bE (decide (d6.1.accepted < a1)) with h7 | h7
        ·
         (try simp only [go_sem, h6, h7]); exact v _ ⟨rfl, rfl, rfl, rfl, rfl, (qB h7), trivial⟩
        ·
         (try simp only [go_sem, h6, h7]); exact v _ ⟨rfl, rfl, rfl, rfl, rfl, (qB h7), trivial⟩
       ·
        refine ap ?_; refine bf 1 qS qS (by rfl) fun V v => ?_; refine ap ?_; (try simp only [go_sem, h6]); refine v _ ?_; clear v V; refine bu 7 [(1, (vi a1)), (6, (.ptr 0 0)), (9, (.ptr 1 0)), (35, (vb true)), (59, (vb (((decide (d6.1.accepted < a1)) || (decide (0 < (d6.1.sides.Sender.Out.length : Int)))) || d6.1.sides.Sender.Bar)))] qS qS (by rfl) (fun V v => ?_) fun tz => ?_
        ·
         refine ap ?_; rcases bE ((decide (d6.1.accepted < a1)) || (decide (0 < (d6.1.sides.Sender.Out.length : Int)))) with h8 | h8
         ·
          (try simp only [go_sem, h6, h8]); exact v _ ⟨rfl, rfl, rfl, rfl, rfl, (qB h8), trivial⟩
         ·
          (try simp only [go_sem, h6, h8]); exact v _ ⟨rfl, rfl, rfl, rfl, rfl, (qB h8), trivial⟩
        ·
         refine ap ?_; (try simp only [go_sem, h6]); exact v _ ⟨rfl, rfl, rfl, rfl, (qB h6), trivial⟩
      ·
       (try simp only [go_sem, h6]); exact v _ ⟨rfl, rfl, rfl, rfl, (qB h6), trivial⟩
     ·
      refine ap ?_; (try simp only [go_sem]); refine qU u ?_; clear u U; refine aN (b := ((d6.1.err == 0) && (((decide (d6.1.accepted < a1)) || (decide (0 < (d6.1.sides.Sender.Out.length : Int)))) || d6.1.sides.Sender.Bar))) rfl (fun h9 => ?_) (fun h9 => ?_)
      ·
       have hl5 := cT hl5 h9; refine aO ?_; refine bp ?_; refine aj ?_; refine aa [1,6,9] fun tz U u => ?_; (try simp only [go_sem]); refine qU u ?_; clear u U; refine aN (b := (d6.1.out.Rounds == 2000)) rfl (fun h10 => ?_) (fun h10 => ?_)
       ·
        have hl5 := cT hl5 h10; refine aj ?_; refine aa [6,9] fun tz U u => ?_; obtain ⟨x7, bx7, hl5⟩ := bnd hl5; (try simp only [go_sem]); (refine bJ [1, 2, 3, 4, 5] (lZ { d6.1 with out.Acked := d6.2.2.2.1, out.Delivered := d6.2.2.1, out.Dropped := d6.2.2.2.2 } d6.2.1 bx7) (by decide) (by decide) ⟨qG, qG, qG, qG, qG, trivial⟩ qG ?_; try dsimp only); (try refine ap ?_); (try simp only [go_sem, lc, ln]); refine qU u ?_; clear u U; refine cx ?_; refine KS rfl ?_; refine j9 ?_; refine js ?_; refine fC ?_; obtain rfl := ak hl5; exact ⟨_, rfl, (by refine Wk.canonD [] [] [some 0, some 1, some 2, some 45, some 4, some 46] rfl trivial rfl (ar 5 (ar 4 (ar 3 (ar 2 (ar 1 (ar 0 bo rfl qM rfl (bm (by rfl) tv tv tv)) rfl qM rfl (aq (by rfl) (tI (ah _)) (tI (au _)) (Tm.clo tn (tc tp tn)) tr tr tr)) rfl qM rfl (tc (tI (aP _)) tn)) rfl qM rfl (TmL.of_eq qL (ac _))) rfl qM rfl (TmL.of_eq qL (ac _))) rfl qM rfl (TmL.of_eq qL (ac _))) (tA 9 (tA 6 aG tp) tp); all_goals exact qN)⟩
       ·
        have hl5 := cF hl5 h10; refine aO ?_; refine br [1,6,9] fun tz U u => ?_; obtain ⟨x8, bx8, hl5⟩ := bnd hl5; (try simp only [go_sem]); (refine bJ [1, 2, 3, 4, 5] (l3 { d6.1 with out.Acked := d6.2.2.2.1, out.Delivered := d6.2.2.1, out.Dropped := d6.2.2.2.2 } d6.2.1 bx8) (by decide) (by decide) ⟨qG, qG, qG, qG, qG, trivial⟩ qG ?_; try dsimp only); (try refine ap ?_); (try simp only [go_sem, lc, ln]); refine u _ ?_; clear u U; refine gO ?_; refine iL ?_; exact ⟨n4, (x8.1, x8.2.1, x8.2.2.1, x8.2.2.2.1, x8.2.2.2.2), rfl, hl5, (by refine Wk.canonD [] [] [some 0, some 1, some 2, some 45, some 46, some 47] rfl trivial rfl (ar 5 (ar 4 (ar 3 (ar 2 (ar 1 (ar 0 bo rfl qM rfl (bm (by rfl) tv tv tv)) rfl qM rfl (aq (by rfl) (tI (ah _)) (tI (au _)) (Tm.clo tn (tc tp tn)) tr tr tr)) rfl qM rfl (tc (tI (aP _)) tn)) rfl qM rfl (TmL.of_eq qL (ac _))) rfl qM rfl (TmL.of_eq qL (ac _))) rfl qM rfl (TmL.of_eq qL (ac _))) (tA 9 (tA 6 (tA 1 aG tv) tp) tp); all_goals exact qN)⟩
      ·
       have hl5 := cF hl5 h9; refine cx ?_; refine j9 ?_; refine js ?_; refine fC ?_; obtain rfl := ak hl5; exact ⟨_, rfl, (by refine Wk.canonD [] [] [some 0, some 1, some 2, some 3, some 4, some 5] rfl trivial rfl (ar 5 (ar 4 (ar 3 (ar 2 (ar 1 (ar 0 bo rfl qM rfl (bm (by rfl) tv tv tv)) rfl qM rfl (aq (by rfl) (tI (ah _)) (tI (au _)) (Tm.clo tn (tc tp tn)) tr tr tr)) rfl qM rfl (tc (tI (aP _)) tn)) rfl qM rfl (TmL.of_eq qL (ac _))) rfl qM rfl (TmL.of_eq qL (ac _))) rfl qM rfl (TmL.of_eq qL (ac _))) (tA 9 (tA 6 aG tp) tp); all_goals exact qN)⟩
   ·
    rintro _ rfl; clear hi3; unfold pD; refine aj ?_; refine aa [6,9] fun tz U u => ?_; (try simp only [go_sem]); refine qU u ?_; clear u U; refine aN (b := (d5.1.err != 0)) rfl (fun h11 => ?_) (fun h11 => ?_)
    ·
     have h0 := cT h0 h11; refine aj ?_; refine d8 [6,9] (fun _ => rfl) fun tz => ?_; refine ct fun U u all hall => ?_; refine cu ?_; (try simp only [List.toList_toArray, List.map_cons, List.map_nil, List.size_toArray, List.length_cons, List.length_nil, Nat.zero_add]); (try simp only [Nat.reduceAdd]); (iterate 3 ((try simp only [go_sem, -Nat.reduceAdd]); try simp only [Nat.reduceAdd])); refine And.intro ?_ (u _ _ (Wk.refl _ _ _) ?_)
     ·
      subst hall; clear u U; exact qP
     ·
      clear u U hall all; refine bB ?_; obtain rfl := ak h0; refine aH ?_; refine ax Fc qR ?_; refine Res.mk [] [none, none, none] rfl (cY (cY (cY cX))) (Tm.tup (tc (Tm.agg (bm (by rfl) tT tT tT)) (tc tv tn)))
    ·
     have h0 := cF h0 h11; refine aO ?_; refine aa [6,9] fun tz U u => ?_; (try simp only [go_sem]); refine qU u ?_; clear u U; refine aL ?_; obtain rfl := ak h0; refine aH ?_; refine ax Fc qR ?_; refine Res.mk [] [some 3, some 4, some 5] rfl (fo qM rfl (TmL.of_eq qL (ac _)) (fo qM rfl (TmL.of_eq qL (ac _)) (fo qM rfl (TmL.of_eq qL (ac _)) cX))) (Tm.tup (tc (Tm.agg (bm (by rfl) tr tr tr)) (tc tv tn))); (all_goals exact qN)


theorem qn (a0 : SessionPlan) (a1 : Int) (a2 : (List Bool)) {r : (SessionResult × Int)} (h0 : gF a0 a1 a2 = some r) : SndP K 10 [(.agg (am a0)), (vi a1), (xA a2)] (.tup [(.agg (dO r.1)), (vi r.2)]) :=
 lC.pure (rM (w9 a0 a1 a2 h0) (aF.tup (RenML.cons (aF.agg (p5 _ (aF.ref 0 0 _ _) (aF.ref 1 0 _ _) (aF.ref 2 0 _ _))) (RenML.cons rv RenML.nil))) (bq (ac _) (bq (ac _) (bq (ac _) cH))) (af (aw.agg (cn _)) (af cv (af (kZ _) aA)))) (aw.tup (af (aw.agg (gd _)) (af cv aA))) (af (aw.agg (cn _)) (af cv (af (kZ _) aA))) qV
theorem mS {r : SessionPlan} (h0 : gE = some r) : SndP K 9 [] (.agg (am r)) := by
 refine SndP.of_walkW hC (aw.agg (cn _)) aA (show K.P.funcs[9]? = some Try.f9 from Try.func9) rfl rfl (by decide +kernel) (qB2 rfl) ?_; unfold gE at h0; refine aa [] fun tz U u => ?_; (try simp only [go_sem]); refine qU u ?_; clear u U; refine aa [0] fun tz U u => ?_; (try simp only [go_sem]); refine qU u ?_; clear u U; refine aL ?_; obtain rfl := ak h0; refine aH ?_; refine ax rs9 qR ?_; exact qF
def ig (d24 : Unit) : AS :=
 { objs := (fun _ => .dead), next := 0, tmps := (fun _ => .unk) }

def iz (a0 : (List Int)) (a1 : (List Int)) (d26 : Int) : AS :=
 { objs := (fun _ => .dead), next := 0, tmps := (upd (upd (upd (fun _ => .unk) 0 (.imm (List.map vi a0) a0.length)) 1 (.imm (List.map vi a1) a1.length)) 5 (vi d26)) }

theorem c5 (a0 : (List Int)) (a1 : (List Int)) {r : Bool} (h0 : bT a0 a1 = some r) : SndP K 22 [(lE a0), (lE a1)] (vb r) := by
 refine SndP.of_walkW hC cv (af (dh _) (af (dh _) aA)) (show K.P.funcs[22]? = some Try.f22 from Try.func22) rfl rfl (by decide +kernel) (qB2 rfl) ?_; unfold bT at h0; refine aa [0,1] fun tz U u => ?_; (try simp only [go_sem]); refine qU u ?_; clear u U; refine aj ?_; refine aa [0,1] fun tz U u => ?_; (try simp only [go_sem]); refine qU u ?_; clear u U; refine aN (b := ((a0.length : Int) != (a1.length : Int))) rfl (fun h1 => ?_) (fun h1 => ?_)
 ·
  have h0 := cT h0 h1; refine aj ?_; refine aa [] fun tz U u => ?_; (try simp only [go_sem]); refine qU u ?_; clear u U; refine bB ?_; obtain rfl := ak h0; refine aH ?_; refine ax Hq (rfl) ?_; exact qF
 ·
  have h0 := cF h0 h1; refine aO ?_; refine aj ?_; refine aa [0,1] fun tz U u => ?_; (try simp only [go_sem]); refine qU u ?_; clear u U; obtain ⟨o25, hi2, h0⟩ := bnd h0; refine c7 (fun d24 : Unit => o25 = Ex.go d24) (fun d24 : Unit => ig d24) ?_ ?_
  ·
   refine bp ?_; refine cz (fun n (d26 : Int) => bX a0 a1 n d26 = some o25) (fun d26 : Int => iz a0 a1 d26) big 0 (Wk.canonD [] [] [] rfl trivial rfl bo (tA 5 (tA 1 (tA 0 aG (tI (ac _))) (tI (ac _))) tv)) hi2 ?_; clear hi2; rintro n d26 hl4; rcases n with _ | n3
   ·
    (rw [bX] at hl4; cases hl4)
   ·
    rw [bX] at hl4; unfold iz; refine aj ?_; refine aa [0,1,5] fun tz U u => ?_; (try simp only [go_sem]); refine qU u ?_; clear u U; refine aN (b := (decide (d26 < (a0.length : Int)))) rfl (fun h5 => ?_) (fun h5 => ?_)
    ·
     have hl4 := cT hl4 h5; refine aO ?_; refine cd ?_; refine aa [0,1,5] fun tz U u => ?_; obtain ⟨x27, bx27, hl4⟩ := bnd hl4; obtain ⟨fx27_0, fx27_1, fx27_2, fx27_3⟩ := co bx27; obtain ⟨x28, bx28, hl4⟩ := bnd hl4; obtain ⟨fx28_0, fx28_1, fx28_2, fx28_3⟩ := co bx28; (try simp only [go_sem, fx27_0, fx27_1, fx27_2, fx28_0, fx28_1, fx28_2]); refine qU u ?_; clear u U; refine bC (b := (x27 != x28)) rfl (fun h6 => ?_) (fun h6 => ?_)
     ·
      have hl4 := cT hl4 h6; refine aa [] fun tz U u => ?_; (try simp only [go_sem, fx27_0, fx27_1, fx27_2, fx28_0, fx28_1, fx28_2]); refine qU u ?_; clear u U; refine aL ?_; refine iN ?_; refine jk ?_; refine z7 ?_; refine iN ?_; refine jk ?_; obtain rfl := ak hl4; obtain rfl := Ex.k_ret h0; refine aH ?_; refine ax Hq (rfl) ?_; exact qF
     ·
      have hl4 := cF hl4 h6; refine cS ?_; refine gO ?_; refine dM ?_; refine br [0,1,5] fun tz U u => ?_; (try simp only [go_sem, fx27_0, fx27_1, fx27_2, fx28_0, fx28_1, fx28_2]); refine u _ ?_; clear u U; refine iL ?_; exact ⟨n3, IntKind.wrap .i64 (d26 + 1), rfl, hl4, (Wk.canonD [] [] [] rfl trivial rfl bo (tA 5 (tA 1 (tA 0 aG (tI (ac _))) (tI (ac _))) tv))⟩
    ·
     have hl4 := cF hl4 h5; refine cx ?_; refine j9 ?_; refine js ?_; refine fC ?_; obtain rfl := ak hl4; exact ⟨_, rfl, (Wk.canonD [] [] [] rfl trivial rfl bo aG)⟩
  ·
   rintro d24 rfl; have h0 := Ex.k_go h0; clear hi2; unfold ig; refine aa [] fun tz U u => ?_; (try simp only [go_sem]); refine qU u ?_; clear u U; refine aL ?_; obtain rfl := ak h0; refine aH ?_; refine ax Hq (rfl) ?_; exact qF
def jZ (x23 : (SessionResult × Int)) (a1 : (List Int)) (a2 : (List Int)) (a3 : (List Int)) : AS :=
 { objs := (upd (fun _ => .dead) 0 (.live (az x23.1 (.imm (List.map vi x23.1.Delivered) x23.1.Delivered.length) (.imm (List.map vi x23.1.Acked) x23.1.Acked.length) (.imm (List.map vi x23.1.Dropped) x23.1.Dropped.length)))), next := 1, tmps := (upd (upd (upd (upd (upd (fun _ => .unk) 1 (.imm (List.map vi a1) a1.length)) 2 (.imm (List.map vi a2) a2.length)) 3 (.imm (List.map vi a3) a3.length)) 10 (.ptr 0 0)) 11 (vi x23.2)) }

theorem g8 (a0 : (List Bool)) (a1 : (List Int)) (a2 : (List Int)) (a3 : (List Int)) {r : (Int × Bool)} (h0 : eY a0 a1 a2 a3 = some r) : SndP K 21 [(xA a0), (lE a1), (lE a2), (lE a3)] (.tup [(vi r.1), (vb r.2)]) := by
 refine SndP.of_walkW hC (aw.tup (af cv (af cv aA))) (af (kZ _) (af (dh _) (af (dh _) (af (dh _) aA)))) (show K.P.funcs[21]? = some Try.f21 from Try.func21) rfl rfl (by decide +kernel) (qB2 rfl) ?_; unfold eY at h0; refine aa [0,1,2,3] fun tz U u => ?_; (try simp only [go_sem]); refine qU u ?_; clear u U; refine aa [0,1,2,3] fun tz U u => ?_; obtain ⟨x22, bx22, h0⟩ := bnd h0; (try simp only [go_sem]); (refine aQ (mS  bx22) ?_; try dsimp only); (try refine ap ?_); obtain ⟨x23, bx23, h0⟩ := bnd h0; (try simp only [go_sem]); (refine aQ (qn x22 3 a0 bx23) ?_; try dsimp only); (try refine ap ?_); (try simp only [go_sem]); refine u _ (jZ x23 a1 a2 a3) (Wk.canonD [] [] [some 8] rfl trivial rfl (ar 0 bo rfl qM rfl (bm (by rfl) (tI (ac _)) (tI (ac _)) (tI (ac _)))) (tA 11 (tA 10 (tA 3 (tA 2 (tA 1 aG (tI (ac _))) (tI (ac _))) (tI (ac _))) tp) tv)) ?_; clear u U; unfold jZ; refine aa [1,2,3,10,11] fun tz U u => ?_; refine bf 5 qS qS (by rfl) fun V v => ?_; refine ap ?_; (try simp only [go_sem]); refine v _ ?_; clear v V; obtain ⟨x25, hvh1, h0⟩ := bnd h0; refine bu 5 [(2, (.imm (List.map vi a2) a2.length)), (3, (.imm (List.map vi a3) a3.length)), (10, (.ptr 0 0)), (19, (vi x23.1.Rounds)), (27, (vb x25))] qS qS (by rfl) (fun V v => ?_) fun tz => ?_
 ·
  refine ap ?_; rcases bE (x23.2 == 0) with h1 | h1
  ·
   have hvh1 := cT hvh1 h1; obtain ⟨x24, bx24, hvh1⟩ := bnd hvh1; (try simp only [go_sem, h1]); (refine aQ (c5 x23.1.Delivered a1 bx24) ?_; try dsimp only); (try refine ap ?_); (try simp only [go_sem, h1]); obtain rfl := ak hvh1; exact v _ ⟨rfl, rfl, rfl, rfl, rfl, (qB h1), trivial⟩
  ·
   have hvh1 := cF hvh1 h1; (try simp only [go_sem, h1]); obtain rfl := ak hvh1; exact v _ ⟨rfl, rfl, rfl, rfl, rfl, (qB h1), trivial⟩
 ·
  refine ap ?_; refine bf 1 qS qS (by rfl) fun V v => ?_; refine ap ?_; (try simp only [go_sem]); refine v _ ?_; clear v V; obtain ⟨x27, hvh2, h0⟩ := bnd h0; refine bu 5 [(3, (.imm (List.map vi a3) a3.length)), (10, (.ptr 0 0)), (19, (vi x23.1.Rounds)), (33, (vb x27))] qS qS (by rfl) (fun V v => ?_) fun tz => ?_
  ·
   refine ap ?_; rcases bE x25 with h2 | h2
   ·
    have hvh2 := cT hvh2 h2; obtain ⟨x26, bx26, hvh2⟩ := bnd hvh2; (try simp only [go_sem, h2]); (refine aQ (c5 x23.1.Acked a2 bx26) ?_; try dsimp only); (try refine ap ?_); (try simp only [go_sem, h2]); obtain rfl := ak hvh2; exact v _ ⟨rfl, rfl, rfl, rfl, (qB h2), trivial⟩
   ·
    have hvh2 := cF hvh2 h2; (try simp only [go_sem, h2]); obtain rfl := ak hvh2; exact v _ ⟨rfl, rfl, rfl, rfl, (qB h2), trivial⟩
  ·
   refine ap ?_; refine bf 1 qS qS (by rfl) fun V v => ?_; refine ap ?_; (try simp only [go_sem]); refine v _ ?_; clear v V; obtain ⟨x29, hvh3, h0⟩ := bnd h0; refine bu 5 [(19, (vi x23.1.Rounds)), (39, (vb x29))] qS qS (by rfl) (fun V v => ?_) fun tz => ?_
   ·
    refine ap ?_; rcases bE x27 with h3 | h3
    ·
     have hvh3 := cT hvh3 h3; obtain ⟨x28, bx28, hvh3⟩ := bnd hvh3; (try simp only [go_sem, h3]); (refine aQ (c5 x23.1.Dropped a3 bx28) ?_; try dsimp only); (try refine ap ?_); (try simp only [go_sem, h3]); obtain rfl := ak hvh3; exact v _ ⟨rfl, rfl, (qB h3), trivial⟩
    ·
     have hvh3 := cF hvh3 h3; (try simp only [go_sem, h3]); obtain rfl := ak hvh3; exact v _ ⟨rfl, rfl, (qB h3), trivial⟩
   ·
    refine ap ?_; (try simp only [go_sem]); refine qU u ?_; clear u U; refine aL ?_; obtain rfl := ak h0; refine aH ?_; refine ax L0 (rfl) ?_; exact qF
def jx (x22 : (Int × Bool)) (x23 : (Int × Bool)) : AS :=
 { objs := (fun _ => .dead), next := 0, tmps := (upd (upd (upd (upd (fun _ => .unk) 1 (vi x22.1)) 2 (vb x22.2)) 3 (vi x23.1)) 4 (vb x23.2)) }

def ju (x22 : (Int × Bool)) (x23 : (Int × Bool)) (x24 : (Int × Bool)) : AS :=
 { objs := (fun _ => .dead), next := 0, tmps := (upd (upd (upd (upd (upd (fun _ => .unk) 1 (vi x22.1)) 2 (vb x22.2)) 3 (vi x23.1)) 4 (vb x23.2)) 6 (vb x24.2)) }

theorem o8 {r : Bool} (h0 : fM = some r) : SndP K 12 [] (vb r) := by
 refine SndP.of_walkW hC cv aA (show K.P.funcs[12]? = some Try.f12 from Try.func12) rfl rfl (by decide +kernel) (qB2 rfl) ?_; unfold fM at h0; refine aa [] fun tz U u => ?_; (try simp only [go_sem]); refine qU u ?_; clear u U; refine aa [] fun tz U u => ?_; obtain ⟨x22, bx22, h0⟩ := bnd h0; (try simp only [go_sem]); (refine lN (by first | (simp only [go_sem, fz] <;> rfl) | (simp only [go_sem, fz, List.length_set, eO, gG, cond_true, cond_false] <;> rfl)) (g8 [] [0, 1, 2] [0, 1, 2] [] bx22) (rJ (by rfl)) ?_; try dsimp only); (try refine ap ?_); (try simp only [go_sem]); refine qU u ?_; clear u U; refine aa [1,2] fun tz U u => ?_; obtain ⟨x23, bx23, h0⟩ := bnd h0; (try simp only [go_sem]); (refine lN (by first | (simp only [go_sem, fz] <;> rfl) | (simp only [go_sem, fz, List.length_set, eO, gG, cond_true, cond_false] <;> rfl)) (g8 [true] [0, 1, 2] [1, 0, 2] [] bx23) (rJ (by rfl)) ?_; try dsimp only); (try refine ap ?_); (try simp only [go_sem]); refine u _ (jx x22 x23) (Wk.canonD [] [] [] rfl trivial rfl bo (tA 4 (tA 3 (tA 2 (tA 1 aG tv) tv) tv) tv)) ?_; clear u U; unfold jx; refine aa [1,2,3,4] fun tz U u => ?_; obtain ⟨x24, bx24, h0⟩ := bnd h0; (try simp only [go_sem]); (refine lN (by first | (simp only [go_sem, fz] <;> rfl) | (simp only [go_sem, fz, List.length_set, eO, gG, cond_true, cond_false] <;> rfl)) (g8 [true, false, false, true] [1, 2] [1, 2] [0] bx24) (rJ (by rfl)) ?_; try dsimp only); (try refine ap ?_); (try simp only [go_sem]); refine u _ (ju x22 x23 x24) (Wk.canonD [] [] [] rfl trivial rfl bo (tA 6 (tA 4 (tA 3 (tA 2 (tA 1 aG tv) tv) tv) tv) tv)) ?_; clear u U; unfold ju; refine aa [1,2,3,4,6] fun tz U u => ?_; refine bf 2 qS qS (by rfl) fun V v => ?_; refine ap ?_; (try simp only [go_sem]); refine v _ ?_; clear v V; refine bu 3 [(3, (vi x23.1)), (4, (vb x23.2)), (6, (vb x24.2)), (32, (vb (x22.2 && (x22.1 == 2))))] qS qS (by rfl) (fun V v => ?_) fun tz => ?_
 ·
  refine ap ?_; rcases bE x22.2 with h1 | h1
  ·
   (try simp only [go_sem, h1]); exact v _ ⟨(by first | rfl | (simp only [h1]; done)), rfl, rfl, rfl, (qB h1), trivial⟩
  ·
   (try simp only [go_sem, h1]); exact v _ ⟨(by first | rfl | (simp only [h1]; done)), rfl, rfl, rfl, (qB h1), trivial⟩
 ·
  refine ap ?_; refine bf 1 qS qS (by rfl) fun V v => ?_; refine ap ?_; (try simp only [go_sem]); refine v _ ?_; clear v V; refine bu 2 [(3, (vi x23.1)), (6, (vb x24.2)), (35, (vb ((x22.2 && (x22.1 == 2)) && x23.2)))] qS qS (by rfl) (fun V v => ?_) fun tz => ?_
  ·
   refine ap ?_; rcases bE (x22.2 && (x22.1 == 2)) with h2 | h2
   ·
    (have h2_0 : (x22.2) = true := by simp only [Bool.and_eq_true] at h2; exact h2.1); (have h2_1 : (x22.1 == 2) = true := by simp only [Bool.and_eq_true] at h2; exact h2.2); (try simp only [go_sem, h2, h2_0, h2_1]); exact v _ ⟨rfl, rfl, rfl, (qB h2), trivial⟩
   ·
    (try simp only [go_sem, h2]); exact v _ ⟨rfl, rfl, rfl, (qB h2), trivial⟩
  ·
   refine ap ?_; refine bf 1 qS qS (by rfl) fun V v => ?_; refine ap ?_; (try simp only [go_sem]); refine v _ ?_; clear v V; refine bu 3 [(6, (vb x24.2)), (39, (vb (((x22.2 && (x22.1 == 2)) && x23.2) && (x23.1 == 3))))] qS qS (by rfl) (fun V v => ?_) fun tz => ?_
   ·
    refine ap ?_; rcases bE ((x22.2 && (x22.1 == 2)) && x23.2) with h3 | h3
    ·
     (have h3_0 : (x22.2) = true := by simp only [Bool.and_eq_true] at h3; exact h3.1.1); (have h3_1 : (x22.1 == 2) = true := by simp only [Bool.and_eq_true] at h3; exact h3.1.2); (have h3_2 : (x23.2) = true := by simp only [Bool.and_eq_true] at h3; exact h3.2); (try simp only [go_sem, h3, h3_0, h3_1, h3_2]); exact v _ ⟨rfl, rfl, (qB h3), trivial⟩
    ·
     (try simp only [go_sem, h3]); exact v _ ⟨rfl, rfl, (qB h3), trivial⟩
   ·
    refine ap ?_; refine bf 1 qS qS (by rfl) fun V v => ?_; refine ap ?_; (try simp only [go_sem]); refine v _ ?_; clear v V; refine bu 2 [(42, (vb ((((x22.2 && (x22.1 == 2)) && x23.2) && (x23.1 == 3)) && x24.2)))] qS qS (by rfl) (fun V v => ?_) fun tz => ?_
    ·
     refine ap ?_; rcases bE (((x22.2 && (x22.1 == 2)) && x23.2) && (x23.1 == 3)) with h4 | h4
     ·
      (have h4_0 : (x22.2) = true := by simp only [Bool.and_eq_true] at h4; exact h4.1.1.1); (have h4_1 : (x22.1 == 2) = true := by simp only [Bool.and_eq_true] at h4; exact h4.1.1.2); (have h4_2 : (x23.2) = true := by simp only [Bool.and_eq_true] at h4; exact h4.1.2); (have h4_3 : (x23.1 == 3) = true := by simp only [Bool.and_eq_true] at h4; exact h4.2); (try simp only [go_sem, h4, h4_0, h4_1, h4_2, h4_3]); exact v _ ⟨rfl, (qB h4), trivial⟩
     ·
      (try simp only [go_sem, h4]); exact v _ ⟨rfl, (qB h4), trivial⟩
    ·
     refine ap ?_; (try simp only [go_sem]); refine qU u ?_; clear u U; refine aL ?_; obtain rfl := ak h0; refine aH ?_; refine ax MX (rfl) ?_; exact qF
theorem p9 (a0 : SessionResult) (a1 : SessionResult) {r : Bool} (h0 : fb a0 a1 = some r) : SndP K 13 [(.agg (dO a0)), (.agg (dO a1))] (vb r) := by
 refine SndP.of_walkW hC cv (af (aw.agg (gd _)) (af (aw.agg (gd _)) aA)) (show K.P.funcs[13]? = some Try.f13 from Try.func13) rfl rfl (by decide +kernel) (qB2 rfl) ?_; unfold fb at h0; refine aa [0,1] fun tz U u => ?_; (try simp only [go_sem]); refine qU u ?_; clear u U; refine aa [2,3] fun tz U u => ?_; refine bf 6 qS qS (by rfl) fun V v => ?_; refine ap ?_; (try simp only [go_sem]); refine v _ ?_; clear v V; obtain ⟨x27, hvh1, h0⟩ := bnd h0; refine bu 6 [(2, (.ptr 0 0)), (3, (.ptr 1 0)), (16, (vb x27))] qS qS (by rfl) (fun V v => ?_) fun tz => ?_
 ·
  refine ap ?_; rcases bE (a0.Rounds == a1.Rounds) with h1 | h1
  ·
   have hvh1 := cT hvh1 h1; obtain ⟨x26, bx26, hvh1⟩ := bnd hvh1; (try simp only [go_sem, h1]); (refine aQ (c5 a0.Delivered a1.Delivered bx26) ?_; try dsimp only); (try refine ap ?_); (try simp only [go_sem, h1]); obtain rfl := ak hvh1; exact v _ ⟨rfl, rfl, rfl, (qB h1), trivial⟩
  ·
   have hvh1 := cF hvh1 h1; (try simp only [go_sem, h1]); obtain rfl := ak hvh1; exact v _ ⟨rfl, rfl, rfl, (qB h1), trivial⟩
 ·
  refine ap ?_; refine bf 1 qS qS (by rfl) fun V v => ?_; refine ap ?_; (try simp only [go_sem]); refine v _ ?_; clear v V; obtain ⟨x29, hvh2, h0⟩ := bnd h0; refine bu 6 [(2, (.ptr 0 0)), (3, (.ptr 1 0)), (23, (vb x29))] qS qS (by rfl) (fun V v => ?_) fun tz => ?_
  ·
   refine ap ?_; rcases bE x27 with h2 | h2
   ·
    have hvh2 := cT hvh2 h2; obtain ⟨x28, bx28, hvh2⟩ := bnd hvh2; (try simp only [go_sem, h2]); (refine aQ (c5 a0.Acked a1.Acked bx28) ?_; try dsimp only); (try refine ap ?_); (try simp only [go_sem, h2]); obtain rfl := ak hvh2; exact v _ ⟨rfl, rfl, rfl, (qB h2), trivial⟩
   ·
    have hvh2 := cF hvh2 h2; (try simp only [go_sem, h2]); obtain rfl := ak hvh2; exact v _ ⟨rfl, rfl, rfl, (qB h2), trivial⟩
  ·
   refine ap ?_; refine bf 1 qS qS (by rfl) fun V v => ?_; refine ap ?_; (try simp only [go_sem]); refine v _ ?_; clear v V; obtain ⟨x31, hvh3, h0⟩ := bnd h0; refine bu 6 [(30, (vb x31))] qS qS (by rfl) (fun V v => ?_) fun tz => ?_
   ·
    refine ap ?_; rcases bE x29 with h3 | h3
    ·
     have hvh3 := cT hvh3 h3; obtain ⟨x30, bx30, hvh3⟩ := bnd hvh3; (try simp only [go_sem, h3]); (refine aQ (c5 a0.Dropped a1.Dropped bx30) ?_; try dsimp only); (try refine ap ?_); (try simp only [go_sem, h3]); obtain rfl := ak hvh3; exact v _ ⟨rfl, (qB h3), trivial⟩
    ·
     have hvh3 := cF hvh3 h3; (try simp only [go_sem, h3]); obtain rfl := ak hvh3; exact v _ ⟨rfl, (qB h3), trivial⟩
   ·
    refine ap ?_; (try simp only [go_sem]); refine qU u ?_; clear u U; refine aL ?_; obtain rfl := ak h0; refine aH ?_; refine ax MW (rfl) ?_; exact qF
def kw (d32 : Int) : AS :=
 { objs := (fun _ => .dead), next := 0, tmps := (upd (fun _ => .unk) 5 (vi d32)) }

def kz (a0 : (List Int)) (a1 : Int) (d33 : (Int × Int)) : AS :=
 { objs := (fun _ => .dead), next := 0, tmps := (upd (upd (upd (upd (fun _ => .unk) 0 (.imm (List.map vi a0) a0.length)) 1 (vi a1)) 5 (vi d33.1)) 6 (vi d33.2)) }

theorem lp (a0 : (List Int)) (a1 : Int) {r : Int} (h0 : d9 a0 a1 = some r) : SndP K 14 [(lE a0), (vi a1)] (vi r) := by
 refine SndP.of_walkW hC cv (af (dh _) (af cv aA)) (show K.P.funcs[14]? = some Try.f14 from Try.func14) rfl rfl (by decide +kernel) (qB2 rfl) ?_; unfold d9 at h0; refine aa [0,1] fun tz U u => ?_; (try simp only [go_sem]); refine qU u ?_; clear u U; refine aa [0,1] fun tz U u => ?_; (try simp only [go_sem]); refine qU u ?_; clear u U; refine aj ?_; refine aa [0,1,5] fun tz U u => ?_; (try simp only [go_sem]); refine qU u ?_; clear u U; obtain ⟨d32, hi1, h0⟩ := bnd h0; refine c7 (fun z => d32 = z) (fun d32 : Int => kw d32) ?_ ?_
 ·
  refine bp ?_; refine cz (fun n (d33 : (Int × Int)) => cE a0 a1 n d33 = some d32) (fun d33 : (Int × Int) => kz a0 a1 d33) big (0, 0) (Wk.canonD [] [] [] rfl trivial rfl bo (tA 6 (tA 5 (tA 1 (tA 0 aG (tI (ac _))) tv) tv) tv)) hi1 ?_; clear hi1; rintro n d33 hl3; rcases n with _ | n2
  ·
   (rw [cE] at hl3; cases hl3)
  ·
   rw [cE] at hl3; unfold kz; refine aj ?_; refine aa [0,1,5,6] fun tz U u => ?_; (try simp only [go_sem]); refine qU u ?_; clear u U; refine aN (b := (decide (d33.2 < (a0.length : Int)))) rfl (fun h4 => ?_) (fun h4 => ?_)
   ·
    have hl3 := cT hl3 h4; refine aO ?_; refine cd ?_; refine aa [0,1,5,6] fun tz U u => ?_; obtain ⟨x34, bx34, hl3⟩ := bnd hl3; obtain ⟨fx34_0, fx34_1, fx34_2, fx34_3⟩ := co bx34; (try simp only [go_sem, fx34_0, fx34_1, fx34_2]); refine qU u ?_; clear u U; refine bC (b := (x34 == a1)) rfl (fun h5 => ?_) (fun h5 => ?_)
    ·
     have hl3 := cT hl3 h5; refine br [0,1,5,6] fun tz U u => ?_; (try simp only [go_sem, fx34_0, fx34_1, fx34_2]); refine u _ ?_; clear u U; refine gO ?_; refine dM ?_; refine br [0,1,5,6] fun tz U u => ?_; (try simp only [go_sem, fx34_0, fx34_1, fx34_2]); refine u _ ?_; clear u U; refine iL ?_; exact ⟨n2, (IntKind.wrap .i64 (d33.1 + 1), IntKind.wrap .i64 (d33.2 + 1)), rfl, hl3, (Wk.canonD [] [] [] rfl trivial rfl bo (tA 6 (tA 5 (tA 1 (tA 0 aG (tI (ac _))) tv) tv) tv))⟩
    ·
     have hl3 := cF hl3 h5; refine cS ?_; refine gO ?_; refine dM ?_; refine br [0,1,5,6] fun tz U u => ?_; (try simp only [go_sem, fx34_0, fx34_1, fx34_2]); refine u _ ?_; clear u U; refine iL ?_; exact ⟨n2, (d33.1, IntKind.wrap .i64 (d33.2 + 1)), rfl, hl3, (Wk.canonD [] [] [] rfl trivial rfl bo (tA 6 (tA 5 (tA 1 (tA 0 aG (tI (ac _))) tv) tv) tv))⟩
   ·
    have hl3 := cF hl3 h4; refine cx ?_; refine j9 ?_; refine js ?_; refine fC ?_; obtain rfl := ak hl3; exact ⟨_, rfl, (Wk.canonD [] [] [] rfl trivial rfl bo (tA 5 aG tv))⟩
 ·
  rintro _ rfl; clear hi1; unfold kw; refine aa [5] fun tz U u => ?_; (try simp only [go_sem]); refine qU u ?_; clear u U; refine aL ?_; obtain rfl := ak h0; refine aH ?_; refine ax LC (rfl) ?_; exact qF
def gn (x21 : (SessionResult × Int)) (a1 : Int) (x20 : Bool) : AS :=
 { objs := (upd (fun _ => .dead) 0 (.live (az x21.1 (.imm (List.map vi x21.1.Delivered) x21.1.Delivered.length) (.imm (List.map vi x21.1.Acked) x21.1.Acked.length) (.imm (List.map vi x21.1.Dropped) x21.1.Dropped.length)))), next := 1, tmps := (upd (upd (upd (upd (fun _ => .unk) 1 (vi a1)) 7 (vb x20)) 8 (.ptr 0 0)) 9 (vi x21.2)) }

def gl (x21 : (SessionResult × Int)) (a1 : Int) (x20 : Bool) (d24 : Unit) : AS :=
 { objs := (upd (fun _ => .dead) 0 (.live (az x21.1 (.imm (List.map vi x21.1.Delivered) x21.1.Delivered.length) (.imm (List.map vi x21.1.Acked) x21.1.Acked.length) (.imm (List.map vi x21.1.Dropped) x21.1.Dropped.length)))), next := 1, tmps := (upd (upd (upd (fun _ => .unk) 1 (vi a1)) 7 (vb x20)) 8 (.ptr 0 0)) }

def gu (x21 : (SessionResult × Int)) (a1 : Int) (x20 : Bool) (d26 : Int) : AS :=
 { objs := (upd (fun _ => .dead) 0 (.live (az x21.1 (.imm (List.map vi x21.1.Delivered) x21.1.Delivered.length) (.imm (List.map vi x21.1.Acked) x21.1.Acked.length) (.imm (List.map vi x21.1.Dropped) x21.1.Dropped.length)))), next := 1, tmps := (upd (upd (upd (upd (fun _ => .unk) 1 (vi a1)) 7 (vb x20)) 8 (.ptr 0 0)) 10 (vi d26)) }

def gk (x20 : Bool) (d31 : Unit) : AS :=
 { objs := (fun _ => .dead), next := 0, tmps := (upd (fun _ => .unk) 7 (vb x20)) }

def gp (x21 : (SessionResult × Int)) (a1 : Int) (x20 : Bool) (d33 : Int) : AS :=
 { objs := (upd (fun _ => .dead) 0 (.live (az x21.1 (.imm (List.map vi x21.1.Delivered) x21.1.Delivered.length) (.imm (List.map vi x21.1.Acked) x21.1.Acked.length) (.imm (List.map vi x21.1.Dropped) x21.1.Dropped.length)))), next := 1, tmps := (upd (upd (upd (upd (fun _ => .unk) 1 (vi a1)) 7 (vb x20)) 8 (.ptr 0 0)) 12 (vi d33)) }

theorem la (a0 : SessionPlan) (a1 : Int) (a2 : (List Bool)) {r : Bool} (h0 : ea a0 a1 a2 = some r) : SndP K 4 [(.agg (am a0)), (vi a1), (xA a2)] (vb r) := by
 refine SndP.of_walkW hC cv (af (aw.agg (cn _)) (af cv (af (kZ _) aA))) (show K.P.funcs[4]? = some Try.f4 from Try.func4) rfl rfl (by decide +kernel) (qB2 rfl) ?_; unfold ea at h0; refine aa [0,1,2] fun tz U u => ?_; (try simp only [go_sem]); refine qU u ?_; clear u U; refine aa [1,2,3] fun tz U u => ?_; obtain ⟨x20, bx20, h0⟩ := bnd h0; (try simp only [go_sem]); (refine aQ (o8  bx20) ?_; try dsimp only); (try refine ap ?_); (try simp only [go_sem]); refine qU u ?_; clear u U; refine aj ?_; refine aa [1,2,3,7] fun tz U u => ?_; refine bf 4 qS qS (by rfl) fun V v => ?_; refine ap ?_; (try simp only [go_sem]); refine v _ ?_; clear v V; refine bu 3 [(1, (vi a1)), (2, (.imm (List.map vb a2) a2.length)), (3, (.ptr 0 0)), (7, (vb x20)), (20, (vb ((decide (5000 < (a2.length : Int))) || (!x20))))] qS qS (by rfl) (fun V v => ?_) fun tz => ?_
 ·
  refine ap ?_; rcases bE (decide (5000 < (a2.length : Int))) with h1 | h1
  ·
   (try simp only [go_sem, h1]); exact v _ ⟨rfl, rfl, rfl, rfl, rfl, (qB h1), trivial⟩
  ·
   (try simp only [go_sem, h1]); exact v _ ⟨rfl, rfl, rfl, rfl, rfl, (qB h1), trivial⟩
 ·
  refine ap ?_; (try simp only [go_sem]); refine qU u ?_; clear u U; refine aN (b := ((decide (5000 < (a2.length : Int))) || (!x20))) rfl (fun h2 => ?_) (fun h2 => ?_)
  ·
   have h0 := cT h0 h2; refine aj ?_; refine aa [7] fun tz U u => ?_; (try simp only [go_sem]); refine qU u ?_; clear u U; refine bB ?_; obtain rfl := ak h0; refine aH ?_; refine ax rs4 (rfl) ?_; exact qF
  ·
   have h0 := cF h0 h2; refine aO ?_; refine aa [1,2,3,7] fun tz U u => ?_; obtain ⟨x21, bx21, h0⟩ := bnd h0; (try simp only [go_sem]); (refine aQ (qn a0 a1 a2 bx21) ?_; try dsimp only); (try refine ap ?_); (try simp only [go_sem]); refine u _ (gn x21 a1 x20) (Wk.canonD [] [] [some 18] rfl trivial rfl (ar 0 bo rfl qM rfl (bm (by rfl) (tI (ac _)) (tI (ac _)) (tI (ac _)))) (tA 9 (tA 8 (tA 7 (tA 1 aG tv) tv) tp) tv)) ?_; clear u U; unfold gn; refine aj ?_; refine aa [1,7,8,9] fun tz U u => ?_; (try simp only [go_sem]); refine qU u ?_; clear u U; refine aN (b := (x21.2 != 0)) rfl (fun h3 => ?_) (fun h3 => ?_)
   ·
    have h0 := cT h0 h3; refine aj ?_; refine aa [7,8] fun tz U u => ?_; refine bf 2 qS qS (by rfl) fun V v => ?_; refine ap ?_; (try simp only [go_sem]); refine v _ ?_; clear v V; obtain ⟨x23, hvh4, h0⟩ := bnd h0; refine bu 4 [(36, (vb x23))] qS qS (by rfl) (fun V v => ?_) fun tz => ?_
    ·
     refine ap ?_; rcases bE x20 with h4 | h4
     ·
      have hvh4 := cT hvh4 h4; obtain ⟨x22, bx22, hvh4⟩ := bnd hvh4; (try simp only [go_sem, h4]); (refine uH (by first | (simp only [go_sem, fz, kS, cond_true, cond_false] <;> rfl)) (p9 x21.1 SessionResult.z bx22) ?_; try dsimp only); (try refine ap ?_); (try simp only [go_sem, h4]); obtain rfl := ak hvh4; exact v _ ⟨rfl, (qB h4), trivial⟩
     ·
      have hvh4 := cF hvh4 h4; (try simp only [go_sem, h4]); obtain rfl := ak hvh4; exact v _ ⟨rfl, (qB h4), trivial⟩
    ·
     refine ap ?_; (try simp only [go_sem]); refine qU u ?_; clear u U; refine bB ?_; obtain rfl := ak h0; refine aH ?_; refine ax rs4 (rfl) ?_; exact qF
   ·
    have h0 := cF h0 h3; refine aO ?_; refine aj ?_; refine aa [1,7,8] fun tz U u => ?_; (try simp only [go_sem]); refine qU u ?_; clear u U; obtain ⟨o25, hi5, h0⟩ := bnd h0; refine c7 (fun d24 : Unit => o25 = Ex.go d24) (fun d24 : Unit => gl x21 a1 x20 d24) ?_ ?_
    ·
     refine bp ?_; refine cz (fun n (d26 : Int) => bN x21 a1 n d26 = some o25) (fun d26 : Int => gu x21 a1 x20 d26) big 0 (Wk.canonD [] [] [some 0] rfl trivial rfl (ar 0 bo rfl qM rfl (bm (by rfl) (tI (ac _)) (tI (ac _)) (tI (ac _)))) (tA 10 (tA 8 (tA 7 (tA 1 aG tv) tv) tp) tv)) hi5 ?_; clear hi5; rintro n d26 hl7; rcases n with _ | n6
     ·
      (rw [bN] at hl7; cases hl7)
     ·
      rw [bN] at hl7; unfold gu; refine aj ?_; refine aa [1,7,8,10] fun tz U u => ?_; (try simp only [go_sem]); refine qU u ?_; clear u U; refine aN (b := (decide (d26 < (x21.1.Delivered.length : Int)))) rfl (fun h8 => ?_) (fun h8 => ?_)
      ·
       have hl7 := cT hl7 h8; refine aO ?_; refine cd ?_; refine aa [1,7,8,10] fun tz U u => ?_; obtain ⟨x27, bx27, hl7⟩ := bnd hl7; obtain ⟨fx27_0, fx27_1, fx27_2, fx27_3⟩ := co bx27; (try simp only [go_sem, fx27_0, fx27_1, fx27_2]); refine qU u ?_; clear u U; refine aa [1,7,8,10,11] fun tz U u => ?_; refine bf 3 qS qS (by rfl) fun V v => ?_; refine ap ?_; (try simp only [go_sem, fx27_0, fx27_1, fx27_2]); refine v _ ?_; clear v V; refine bu 4 [(1, (vi a1)), (7, (vb x20)), (8, (.ptr 0 0)), (10, (vi d26)), (11, (vi x27)), (55, (vb ((decide (x27 < 0)) || (decide (a1 ≤ x27)))))] qS qS (by rfl) (fun V v => ?_) fun tz => ?_
       ·
        refine ap ?_; rcases bE (decide (x27 < 0)) with h9 | h9
        ·
         (try simp only [go_sem, fx27_0, fx27_1, fx27_2, h9]); exact v _ ⟨rfl, rfl, rfl, rfl, rfl, rfl, (qB h9), trivial⟩
        ·
         (try simp only [go_sem, fx27_0, fx27_1, fx27_2, h9]); exact v _ ⟨rfl, rfl, rfl, rfl, rfl, rfl, (qB h9), trivial⟩
       ·
        refine ap ?_; refine bf 1 qS qS (by rfl) fun V v => ?_; refine ap ?_; (try simp only [go_sem, fx27_0, fx27_1, fx27_2]); refine v _ ?_; clear v V; obtain ⟨x30, hvh10, hl7⟩ := bnd hl7; refine bu 13 [(1, (vi a1)), (7, (vb x20)), (8, (.ptr 0 0)), (10, (vi d26)), (69, (vb x30))] qS qS (by rfl) (fun V v => ?_) fun tz => ?_
        ·
         refine ap ?_; rcases bE ((decide (x27 < 0)) || (decide (a1 ≤ x27))) with h10 | h10
         ·
          have hvh10 := cT hvh10 h10; (try simp only [go_sem, fx27_0, fx27_1, fx27_2, h10]); obtain rfl := ak hvh10; exact v _ ⟨rfl, rfl, rfl, rfl, rfl, (qB h10), trivial⟩
         ·
          have hvh10 := cF hvh10 h10; refine bf 3 qS qS (by rfl) fun V v => ?_; refine ap ?_; (try simp only [go_sem, fx27_0, fx27_1, fx27_2, h10]); refine v _ ?_; clear v V; obtain ⟨x29, hvh11, hvh10⟩ := bnd hvh10; refine bu 9 [(1, (vi a1)), (7, (vb x20)), (8, (.ptr 0 0)), (10, (vi d26)), (56, (vb false)), (68, (vb x29))] qS qS (by rfl) (fun V v => ?_) fun tz => ?_
          ·
           refine ap ?_; rcases bE (decide (0 < d26)) with h11 | h11
           ·
            have hvh11 := cT hvh11 h11; obtain ⟨x28, bx28, hvh11⟩ := bnd hvh11; obtain ⟨fx28_0, fx28_1, fx28_2, fx28_3⟩ := co bx28; (try simp only [go_sem, fx27_0, fx27_1, fx27_2, h10, h11, fx28_0, fx28_1, fx28_2]); obtain rfl := ak hvh11; exact v _ ⟨rfl, rfl, rfl, rfl, rfl, rfl, (qB h11), trivial⟩
           ·
            have hvh11 := cF hvh11 h11; (try simp only [go_sem, fx27_0, fx27_1, fx27_2, h10, h11]); obtain rfl := ak hvh11; exact v _ ⟨rfl, rfl, rfl, rfl, rfl, rfl, (qB h11), trivial⟩
          ·
           refine ap ?_; (try simp only [go_sem, fx27_0, fx27_1, fx27_2, h10]); obtain rfl := ak hvh10; exact v _ ⟨rfl, rfl, rfl, rfl, rfl, (qB h10), trivial⟩
        ·
         refine ap ?_; (try simp only [go_sem, fx27_0, fx27_1, fx27_2]); refine qU u ?_; clear u U; refine bC (b := x30) rfl (fun h12 => ?_) (fun h12 => ?_)
         ·
          have hl7 := cT hl7 h12; refine aa [] fun tz U u => ?_; (try simp only [go_sem, fx27_0, fx27_1, fx27_2]); refine qU u ?_; clear u U; refine aL ?_; refine iN ?_; refine jk ?_; refine z7 ?_; refine iN ?_; refine jk ?_; obtain rfl := ak hl7; obtain rfl := Ex.k_ret h0; refine aH ?_; refine ax rs4 (rfl) ?_; exact qF
         ·
          have hl7 := cF hl7 h12; refine cS ?_; refine gO ?_; refine dM ?_; refine br [1,7,8,10] fun tz U u => ?_; (try simp only [go_sem, fx27_0, fx27_1, fx27_2]); refine u _ ?_; clear u U; refine iL ?_; exact ⟨n6, IntKind.wrap .i64 (d26 + 1), rfl, hl7, (Wk.canonD [] [] [some 0] rfl trivial rfl (ar 0 bo rfl qM rfl (bm (by rfl) (tI (ac _)) (tI (ac _)) (tI (ac _)))) (tA 10 (tA 8 (tA 7 (tA 1 aG tv) tv) tp) tv))⟩
      ·
       have hl7 := cF hl7 h8; refine cx ?_; refine j9 ?_; refine js ?_; refine fC ?_; obtain rfl := ak hl7; exact ⟨_, rfl, (Wk.canonD [] [] [some 0] rfl trivial rfl (ar 0 bo rfl qM rfl (bm (by rfl) (tI (ac _)) (tI (ac _)) (tI (ac _)))) (tA 8 (tA 7 (tA 1 aG tv) tv) tp))⟩
    ·
     rintro d24 rfl; have h0 := Ex.k_go h0; clear hi5; unfold gl; refine aj ?_; refine aa [1,7,8] fun tz U u => ?_; (try simp only [go_sem]); refine qU u ?_; clear u U; obtain ⟨o32, hi13, h0⟩ := bnd h0; refine c7 (fun d31 : Unit => o32 = Ex.go d31) (fun d31 : Unit => gk x20 d31) ?_ ?_
     ·
      refine bp ?_; refine cz (fun n (d33 : Int) => bO a1 x21 n d33 = some o32) (fun d33 : Int => gp x21 a1 x20 d33) big 0 (Wk.canonD [] [] [some 0] rfl trivial rfl (ar 0 bo rfl qM rfl (bm (by rfl) (tI (ac _)) (tI (ac _)) (tI (ac _)))) (tA 12 (tA 8 (tA 7 (tA 1 aG tv) tv) tp) tv)) hi13 ?_; clear hi13; rintro n d33 hl15; rcases n with _ | n14
      ·
       (rw [bO] at hl15; cases hl15)
      ·
       rw [bO] at hl15; unfold gp; refine aj ?_; refine aa [1,7,8,12] fun tz U u => ?_; (try simp only [go_sem]); refine qU u ?_; clear u U; refine aN (b := (decide (d33 < a1))) rfl (fun h16 => ?_) (fun h16 => ?_)
       ·
        have hl15 := cT hl15 h16; refine aO ?_; refine cd ?_; refine aa [1,7,8,12] fun tz U u => ?_; obtain ⟨x34, bx34, hl15⟩ := bnd hl15; (try simp only [go_sem]); (refine aQ (lp x21.1.Delivered d33 bx34) ?_; try dsimp only); (try refine ap ?_); refine bf 2 qS qS (by rfl) fun V v => ?_; refine ap ?_; (try simp only [go_sem]); refine v _ ?_; clear v V; obtain ⟨x36, hvh17, hl15⟩ := bnd hl15; refine bu 6 [(1, (vi a1)), (7, (vb x20)), (8, (.ptr 0 0)), (12, (vi d33)), (86, (vb x36))] qS qS (by rfl) (fun V v => ?_) fun tz => ?_
        ·
         refine ap ?_; rcases bE (x34 != 1) with h17 | h17
         ·
          have hvh17 := cT hvh17 h17; obtain ⟨x35, bx35, hvh17⟩ := bnd hvh17; (try simp only [go_sem, h17]); (refine aQ (lp x21.1.Dropped d33 bx35) ?_; try dsimp only); (try refine ap ?_); (try simp only [go_sem, h17]); obtain rfl := ak hvh17; exact v _ ⟨rfl, rfl, rfl, rfl, rfl, (qB h17), trivial⟩
         ·
          have hvh17 := cF hvh17 h17; (try simp only [go_sem, h17]); obtain rfl := ak hvh17; exact v _ ⟨rfl, rfl, rfl, rfl, rfl, (qB h17), trivial⟩
        ·
         refine ap ?_; (try simp only [go_sem]); refine qU u ?_; clear u U; refine bC (b := x36) rfl (fun h18 => ?_) (fun h18 => ?_)
         ·
          have hl15 := cT hl15 h18; refine aa [] fun tz U u => ?_; (try simp only [go_sem]); refine qU u ?_; clear u U; refine aL ?_; refine iN ?_; refine jk ?_; refine z7 ?_; refine iN ?_; refine jk ?_; obtain rfl := ak hl15; obtain rfl := Ex.k_ret h0; refine aH ?_; refine ax rs4 (rfl) ?_; exact qF
         ·
          have hl15 := cF hl15 h18; refine cS ?_; refine gO ?_; refine dM ?_; refine br [1,7,8,12] fun tz U u => ?_; (try simp only [go_sem]); refine u _ ?_; clear u U; refine iL ?_; exact ⟨n14, IntKind.wrap .i64 (d33 + 1), rfl, hl15, (Wk.canonD [] [] [some 0] rfl trivial rfl (ar 0 bo rfl qM rfl (bm (by rfl) (tI (ac _)) (tI (ac _)) (tI (ac _)))) (tA 12 (tA 8 (tA 7 (tA 1 aG tv) tv) tp) tv))⟩
       ·
        have hl15 := cF hl15 h16; refine cx ?_; refine j9 ?_; refine js ?_; refine fC ?_; obtain rfl := ak hl15; exact ⟨_, rfl, (Wk.canonD [] [] [] rfl trivial rfl bo (tA 7 aG tv))⟩
     ·
      rintro d31 rfl; have h0 := Ex.k_go h0; clear hi13; unfold gk; refine aa [7] fun tz U u => ?_; (try simp only [go_sem]); refine qU u ?_; clear u U; refine aL ?_; obtain rfl := ak h0; refine aH ?_; refine ax rs4 (rfl) ?_; exact qF
end Go.AX.Z.TN
