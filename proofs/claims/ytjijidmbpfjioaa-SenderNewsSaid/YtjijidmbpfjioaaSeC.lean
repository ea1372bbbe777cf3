/- A part of the proof: SeC. -/
import Derived.Test.YtjijidmbpfjioaaSeB
namespace Go.AX.SE
open Go.Proofs
attribute [local irreducible] awp xw xop xcall gsp ob xd xdop xcallD seqQ loopQ blkQ endQ
set_option linter.unusedSimpArgs false
set_option maxHeartbeats 4000000

theorem dist_nn (a b : Int) : 0 ≤ dist a b ∧ dist a b < 4096 := by unfold dist; omega

theorem r_valid (s : Sd) (l : List El) (hl : l.length ≤ 1048576) (h0 : 0 ≤ s.phase) : SndP K 11 [.agg (sd s (us l))] (vb (check s l)) := by
  refine SndP.of_walk hC ?_ (show K.P.funcs[11]? = some Try.f11 from Try.func11) rfl rfl (by decide +kernel) (Nat.le_of_ble_eq_true rfl) fun n => ?_
  · exact Clean.v _
  · have hle : l.isEmpty = decide ((l.length : Int) = 0) := by cases l <;> simp; omega
    repeat' (first
      | (refine hKK _ ?_; clear hKK KK)
      | (refine awp_assoc ?_)
      | ((fail_if_success (refine awp_st (id := 1) ?_)); refine awp_nr [[0], [1], [], [1], [], [1], [1], [1,4], [1,4], [1,4], [1,4,5], [1,4,5,6], [], [1,4,5,6], [1,3,4,5,6], [], [1,4,5,6], [], []] (fun tz => by simp only [nth_z, nth_s, keep_n, keep_c, upd_get, init_arg, arg_z, arg_s, Nat.reduceEqDiff, reduceIte, if_true, if_false]; rfl) fun tz => ?_; refine awp_reg fun KK hKK => ?_; refine xw_id ?_; simp (config := { maxSteps := 4000000 }) only [go_sem, Nat.reduceEqDiff, Nat.reduceAdd, Nat.reduceMul, Nat.reduceSub, Nat.reduceLT, Nat.reduceLeDiff, reduceIte, Int.reduceToNat, Int.reduceBEq, Int.reduceBNe, Int.reduceLT, Int.reduceLE, Int.reduceGT, Int.reduceGE, Int.reduceEq, Int.reduceNe, Int.reduceAdd, Int.reduceSub, Int.reduceMul, Int.reduceNeg, Nat.reduceBEq])
      | ((fail_if_success (refine awp_st1 (id := 1) ?_)); refine awp_nr1 [[0], [1], [], [1], [], [1], [1], [1,4], [1,4], [1,4], [1,4,5], [1,4,5,6], [], [1,4,5,6], [1,3,4,5,6], [], [1,4,5,6], [], []] (fun tz => by simp only [nth_z, nth_s, keep_n, keep_c, upd_get, init_arg, arg_z, arg_s, Nat.reduceEqDiff, reduceIte, if_true, if_false]; rfl) fun tz => ?_; refine awp_reg1 fun KK hKK => ?_; refine xw_id ?_; simp (config := { maxSteps := 4000000 }) only [go_sem, Nat.reduceEqDiff, Nat.reduceAdd, Nat.reduceMul, Nat.reduceSub, Nat.reduceLT, Nat.reduceLeDiff, reduceIte, Int.reduceToNat, Int.reduceBEq, Int.reduceBNe, Int.reduceLT, Int.reduceLE, Int.reduceGT, Int.reduceGE, Int.reduceEq, Int.reduceNe, Int.reduceAdd, Int.reduceSub, Int.reduceMul, Int.reduceNeg, Nat.reduceBEq])
      | (refine gsp_split (fun h => ?_) (fun h => ?_) <;> simp (config := { maxSteps := 4000000 }) only [go_sem, Nat.reduceEqDiff, Nat.reduceAdd, Nat.reduceMul, Nat.reduceSub, Nat.reduceLT, Nat.reduceLeDiff, reduceIte, Int.reduceToNat, Int.reduceBEq, Int.reduceBNe, Int.reduceLT, Int.reduceLE, Int.reduceGT, Int.reduceGE, Int.reduceEq, Int.reduceNe, Int.reduceAdd, Int.reduceSub, Int.reduceMul, Int.reduceNeg, Nat.reduceBEq, h])
      | (refine xcall_p (r_first _ _) ?_; try dsimp only)
      | (refine xcall_n (r_first _ _) ?_; try dsimp only)
      | (refine xcall_p (r_in _ _ _) ?_; try dsimp only)
      | (refine xcall_n (r_in _ _ _) ?_; try dsimp only)
      | (refine xcall_p (r_number _) ?_; try dsimp only)
      | (refine xcall_n (r_number _) ?_; try dsimp only)
      | (refine xcall_p (r_dist _ _) ?_; try dsimp only)
      | (refine xcall_n (r_dist _ _) ?_; try dsimp only)
      | (refine xw_id ?_; simp (config := { maxSteps := 4000000 }) only [go_sem, Nat.reduceEqDiff, Nat.reduceAdd, Nat.reduceMul, Nat.reduceSub, Nat.reduceLT, Nat.reduceLeDiff, reduceIte, Int.reduceToNat, Int.reduceBEq, Int.reduceBNe, Int.reduceLT, Int.reduceLE, Int.reduceGT, Int.reduceGE, Int.reduceEq, Int.reduceNe, Int.reduceAdd, Int.reduceSub, Int.reduceMul, Int.reduceNeg, Nat.reduceBEq])
      | (refine awp_cond (by simp only [ev, cst, upd_get, Nat.reduceEqDiff, reduceIte, if_true, if_false]; rfl) (fun h => ?_) (fun h => ?_) <;> first | (cases h; done) | skip)
      | (refine awp_cond1 (by simp only [ev, cst, upd_get, Nat.reduceEqDiff, reduceIte, if_true, if_false]; rfl) (fun h => ?_) (fun h => ?_) <;> first | (cases h; done) | skip)
      | (refine awp_skip ?_)
      | (refine awp_skip1 ?_)
      | (refine awp_ret ?_)
      | (refine awp_ret1 ?_)
      | (refine awp_exit ?_)
      | (refine awp_exit1 ?_)
      | (refine awp_block ?_)
      | (refine awp_block1 ?_)
      | (refine sq_n ?_)
      | (refine sq_e ?_)
      | (refine sq_r ?_)
      | (refine lq_n ?_)
      | (refine lq_e ?_)
      | (refine lq_r ?_)
      | (refine bq_n ?_)
      | (refine bq_r ?_)
      | (refine bq_e ?_)
      | (refine bq_o rfl ?_)
      | (refine end_ret rs11 (by simp only [go_sem, resV, resAll, resOf, packR, Nat.reduceEqDiff, reduceIte]; rfl) ?_)
      | (refine end_normal rs11 (by simp only [go_sem, resV, resAll, resOf, packR, Nat.reduceEqDiff, reduceIte]; rfl) ?_))
    refine awp_j3 (fun t => t.objs = upd (fun _ => .dead) n (.live (sd s (us l))) ∧ n ≤ t.next ∧ (t.tmps 1 = .ptr n 0) ∧ ((plain s && sizeOk s && (s.phase == 2 || (l.isEmpty && !s.bar))) = true)) ?_ ?_
    · repeat' (first
          | (refine hKK _ ?_; clear hKK KK)
          | (refine awp_assoc ?_)
          | (refine awp_nr [[0], [1], [], [1], [], [1], [1], [1,4], [1,4], [1,4], [1,4,5], [1,4,5,6], [], [1,4,5,6], [1,3,4,5,6], [], [1,4,5,6], [], []] (fun tz => by simp only [nth_z, nth_s, keep_n, keep_c, upd_get, init_arg, arg_z, arg_s, Nat.reduceEqDiff, reduceIte, if_true, if_false]; rfl) fun tz => ?_; refine awp_reg fun KK hKK => ?_; refine xw_id ?_; simp (config := { maxSteps := 4000000 }) only [go_sem, Nat.reduceEqDiff, Nat.reduceAdd, Nat.reduceMul, Nat.reduceSub, Nat.reduceLT, Nat.reduceLeDiff, reduceIte, Int.reduceToNat, Int.reduceBEq, Int.reduceBNe, Int.reduceLT, Int.reduceLE, Int.reduceGT, Int.reduceGE, Int.reduceEq, Int.reduceNe, Int.reduceAdd, Int.reduceSub, Int.reduceMul, Int.reduceNeg, Nat.reduceBEq])
          | (refine awp_nr1 [[0], [1], [], [1], [], [1], [1], [1,4], [1,4], [1,4], [1,4,5], [1,4,5,6], [], [1,4,5,6], [1,3,4,5,6], [], [1,4,5,6], [], []] (fun tz => by simp only [nth_z, nth_s, keep_n, keep_c, upd_get, init_arg, arg_z, arg_s, Nat.reduceEqDiff, reduceIte, if_true, if_false]; rfl) fun tz => ?_; refine awp_reg1 fun KK hKK => ?_; refine xw_id ?_; simp (config := { maxSteps := 4000000 }) only [go_sem, Nat.reduceEqDiff, Nat.reduceAdd, Nat.reduceMul, Nat.reduceSub, Nat.reduceLT, Nat.reduceLeDiff, reduceIte, Int.reduceToNat, Int.reduceBEq, Int.reduceBNe, Int.reduceLT, Int.reduceLE, Int.reduceGT, Int.reduceGE, Int.reduceEq, Int.reduceNe, Int.reduceAdd, Int.reduceSub, Int.reduceMul, Int.reduceNeg, Nat.reduceBEq])
          | (refine gsp_split (fun h => ?_) (fun h => ?_) <;> simp (config := { maxSteps := 4000000 }) only [go_sem, Nat.reduceEqDiff, Nat.reduceAdd, Nat.reduceMul, Nat.reduceSub, Nat.reduceLT, Nat.reduceLeDiff, reduceIte, Int.reduceToNat, Int.reduceBEq, Int.reduceBNe, Int.reduceLT, Int.reduceLE, Int.reduceGT, Int.reduceGE, Int.reduceEq, Int.reduceNe, Int.reduceAdd, Int.reduceSub, Int.reduceMul, Int.reduceNeg, Nat.reduceBEq, h])
          | (refine xcall_p (r_first _ _) ?_; try dsimp only)
          | (refine xcall_n (r_first _ _) ?_; try dsimp only)
          | (refine xcall_p (r_in _ _ _) ?_; try dsimp only)
          | (refine xcall_n (r_in _ _ _) ?_; try dsimp only)
          | (refine xcall_p (r_number _) ?_; try dsimp only)
          | (refine xcall_n (r_number _) ?_; try dsimp only)
          | (refine xcall_p (r_dist _ _) ?_; try dsimp only)
          | (refine xcall_n (r_dist _ _) ?_; try dsimp only)
          | (refine xw_id ?_; simp (config := { maxSteps := 4000000 }) only [go_sem, Nat.reduceEqDiff, Nat.reduceAdd, Nat.reduceMul, Nat.reduceSub, Nat.reduceLT, Nat.reduceLeDiff, reduceIte, Int.reduceToNat, Int.reduceBEq, Int.reduceBNe, Int.reduceLT, Int.reduceLE, Int.reduceGT, Int.reduceGE, Int.reduceEq, Int.reduceNe, Int.reduceAdd, Int.reduceSub, Int.reduceMul, Int.reduceNeg, Nat.reduceBEq])
          | (refine awp_cond (by simp only [ev, cst, upd_get, Nat.reduceEqDiff, reduceIte, if_true, if_false]; rfl) (fun h => ?_) (fun h => ?_) <;> first | (cases h; done) | skip)
          | (refine awp_cond1 (by simp only [ev, cst, upd_get, Nat.reduceEqDiff, reduceIte, if_true, if_false]; rfl) (fun h => ?_) (fun h => ?_) <;> first | (cases h; done) | skip)
          | (refine awp_skip ?_)
          | (refine awp_skip1 ?_)
          | (refine awp_ret ?_)
          | (refine awp_ret1 ?_)
          | (refine awp_exit ?_)
          | (refine awp_exit1 ?_)
          | (refine awp_block ?_)
          | (refine awp_block1 ?_)
          | (refine sq_n ?_)
          | (refine sq_e ?_)
          | (refine sq_r ?_)
          | (refine lq_n ?_)
          | (refine lq_e ?_)
          | (refine lq_r ?_)
          | (refine bq_n ?_)
          | (refine bq_r ?_)
          | (refine bq_e ?_)
          | (refine bq_o rfl ?_)
          | (refine end_ret rs11 (by simp only [go_sem, resV, resAll, resOf, packR, Nat.reduceEqDiff, reduceIte]; rfl) ?_)
          | (refine end_normal rs11 (by simp only [go_sem, resV, resAll, resOf, packR, Nat.reduceEqDiff, reduceIte]; rfl) ?_))
      all_goals (first
        | (refine ⟨rfl, by simp only; omega, rfl, ?_⟩; grind [plain, sizeOk, num, within])
        | (simp (config := { maxSteps := 4000000 }) only [go_sem, Nat.reduceEqDiff, Nat.reduceAdd, Nat.reduceMul, Nat.reduceSub, Nat.reduceLT, Nat.reduceLeDiff, reduceIte, Int.reduceToNat, Int.reduceBEq, Int.reduceBNe, Int.reduceLT, Int.reduceLE, Int.reduceGT, Int.reduceGE, Int.reduceEq, Int.reduceNe, Int.reduceAdd, Int.reduceSub, Int.reduceMul, Int.reduceNeg, Nat.reduceBEq, fz, nilS, packR, List.take_nil]; grind [check, plain, sizeOk, num, within]))
    rintro ⟨⟨objsa, nxa⟩, tma⟩ ⟨hOa, hNa, j1a, c2a⟩
    dsimp only at hOa hNa j1a c2a
    subst hOa
    repeat' (first
      | (refine hKK _ ?_; clear hKK KK)
      | (refine awp_assoc ?_)
      | (refine awp_nr [[0], [1], [], [1], [], [1], [1], [1,4], [1,4], [1,4], [1,4,5], [1,4,5,6], [], [1,4,5,6], [1,3,4,5,6], [], [1,4,5,6], [], []] (fun tz => by simp only [nth_z, nth_s, keep_n, keep_c, upd_get, init_arg, arg_z, arg_s, Nat.reduceEqDiff, reduceIte, if_true, if_false, j1a]; rfl) fun tz => ?_; refine awp_reg fun KK hKK => ?_; refine xw_id ?_; simp (config := { maxSteps := 4000000 }) only [go_sem, Nat.reduceEqDiff, Nat.reduceAdd, Nat.reduceMul, Nat.reduceSub, Nat.reduceLT, Nat.reduceLeDiff, reduceIte, Int.reduceToNat, Int.reduceBEq, Int.reduceBNe, Int.reduceLT, Int.reduceLE, Int.reduceGT, Int.reduceGE, Int.reduceEq, Int.reduceNe, Int.reduceAdd, Int.reduceSub, Int.reduceMul, Int.reduceNeg, Nat.reduceBEq, j1a])
      | (refine awp_nr1 [[0], [1], [], [1], [], [1], [1], [1,4], [1,4], [1,4], [1,4,5], [1,4,5,6], [], [1,4,5,6], [1,3,4,5,6], [], [1,4,5,6], [], []] (fun tz => by simp only [nth_z, nth_s, keep_n, keep_c, upd_get, init_arg, arg_z, arg_s, Nat.reduceEqDiff, reduceIte, if_true, if_false, j1a]; rfl) fun tz => ?_; refine awp_reg1 fun KK hKK => ?_; refine xw_id ?_; simp (config := { maxSteps := 4000000 }) only [go_sem, Nat.reduceEqDiff, Nat.reduceAdd, Nat.reduceMul, Nat.reduceSub, Nat.reduceLT, Nat.reduceLeDiff, reduceIte, Int.reduceToNat, Int.reduceBEq, Int.reduceBNe, Int.reduceLT, Int.reduceLE, Int.reduceGT, Int.reduceGE, Int.reduceEq, Int.reduceNe, Int.reduceAdd, Int.reduceSub, Int.reduceMul, Int.reduceNeg, Nat.reduceBEq, j1a])
      | (refine gsp_split (fun h => ?_) (fun h => ?_) <;> simp (config := { maxSteps := 4000000 }) only [go_sem, Nat.reduceEqDiff, Nat.reduceAdd, Nat.reduceMul, Nat.reduceSub, Nat.reduceLT, Nat.reduceLeDiff, reduceIte, Int.reduceToNat, Int.reduceBEq, Int.reduceBNe, Int.reduceLT, Int.reduceLE, Int.reduceGT, Int.reduceGE, Int.reduceEq, Int.reduceNe, Int.reduceAdd, Int.reduceSub, Int.reduceMul, Int.reduceNeg, Nat.reduceBEq, j1a, h])
      | (refine xcall_p (r_first _ _) ?_; try dsimp only)
      | (refine xcall_n (r_first _ _) ?_; try dsimp only)
      | (refine xcall_p (r_in _ _ _) ?_; try dsimp only)
      | (refine xcall_n (r_in _ _ _) ?_; try dsimp only)
      | (refine xcall_p (r_number _) ?_; try dsimp only)
      | (refine xcall_n (r_number _) ?_; try dsimp only)
      | (refine xcall_p (r_dist _ _) ?_; try dsimp only)
      | (refine xcall_n (r_dist _ _) ?_; try dsimp only)
      | (refine xw_id ?_; simp (config := { maxSteps := 4000000 }) only [go_sem, Nat.reduceEqDiff, Nat.reduceAdd, Nat.reduceMul, Nat.reduceSub, Nat.reduceLT, Nat.reduceLeDiff, reduceIte, Int.reduceToNat, Int.reduceBEq, Int.reduceBNe, Int.reduceLT, Int.reduceLE, Int.reduceGT, Int.reduceGE, Int.reduceEq, Int.reduceNe, Int.reduceAdd, Int.reduceSub, Int.reduceMul, Int.reduceNeg, Nat.reduceBEq, j1a])
      | (refine awp_cond (by simp only [ev, cst, upd_get, Nat.reduceEqDiff, reduceIte, if_true, if_false, j1a]; rfl) (fun h => ?_) (fun h => ?_) <;> first | (cases h; done) | skip)
      | (refine awp_cond1 (by simp only [ev, cst, upd_get, Nat.reduceEqDiff, reduceIte, if_true, if_false, j1a]; rfl) (fun h => ?_) (fun h => ?_) <;> first | (cases h; done) | skip)
      | (refine awp_skip ?_)
      | (refine awp_skip1 ?_)
      | (refine awp_ret ?_)
      | (refine awp_ret1 ?_)
      | (refine awp_exit ?_)
      | (refine awp_exit1 ?_)
      | (refine awp_block ?_)
      | (refine awp_block1 ?_)
      | (refine sq_n ?_)
      | (refine sq_e ?_)
      | (refine sq_r ?_)
      | (refine lq_n ?_)
      | (refine lq_e ?_)
      | (refine lq_r ?_)
      | (refine bq_n ?_)
      | (refine bq_r ?_)
      | (refine bq_e ?_)
      | (refine bq_o rfl ?_)
      | (refine end_ret rs11 (by simp only [go_sem, resV, resAll, resOf, packR, Nat.reduceEqDiff, reduceIte, j1a]; rfl) ?_)
      | (refine end_normal rs11 (by simp only [go_sem, resV, resAll, resOf, packR, Nat.reduceEqDiff, reduceIte, j1a]; rfl) ?_))
    refine awp_loopFG1 [1] (fun kb t => ∃ (i : Nat) (last at_ : Int), (i + kb = l.length) ∧ (t.tmps 4 = vi i) ∧ (okFrom s.limit (startOf s l) (dist (startOf s l) s.next) (-1) 0 l = okFrom s.limit (startOf s l) (dist (startOf s l) s.next) last at_ (l.drop i)) ∧ (0 ≤ at_) ∧ ((i = 0 ∧ last = -1 ∧ at_ = 0) ∨ (∃ j p, i = j + 1 ∧ l[j]? = some p ∧ last = dist (startOf s l) p.1.h.seq ∧ at_ = p.1.at_)) ∧ (i = 0 ∨ dist (startOf s l) s.next ≤ s.size)) (l.length) ⟨0, -1, 0, by omega, rfl, rfl, by omega, .inl ⟨rfl, rfl, rfl⟩, .inl rfl⟩ ?_
    rintro kb ⟨⟨objsb, nxb⟩, tmb⟩ ⟨i, last, at_, c1b, h4b, hk, ha, hp, hz⟩ hFb hOb hNb
    dsimp only at c1b h4b hk ha hp hz hFb hOb hNb
    obtain ⟨u1b, _⟩ := hFb; try simp only [upd_get, init_arg, arg_z, arg_s, Nat.reduceEqDiff, reduceIte, if_true, if_false, j1a] at u1b
    have w0b := hOb (n) (by omega); try simp only [upd_get, init_arg, arg_z, arg_s, Nat.reduceEqDiff, reduceIte, if_true, if_false, Nat.reduceEqDiff, Nat.reduceAdd, Nat.reduceMul, Nat.reduceSub, Nat.reduceLT, Nat.reduceLeDiff, reduceIte, Int.reduceToNat, Int.reduceBEq, Int.reduceBNe, Int.reduceLT, Int.reduceLE, Int.reduceGT, Int.reduceGE, Int.reduceEq, Int.reduceNe, Int.reduceAdd, Int.reduceSub, Int.reduceMul, Int.reduceNeg, Nat.reduceBEq, j1a, Nat.left_eq_add, Nat.add_eq_left, Nat.add_left_cancel_iff, upd_get] at w0b
    have x0b : ∀ j, (n = nxb + j) = False := by intro j; simp; omega
    have y0b : (n = nxb) = False := by simp; omega
    by_cases hlt : i < l.length
    · obtain ⟨e, hee, hde⟩ := drop_get hlt
      have fae : (0 ≤ (i : Int)) = True := by simp
      have fbe : ((i : Int) < (l.length : Int)) = True := by simp; omega
      have fce : IntKind.wrap .i64 ((i : Int) + 1) = ((i + 1 : Nat) : Int) := by rw [wrap64 (by omega) (by omega)]; omega
      have fde : ((i : Int)).toNat = i := Int.toNat_natCast _
      have fee : (i * 44 + 44 ≤ (l.flatMap ue).length) = True := by rw [flat_len (sz := 44) (fun _ => rfl)]; simp; omega
      have ffe : List.take 44 (List.drop (i * 44) (l.flatMap ue)) = ue e := flat_sub (sz := 44) (fun _ => rfl) _ _ _ hee
      rw [hde, okFrom] at hk
      have dn := dist_nn (startOf s l) e.1.h.seq
      rcases hp with ⟨hi0, rfl, rfl⟩ | ⟨j, p, hij, hpj, rfl, rfl⟩
      · have g1 : (0 < (i : Int)) = False := by simp; omega
        repeat' (first
              | (refine hKK _ ?_; clear hKK KK)
              | (refine awp_assoc ?_)
              | (refine awp_nr [[0], [1], [], [1], [], [1], [1], [1,4], [1,4], [1,4], [1,4,5], [1,4,5,6], [], [1,4,5,6], [1,3,4,5,6], [], [1,4,5,6], [], []] (fun tz => by simp only [nth_z, nth_s, keep_n, keep_c, upd_get, init_arg, arg_z, arg_s, Nat.reduceEqDiff, reduceIte, if_true, if_false, h4b, u1b, w0b, x0b, y0b, fae, fbe, fce, fde, fee, ffe, g1]; rfl) fun tz => ?_; refine awp_reg fun KK hKK => ?_; refine xw_id ?_; simp (config := { maxSteps := 4000000 }) only [go_sem, Nat.reduceEqDiff, Nat.reduceAdd, Nat.reduceMul, Nat.reduceSub, Nat.reduceLT, Nat.reduceLeDiff, reduceIte, Int.reduceToNat, Int.reduceBEq, Int.reduceBNe, Int.reduceLT, Int.reduceLE, Int.reduceGT, Int.reduceGE, Int.reduceEq, Int.reduceNe, Int.reduceAdd, Int.reduceSub, Int.reduceMul, Int.reduceNeg, Nat.reduceBEq, h4b, u1b, w0b, x0b, y0b, fae, fbe, fce, fde, fee, ffe, g1])
              | (refine awp_nr1 [[0], [1], [], [1], [], [1], [1], [1,4], [1,4], [1,4], [1,4,5], [1,4,5,6], [], [1,4,5,6], [1,3,4,5,6], [], [1,4,5,6], [], []] (fun tz => by simp only [nth_z, nth_s, keep_n, keep_c, upd_get, init_arg, arg_z, arg_s, Nat.reduceEqDiff, reduceIte, if_true, if_false, h4b, u1b, w0b, x0b, y0b, fae, fbe, fce, fde, fee, ffe, g1]; rfl) fun tz => ?_; refine awp_reg1 fun KK hKK => ?_; refine xw_id ?_; simp (config := { maxSteps := 4000000 }) only [go_sem, Nat.reduceEqDiff, Nat.reduceAdd, Nat.reduceMul, Nat.reduceSub, Nat.reduceLT, Nat.reduceLeDiff, reduceIte, Int.reduceToNat, Int.reduceBEq, Int.reduceBNe, Int.reduceLT, Int.reduceLE, Int.reduceGT, Int.reduceGE, Int.reduceEq, Int.reduceNe, Int.reduceAdd, Int.reduceSub, Int.reduceMul, Int.reduceNeg, Nat.reduceBEq, h4b, u1b, w0b, x0b, y0b, fae, fbe, fce, fde, fee, ffe, g1])
              | (refine gsp_split (fun h => ?_) (fun h => ?_) <;> simp (config := { maxSteps := 4000000 }) only [go_sem, Nat.reduceEqDiff, Nat.reduceAdd, Nat.reduceMul, Nat.reduceSub, Nat.reduceLT, Nat.reduceLeDiff, reduceIte, Int.reduceToNat, Int.reduceBEq, Int.reduceBNe, Int.reduceLT, Int.reduceLE, Int.reduceGT, Int.reduceGE, Int.reduceEq, Int.reduceNe, Int.reduceAdd, Int.reduceSub, Int.reduceMul, Int.reduceNeg, Nat.reduceBEq, h4b, u1b, w0b, x0b, y0b, fae, fbe, fce, fde, fee, ffe, g1, h])
              | (refine xcall_p (r_first _ _) ?_; try dsimp only)
              | (refine xcall_n (r_first _ _) ?_; try dsimp only)
              | (refine xcall_p (r_in _ _ _) ?_; try dsimp only)
              | (refine xcall_n (r_in _ _ _) ?_; try dsimp only)
              | (refine xcall_p (r_number _) ?_; try dsimp only)
              | (refine xcall_n (r_number _) ?_; try dsimp only)
              | (refine xcall_p (r_dist _ _) ?_; try dsimp only)
              | (refine xcall_n (r_dist _ _) ?_; try dsimp only)
              | (refine xw_id ?_; simp (config := { maxSteps := 4000000 }) only [go_sem, Nat.reduceEqDiff, Nat.reduceAdd, Nat.reduceMul, Nat.reduceSub, Nat.reduceLT, Nat.reduceLeDiff, reduceIte, Int.reduceToNat, Int.reduceBEq, Int.reduceBNe, Int.reduceLT, Int.reduceLE, Int.reduceGT, Int.reduceGE, Int.reduceEq, Int.reduceNe, Int.reduceAdd, Int.reduceSub, Int.reduceMul, Int.reduceNeg, Nat.reduceBEq, h4b, u1b, w0b, x0b, y0b, fae, fbe, fce, fde, fee, ffe, g1])
              | (refine awp_cond (by simp only [ev, cst, upd_get, Nat.reduceEqDiff, reduceIte, if_true, if_false, h4b, u1b, w0b, x0b, y0b, fae, fbe, fce, fde, fee, ffe, g1]; rfl) (fun h => ?_) (fun h => ?_) <;> first | (cases h; done) | skip)
              | (refine awp_cond1 (by simp only [ev, cst, upd_get, Nat.reduceEqDiff, reduceIte, if_true, if_false, h4b, u1b, w0b, x0b, y0b, fae, fbe, fce, fde, fee, ffe, g1]; rfl) (fun h => ?_) (fun h => ?_) <;> first | (cases h; done) | skip)
              | (refine awp_skip ?_)
              | (refine awp_skip1 ?_)
              | (refine awp_ret ?_)
              | (refine awp_ret1 ?_)
              | (refine awp_exit ?_)
              | (refine awp_exit1 ?_)
              | (refine awp_block ?_)
              | (refine awp_block1 ?_)
              | (refine sq_n ?_)
              | (refine sq_e ?_)
              | (refine sq_r ?_)
              | (refine lq_n ?_)
              | (refine lq_e ?_)
              | (refine lq_r ?_)
              | (refine bq_n ?_)
              | (refine bq_r ?_)
              | (refine bq_e ?_)
              | (refine bq_o rfl ?_)
              | (refine end_ret rs11 (by simp only [go_sem, resV, resAll, resOf, packR, Nat.reduceEqDiff, reduceIte, h4b, u1b, w0b, x0b, y0b, fae, fbe, fce, fde, fee, ffe, g1]; rfl) ?_)
              | (refine end_normal rs11 (by simp only [go_sem, resV, resAll, resOf, packR, Nat.reduceEqDiff, reduceIte, h4b, u1b, w0b, x0b, y0b, fae, fbe, fce, fde, fee, ffe, g1]; rfl) ?_))
        all_goals (first
          | (refine ⟨kb - 1, by omega, ⟨i + 1, dist (startOf s l) e.1.h.seq, e.1.at_, ?_, (by first | rfl | (simp only [upd_get, init_arg, arg_z, arg_s, Nat.reduceEqDiff, reduceIte, if_true, if_false, h4b, u1b, w0b, x0b, y0b]; done)), ?_, ?_, ?_, ?_⟩, by (repeat (first | exact trivial | refine And.intro rfl ?_)), by (try simp only) <;> (repeat (refine FrmO.upd (by omega) ?_)); exact hOb, by (try simp only); omega⟩; all_goals first | omega | grind [okU, within, num] | exact .inr ⟨i, e, rfl, hee, rfl, rfl⟩)
          | (simp (config := { maxSteps := 4000000 }) only [go_sem, Nat.reduceEqDiff, Nat.reduceAdd, Nat.reduceMul, Nat.reduceSub, Nat.reduceLT, Nat.reduceLeDiff, reduceIte, Int.reduceToNat, Int.reduceBEq, Int.reduceBNe, Int.reduceLT, Int.reduceLE, Int.reduceGT, Int.reduceGE, Int.reduceEq, Int.reduceNe, Int.reduceAdd, Int.reduceSub, Int.reduceMul, Int.reduceNeg, Nat.reduceBEq, fz, nilS, packR, List.take_nil]; grind [check, okU, within, num]))
      · have hj : j < l.length := by omega
        obtain ⟨p', hep, hdp⟩ := drop_get hj
        have fap : (0 ≤ (j : Int)) = True := by simp
        have fbp : ((j : Int) < (l.length : Int)) = True := by simp; omega
        have fcp : IntKind.wrap .i64 ((j : Int) + 1) = ((j + 1 : Nat) : Int) := by rw [wrap64 (by omega) (by omega)]; omega
        have fdp : ((j : Int)).toNat = j := Int.toNat_natCast _
        have fep : (j * 44 + 44 ≤ (l.flatMap ue).length) = True := by rw [flat_len (sz := 44) (fun _ => rfl)]; simp; omega
        have ffp : List.take 44 (List.drop (j * 44) (l.flatMap ue)) = ue p' := flat_sub (sz := 44) (fun _ => rfl) _ _ _ hep
        have fg0p : (l.flatMap ue)[j * 44 + 37]? = some (vi p'.1.h.seq) := flat_get (sz := 44) (fun _ => rfl) _ _ _ _ hep (by decide)
        have fg1p : (l.flatMap ue)[j * 44]? = some (vi p'.1.at_) := flat_get0 (sz := 44) (fun _ => rfl) _ _ _ hep (by decide)
        have hpp : p' = p := by rw [hep] at hpj; simpa using hpj
        subst hpp
        have g1 : (0 < (i : Int)) = True := by simp; omega
        have g2 : IntKind.wrap .i64 ((i : Int) - 1) = (j : Int) := by rw [wrap64 (by omega) (by omega)]; omega
        repeat' (first
              | (refine hKK _ ?_; clear hKK KK)
              | (refine awp_assoc ?_)
              | (refine awp_nr [[0], [1], [], [1], [], [1], [1], [1,4], [1,4], [1,4], [1,4,5], [1,4,5,6], [], [1,4,5,6], [1,3,4,5,6], [], [1,4,5,6], [], []] (fun tz => by simp only [nth_z, nth_s, keep_n, keep_c, upd_get, init_arg, arg_z, arg_s, Nat.reduceEqDiff, reduceIte, if_true, if_false, h4b, u1b, w0b, x0b, y0b, fae, fbe, fce, fde, fee, ffe, fap, fbp, fcp, fdp, fep, ffp, fg0p, fg1p, g1, g2]; rfl) fun tz => ?_; refine awp_reg fun KK hKK => ?_; refine xw_id ?_; simp (config := { maxSteps := 4000000 }) only [go_sem, Nat.reduceEqDiff, Nat.reduceAdd, Nat.reduceMul, Nat.reduceSub, Nat.reduceLT, Nat.reduceLeDiff, reduceIte, Int.reduceToNat, Int.reduceBEq, Int.reduceBNe, Int.reduceLT, Int.reduceLE, Int.reduceGT, Int.reduceGE, Int.reduceEq, Int.reduceNe, Int.reduceAdd, Int.reduceSub, Int.reduceMul, Int.reduceNeg, Nat.reduceBEq, h4b, u1b, w0b, x0b, y0b, fae, fbe, fce, fde, fee, ffe, fap, fbp, fcp, fdp, fep, ffp, fg0p, fg1p, g1, g2])
              | (refine awp_nr1 [[0], [1], [], [1], [], [1], [1], [1,4], [1,4], [1,4], [1,4,5], [1,4,5,6], [], [1,4,5,6], [1,3,4,5,6], [], [1,4,5,6], [], []] (fun tz => by simp only [nth_z, nth_s, keep_n, keep_c, upd_get, init_arg, arg_z, arg_s, Nat.reduceEqDiff, reduceIte, if_true, if_false, h4b, u1b, w0b, x0b, y0b, fae, fbe, fce, fde, fee, ffe, fap, fbp, fcp, fdp, fep, ffp, fg0p, fg1p, g1, g2]; rfl) fun tz => ?_; refine awp_reg1 fun KK hKK => ?_; refine xw_id ?_; simp (config := { maxSteps := 4000000 }) only [go_sem, Nat.reduceEqDiff, Nat.reduceAdd, Nat.reduceMul, Nat.reduceSub, Nat.reduceLT, Nat.reduceLeDiff, reduceIte, Int.reduceToNat, Int.reduceBEq, Int.reduceBNe, Int.reduceLT, Int.reduceLE, Int.reduceGT, Int.reduceGE, Int.reduceEq, Int.reduceNe, Int.reduceAdd, Int.reduceSub, Int.reduceMul, Int.reduceNeg, Nat.reduceBEq, h4b, u1b, w0b, x0b, y0b, fae, fbe, fce, fde, fee, ffe, fap, fbp, fcp, fdp, fep, ffp, fg0p, fg1p, g1, g2])
              | (refine gsp_split (fun h => ?_) (fun h => ?_) <;> simp (config := { maxSteps := 4000000 }) only [go_sem, Nat.reduceEqDiff, Nat.reduceAdd, Nat.reduceMul, Nat.reduceSub, Nat.reduceLT, Nat.reduceLeDiff, reduceIte, Int.reduceToNat, Int.reduceBEq, Int.reduceBNe, Int.reduceLT, Int.reduceLE, Int.reduceGT, Int.reduceGE, Int.reduceEq, Int.reduceNe, Int.reduceAdd, Int.reduceSub, Int.reduceMul, Int.reduceNeg, Nat.reduceBEq, h4b, u1b, w0b, x0b, y0b, fae, fbe, fce, fde, fee, ffe, fap, fbp, fcp, fdp, fep, ffp, fg0p, fg1p, g1, g2, h])
              | (refine xcall_p (r_first _ _) ?_; try dsimp only)
              | (refine xcall_n (r_first _ _) ?_; try dsimp only)
              | (refine xcall_p (r_in _ _ _) ?_; try dsimp only)
              | (refine xcall_n (r_in _ _ _) ?_; try dsimp only)
              | (refine xcall_p (r_number _) ?_; try dsimp only)
              | (refine xcall_n (r_number _) ?_; try dsimp only)
              | (refine xcall_p (r_dist _ _) ?_; try dsimp only)
              | (refine xcall_n (r_dist _ _) ?_; try dsimp only)
              | (refine xw_id ?_; simp (config := { maxSteps := 4000000 }) only [go_sem, Nat.reduceEqDiff, Nat.reduceAdd, Nat.reduceMul, Nat.reduceSub, Nat.reduceLT, Nat.reduceLeDiff, reduceIte, Int.reduceToNat, Int.reduceBEq, Int.reduceBNe, Int.reduceLT, Int.reduceLE, Int.reduceGT, Int.reduceGE, Int.reduceEq, Int.reduceNe, Int.reduceAdd, Int.reduceSub, Int.reduceMul, Int.reduceNeg, Nat.reduceBEq, h4b, u1b, w0b, x0b, y0b, fae, fbe, fce, fde, fee, ffe, fap, fbp, fcp, fdp, fep, ffp, fg0p, fg1p, g1, g2])
              | (refine awp_cond (by simp only [ev, cst, upd_get, Nat.reduceEqDiff, reduceIte, if_true, if_false, h4b, u1b, w0b, x0b, y0b, fae, fbe, fce, fde, fee, ffe, fap, fbp, fcp, fdp, fep, ffp, fg0p, fg1p, g1, g2]; rfl) (fun h => ?_) (fun h => ?_) <;> first | (cases h; done) | skip)
              | (refine awp_cond1 (by simp only [ev, cst, upd_get, Nat.reduceEqDiff, reduceIte, if_true, if_false, h4b, u1b, w0b, x0b, y0b, fae, fbe, fce, fde, fee, ffe, fap, fbp, fcp, fdp, fep, ffp, fg0p, fg1p, g1, g2]; rfl) (fun h => ?_) (fun h => ?_) <;> first | (cases h; done) | skip)
              | (refine awp_skip ?_)
              | (refine awp_skip1 ?_)
              | (refine awp_ret ?_)
              | (refine awp_ret1 ?_)
              | (refine awp_exit ?_)
              | (refine awp_exit1 ?_)
              | (refine awp_block ?_)
              | (refine awp_block1 ?_)
              | (refine sq_n ?_)
              | (refine sq_e ?_)
              | (refine sq_r ?_)
              | (refine lq_n ?_)
              | (refine lq_e ?_)
              | (refine lq_r ?_)
              | (refine bq_n ?_)
              | (refine bq_r ?_)
              | (refine bq_e ?_)
              | (refine bq_o rfl ?_)
              | (refine end_ret rs11 (by simp only [go_sem, resV, resAll, resOf, packR, Nat.reduceEqDiff, reduceIte, h4b, u1b, w0b, x0b, y0b, fae, fbe, fce, fde, fee, ffe, fap, fbp, fcp, fdp, fep, ffp, fg0p, fg1p, g1, g2]; rfl) ?_)
              | (refine end_normal rs11 (by simp only [go_sem, resV, resAll, resOf, packR, Nat.reduceEqDiff, reduceIte, h4b, u1b, w0b, x0b, y0b, fae, fbe, fce, fde, fee, ffe, fap, fbp, fcp, fdp, fep, ffp, fg0p, fg1p, g1, g2]; rfl) ?_))
        all_goals (first
          | (refine ⟨kb - 1, by omega, ⟨i + 1, dist (startOf s l) e.1.h.seq, e.1.at_, ?_, (by first | rfl | (simp only [upd_get, init_arg, arg_z, arg_s, Nat.reduceEqDiff, reduceIte, if_true, if_false, h4b, u1b, w0b, x0b, y0b]; done)), ?_, ?_, ?_, ?_⟩, by (repeat (first | exact trivial | refine And.intro rfl ?_)), by (try simp only) <;> (repeat (refine FrmO.upd (by omega) ?_)); exact hOb, by (try simp only); omega⟩; all_goals first | omega | grind [okU, within, num] | exact .inr ⟨i, e, rfl, hee, rfl, rfl⟩)
          | (simp (config := { maxSteps := 4000000 }) only [go_sem, Nat.reduceEqDiff, Nat.reduceAdd, Nat.reduceMul, Nat.reduceSub, Nat.reduceLT, Nat.reduceLeDiff, reduceIte, Int.reduceToNat, Int.reduceBEq, Int.reduceBNe, Int.reduceLT, Int.reduceLE, Int.reduceGT, Int.reduceGE, Int.reduceEq, Int.reduceNe, Int.reduceAdd, Int.reduceSub, Int.reduceMul, Int.reduceNeg, Nat.reduceBEq, fz, nilS, packR, List.take_nil]; grind [check, okU, within, num]))
    · have f1 : ((i : Int) < (l.length : Int)) = False := by simp; omega
      have f2 : l.drop i = [] := List.drop_of_length_le (by omega)
      rw [f2, okFrom] at hk
      repeat' (first
          | (refine hKK _ ?_; clear hKK KK)
          | (refine awp_assoc ?_)
          | (refine awp_nr [[0], [1], [], [1], [], [1], [1], [1,4], [1,4], [1,4], [1,4,5], [1,4,5,6], [], [1,4,5,6], [1,3,4,5,6], [], [1,4,5,6], [], []] (fun tz => by simp only [nth_z, nth_s, keep_n, keep_c, upd_get, init_arg, arg_z, arg_s, Nat.reduceEqDiff, reduceIte, if_true, if_false, h4b, u1b, w0b, x0b, y0b, f1]; rfl) fun tz => ?_; refine awp_reg fun KK hKK => ?_; refine xw_id ?_; simp (config := { maxSteps := 4000000 }) only [go_sem, Nat.reduceEqDiff, Nat.reduceAdd, Nat.reduceMul, Nat.reduceSub, Nat.reduceLT, Nat.reduceLeDiff, reduceIte, Int.reduceToNat, Int.reduceBEq, Int.reduceBNe, Int.reduceLT, Int.reduceLE, Int.reduceGT, Int.reduceGE, Int.reduceEq, Int.reduceNe, Int.reduceAdd, Int.reduceSub, Int.reduceMul, Int.reduceNeg, Nat.reduceBEq, h4b, u1b, w0b, x0b, y0b, f1])
          | (refine awp_nr1 [[0], [1], [], [1], [], [1], [1], [1,4], [1,4], [1,4], [1,4,5], [1,4,5,6], [], [1,4,5,6], [1,3,4,5,6], [], [1,4,5,6], [], []] (fun tz => by simp only [nth_z, nth_s, keep_n, keep_c, upd_get, init_arg, arg_z, arg_s, Nat.reduceEqDiff, reduceIte, if_true, if_false, h4b, u1b, w0b, x0b, y0b, f1]; rfl) fun tz => ?_; refine awp_reg1 fun KK hKK => ?_; refine xw_id ?_; simp (config := { maxSteps := 4000000 }) only [go_sem, Nat.reduceEqDiff, Nat.reduceAdd, Nat.reduceMul, Nat.reduceSub, Nat.reduceLT, Nat.reduceLeDiff, reduceIte, Int.reduceToNat, Int.reduceBEq, Int.reduceBNe, Int.reduceLT, Int.reduceLE, Int.reduceGT, Int.reduceGE, Int.reduceEq, Int.reduceNe, Int.reduceAdd, Int.reduceSub, Int.reduceMul, Int.reduceNeg, Nat.reduceBEq, h4b, u1b, w0b, x0b, y0b, f1])
          | (refine gsp_split (fun h => ?_) (fun h => ?_) <;> simp (config := { maxSteps := 4000000 }) only [go_sem, Nat.reduceEqDiff, Nat.reduceAdd, Nat.reduceMul, Nat.reduceSub, Nat.reduceLT, Nat.reduceLeDiff, reduceIte, Int.reduceToNat, Int.reduceBEq, Int.reduceBNe, Int.reduceLT, Int.reduceLE, Int.reduceGT, Int.reduceGE, Int.reduceEq, Int.reduceNe, Int.reduceAdd, Int.reduceSub, Int.reduceMul, Int.reduceNeg, Nat.reduceBEq, h4b, u1b, w0b, x0b, y0b, f1, h])
          | (refine xcall_p (r_first _ _) ?_; try dsimp only)
          | (refine xcall_n (r_first _ _) ?_; try dsimp only)
          | (refine xcall_p (r_in _ _ _) ?_; try dsimp only)
          | (refine xcall_n (r_in _ _ _) ?_; try dsimp only)
          | (refine xcall_p (r_number _) ?_; try dsimp only)
          | (refine xcall_n (r_number _) ?_; try dsimp only)
          | (refine xcall_p (r_dist _ _) ?_; try dsimp only)
          | (refine xcall_n (r_dist _ _) ?_; try dsimp only)
          | (refine xw_id ?_; simp (config := { maxSteps := 4000000 }) only [go_sem, Nat.reduceEqDiff, Nat.reduceAdd, Nat.reduceMul, Nat.reduceSub, Nat.reduceLT, Nat.reduceLeDiff, reduceIte, Int.reduceToNat, Int.reduceBEq, Int.reduceBNe, Int.reduceLT, Int.reduceLE, Int.reduceGT, Int.reduceGE, Int.reduceEq, Int.reduceNe, Int.reduceAdd, Int.reduceSub, Int.reduceMul, Int.reduceNeg, Nat.reduceBEq, h4b, u1b, w0b, x0b, y0b, f1])
          | (refine awp_cond (by simp only [ev, cst, upd_get, Nat.reduceEqDiff, reduceIte, if_true, if_false, h4b, u1b, w0b, x0b, y0b, f1]; rfl) (fun h => ?_) (fun h => ?_) <;> first | (cases h; done) | skip)
          | (refine awp_cond1 (by simp only [ev, cst, upd_get, Nat.reduceEqDiff, reduceIte, if_true, if_false, h4b, u1b, w0b, x0b, y0b, f1]; rfl) (fun h => ?_) (fun h => ?_) <;> first | (cases h; done) | skip)
          | (refine awp_skip ?_)
          | (refine awp_skip1 ?_)
          | (refine awp_ret ?_)
          | (refine awp_ret1 ?_)
          | (refine awp_exit ?_)
          | (refine awp_exit1 ?_)
          | (refine awp_block ?_)
          | (refine awp_block1 ?_)
          | (refine sq_n ?_)
          | (refine sq_e ?_)
          | (refine sq_r ?_)
          | (refine lq_n ?_)
          | (refine lq_e ?_)
          | (refine lq_r ?_)
          | (refine bq_n ?_)
          | (refine bq_r ?_)
          | (refine bq_e ?_)
          | (refine bq_o rfl ?_)
          | (refine end_ret rs11 (by simp only [go_sem, resV, resAll, resOf, packR, Nat.reduceEqDiff, reduceIte, h4b, u1b, w0b, x0b, y0b, f1]; rfl) ?_)
          | (refine end_normal rs11 (by simp only [go_sem, resV, resAll, resOf, packR, Nat.reduceEqDiff, reduceIte, h4b, u1b, w0b, x0b, y0b, f1]; rfl) ?_))
      all_goals (simp (config := { maxSteps := 4000000 }) only [go_sem, Nat.reduceEqDiff, Nat.reduceAdd, Nat.reduceMul, Nat.reduceSub, Nat.reduceLT, Nat.reduceLeDiff, reduceIte, Int.reduceToNat, Int.reduceBEq, Int.reduceBNe, Int.reduceLT, Int.reduceLE, Int.reduceGT, Int.reduceGE, Int.reduceEq, Int.reduceNe, Int.reduceAdd, Int.reduceSub, Int.reduceMul, Int.reduceNeg, Nat.reduceBEq, fz, nilS, packR, List.take_nil]; refine congrArg vb ?_; cases l with
        | nil => simp only [startOf] at hk ⊢; simp_all [check, startOf, dist, sizeOk]; grind [within]
        | cons e l => have : i ≠ 0 := (by simp at c1b hlt; omega); grind [check])

end Go.AX.SE
