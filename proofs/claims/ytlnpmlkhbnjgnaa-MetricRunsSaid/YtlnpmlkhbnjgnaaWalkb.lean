/- A part of the proof: walks through the functions that the statement reaches. -/
import Derived.Test.YtlnpmlkhbnjgnaaWalka
set_option linter.unusedVariables false
set_option linter.unusedSimpArgs false

/-! (TMW hotspotref38 Cost) -/

set_option linter.unusedSimpArgs false
set_option linter.unusedVariables false
set_option maxHeartbeats 4000000
namespace Go.AX.Z.TM
open Go.AX Go.Proofs
attribute [local irreducible] awp xw xop xcall gsp ob xd xdop xcallD seqQ loopQ blkQ endQ


theorem hotspotref38_Cost_p (a0 : Int) (a1 : Int) {r : (Int × Int)} (h0 : hotspotref38_Cost a0 a1 = some r) : SndP K 13 [(vi a0), (vi a1)] (.tup [(vi r.1), (vi r.2)]) := by
 refine SndP.of_walkW hC (Clean.tup (clean_cons (Clean.v _) (clean_cons (Clean.v _) clean_nil))) (clean_cons (Clean.v _) (clean_cons (Clean.v _) clean_nil)) (show K.P.funcs[13]? = some Try.f13 from Try.func13) rfl rfl (by decide +kernel) (Nat.le_of_ble_eq_true rfl) ?_
 unfold hotspotref38_Cost at h0
 refine awp_nr [0,1] (fun _ => rfl) fun tz => ?_
 refine awp_regW fun KK hKK => ?_
 refine xw_id ?_
 try simp only [go_sem, Nat.reduceEqDiff, reduceIte, Nat.reduceAdd, Nat.reduceMul, Nat.reduceSub, Nat.reduceLT, Nat.reduceLeDiff]
 refine hKK _ _ (Wk.refl _ _ _) ?_; clear hKK KK
 refine awp_assoc ?_
 refine awp_nr [0,1] (fun _ => rfl) fun tz => ?_
 refine awp_regW fun KK hKK => ?_
 refine xw_id ?_
 refine xw_stop 3 (by (try simp only [go_sem]); rfl) (by (try simp only [go_sem]); rfl) (by rfl) fun K1 hK1 => ?_
 refine xw_id ?_
 try simp only [go_sem, Nat.reduceEqDiff, reduceIte, Nat.reduceAdd, Nat.reduceMul, Nat.reduceSub, Nat.reduceLT, Nat.reduceLeDiff]
 refine hK1 _ ?_; clear hK1 K1
 refine xw_cut 3 [(0, (vi a0)), (1, (vi a1)), (15, (vb ((decide (a0 < 0)) || (decide (12 ≤ a0)))))] (by (try simp only [go_sem]); rfl) (by (try simp only [go_sem]); rfl) (by rfl) (fun K1 hK1 => ?_) fun tz => ?_
 ·
  refine xw_id ?_
  rcases Bool.eq_false_or_eq_true (decide (a0 < 0)) with h1 | h1
  ·
   try simp only [go_sem, Nat.reduceEqDiff, reduceIte, Nat.reduceAdd, Nat.reduceMul, Nat.reduceSub, Nat.reduceLT, Nat.reduceLeDiff, h1]
   exact hK1 _ ⟨rfl, rfl, rfl, (by first | rfl | (rw [h1]; rfl) | (simp only [h1, Bool.true_and, Bool.false_and, Bool.true_or, Bool.false_or, cond_true, cond_false]; done)), trivial⟩
  ·
   try simp only [go_sem, Nat.reduceEqDiff, reduceIte, Nat.reduceAdd, Nat.reduceMul, Nat.reduceSub, Nat.reduceLT, Nat.reduceLeDiff, h1]
   exact hK1 _ ⟨rfl, rfl, rfl, (by first | rfl | (rw [h1]; rfl) | (simp only [h1, Bool.true_and, Bool.false_and, Bool.true_or, Bool.false_or, cond_true, cond_false]; done)), trivial⟩
 ·
  refine xw_id ?_
  refine xw_stop 1 (by (try simp only [go_sem]); rfl) (by (try simp only [go_sem]); rfl) (by rfl) fun K1 hK1 => ?_
  refine xw_id ?_
  try simp only [go_sem, Nat.reduceEqDiff, reduceIte, Nat.reduceAdd, Nat.reduceMul, Nat.reduceSub, Nat.reduceLT, Nat.reduceLeDiff]
  refine hK1 _ ?_; clear hK1 K1
  refine xw_cut 3 [(0, (vi a0)), (1, (vi a1)), (19, (vb (((decide (a0 < 0)) || (decide (12 ≤ a0))) || (decide (a1 < 0)))))] (by (try simp only [go_sem]); rfl) (by (try simp only [go_sem]); rfl) (by rfl) (fun K1 hK1 => ?_) fun tz => ?_
  ·
   refine xw_id ?_
   rcases Bool.eq_false_or_eq_true ((decide (a0 < 0)) || (decide (12 ≤ a0))) with h2 | h2
   ·
    try simp only [go_sem, Nat.reduceEqDiff, reduceIte, Nat.reduceAdd, Nat.reduceMul, Nat.reduceSub, Nat.reduceLT, Nat.reduceLeDiff, h2]
    exact hK1 _ ⟨rfl, rfl, rfl, (by first | rfl | (rw [h2]; rfl) | (simp only [h2, Bool.true_and, Bool.false_and, Bool.true_or, Bool.false_or, cond_true, cond_false]; done)), trivial⟩
   ·
    try simp only [go_sem, Nat.reduceEqDiff, reduceIte, Nat.reduceAdd, Nat.reduceMul, Nat.reduceSub, Nat.reduceLT, Nat.reduceLeDiff, h2]
    exact hK1 _ ⟨rfl, rfl, rfl, (by first | rfl | (rw [h2]; rfl) | (simp only [h2, Bool.true_and, Bool.false_and, Bool.true_or, Bool.false_or, cond_true, cond_false]; done)), trivial⟩
  ·
   refine xw_id ?_
   refine xw_stop 1 (by (try simp only [go_sem]); rfl) (by (try simp only [go_sem]); rfl) (by rfl) fun K1 hK1 => ?_
   refine xw_id ?_
   try simp only [go_sem, Nat.reduceEqDiff, reduceIte, Nat.reduceAdd, Nat.reduceMul, Nat.reduceSub, Nat.reduceLT, Nat.reduceLeDiff]
   refine hK1 _ ?_; clear hK1 K1
   refine xw_cut 3 [(0, (vi a0)), (1, (vi a1)), (23, (vb ((((decide (a0 < 0)) || (decide (12 ≤ a0))) || (decide (a1 < 0))) || (decide (1000 < a1)))))] (by (try simp only [go_sem]); rfl) (by (try simp only [go_sem]); rfl) (by rfl) (fun K1 hK1 => ?_) fun tz => ?_
   ·
    refine xw_id ?_
    rcases Bool.eq_false_or_eq_true (((decide (a0 < 0)) || (decide (12 ≤ a0))) || (decide (a1 < 0))) with h3 | h3
    ·
     try simp only [go_sem, Nat.reduceEqDiff, reduceIte, Nat.reduceAdd, Nat.reduceMul, Nat.reduceSub, Nat.reduceLT, Nat.reduceLeDiff, h3]
     exact hK1 _ ⟨rfl, rfl, rfl, (by first | rfl | (rw [h3]; rfl) | (simp only [h3, Bool.true_and, Bool.false_and, Bool.true_or, Bool.false_or, cond_true, cond_false]; done)), trivial⟩
    ·
     try simp only [go_sem, Nat.reduceEqDiff, reduceIte, Nat.reduceAdd, Nat.reduceMul, Nat.reduceSub, Nat.reduceLT, Nat.reduceLeDiff, h3]
     exact hK1 _ ⟨rfl, rfl, rfl, (by first | rfl | (rw [h3]; rfl) | (simp only [h3, Bool.true_and, Bool.false_and, Bool.true_or, Bool.false_or, cond_true, cond_false]; done)), trivial⟩
   ·
    refine xw_id ?_
    try simp only [go_sem, Nat.reduceEqDiff, reduceIte, Nat.reduceAdd, Nat.reduceMul, Nat.reduceSub, Nat.reduceLT, Nat.reduceLeDiff]
    refine hKK _ _ (Wk.refl _ _ _) ?_; clear hKK KK
    refine awp_cond (b := ((((decide (a0 < 0)) || (decide (12 ≤ a0))) || (decide (a1 < 0))) || (decide (1000 < a1)))) rfl (fun h4 => ?_) (fun h4 => ?_)
    ·
     have h0 := cT h0 h4
     refine awp_assoc ?_
     refine awp_nr [] (fun _ => rfl) fun tz => ?_
     refine awp_regW fun KK hKK => ?_
     refine xw_id ?_
     try simp only [go_sem, Nat.reduceEqDiff, reduceIte, Nat.reduceAdd, Nat.reduceMul, Nat.reduceSub, Nat.reduceLT, Nat.reduceLeDiff]
     refine hKK _ _ (Wk.refl _ _ _) ?_; clear hKK KK
     refine awp_ret ?_
     obtain rfl := someInj h0
     refine endW_i ?_
     refine end_ret0 rs13 (rfl) ?_
     try simp only [go_sem, Nat.reduceEqDiff, reduceIte, Nat.reduceAdd, Nat.reduceMul, Nat.reduceSub, Nat.reduceLT, Nat.reduceLeDiff, fz, nilS, packR, List.take_nil, List.take_length, List.length_map, List.length_append, cond_true, cond_false, Nat.ble_eq, ble_self, List.map_append]
     all_goals rfl
    ·
     have h0 := cF h0 h4
     refine awp_skip ?_
     refine awp_assoc ?_
     refine awp_nr [0,1] (fun _ => rfl) fun tz => ?_
     refine awp_regW fun KK hKK => ?_
     refine xw_id ?_
     try simp only [go_sem, Nat.reduceEqDiff, reduceIte, Nat.reduceAdd, Nat.reduceMul, Nat.reduceSub, Nat.reduceLT, Nat.reduceLeDiff]
     refine hKK _ _ (Wk.refl _ _ _) ?_; clear hKK KK
     refine awp_cond (b := (a1 == 1000)) rfl (fun h5 => ?_) (fun h5 => ?_)
     ·
      have h0 := cT h0 h5
      refine awp_assoc ?_
      refine awp_nr [] (fun _ => rfl) fun tz => ?_
      refine awp_regW fun KK hKK => ?_
      refine xw_id ?_
      try simp only [go_sem, Nat.reduceEqDiff, reduceIte, Nat.reduceAdd, Nat.reduceMul, Nat.reduceSub, Nat.reduceLT, Nat.reduceLeDiff]
      refine hKK _ _ (Wk.refl _ _ _) ?_; clear hKK KK
      refine awp_ret ?_
      obtain rfl := someInj h0
      refine endW_i ?_
      refine end_ret0 rs13 (rfl) ?_
      try simp only [go_sem, Nat.reduceEqDiff, reduceIte, Nat.reduceAdd, Nat.reduceMul, Nat.reduceSub, Nat.reduceLT, Nat.reduceLeDiff, fz, nilS, packR, List.take_nil, List.take_length, List.length_map, List.length_append, cond_true, cond_false, Nat.ble_eq, ble_self, List.map_append]
      all_goals rfl
     ·
      have h0 := cF h0 h5
      refine awp_skip ?_
      refine awp_nr [0,1] (fun _ => rfl) fun tz => ?_
      refine awp_regW fun KK hKK => ?_
      refine xw_id ?_
      obtain ⟨x91, bx91, h0⟩ := bnd h0
      try simp only [go_sem, Nat.reduceEqDiff, reduceIte, Nat.reduceAdd, Nat.reduceMul, Nat.reduceSub, Nat.reduceLT, Nat.reduceLeDiff]
      refine xcall_p (hotspotref09_Total_p a0 1024 bx91) ?_; try dsimp only
      try refine xw_id ?_
      try simp only [go_sem, Nat.reduceEqDiff, reduceIte, Nat.reduceAdd, Nat.reduceMul, Nat.reduceSub, Nat.reduceLT, Nat.reduceLeDiff]
      refine hKK _ _ (Wk.refl _ _ _) ?_; clear hKK KK
      refine awp_nr [1,6] (fun _ => rfl) fun tz => ?_
      refine awp_regW fun KK hKK => ?_
      refine xw_id ?_
      try simp only [go_sem, Nat.reduceEqDiff, reduceIte, Nat.reduceAdd, Nat.reduceMul, Nat.reduceSub, Nat.reduceLT, Nat.reduceLeDiff]
      refine hKK _ _ (Wk.refl _ _ _) ?_; clear hKK KK
      refine awp_nr [1,8] (fun _ => rfl) fun tz => ?_
      refine awp_regW fun KK hKK => ?_
      refine xw_id ?_
      obtain ⟨x92, bx92, h0⟩ := bnd h0
      have bx92 := chk_some bx92
      simp only [Bool.and_eq_true, decide_eq_true_eq] at bx92
      have gx92_0 := bx92
      try simp only [go_sem, Nat.reduceEqDiff, reduceIte, Nat.reduceAdd, Nat.reduceMul, Nat.reduceSub, Nat.reduceLT, Nat.reduceLeDiff, gx92_0]
      refine hKK _ _ (Wk.refl _ _ _) ?_; clear hKK KK
      refine awp_assoc ?_
      refine awp_nr [1,8,9] (fun _ => rfl) fun tz => ?_
      refine awp_regW fun KK hKK => ?_
      refine xw_id ?_
      try simp only [go_sem, Nat.reduceEqDiff, reduceIte, Nat.reduceAdd, Nat.reduceMul, Nat.reduceSub, Nat.reduceLT, Nat.reduceLeDiff]
      refine hKK _ _ (Wk.refl _ _ _) ?_; clear hKK KK
      refine awp_cond (b := (decide ((IntKind.wrap .i64 ((IntKind.wrap .i64 (((IntKind.wrap .i64 ((IntKind.wrap .i64 (x91.1 * 100)) * 1000))).tdiv (IntKind.wrap .i64 (1000 - a1)))) * (IntKind.wrap .i64 (1000 - a1)))) < (IntKind.wrap .i64 ((IntKind.wrap .i64 (x91.1 * 100)) * 1000))))) rfl (fun h6 => ?_) (fun h6 => ?_)
      ·
       have h0 := cT h0 h6
       refine awp_nr [9] (fun _ => rfl) fun tz => ?_
       refine awp_regW fun KK hKK => ?_
       refine xw_id ?_
       try simp only [go_sem, Nat.reduceEqDiff, reduceIte, Nat.reduceAdd, Nat.reduceMul, Nat.reduceSub, Nat.reduceLT, Nat.reduceLeDiff]
       refine hKK _ _ (Wk.refl _ _ _) ?_; clear hKK KK
       refine awp_nr [9] (fun _ => rfl) fun tz => ?_
       refine awp_regW fun KK hKK => ?_
       refine xw_id ?_
       try simp only [go_sem, Nat.reduceEqDiff, reduceIte, Nat.reduceAdd, Nat.reduceMul, Nat.reduceSub, Nat.reduceLT, Nat.reduceLeDiff]
       refine hKK _ _ (Wk.refl _ _ _) ?_; clear hKK KK
       refine awp_ret1 ?_
       obtain rfl := someInj h0
       refine endW_i ?_
       refine end_ret0 rs13 (rfl) ?_
       try simp only [go_sem, Nat.reduceEqDiff, reduceIte, Nat.reduceAdd, Nat.reduceMul, Nat.reduceSub, Nat.reduceLT, Nat.reduceLeDiff, fz, nilS, packR, List.take_nil, List.take_length, List.length_map, List.length_append, cond_true, cond_false, Nat.ble_eq, ble_self, List.map_append]
       all_goals rfl
      ·
       have h0 := cF h0 h6
       refine awp_skip ?_
       refine awp_nr [9] (fun _ => rfl) fun tz => ?_
       refine awp_regW fun KK hKK => ?_
       refine xw_id ?_
       try simp only [go_sem, Nat.reduceEqDiff, reduceIte, Nat.reduceAdd, Nat.reduceMul, Nat.reduceSub, Nat.reduceLT, Nat.reduceLeDiff]
       refine hKK _ _ (Wk.refl _ _ _) ?_; clear hKK KK
       refine awp_ret1 ?_
       obtain rfl := someInj h0
       refine endW_i ?_
       refine end_ret0 rs13 (rfl) ?_
       try simp only [go_sem, Nat.reduceEqDiff, reduceIte, Nat.reduceAdd, Nat.reduceMul, Nat.reduceSub, Nat.reduceLT, Nat.reduceLeDiff, fz, nilS, packR, List.take_nil, List.take_length, List.length_map, List.length_append, cond_true, cond_false, Nat.ble_eq, ble_self, List.map_append]
       all_goals rfl

end Go.AX.Z.TM

/-! (TMW hotspotref38 Of) -/

set_option linter.unusedSimpArgs false
set_option linter.unusedVariables false
set_option maxHeartbeats 4000000
namespace Go.AX.Z.TM
open Go.AX Go.Proofs
attribute [local irreducible] awp xw xop xcall gsp ob xd xdop xcallD seqQ loopQ blkQ endQ

def hotspotref38_Of_S0 (d89 : Unit) : AS :=
 { objs := (fun _ => .dead), next := 0, tmps := (fun _ => .unk) }

def hotspotref38_Of_S1 (a0 : MetricTable) (a1 : Addr) (a2 : Int) (d91 : Int) : AS :=
 { objs := (upd (upd (fun _ => .dead) 0 (.live (e_MetricTable a0 (.imm (List.flatMap e_MetricLink a0.Links) a0.Links.length)))) 1 (.live (e_Addr a1))), next := 2, tmps := (upd (upd (upd (upd (fun _ => .unk) 2 (vi a2)) 3 (.ptr 0 0)) 4 (.ptr 1 0)) 9 (vi d91)) }

theorem hotspotref38_Of_p (a0 : MetricTable) (a1 : Addr) (a2 : Int) {r : (Int × Int)} (h0 : hotspotref38_Of a0 a1 a2 = some r) : SndP K 23 [(.agg (E_MetricTable a0)), (.agg (e_Addr a1)), (vi a2)] (.tup [(vi r.1), (vi r.2)]) := by
 refine SndP.of_walkW hC (Clean.tup (clean_cons (Clean.v _) (clean_cons (Clean.v _) clean_nil))) (clean_cons (Clean.agg (E_MetricTable_clean _)) (clean_cons (Clean.agg (e_Addr_clean _)) (clean_cons (Clean.v _) clean_nil))) (show K.P.funcs[23]? = some Try.f23 from Try.func23) rfl rfl (by decide +kernel) (Nat.le_of_ble_eq_true rfl) ?_
 unfold hotspotref38_Of at h0
 refine awp_nr [0,1,2] (fun _ => rfl) fun tz => ?_
 refine awp_regW fun KK hKK => ?_
 refine xw_id ?_
 try simp only [go_sem, Nat.reduceEqDiff, reduceIte, Nat.reduceAdd, Nat.reduceMul, Nat.reduceSub, Nat.reduceLT, Nat.reduceLeDiff]
 refine hKK _ _ (Wk.refl _ _ _) ?_; clear hKK KK
 refine awp_nr [2,3,4] (fun _ => rfl) fun tz => ?_
 refine awp_regW fun KK hKK => ?_
 refine xw_id ?_
 obtain ⟨x88, bx88, h0⟩ := bnd h0
 try simp only [go_sem, Nat.reduceEqDiff, reduceIte, Nat.reduceAdd, Nat.reduceMul, Nat.reduceSub, Nat.reduceLT, Nat.reduceLeDiff]
 refine xcall_p (hotspotref38_before_p a0 a2 bx88) ?_; try dsimp only
 try refine xw_id ?_
 try simp only [go_sem, Nat.reduceEqDiff, reduceIte, Nat.reduceAdd, Nat.reduceMul, Nat.reduceSub, Nat.reduceLT, Nat.reduceLeDiff]
 refine hKK _ _ (Wk.refl _ _ _) ?_; clear hKK KK
 refine awp_assoc ?_
 refine awp_nr [2,3,4,8] (fun _ => rfl) fun tz => ?_
 refine awp_regW fun KK hKK => ?_
 refine xw_id ?_
 try simp only [go_sem, Nat.reduceEqDiff, reduceIte, Nat.reduceAdd, Nat.reduceMul, Nat.reduceSub, Nat.reduceLT, Nat.reduceLeDiff]
 refine hKK _ _ (Wk.refl _ _ _) ?_; clear hKK KK
 refine awp_cond (b := (x88 != 0)) rfl (fun h1 => ?_) (fun h1 => ?_)
 ·
  have h0 := cT h0 h1
  refine awp_assoc ?_
  refine awp_nr [8] (fun _ => rfl) fun tz => ?_
  refine awp_regW fun KK hKK => ?_
  refine xw_id ?_
  try simp only [go_sem, Nat.reduceEqDiff, reduceIte, Nat.reduceAdd, Nat.reduceMul, Nat.reduceSub, Nat.reduceLT, Nat.reduceLeDiff]
  refine hKK _ _ (Wk.refl _ _ _) ?_; clear hKK KK
  refine awp_ret ?_
  obtain rfl := someInj h0
  refine endW_i ?_
  refine end_ret0 rs23 (rfl) ?_
  try simp only [go_sem, Nat.reduceEqDiff, reduceIte, Nat.reduceAdd, Nat.reduceMul, Nat.reduceSub, Nat.reduceLT, Nat.reduceLeDiff, fz, nilS, packR, List.take_nil, List.take_length, List.length_map, List.length_append, cond_true, cond_false, Nat.ble_eq, ble_self, List.map_append]
  all_goals rfl
 ·
  have h0 := cF h0 h1
  refine awp_skip ?_
  refine awp_assoc ?_
  refine awp_nr [2,3,4] (fun _ => rfl) fun tz => ?_
  refine awp_regW fun KK hKK => ?_
  refine xw_id ?_
  try simp only [go_sem, Nat.reduceEqDiff, reduceIte, Nat.reduceAdd, Nat.reduceMul, Nat.reduceSub, Nat.reduceLT, Nat.reduceLeDiff]
  refine hKK _ _ (Wk.refl _ _ _) ?_; clear hKK KK
  obtain ⟨o90, hi2, h0⟩ := bnd h0
  refine awp_cut (fun d89 : Unit => o90 = Ex.go d89) (fun d89 : Unit => hotspotref38_Of_S0 d89) ?_ ?_
  ·
   refine awp_block1 ?_
   refine awp_loopS (fun n (d91 : Int) => hotspotref38_Of_L2 a0 a1 a2 n d91 = some o90) (fun d91 : Int => hotspotref38_Of_S1 a0 a1 a2 d91) big 0 (Wk.canonD [] [] [some 0, some 1] rfl trivial rfl (tmOU 1 (tmOU 0 tmO0 rfl List.not_mem_nil (by simp only [upd_get, Nat.reduceEqDiff, reduceIte, Nat.reduceAdd, Nat.reduceMul, Nat.reduceSub, Nat.reduceLT, Nat.reduceLeDiff, if_true, if_false] <;> rfl) (e_MetricTable_tmx (by rfl) (Tm.clean (Clean.imm (c_MetricLink _))))) rfl List.not_mem_nil (by simp only [upd_get, Nat.reduceEqDiff, reduceIte, Nat.reduceAdd, Nat.reduceMul, Nat.reduceSub, Nat.reduceLT, Nat.reduceLeDiff, if_true, if_false] <;> rfl) (TmL.clean (e_Addr_clean _))) (tmAllU 9 (tmAllU 4 (tmAllU 3 (tmAllU 2 tmAll0 (Tm.v _)) (Tm.ptr rfl)) (Tm.ptr rfl)) (Tm.v _))) hi2 ?_
   clear hi2
   rintro n d91 hl4
   rcases n with _ | n3
   ·
    (rw [hotspotref38_Of_L2] at hl4; cases hl4)
   ·
    rw [hotspotref38_Of_L2] at hl4
    unfold hotspotref38_Of_S1
    refine awp_assoc ?_
    refine awp_nr [2,3,4,9] (fun _ => rfl) fun tz => ?_
    refine awp_regW fun KK hKK => ?_
    refine xw_id ?_
    try simp only [go_sem, Nat.reduceEqDiff, reduceIte, Nat.reduceAdd, Nat.reduceMul, Nat.reduceSub, Nat.reduceLT, Nat.reduceLeDiff, Int.reduceToNat, Int.reduceBEq, Int.reduceBNe, Int.reduceLT, Int.reduceLE, Int.reduceAdd, Int.reduceSub, Int.reduceMul, Int.reduceNeg, Int.reduceEq, Int.reduceNe]
    refine hKK _ _ (Wk.refl _ _ _) ?_; clear hKK KK
    refine awp_cond (b := (decide (d91 < (a0.Links.length : Int)))) rfl (fun h5 => ?_) (fun h5 => ?_)
    ·
     have hl4 := cT hl4 h5
     refine awp_skip ?_
     refine awp_blockW ?_
     refine awp_nr [2,3,4,9] (fun _ => rfl) fun tz => ?_
     refine awp_regW fun KK hKK => ?_
     refine xw_id ?_
     obtain ⟨x92, bx92, hl4⟩ := bnd hl4
     obtain ⟨fx92_0, fx92_1, fx92_2, fx92_3⟩ := idx_some bx92
     try simp only [go_sem, Nat.reduceEqDiff, reduceIte, Nat.reduceAdd, Nat.reduceMul, Nat.reduceSub, Nat.reduceLT, Nat.reduceLeDiff, fx92_0, fx92_1, fx92_2]
     refine hKK _ _ (Wk.refl _ _ _) ?_; clear hKK KK
     refine awp_nr [2,3,4,9,10] (fun _ => rfl) fun tz => ?_
     refine awp_regW fun KK hKK => ?_
     refine xw_id ?_
     refine xw_stop 5 (by (try simp only [go_sem]); rfl) (by (try simp only [go_sem]); rfl) (by rfl) fun K1 hK1 => ?_
     refine xw_id ?_
     try simp only [go_sem, Nat.reduceEqDiff, reduceIte, Nat.reduceAdd, Nat.reduceMul, Nat.reduceSub, Nat.reduceLT, Nat.reduceLeDiff, fx92_0, fx92_1, fx92_2]
     refine hK1 _ ?_; clear hK1 K1
     refine xw_cut 6 [(2, (vi a2)), (3, (.ptr 0 0)), (4, (.ptr 1 0)), (9, (vi d91)), (10, (.ptr 12 0)), (41, (vb ((decide (x92.Peer = a1)) && (decide (a2 ≤ (IntKind.wrap .i64 (x92.Heard + 5000000)))))))] (by (try simp only [go_sem]); rfl) (by (try simp only [go_sem]); rfl) (by rfl) (fun K1 hK1 => ?_) fun tz => ?_
     ·
      refine xw_id ?_
      rcases Bool.eq_false_or_eq_true (decide (x92.Peer = a1)) with h6 | h6
      ·
       try simp only [go_sem, Nat.reduceEqDiff, reduceIte, Nat.reduceAdd, Nat.reduceMul, Nat.reduceSub, Nat.reduceLT, Nat.reduceLeDiff, fx92_0, fx92_1, fx92_2, h6]
       exact hK1 _ ⟨rfl, rfl, rfl, rfl, rfl, rfl, (by first | rfl | (rw [h6]; rfl) | (simp only [h6, Bool.true_and, Bool.false_and, Bool.true_or, Bool.false_or, cond_true, cond_false]; done)), trivial⟩
      ·
       try simp only [go_sem, Nat.reduceEqDiff, reduceIte, Nat.reduceAdd, Nat.reduceMul, Nat.reduceSub, Nat.reduceLT, Nat.reduceLeDiff, fx92_0, fx92_1, fx92_2, h6]
       exact hK1 _ ⟨rfl, rfl, rfl, rfl, rfl, rfl, (by first | rfl | (rw [h6]; rfl) | (simp only [h6, Bool.true_and, Bool.false_and, Bool.true_or, Bool.false_or, cond_true, cond_false]; done)), trivial⟩
     ·
      refine xw_id ?_
      try simp only [go_sem, Nat.reduceEqDiff, reduceIte, Nat.reduceAdd, Nat.reduceMul, Nat.reduceSub, Nat.reduceLT, Nat.reduceLeDiff, fx92_0, fx92_1, fx92_2]
      refine hKK _ _ (Wk.refl _ _ _) ?_; clear hKK KK
      refine awp_cond1 (b := ((decide (x92.Peer = a1)) && (decide (a2 ≤ (IntKind.wrap .i64 (x92.Heard + 5000000)))))) rfl (fun h7 => ?_) (fun h7 => ?_)
      ·
       have hl4 := cT hl4 h7
       refine awp_nr [10] (fun _ => rfl) fun tz => ?_
       refine awp_regW fun KK hKK => ?_
       refine xw_id ?_
       obtain ⟨x93, bx93, hl4⟩ := bnd hl4
       try simp only [go_sem, Nat.reduceEqDiff, reduceIte, Nat.reduceAdd, Nat.reduceMul, Nat.reduceSub, Nat.reduceLT, Nat.reduceLeDiff, fx92_0, fx92_1, fx92_2]
       refine xcall_p (hotspotref38_Cost_p x92.Rate x92.Loss bx93) ?_; try dsimp only
       try refine xw_id ?_
       try simp only [go_sem, Nat.reduceEqDiff, reduceIte, Nat.reduceAdd, Nat.reduceMul, Nat.reduceSub, Nat.reduceLT, Nat.reduceLeDiff, fx92_0, fx92_1, fx92_2]
       refine hKK _ _ (Wk.refl _ _ _) ?_; clear hKK KK
       refine awp_nr [11,12] (fun _ => rfl) fun tz => ?_
       refine awp_regW fun KK hKK => ?_
       refine xw_id ?_
       try simp only [go_sem, Nat.reduceEqDiff, reduceIte, Nat.reduceAdd, Nat.reduceMul, Nat.reduceSub, Nat.reduceLT, Nat.reduceLeDiff, fx92_0, fx92_1, fx92_2]
       refine hKK _ _ (Wk.refl _ _ _) ?_; clear hKK KK
       refine awp_ret1 ?_
       refine bq_r ?_
       refine sq_r ?_
       refine lq_r ?_
       refine bq_r ?_
       refine sq_r ?_
       obtain rfl := someInj hl4
       obtain rfl := Ex.k_ret h0
       refine endW_i ?_
       refine end_ret0 rs23 (rfl) ?_
       try simp only [go_sem, Nat.reduceEqDiff, reduceIte, Nat.reduceAdd, Nat.reduceMul, Nat.reduceSub, Nat.reduceLT, Nat.reduceLeDiff, fz, nilS, packR, List.take_nil, List.take_length, List.length_map, List.length_append, cond_true, cond_false, Nat.ble_eq, ble_self, List.map_append]
       all_goals rfl
      ·
       have hl4 := cF hl4 h7
       refine awp_skip1 ?_
       refine bq_n ?_
       refine seqW_i ?_
       refine awp_nr1 [2,3,4,9] (fun _ => rfl) fun tz => ?_
       refine awp_reg1 fun KK hKK => ?_
       refine xw_id ?_
       try simp only [go_sem, Nat.reduceEqDiff, reduceIte, Nat.reduceAdd, Nat.reduceMul, Nat.reduceSub, Nat.reduceLT, Nat.reduceLeDiff, fx92_0, fx92_1, fx92_2]
       refine hKK _ ?_; clear hKK KK
       refine lq_n ?_
       exact ⟨n3, IntKind.wrap .i64 (d91 + 1), rfl, hl4, (Wk.canonD [] [] [some 0, some 1] rfl trivial rfl (tmOU 1 (tmOU 0 tmO0 rfl List.not_mem_nil (by simp only [upd_get, Nat.reduceEqDiff, reduceIte, Nat.reduceAdd, Nat.reduceMul, Nat.reduceSub, Nat.reduceLT, Nat.reduceLeDiff, if_true, if_false] <;> rfl) (e_MetricTable_tmx (by rfl) (Tm.clean (Clean.imm (c_MetricLink _))))) rfl List.not_mem_nil (by simp only [upd_get, Nat.reduceEqDiff, reduceIte, Nat.reduceAdd, Nat.reduceMul, Nat.reduceSub, Nat.reduceLT, Nat.reduceLeDiff, if_true, if_false] <;> rfl) (TmL.clean (e_Addr_clean _))) (tmAllU 9 (tmAllU 4 (tmAllU 3 (tmAllU 2 tmAll0 (Tm.v _)) (Tm.ptr rfl)) (Tm.ptr rfl)) (Tm.v _)))⟩
    ·
     have hl4 := cF hl4 h5
     refine awp_exit ?_
     refine lq_e ?_
     refine bq_e ?_
     refine sq_n ?_
     obtain rfl := someInj hl4
     exact ⟨_, rfl, (Wk.canonD [] [] [] rfl trivial rfl tmO0 tmAll0)⟩
  ·
   rintro d89 rfl
   have h0 := Ex.k_go h0
   clear hi2
   unfold hotspotref38_Of_S0
   refine awp_nr [] (fun _ => rfl) fun tz => ?_
   refine awp_regW fun KK hKK => ?_
   refine xw_id ?_
   try simp only [go_sem, Nat.reduceEqDiff, reduceIte, Nat.reduceAdd, Nat.reduceMul, Nat.reduceSub, Nat.reduceLT, Nat.reduceLeDiff]
   refine hKK _ _ (Wk.refl _ _ _) ?_; clear hKK KK
   refine awp_ret1 ?_
   obtain rfl := someInj h0
   refine endW_i ?_
   refine end_ret0 rs23 (rfl) ?_
   try simp only [go_sem, Nat.reduceEqDiff, reduceIte, Nat.reduceAdd, Nat.reduceMul, Nat.reduceSub, Nat.reduceLT, Nat.reduceLeDiff, fz, nilS, packR, List.take_nil, List.take_length, List.length_map, List.length_append, cond_true, cond_false, Nat.ble_eq, ble_self, List.map_append]
   all_goals rfl

end Go.AX.Z.TM

/-! (TMW hotspotlaw38 MetricRuns) -/

set_option linter.unusedSimpArgs false
set_option linter.unusedVariables false
set_option maxHeartbeats 4000000
namespace Go.AX.Z.TM
open Go.AX Go.Proofs
attribute [local irreducible] awp xw xop xcall gsp ob xd xdop xcallD seqQ loopQ blkQ endQ

def hotspotlaw38_MetricRuns_S0 (d90 : Unit) : AS :=
 { objs := (fun _ => .dead), next := 0, tmps := (fun _ => .unk) }

def hotspotlaw38_MetricRuns_S1 (a0 : (List Hotspotlaw38_Told)) (d92 : (MetricTable × MetricTable × Int × Int)) : AS :=
 { objs := (upd (upd (fun _ => .dead) 0 (.live (e_MetricTable d92.1 (.imm (List.flatMap e_MetricLink ((d92.1).Links)) ((d92.1).Links).length)))) 1 (.live (e_MetricTable d92.2.1 (.imm (List.flatMap e_MetricLink ((d92.2.1).Links)) ((d92.2.1).Links).length)))), next := 2, tmps := (upd (upd (upd (upd (upd (fun _ => .unk) 0 (.imm (List.flatMap e_Hotspotlaw38_Told a0) a0.length)) 3 (.ptr 0 0)) 4 (.ptr 1 0)) 5 (vi d92.2.2.1)) 6 (vi d92.2.2.2)) }

def hotspotlaw38_MetricRuns_S3 (d92 : (MetricTable × MetricTable × Int × Int)) (x94 : (MetricTable × Int)) (x95 : (MetricTable × Int)) (a0 : (List Hotspotlaw38_Told)) (x93 : Hotspotlaw38_Told) : AS :=
 { objs := (upd (upd (upd (upd (fun _ => .dead) 0 (.live (e_MetricTable d92.1 (.imm (List.flatMap e_MetricLink ((d92.1).Links)) ((d92.1).Links).length)))) 1 (.live (e_MetricTable d92.2.1 (.imm (List.flatMap e_MetricLink ((d92.2.1).Links)) ((d92.2.1).Links).length)))) 2 (.live (e_MetricTable x94.1 (.imm (List.flatMap e_MetricLink x94.1.Links) x94.1.Links.length)))) 3 (.live (e_MetricTable x95.1 (.imm (List.flatMap e_MetricLink x95.1.Links) x95.1.Links.length)))), next := 4, tmps := (upd (upd (upd (upd (upd (upd (upd (upd (upd (fun _ => .unk) 0 (.imm (List.flatMap e_Hotspotlaw38_Told a0) a0.length)) 3 (.ptr 0 0)) 4 (.ptr 1 0)) 5 (vi (IntKind.wrap .i64 (d92.2.2.1 + x93.Wait)))) 6 (vi d92.2.2.2)) 7 (.ptr 2 0)) 8 (vi x94.2)) 9 (.ptr 3 0)) 10 (vi x95.2)) }

def hotspotlaw38_MetricRuns_S4 (a0 : (List Hotspotlaw38_Told)) (d92 : (MetricTable × MetricTable × Int × Int)) (x93 : Hotspotlaw38_Told) (d98 : (MetricTable × MetricTable)) : AS :=
 { objs := (upd (upd (fun _ => .dead) 0 (.live (e_MetricTable d98.1 (.imm (List.flatMap e_MetricLink ((d98.1).Links)) ((d98.1).Links).length)))) 1 (.live (e_MetricTable d98.2 (.imm (List.flatMap e_MetricLink ((d98.2).Links)) ((d98.2).Links).length)))), next := 2, tmps := (upd (upd (upd (upd (upd (fun _ => .unk) 0 (.imm (List.flatMap e_Hotspotlaw38_Told a0) a0.length)) 3 (.ptr 0 0)) 4 (.ptr 1 0)) 5 (vi (IntKind.wrap .i64 (d92.2.2.1 + x93.Wait)))) 6 (vi d92.2.2.2)) }

theorem hotspotlaw38_MetricRuns_p (a0 : (List Hotspotlaw38_Told)) {r : Bool} (h0 : hotspotlaw38_MetricRuns a0 = some r) : SndP K 8 [(S_Hotspotlaw38_Told a0)] (vb r) := by
 refine SndP.of_walkW hC (Clean.v _) (clean_cons (S_Hotspotlaw38_Told_clean _) clean_nil) (show K.P.funcs[8]? = some Try.f8 from Try.func8) rfl rfl (by decide +kernel) (Nat.le_of_ble_eq_true rfl) ?_
 unfold hotspotlaw38_MetricRuns at h0
 refine awp_nr [0] (fun _ => rfl) fun tz => ?_
 refine awp_regW fun KK hKK => ?_
 refine xw_id ?_
 try simp only [go_sem, Nat.reduceEqDiff, reduceIte, Nat.reduceAdd, Nat.reduceMul, Nat.reduceSub, Nat.reduceLT, Nat.reduceLeDiff]
 refine hKK _ _ (Wk.refl _ _ _) ?_; clear hKK KK
 refine awp_assoc ?_
 refine awp_nr [0] (fun _ => rfl) fun tz => ?_
 refine awp_regW fun KK hKK => ?_
 refine xw_id ?_
 try simp only [go_sem, Nat.reduceEqDiff, reduceIte, Nat.reduceAdd, Nat.reduceMul, Nat.reduceSub, Nat.reduceLT, Nat.reduceLeDiff, Int.reduceToNat, Int.reduceBEq, Int.reduceBNe, Int.reduceLT, Int.reduceLE, Int.reduceAdd, Int.reduceSub, Int.reduceMul, Int.reduceNeg, Int.reduceEq, Int.reduceNe]
 refine hKK _ _ (Wk.refl _ _ _) ?_; clear hKK KK
 refine awp_cond (b := (decide (100 < (a0.length : Int)))) rfl (fun h1 => ?_) (fun h1 => ?_)
 ·
  have h0 := cT h0 h1
  refine awp_assoc ?_
  refine awp_nr [] (fun _ => rfl) fun tz => ?_
  refine awp_regW fun KK hKK => ?_
  refine xw_id ?_
  try simp only [go_sem, Nat.reduceEqDiff, reduceIte, Nat.reduceAdd, Nat.reduceMul, Nat.reduceSub, Nat.reduceLT, Nat.reduceLeDiff]
  refine hKK _ _ (Wk.refl _ _ _) ?_; clear hKK KK
  refine awp_ret ?_
  obtain rfl := someInj h0
  refine endW_i ?_
  refine end_ret0 rs8 (rfl) ?_
  try simp only [go_sem, Nat.reduceEqDiff, reduceIte, Nat.reduceAdd, Nat.reduceMul, Nat.reduceSub, Nat.reduceLT, Nat.reduceLeDiff, fz, nilS, packR, List.take_nil, List.take_length, List.length_map, List.length_append, cond_true, cond_false, Nat.ble_eq, ble_self, List.map_append]
  all_goals rfl
 ·
  have h0 := cF h0 h1
  refine awp_skip ?_
  refine awp_nr [0] (fun _ => rfl) fun tz => ?_
  refine awp_regW fun KK hKK => ?_
  refine xw_id ?_
  try simp only [go_sem, Nat.reduceEqDiff, reduceIte, Nat.reduceAdd, Nat.reduceMul, Nat.reduceSub, Nat.reduceLT, Nat.reduceLeDiff]
  refine hKK _ _ (Wk.refl _ _ _) ?_; clear hKK KK
  refine awp_nr [0,3,4] (fun _ => rfl) fun tz => ?_
  refine awp_regW fun KK hKK => ?_
  refine xw_id ?_
  try simp only [go_sem, Nat.reduceEqDiff, reduceIte, Nat.reduceAdd, Nat.reduceMul, Nat.reduceSub, Nat.reduceLT, Nat.reduceLeDiff]
  refine hKK _ _ (Wk.refl _ _ _) ?_; clear hKK KK
  refine awp_assoc ?_
  refine awp_nr [0,3,4,5] (fun _ => rfl) fun tz => ?_
  refine awp_regW fun KK hKK => ?_
  refine xw_id ?_
  try simp only [go_sem, Nat.reduceEqDiff, reduceIte, Nat.reduceAdd, Nat.reduceMul, Nat.reduceSub, Nat.reduceLT, Nat.reduceLeDiff]
  refine hKK _ _ (Wk.refl _ _ _) ?_; clear hKK KK
  obtain ⟨o91, hi2, h0⟩ := bnd h0
  refine awp_cut (fun d90 : Unit => o91 = Ex.go d90) (fun d90 : Unit => hotspotlaw38_MetricRuns_S0 d90) ?_ ?_
  ·
   refine awp_block1 ?_
   refine awp_loopS (fun n (d92 : (MetricTable × MetricTable × Int × Int)) => hotspotlaw38_MetricRuns_L2 a0 n d92 = some o91) (fun d92 : (MetricTable × MetricTable × Int × Int) => hotspotlaw38_MetricRuns_S1 a0 d92) big (MetricTable.z, MetricTable.z, 0, 0) (Wk.canonD [] [] [some 4, some 5] rfl trivial rfl (tmOU 1 (tmOU 0 tmO0 rfl List.not_mem_nil (by simp only [upd_get, Nat.reduceEqDiff, reduceIte, Nat.reduceAdd, Nat.reduceMul, Nat.reduceSub, Nat.reduceLT, Nat.reduceLeDiff, if_true, if_false] <;> rfl) (e_MetricTable_tmx (by rfl) (Tm.nil))) rfl List.not_mem_nil (by simp only [upd_get, Nat.reduceEqDiff, reduceIte, Nat.reduceAdd, Nat.reduceMul, Nat.reduceSub, Nat.reduceLT, Nat.reduceLeDiff, if_true, if_false] <;> rfl) (e_MetricTable_tmx (by rfl) (Tm.nil))) (tmAllU 6 (tmAllU 5 (tmAllU 4 (tmAllU 3 (tmAllU 0 tmAll0 (Tm.clean (Clean.imm (c_Hotspotlaw38_Told _)))) (Tm.ptr rfl)) (Tm.ptr rfl)) (Tm.v _)) (Tm.v _))) hi2 ?_
   clear hi2
   rintro n d92 hl4
   rcases n with _ | n3
   ·
    (rw [hotspotlaw38_MetricRuns_L2] at hl4; cases hl4)
   ·
    rw [hotspotlaw38_MetricRuns_L2] at hl4
    unfold hotspotlaw38_MetricRuns_S1
    refine awp_assoc ?_
    refine awp_nr [0,3,4,5,6] (fun _ => rfl) fun tz => ?_
    refine awp_regW fun KK hKK => ?_
    refine xw_id ?_
    try simp only [go_sem, Nat.reduceEqDiff, reduceIte, Nat.reduceAdd, Nat.reduceMul, Nat.reduceSub, Nat.reduceLT, Nat.reduceLeDiff, Int.reduceToNat, Int.reduceBEq, Int.reduceBNe, Int.reduceLT, Int.reduceLE, Int.reduceAdd, Int.reduceSub, Int.reduceMul, Int.reduceNeg, Int.reduceEq, Int.reduceNe]
    refine hKK _ _ (Wk.refl _ _ _) ?_; clear hKK KK
    refine awp_cond (b := (decide (d92.2.2.2 < (a0.length : Int)))) rfl (fun h5 => ?_) (fun h5 => ?_)
    ·
     have hl4 := cT hl4 h5
     refine awp_skip ?_
     refine awp_blockW ?_
     refine awp_assoc ?_
     refine awp_nr [0,3,4,5,6] (fun _ => rfl) fun tz => ?_
     refine awp_regW fun KK hKK => ?_
     refine xw_id ?_
     obtain ⟨x93, bx93, hl4⟩ := bnd hl4
     obtain ⟨fx93_0, fx93_1, fx93_2, fx93_3⟩ := idx_some bx93
     refine xw_stop 7 (by (try simp only [go_sem]); rfl) (by (try simp only [go_sem]); rfl) (by rfl) fun K1 hK1 => ?_
     refine xw_id ?_
     try simp only [go_sem, Nat.reduceEqDiff, reduceIte, Nat.reduceAdd, Nat.reduceMul, Nat.reduceSub, Nat.reduceLT, Nat.reduceLeDiff, fx93_0, fx93_1, fx93_2]
     refine hK1 _ ?_; clear hK1 K1
     refine xw_cut 7 [(0, (.imm (List.flatMap e_Hotspotlaw38_Told a0) a0.length)), (3, (.ptr 0 0)), (4, (.ptr 1 0)), (5, (vi d92.2.2.1)), (6, (vi d92.2.2.2)), (37, (vb ((decide (x93.Wait < 0)) || (decide (10000000 < x93.Wait)))))] (by (try simp only [go_sem]); rfl) (by (try simp only [go_sem]); rfl) (by rfl) (fun K1 hK1 => ?_) fun tz => ?_
     ·
      refine xw_id ?_
      rcases Bool.eq_false_or_eq_true (decide (x93.Wait < 0)) with h6 | h6
      ·
       try simp only [go_sem, Nat.reduceEqDiff, reduceIte, Nat.reduceAdd, Nat.reduceMul, Nat.reduceSub, Nat.reduceLT, Nat.reduceLeDiff, fx93_0, fx93_1, fx93_2, h6]
       exact hK1 _ ⟨rfl, rfl, rfl, rfl, rfl, rfl, (by first | rfl | (rw [h6]; rfl) | (simp only [h6, Bool.true_and, Bool.false_and, Bool.true_or, Bool.false_or, cond_true, cond_false]; done)), trivial⟩
      ·
       try simp only [go_sem, Nat.reduceEqDiff, reduceIte, Nat.reduceAdd, Nat.reduceMul, Nat.reduceSub, Nat.reduceLT, Nat.reduceLeDiff, fx93_0, fx93_1, fx93_2, h6]
       exact hK1 _ ⟨rfl, rfl, rfl, rfl, rfl, rfl, (by first | rfl | (rw [h6]; rfl) | (simp only [h6, Bool.true_and, Bool.false_and, Bool.true_or, Bool.false_or, cond_true, cond_false]; done)), trivial⟩
     ·
      refine xw_id ?_
      try simp only [go_sem, Nat.reduceEqDiff, reduceIte, Nat.reduceAdd, Nat.reduceMul, Nat.reduceSub, Nat.reduceLT, Nat.reduceLeDiff, fx93_0, fx93_1, fx93_2]
      refine hKK _ _ (Wk.refl _ _ _) ?_; clear hKK KK
      refine awp_cond (b := ((decide (x93.Wait < 0)) || (decide (10000000 < x93.Wait)))) rfl (fun h7 => ?_) (fun h7 => ?_)
      ·
       have hl4 := cT hl4 h7
       refine awp_assoc ?_
       refine awp_nr [] (fun _ => rfl) fun tz => ?_
       refine awp_regW fun KK hKK => ?_
       refine xw_id ?_
       try simp only [go_sem, Nat.reduceEqDiff, reduceIte, Nat.reduceAdd, Nat.reduceMul, Nat.reduceSub, Nat.reduceLT, Nat.reduceLeDiff, fx93_0, fx93_1, fx93_2]
       refine hKK _ _ (Wk.refl _ _ _) ?_; clear hKK KK
       refine awp_ret ?_
       refine bq_r ?_
       refine sq_r ?_
       refine lq_r ?_
       refine bq_r ?_
       refine sq_r ?_
       obtain rfl := someInj hl4
       obtain rfl := Ex.k_ret h0
       refine endW_i ?_
       refine end_ret0 rs8 (rfl) ?_
       try simp only [go_sem, Nat.reduceEqDiff, reduceIte, Nat.reduceAdd, Nat.reduceMul, Nat.reduceSub, Nat.reduceLT, Nat.reduceLeDiff, fz, nilS, packR, List.take_nil, List.take_length, List.length_map, List.length_append, cond_true, cond_false, Nat.ble_eq, ble_self, List.map_append]
       all_goals rfl
      ·
       have hl4 := cF hl4 h7
       refine awp_skip ?_
       refine awp_nr [0,3,4,5,6] (fun _ => rfl) fun tz => ?_
       refine awp_regW fun KK hKK => ?_
       refine xw_id ?_
       try simp only [go_sem, Nat.reduceEqDiff, reduceIte, Nat.reduceAdd, Nat.reduceMul, Nat.reduceSub, Nat.reduceLT, Nat.reduceLeDiff, fx93_0, fx93_1, fx93_2]
       refine hKK _ _ (Wk.refl _ _ _) ?_; clear hKK KK
       refine awp_nr [0,3,4,5,6] (fun _ => rfl) fun tz => ?_
       refine awp_regDW fun KK hKK all hall => ?_
       refine xd_id ?_
       try simp only [List.toList_toArray, List.map_cons, List.map_nil, List.size_toArray, List.length_cons, List.length_nil, Nat.zero_add]
       try simp only [Nat.reduceAdd]
       obtain ⟨x94, bx94, hl4⟩ := bnd hl4
       simp only [go_sem, Nat.reduceEqDiff, reduceIte, Nat.reduceMul, Nat.reduceSub, Nat.reduceLT, Nat.reduceLeDiff, fx93_0, fx93_1, fx93_2]
       try simp only [Nat.reduceAdd]
       try simp only [go_sem, Nat.reduceEqDiff, reduceIte, Nat.reduceMul, Nat.reduceSub, Nat.reduceLT, Nat.reduceLeDiff, fx93_0, fx93_1, fx93_2]
       try simp only [Nat.reduceAdd]
       try simp only [go_sem, Nat.reduceEqDiff, reduceIte, Nat.reduceMul, Nat.reduceSub, Nat.reduceLT, Nat.reduceLeDiff, fx93_0, fx93_1, fx93_2]
       refine xcallD_p (metric_Heard_p { d92.1 with Links := (d92.1).Links } x93.Peer x93.Rate x93.Ok (IntKind.wrap .i64 (d92.2.2.1 + x93.Wait)) bx94) ?_; try dsimp only
       try refine xd_id ?_
       simp only [go_sem, Nat.reduceEqDiff, reduceIte, Nat.reduceMul, Nat.reduceSub, Nat.reduceLT, Nat.reduceLeDiff, fx93_0, fx93_1, fx93_2]
       try simp only [Nat.reduceAdd]
       try simp only [go_sem, Nat.reduceEqDiff, reduceIte, Nat.reduceMul, Nat.reduceSub, Nat.reduceLT, Nat.reduceLeDiff, fx93_0, fx93_1, fx93_2]
       try simp only [Nat.reduceAdd]
       try simp only [go_sem, Nat.reduceEqDiff, reduceIte, Nat.reduceMul, Nat.reduceSub, Nat.reduceLT, Nat.reduceLeDiff, fx93_0, fx93_1, fx93_2]
       refine And.intro ?_ (hKK _ _ (Wk.refl _ _ _) ?_)
       ·
        subst hall
        clear hKK KK
        first | (simp [printsOk, apartP, clash, meet]; done) | (simp [printsOk, apartP, clash, meet]; decide +kernel) | decide +kernel
       ·
        clear hKK KK hall all
        refine awp_nr [0,3,4,5,6,7,8] (fun _ => rfl) fun tz => ?_
        refine awp_regDW fun KK hKK all hall => ?_
        refine xd_id ?_
        try simp only [List.toList_toArray, List.map_cons, List.map_nil, List.size_toArray, List.length_cons, List.length_nil, Nat.zero_add]
        try simp only [Nat.reduceAdd]
        obtain ⟨x95, bx95, hl4⟩ := bnd hl4
        simp only [go_sem, Nat.reduceEqDiff, reduceIte, Nat.reduceMul, Nat.reduceSub, Nat.reduceLT, Nat.reduceLeDiff, fx93_0, fx93_1, fx93_2]
        try simp only [Nat.reduceAdd]
        try simp only [go_sem, Nat.reduceEqDiff, reduceIte, Nat.reduceMul, Nat.reduceSub, Nat.reduceLT, Nat.reduceLeDiff, fx93_0, fx93_1, fx93_2]
        try simp only [Nat.reduceAdd]
        try simp only [go_sem, Nat.reduceEqDiff, reduceIte, Nat.reduceMul, Nat.reduceSub, Nat.reduceLT, Nat.reduceLeDiff, fx93_0, fx93_1, fx93_2]
        refine xcallD_p (hotspotref38_Heard_p { d92.2.1 with Links := (d92.2.1).Links } x93.Peer x93.Rate x93.Ok (IntKind.wrap .i64 (d92.2.2.1 + x93.Wait)) bx95) ?_; try dsimp only
        try refine xd_id ?_
        simp only [go_sem, Nat.reduceEqDiff, reduceIte, Nat.reduceMul, Nat.reduceSub, Nat.reduceLT, Nat.reduceLeDiff, fx93_0, fx93_1, fx93_2]
        try simp only [Nat.reduceAdd]
        try simp only [go_sem, Nat.reduceEqDiff, reduceIte, Nat.reduceMul, Nat.reduceSub, Nat.reduceLT, Nat.reduceLeDiff, fx93_0, fx93_1, fx93_2]
        try simp only [Nat.reduceAdd]
        try simp only [go_sem, Nat.reduceEqDiff, reduceIte, Nat.reduceMul, Nat.reduceSub, Nat.reduceLT, Nat.reduceLeDiff, fx93_0, fx93_1, fx93_2]
        refine And.intro ?_ (hKK _ (hotspotlaw38_MetricRuns_S3 d92 x94 x95 a0 x93) (Wk.canonD [] [] [some 0, some 1, some 49, some 73] rfl trivial rfl (tmOU 3 (tmOU 2 (tmOU 1 (tmOU 0 tmO0 rfl List.not_mem_nil (by simp only [upd_get, Nat.reduceEqDiff, reduceIte, Nat.reduceAdd, Nat.reduceMul, Nat.reduceSub, Nat.reduceLT, Nat.reduceLeDiff, if_true, if_false] <;> rfl) (e_MetricTable_tmx (by rfl) (Tm.clean (Clean.imm (c_MetricLink _))))) rfl List.not_mem_nil (by simp only [upd_get, Nat.reduceEqDiff, reduceIte, Nat.reduceAdd, Nat.reduceMul, Nat.reduceSub, Nat.reduceLT, Nat.reduceLeDiff, if_true, if_false] <;> rfl) (e_MetricTable_tmx (by rfl) (Tm.clean (Clean.imm (c_MetricLink _))))) rfl List.not_mem_nil (by simp only [upd_get, Nat.reduceEqDiff, reduceIte, Nat.reduceAdd, Nat.reduceMul, Nat.reduceSub, Nat.reduceLT, Nat.reduceLeDiff, if_true, if_false] <;> rfl) (e_MetricTable_tmx (by rfl) (Tm.clean (Clean.imm (c_MetricLink _))))) rfl List.not_mem_nil (by simp only [upd_get, Nat.reduceEqDiff, reduceIte, Nat.reduceAdd, Nat.reduceMul, Nat.reduceSub, Nat.reduceLT, Nat.reduceLeDiff, if_true, if_false] <;> rfl) (e_MetricTable_tmx (by rfl) (Tm.clean (Clean.imm (c_MetricLink _))))) (tmAllU 10 (tmAllU 9 (tmAllU 8 (tmAllU 7 (tmAllU 6 (tmAllU 5 (tmAllU 4 (tmAllU 3 (tmAllU 0 tmAll0 (Tm.clean (Clean.imm (c_Hotspotlaw38_Told _)))) (Tm.ptr rfl)) (Tm.ptr rfl)) (Tm.v _)) (Tm.v _)) (Tm.ptr rfl)) (Tm.v _)) (Tm.ptr rfl)) (Tm.v _))) ?_)
        ·
         subst hall
         clear hKK KK
         first | (simp [printsOk, apartP, clash, meet]; done) | (simp [printsOk, apartP, clash, meet]; decide +kernel) | decide +kernel
        ·
         clear hKK KK hall all
         unfold hotspotlaw38_MetricRuns_S3
         refine awp_assoc ?_
         refine awp_nr [0,3,4,5,6,7,8,9,10] (fun _ => rfl) fun tz => ?_
         refine awp_regW fun KK hKK => ?_
         refine xw_id ?_
         refine xw_stop 4 (by (try simp only [go_sem]); rfl) (by (try simp only [go_sem]); rfl) (by rfl) fun K1 hK1 => ?_
         refine xw_id ?_
         try simp only [go_sem, Nat.reduceEqDiff, reduceIte, Nat.reduceAdd, Nat.reduceMul, Nat.reduceSub, Nat.reduceLT, Nat.reduceLeDiff, fx93_0, fx93_1, fx93_2]
         refine hK1 _ ?_; clear hK1 K1
         obtain ⟨x97, hvh8, hl4⟩ := bnd hl4
         refine xw_cut 5 [(0, (.imm (List.flatMap e_Hotspotlaw38_Told a0) a0.length)), (3, (.ptr 0 0)), (4, (.ptr 1 0)), (5, (vi (IntKind.wrap .i64 (d92.2.2.1 + x93.Wait)))), (6, (vi d92.2.2.2)), (7, (.ptr 2 0)), (8, (vi x94.2)), (9, (.ptr 3 0)), (95, (vb x97))] (by (try simp only [go_sem]); rfl) (by (try simp only [go_sem]); rfl) (by rfl) (fun K1 hK1 => ?_) fun tz => ?_
         ·
          refine xw_id ?_
          rcases Bool.eq_false_or_eq_true (x94.2 != x95.2) with h8 | h8
          ·
           have hvh8 := cT hvh8 h8
           try simp only [go_sem, Nat.reduceEqDiff, reduceIte, Nat.reduceAdd, Nat.reduceMul, Nat.reduceSub, Nat.reduceLT, Nat.reduceLeDiff, fx93_0, fx93_1, fx93_2, h8]
           obtain rfl := someInj hvh8
           exact hK1 _ ⟨rfl, rfl, rfl, rfl, rfl, rfl, rfl, rfl, rfl, (by first | rfl | (rw [h8]; rfl) | (simp only [h8, Bool.true_and, Bool.false_and, Bool.true_or, Bool.false_or, cond_true, cond_false]; done)), trivial⟩
          ·
           have hvh8 := cF hvh8 h8
           obtain ⟨x96, bx96, hvh8⟩ := bnd hvh8
           try simp only [go_sem, Nat.reduceEqDiff, reduceIte, Nat.reduceAdd, Nat.reduceMul, Nat.reduceSub, Nat.reduceLT, Nat.reduceLeDiff, fx93_0, fx93_1, fx93_2, h8]
           refine xcall_p (hotspotref38_Same_p x94.1 x95.1 bx96) ?_; try dsimp only
           try refine xw_id ?_
           try simp only [go_sem, Nat.reduceEqDiff, reduceIte, Nat.reduceAdd, Nat.reduceMul, Nat.reduceSub, Nat.reduceLT, Nat.reduceLeDiff, fx93_0, fx93_1, fx93_2, h8]
           obtain rfl := someInj hvh8
           exact hK1 _ ⟨rfl, rfl, rfl, rfl, rfl, rfl, rfl, rfl, rfl, (by first | rfl | (rw [h8]; rfl) | (simp only [h8, Bool.true_and, Bool.false_and, Bool.true_or, Bool.false_or, cond_true, cond_false]; done)), trivial⟩
         ·
          refine xw_id ?_
          try simp only [go_sem, Nat.reduceEqDiff, reduceIte, Nat.reduceAdd, Nat.reduceMul, Nat.reduceSub, Nat.reduceLT, Nat.reduceLeDiff, fx93_0, fx93_1, fx93_2]
          refine hKK _ _ (Wk.refl _ _ _) ?_; clear hKK KK
          refine awp_cond (b := x97) rfl (fun h9 => ?_) (fun h9 => ?_)
          ·
           have hl4 := cT hl4 h9
           refine awp_assoc ?_
           refine awp_nr [] (fun _ => rfl) fun tz => ?_
           refine awp_regW fun KK hKK => ?_
           refine xw_id ?_
           try simp only [go_sem, Nat.reduceEqDiff, reduceIte, Nat.reduceAdd, Nat.reduceMul, Nat.reduceSub, Nat.reduceLT, Nat.reduceLeDiff, fx93_0, fx93_1, fx93_2]
           refine hKK _ _ (Wk.refl _ _ _) ?_; clear hKK KK
           refine awp_ret ?_
           refine bq_r ?_
           refine sq_r ?_
           refine lq_r ?_
           refine bq_r ?_
           refine sq_r ?_
           obtain rfl := someInj hl4
           obtain rfl := Ex.k_ret h0
           refine endW_i ?_
           refine end_ret0 rs8 (rfl) ?_
           try simp only [go_sem, Nat.reduceEqDiff, reduceIte, Nat.reduceAdd, Nat.reduceMul, Nat.reduceSub, Nat.reduceLT, Nat.reduceLeDiff, fz, nilS, packR, List.take_nil, List.take_length, List.length_map, List.length_append, cond_true, cond_false, Nat.ble_eq, ble_self, List.map_append]
           all_goals rfl
          ·
           have hl4 := cF hl4 h9
           refine awp_skip ?_
           refine awp_assoc ?_
           refine awp_nr [0,3,4,5,6,7,8,9] (fun _ => rfl) fun tz => ?_
           refine awp_regW fun KK hKK => ?_
           refine xw_id ?_
           try simp only [go_sem, Nat.reduceEqDiff, reduceIte, Nat.reduceAdd, Nat.reduceMul, Nat.reduceSub, Nat.reduceLT, Nat.reduceLeDiff, fx93_0, fx93_1, fx93_2]
           refine hKK _ _ (Wk.refl _ _ _) ?_; clear hKK KK
           obtain ⟨d98, hi10, hl4⟩ := bnd hl4
           refine awp_cut (fun z => d98 = z) (fun d98 : (MetricTable × MetricTable) => hotspotlaw38_MetricRuns_S4 a0 d92 x93 d98) ?_ ?_
           ·
            refine awp_cond1 (b := (x94.2 == 0)) rfl (fun h11 => ?_) (fun h11 => ?_)
            ·
             have hi10 := cT hi10 h11
             refine awp_nr1 [0,3,4,5,6,7,9] (fun _ => rfl) fun tz => ?_
             refine awp_regD1 fun KK hKK all hall => ?_
             refine xd_id ?_
             try simp only [List.toList_toArray, List.map_cons, List.map_nil, List.size_toArray, List.length_cons, List.length_nil, Nat.zero_add]
             try simp only [Nat.reduceAdd]
             simp only [go_sem, Nat.reduceEqDiff, reduceIte, Nat.reduceMul, Nat.reduceSub, Nat.reduceLT, Nat.reduceLeDiff, fx93_0, fx93_1, fx93_2]
             try simp only [Nat.reduceAdd]
             try simp only [go_sem, Nat.reduceEqDiff, reduceIte, Nat.reduceMul, Nat.reduceSub, Nat.reduceLT, Nat.reduceLeDiff, fx93_0, fx93_1, fx93_2]
             try simp only [Nat.reduceAdd]
             try simp only [go_sem, Nat.reduceEqDiff, reduceIte, Nat.reduceMul, Nat.reduceSub, Nat.reduceLT, Nat.reduceLeDiff, fx93_0, fx93_1, fx93_2]
             refine And.intro ?_ (hKK _ ?_)
             ·
              subst hall
              clear hKK KK
              first | (simp [printsOk, apartP, clash, meet]; done) | (simp [printsOk, apartP, clash, meet]; decide +kernel) | decide +kernel
             ·
              clear hKK KK hall all
              refine sq_n ?_
              obtain rfl := someInj hi10
              exact ⟨_, rfl, (Wk.canonD [] [] [some 0, some 1] rfl trivial rfl (tmOU 1 (tmOU 0 tmO0 rfl List.not_mem_nil (by simp only [upd_get, Nat.reduceEqDiff, reduceIte, Nat.reduceAdd, Nat.reduceMul, Nat.reduceSub, Nat.reduceLT, Nat.reduceLeDiff, if_true, if_false] <;> rfl) (e_MetricTable_tmx (by rfl) (Tm.clean (Clean.imm (c_MetricLink _))))) rfl List.not_mem_nil (by simp only [upd_get, Nat.reduceEqDiff, reduceIte, Nat.reduceAdd, Nat.reduceMul, Nat.reduceSub, Nat.reduceLT, Nat.reduceLeDiff, if_true, if_false] <;> rfl) (e_MetricTable_tmx (by rfl) (Tm.clean (Clean.imm (c_MetricLink _))))) (tmAllU 6 (tmAllU 5 (tmAllU 4 (tmAllU 3 (tmAllU 0 tmAll0 (Tm.clean (Clean.imm (c_Hotspotlaw38_Told _)))) (Tm.ptr rfl)) (Tm.ptr rfl)) (Tm.v _)) (Tm.v _)))⟩
            ·
             have hi10 := cF hi10 h11
             refine awp_skip1 ?_
             refine sq_n ?_
             obtain rfl := someInj hi10
             exact ⟨_, rfl, (Wk.canonD [] [] [some 0, some 1] rfl trivial rfl (tmOU 1 (tmOU 0 tmO0 rfl List.not_mem_nil (by simp only [upd_get, Nat.reduceEqDiff, reduceIte, Nat.reduceAdd, Nat.reduceMul, Nat.reduceSub, Nat.reduceLT, Nat.reduceLeDiff, if_true, if_false] <;> rfl) (e_MetricTable_tmx (by rfl) (Tm.clean (Clean.imm (c_MetricLink _))))) rfl List.not_mem_nil (by simp only [upd_get, Nat.reduceEqDiff, reduceIte, Nat.reduceAdd, Nat.reduceMul, Nat.reduceSub, Nat.reduceLT, Nat.reduceLeDiff, if_true, if_false] <;> rfl) (e_MetricTable_tmx (by rfl) (Tm.clean (Clean.imm (c_MetricLink _))))) (tmAllU 6 (tmAllU 5 (tmAllU 4 (tmAllU 3 (tmAllU 0 tmAll0 (Tm.clean (Clean.imm (c_Hotspotlaw38_Told _)))) (Tm.ptr rfl)) (Tm.ptr rfl)) (Tm.v _)) (Tm.v _)))⟩
           ·
            rintro _ rfl
            clear hi10
            unfold hotspotlaw38_MetricRuns_S4
            refine awp_nr [0,3,4,5,6] (fun _ => rfl) fun tz => ?_
            refine awp_regW fun KK hKK => ?_
            refine xw_id ?_
            obtain ⟨x99, bx99, hl4⟩ := bnd hl4
            obtain ⟨fx99_0, fx99_1, fx99_2, fx99_3⟩ := idx_some bx99
            obtain ⟨x100, bx100, hl4⟩ := bnd hl4
            try simp only [go_sem, Nat.reduceEqDiff, reduceIte, Nat.reduceAdd, Nat.reduceMul, Nat.reduceSub, Nat.reduceLT, Nat.reduceLeDiff, fx99_0, fx99_1, fx99_2]
            refine xcall_p (metric_Of_p { d98.1 with Links := (d98.1).Links } x99.Peer (IntKind.wrap .i64 ((IntKind.wrap .i64 (d92.2.2.1 + x93.Wait)) + 5000000)) bx100) ?_; try dsimp only
            try refine xw_id ?_
            try simp only [go_sem, Nat.reduceEqDiff, reduceIte, Nat.reduceAdd, Nat.reduceMul, Nat.reduceSub, Nat.reduceLT, Nat.reduceLeDiff, fx99_0, fx99_1, fx99_2]
            refine hKK _ _ (Wk.refl _ _ _) ?_; clear hKK KK
            refine awp_nr [0,3,4,5,6,11,12] (fun _ => rfl) fun tz => ?_
            refine awp_regW fun KK hKK => ?_
            refine xw_id ?_
            obtain ⟨x101, bx101, hl4⟩ := bnd hl4
            try simp only [go_sem, Nat.reduceEqDiff, reduceIte, Nat.reduceAdd, Nat.reduceMul, Nat.reduceSub, Nat.reduceLT, Nat.reduceLeDiff, fx99_0, fx99_1, fx99_2]
            refine xcall_p (hotspotref38_Of_p { d98.2 with Links := (d98.2).Links } x99.Peer (IntKind.wrap .i64 ((IntKind.wrap .i64 (d92.2.2.1 + x93.Wait)) + 5000000)) bx101) ?_; try dsimp only
            try refine xw_id ?_
            try simp only [go_sem, Nat.reduceEqDiff, reduceIte, Nat.reduceAdd, Nat.reduceMul, Nat.reduceSub, Nat.reduceLT, Nat.reduceLeDiff, fx99_0, fx99_1, fx99_2]
            refine hKK _ _ (Wk.refl _ _ _) ?_; clear hKK KK
            refine awp_nr [0,3,4,5,6,11,12,13,14] (fun _ => rfl) fun tz => ?_
            refine awp_regW fun KK hKK => ?_
            refine xw_id ?_
            refine xw_stop 4 (by (try simp only [go_sem]); rfl) (by (try simp only [go_sem]); rfl) (by rfl) fun K1 hK1 => ?_
            refine xw_id ?_
            try simp only [go_sem, Nat.reduceEqDiff, reduceIte, Nat.reduceAdd, Nat.reduceMul, Nat.reduceSub, Nat.reduceLT, Nat.reduceLeDiff, fx99_0, fx99_1, fx99_2]
            refine hK1 _ ?_; clear hK1 K1
            refine xw_cut 4 [(0, (.imm (List.flatMap e_Hotspotlaw38_Told a0) a0.length)), (3, (.ptr 0 0)), (4, (.ptr 1 0)), (5, (vi (IntKind.wrap .i64 (d92.2.2.1 + x93.Wait)))), (6, (vi d92.2.2.2)), (131, (vb ((x100.1 != x101.1) || (x100.2 != x101.2))))] (by (try simp only [go_sem]); rfl) (by (try simp only [go_sem]); rfl) (by rfl) (fun K1 hK1 => ?_) fun tz => ?_
            ·
             refine xw_id ?_
             rcases Bool.eq_false_or_eq_true (x100.1 != x101.1) with h12 | h12
             ·
              try simp only [go_sem, Nat.reduceEqDiff, reduceIte, Nat.reduceAdd, Nat.reduceMul, Nat.reduceSub, Nat.reduceLT, Nat.reduceLeDiff, fx99_0, fx99_1, fx99_2, h12]
              exact hK1 _ ⟨rfl, rfl, rfl, rfl, rfl, rfl, (by first | rfl | (rw [h12]; rfl) | (simp only [h12, Bool.true_and, Bool.false_and, Bool.true_or, Bool.false_or, cond_true, cond_false]; done)), trivial⟩
             ·
              try simp only [go_sem, Nat.reduceEqDiff, reduceIte, Nat.reduceAdd, Nat.reduceMul, Nat.reduceSub, Nat.reduceLT, Nat.reduceLeDiff, fx99_0, fx99_1, fx99_2, h12]
              exact hK1 _ ⟨rfl, rfl, rfl, rfl, rfl, rfl, (by first | rfl | (rw [h12]; rfl) | (simp only [h12, Bool.true_and, Bool.false_and, Bool.true_or, Bool.false_or, cond_true, cond_false]; done)), trivial⟩
            ·
             refine xw_id ?_
             refine xw_stop 1 (by (try simp only [go_sem]); rfl) (by (try simp only [go_sem]); rfl) (by rfl) fun K1 hK1 => ?_
             refine xw_id ?_
             try simp only [go_sem, Nat.reduceEqDiff, reduceIte, Nat.reduceAdd, Nat.reduceMul, Nat.reduceSub, Nat.reduceLT, Nat.reduceLeDiff, fx99_0, fx99_1, fx99_2]
             refine hK1 _ ?_; clear hK1 K1
             obtain ⟨x103, hvh13, hl4⟩ := bnd hl4
             refine xw_cut 4 [(0, (.imm (List.flatMap e_Hotspotlaw38_Told a0) a0.length)), (3, (.ptr 0 0)), (4, (.ptr 1 0)), (5, (vi (IntKind.wrap .i64 (d92.2.2.1 + x93.Wait)))), (6, (vi d92.2.2.2)), (136, (vb x103))] (by (try simp only [go_sem]); rfl) (by (try simp only [go_sem]); rfl) (by rfl) (fun K1 hK1 => ?_) fun tz => ?_
             ·
              refine xw_id ?_
              rcases Bool.eq_false_or_eq_true ((x100.1 != x101.1) || (x100.2 != x101.2)) with h13 | h13
              ·
               have hvh13 := cT hvh13 h13
               try simp only [go_sem, Nat.reduceEqDiff, reduceIte, Nat.reduceAdd, Nat.reduceMul, Nat.reduceSub, Nat.reduceLT, Nat.reduceLeDiff, fx99_0, fx99_1, fx99_2, h13]
               obtain rfl := someInj hvh13
               exact hK1 _ ⟨rfl, rfl, rfl, rfl, rfl, rfl, (by first | rfl | (rw [h13]; rfl) | (simp only [h13, Bool.true_and, Bool.false_and, Bool.true_or, Bool.false_or, cond_true, cond_false]; done)), trivial⟩
              ·
               have hvh13 := cF hvh13 h13
               obtain ⟨x102, bx102, hvh13⟩ := bnd hvh13
               try simp only [go_sem, Nat.reduceEqDiff, reduceIte, Nat.reduceAdd, Nat.reduceMul, Nat.reduceSub, Nat.reduceLT, Nat.reduceLeDiff, fx99_0, fx99_1, fx99_2, h13]
               refine xcall_p (metric_Check_p { d98.1 with Links := (d98.1).Links } bx102) ?_; try dsimp only
               try refine xw_id ?_
               try simp only [go_sem, Nat.reduceEqDiff, reduceIte, Nat.reduceAdd, Nat.reduceMul, Nat.reduceSub, Nat.reduceLT, Nat.reduceLeDiff, fx99_0, fx99_1, fx99_2, h13]
               obtain rfl := someInj hvh13
               exact hK1 _ ⟨rfl, rfl, rfl, rfl, rfl, rfl, (by first | rfl | (rw [h13]; rfl) | (simp only [h13, Bool.true_and, Bool.false_and, Bool.true_or, Bool.false_or, cond_true, cond_false]; done)), trivial⟩
             ·
              refine xw_id ?_
              try simp only [go_sem, Nat.reduceEqDiff, reduceIte, Nat.reduceAdd, Nat.reduceMul, Nat.reduceSub, Nat.reduceLT, Nat.reduceLeDiff, fx99_0, fx99_1, fx99_2]
              refine hKK _ _ (Wk.refl _ _ _) ?_; clear hKK KK
              refine awp_cond1 (b := x103) rfl (fun h14 => ?_) (fun h14 => ?_)
              ·
               have hl4 := cT hl4 h14
               refine awp_nr [] (fun _ => rfl) fun tz => ?_
               refine awp_regW fun KK hKK => ?_
               refine xw_id ?_
               try simp only [go_sem, Nat.reduceEqDiff, reduceIte, Nat.reduceAdd, Nat.reduceMul, Nat.reduceSub, Nat.reduceLT, Nat.reduceLeDiff, fx99_0, fx99_1, fx99_2]
               refine hKK _ _ (Wk.refl _ _ _) ?_; clear hKK KK
               refine awp_ret1 ?_
               refine bq_r ?_
               refine sq_r ?_
               refine lq_r ?_
               refine bq_r ?_
               refine sq_r ?_
               obtain rfl := someInj hl4
               obtain rfl := Ex.k_ret h0
               refine endW_i ?_
               refine end_ret0 rs8 (rfl) ?_
               try simp only [go_sem, Nat.reduceEqDiff, reduceIte, Nat.reduceAdd, Nat.reduceMul, Nat.reduceSub, Nat.reduceLT, Nat.reduceLeDiff, fz, nilS, packR, List.take_nil, List.take_length, List.length_map, List.length_append, cond_true, cond_false, Nat.ble_eq, ble_self, List.map_append]
               all_goals rfl
              ·
               have hl4 := cF hl4 h14
               refine awp_skip1 ?_
               refine bq_n ?_
               refine seqW_i ?_
               refine awp_nr1 [0,3,4,5,6] (fun _ => rfl) fun tz => ?_
               refine awp_reg1 fun KK hKK => ?_
               refine xw_id ?_
               try simp only [go_sem, Nat.reduceEqDiff, reduceIte, Nat.reduceAdd, Nat.reduceMul, Nat.reduceSub, Nat.reduceLT, Nat.reduceLeDiff, fx99_0, fx99_1, fx99_2]
               refine hKK _ ?_; clear hKK KK
               refine lq_n ?_
               exact ⟨n3, ({ d98.1 with Links := (d98.1).Links }, { d98.2 with Links := (d98.2).Links }, IntKind.wrap .i64 (d92.2.2.1 + x93.Wait), IntKind.wrap .i64 (d92.2.2.2 + 1)), rfl, hl4, (Wk.canonD [] [] [some 0, some 1] rfl trivial rfl (tmOU 1 (tmOU 0 tmO0 rfl List.not_mem_nil (by simp only [upd_get, Nat.reduceEqDiff, reduceIte, Nat.reduceAdd, Nat.reduceMul, Nat.reduceSub, Nat.reduceLT, Nat.reduceLeDiff, if_true, if_false] <;> rfl) (e_MetricTable_tmx (by rfl) (Tm.clean (Clean.imm (c_MetricLink _))))) rfl List.not_mem_nil (by simp only [upd_get, Nat.reduceEqDiff, reduceIte, Nat.reduceAdd, Nat.reduceMul, Nat.reduceSub, Nat.reduceLT, Nat.reduceLeDiff, if_true, if_false] <;> rfl) (e_MetricTable_tmx (by rfl) (Tm.clean (Clean.imm (c_MetricLink _))))) (tmAllU 6 (tmAllU 5 (tmAllU 4 (tmAllU 3 (tmAllU 0 tmAll0 (Tm.clean (Clean.imm (c_Hotspotlaw38_Told _)))) (Tm.ptr rfl)) (Tm.ptr rfl)) (Tm.v _)) (Tm.v _)))⟩
    ·
     have hl4 := cF hl4 h5
     refine awp_exit ?_
     refine lq_e ?_
     refine bq_e ?_
     refine sq_n ?_
     obtain rfl := someInj hl4
     exact ⟨_, rfl, (Wk.canonD [] [] [] rfl trivial rfl tmO0 tmAll0)⟩
  ·
   rintro d90 rfl
   have h0 := Ex.k_go h0
   clear hi2
   unfold hotspotlaw38_MetricRuns_S0
   refine awp_nr [] (fun _ => rfl) fun tz => ?_
   refine awp_regW fun KK hKK => ?_
   refine xw_id ?_
   try simp only [go_sem, Nat.reduceEqDiff, reduceIte, Nat.reduceAdd, Nat.reduceMul, Nat.reduceSub, Nat.reduceLT, Nat.reduceLeDiff]
   refine hKK _ _ (Wk.refl _ _ _) ?_; clear hKK KK
   refine awp_ret1 ?_
   obtain rfl := someInj h0
   refine endW_i ?_
   refine end_ret0 rs8 (rfl) ?_
   try simp only [go_sem, Nat.reduceEqDiff, reduceIte, Nat.reduceAdd, Nat.reduceMul, Nat.reduceSub, Nat.reduceLT, Nat.reduceLeDiff, fz, nilS, packR, List.take_nil, List.take_length, List.length_map, List.length_append, cond_true, cond_false, Nat.ble_eq, ble_self, List.map_append]
   all_goals rfl

end Go.AX.Z.TM
