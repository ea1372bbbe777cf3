/- A part of the proof: walks through the functions that the statement reaches. -/
import Derived.Test.YtpgmoamobacmbaaPrea
set_option linter.unusedVariables false
set_option linter.unusedSimpArgs false

/-! (TWW slices Index api Addr api Addr) -/

set_option linter.unusedSimpArgs false
set_option linter.unusedVariables false
set_option maxHeartbeats 4000000
set_option maxRecDepth 20000
namespace Go.AX.Z.TW
open Go.AX Go.Proofs
attribute [local irreducible] awp xw xop xcall gsp ob xd xdop xcallD seqQ loopQ blkQ endQ

def slices_Index_api_Addr_api_Addr_S0 (d5 : Unit) : AS :=
 { objs := (fun _ => .dead), next := 0, tmps := (fun _ => .unk) }

def slices_Index_api_Addr_api_Addr_S1 (a1 : A6vu) (a0 : (List A6vu)) (d7 : Int) : AS :=
 { objs := (upd (fun _ => .dead) 0 (.live (e_A6vu a1))), next := 1, tmps := (upd (upd (upd (upd (fun _ => .unk) 0 (.imm (List.flatMap e_A6vu a0) a0.length)) 3 (.ptr 0 0)) 7 (vi (a0.length : Int))) 8 (vi d7)) }

theorem slices_Index_api_Addr_api_Addr_p (a0 : (List A6vu)) (a1 : A6vu) {r : Int} (h0 : slices_Index_api_Addr_api_Addr a0 a1 = some r) : SndP K 42 [(S_A6vu a0), (.agg (e_A6vu a1))] (vi r) := by
 refine SndP.of_walkW hC (Clean.v _) (clean_cons (S_A6vu_clean _) (clean_cons (Clean.agg (e_A6vu_clean _)) clean_nil)) (show K.P.funcs[42]? = some Try.f42 from Try.func42) rfl rfl (by decide +kernel) (Nat.le_of_ble_eq_true rfl) ?_
 unfold slices_Index_api_Addr_api_Addr at h0
 refine awp_nr [0,1] (fun _ => rfl) fun tz => ?_
 refine awp_regW fun KK hKK => ?_
 refine xw_id ?_
 try simp only [go_sem, Nat.reduceEqDiff, reduceIte, Nat.reduceAdd, Nat.reduceMul, Nat.reduceSub, Nat.reduceLT, Nat.reduceLeDiff]
 refine hKK _ _ (Wk.refl _ _ _) ?_; clear hKK KK
 refine awp_assoc ?_
 refine awp_nr [0,3] (fun _ => rfl) fun tz => ?_
 refine awp_regW fun KK hKK => ?_
 refine xw_id ?_
 try simp only [go_sem, Nat.reduceEqDiff, reduceIte, Nat.reduceAdd, Nat.reduceMul, Nat.reduceSub, Nat.reduceLT, Nat.reduceLeDiff, Int.reduceToNat, Int.reduceBEq, Int.reduceBNe, Int.reduceLT, Int.reduceLE, Int.reduceAdd, Int.reduceSub, Int.reduceMul]
 refine hKK _ _ (Wk.refl _ _ _) ?_; clear hKK KK
 obtain ⟨o6, hi1, h0⟩ := bnd h0
 refine awp_cut (fun d5 : Unit => o6 = Ex.go d5) (fun d5 : Unit => slices_Index_api_Addr_api_Addr_S0 d5) ?_ ?_
 ·
  refine awp_block1 ?_
  refine awp_loopS (fun n (d7 : Int) => slices_Index_api_Addr_api_Addr_L2 a0 a1 n d7 = some o6) (fun d7 : Int => slices_Index_api_Addr_api_Addr_S1 a1 a0 d7) big 0 (Wk.canonD [] [] [some 0] rfl trivial rfl (tmOU 0 tmO0 rfl List.not_mem_nil (by simp only [upd_get, ↓iop_and, Nat.reduceEqDiff, reduceIte, if_true, if_false] <;> rfl) (TmL.clean (e_A6vu_clean _))) (tmAllU 8 (tmAllU 7 (tmAllU 3 (tmAllU 0 tmAll0 (Tm.clean (Clean.imm (c_A6vu _)))) (Tm.ptr rfl)) (Tm.v _)) (Tm.v _))) hi1 ?_
  clear hi1
  rintro n d7 hl3
  rcases n with _ | n2
  ·
   (rw [slices_Index_api_Addr_api_Addr_L2] at hl3; cases hl3)
  ·
   rw [slices_Index_api_Addr_api_Addr_L2] at hl3
   unfold slices_Index_api_Addr_api_Addr_S1
   refine awp_nr [0,3,7,8] (fun _ => rfl) fun tz => ?_
   refine awp_regW fun KK hKK => ?_
   refine xw_id ?_
   try simp only [go_sem, Nat.reduceEqDiff, reduceIte, Nat.reduceAdd, Nat.reduceMul, Nat.reduceSub, Nat.reduceLT, Nat.reduceLeDiff]
   refine hKK _ _ (Wk.refl _ _ _) ?_; clear hKK KK
   refine awp_cond (b := (decide (d7 < (a0.length : Int)))) rfl (fun h4 => ?_) (fun h4 => ?_)
   ·
    have hl3 := cT hl3 h4
    refine awp_skip ?_
    refine awp_blockW ?_
    refine awp_nr [0,3,7,8] (fun _ => rfl) fun tz => ?_
    refine awp_regW fun KK hKK => ?_
    refine xw_id ?_
    try simp only [go_sem, Nat.reduceEqDiff, reduceIte, Nat.reduceAdd, Nat.reduceMul, Nat.reduceSub, Nat.reduceLT, Nat.reduceLeDiff]
    refine hKK _ _ (Wk.refl _ _ _) ?_; clear hKK KK
    refine awp_nr [0,3,5,7,8] (fun _ => rfl) fun tz => ?_
    refine awp_regW fun KK hKK => ?_
    refine xw_id ?_
    obtain ⟨x8, bx8, hl3⟩ := bnd hl3
    obtain ⟨fx8_0, fx8_1, fx8_2, fx8_3⟩ := idx_some bx8
    try simp only [go_sem, Nat.reduceEqDiff, reduceIte, Nat.reduceAdd, Nat.reduceMul, Nat.reduceSub, Nat.reduceLT, Nat.reduceLeDiff, fx8_0, fx8_1, fx8_2]
    refine hKK _ _ (Wk.refl _ _ _) ?_; clear hKK KK
    refine awp_cond1 (b := (decide (a1 = x8))) rfl (fun h5 => ?_) (fun h5 => ?_)
    ·
     have hl3 := cT hl3 h5
     refine awp_nr [5] (fun _ => rfl) fun tz => ?_
     refine awp_regW fun KK hKK => ?_
     refine xw_id ?_
     try simp only [go_sem, Nat.reduceEqDiff, reduceIte, Nat.reduceAdd, Nat.reduceMul, Nat.reduceSub, Nat.reduceLT, Nat.reduceLeDiff, fx8_0, fx8_1, fx8_2]
     refine hKK _ _ (Wk.refl _ _ _) ?_; clear hKK KK
     refine awp_ret1 ?_
     refine bq_r ?_
     refine sq_r ?_
     refine lq_r ?_
     refine bq_r ?_
     refine sq_r ?_
     obtain rfl := someInj hl3
     obtain rfl := Ex.k_ret h0
     refine endW_i ?_
     refine end_ret0 rs42 (rfl) ?_
     try simp only [go_sem, Nat.reduceEqDiff, reduceIte, Nat.reduceAdd, Nat.reduceMul, Nat.reduceSub, Nat.reduceLT, Nat.reduceLeDiff, fz, nilS, packR, List.take_nil, List.take_length, List.length_map, List.length_append, cond_true, cond_false, Nat.ble_eq, ble_self]
     all_goals first | rfl | (simp only [go_sem, Nat.reduceEqDiff, reduceIte, Nat.reduceAdd, Nat.reduceMul, Nat.reduceSub, Nat.reduceLT, Nat.reduceLeDiff, fz, nilS, packR, List.take_nil, List.take_length, List.length_map, List.length_append, cond_true, cond_false, Nat.ble_eq, ble_self, List.map_append] <;> rfl)
    ·
     have hl3 := cF hl3 h5
     refine awp_skip1 ?_
     refine bq_n ?_
     refine seqW_i ?_
     refine awp_nr1 [0,3,7,8] (fun _ => rfl) fun tz => ?_
     refine awp_reg1 fun KK hKK => ?_
     refine xw_id ?_
     try simp only [go_sem, Nat.reduceEqDiff, reduceIte, Nat.reduceAdd, Nat.reduceMul, Nat.reduceSub, Nat.reduceLT, Nat.reduceLeDiff, fx8_0, fx8_1, fx8_2]
     refine hKK _ ?_; clear hKK KK
     refine lq_n ?_
     exact ⟨n2, IntKind.wrap .i64 (d7 + 1), rfl, hl3, (Wk.canonD [] [] [some 0] rfl trivial rfl (tmOU 0 tmO0 rfl List.not_mem_nil (by simp only [upd_get, ↓iop_and, Nat.reduceEqDiff, reduceIte, if_true, if_false] <;> rfl) (TmL.clean (e_A6vu_clean _))) (tmAllU 8 (tmAllU 7 (tmAllU 3 (tmAllU 0 tmAll0 (Tm.clean (Clean.imm (c_A6vu _)))) (Tm.ptr rfl)) (Tm.v _)) (Tm.v _)))⟩
   ·
    have hl3 := cF hl3 h4
    refine awp_exit ?_
    refine lq_e ?_
    refine bq_e ?_
    refine sq_n ?_
    obtain rfl := someInj hl3
    exact ⟨_, rfl, (Wk.canonD [] [] [] rfl trivial rfl tmO0 tmAll0)⟩
 ·
  rintro d5 rfl
  have h0 := Ex.k_go h0
  clear hi1
  unfold slices_Index_api_Addr_api_Addr_S0
  refine awp_nr [] (fun _ => rfl) fun tz => ?_
  refine awp_regW fun KK hKK => ?_
  refine xw_id ?_
  try simp only [go_sem, Nat.reduceEqDiff, reduceIte, Nat.reduceAdd, Nat.reduceMul, Nat.reduceSub, Nat.reduceLT, Nat.reduceLeDiff]
  refine hKK _ _ (Wk.refl _ _ _) ?_; clear hKK KK
  refine awp_ret1 ?_
  obtain rfl := someInj h0
  refine endW_i ?_
  refine end_ret0 rs42 (rfl) ?_
  try simp only [go_sem, Nat.reduceEqDiff, reduceIte, Nat.reduceAdd, Nat.reduceMul, Nat.reduceSub, Nat.reduceLT, Nat.reduceLeDiff, fz, nilS, packR, List.take_nil, List.take_length, List.length_map, List.length_append, cond_true, cond_false, Nat.ble_eq, ble_self]
  all_goals first | rfl | (simp only [go_sem, Nat.reduceEqDiff, reduceIte, Nat.reduceAdd, Nat.reduceMul, Nat.reduceSub, Nat.reduceLT, Nat.reduceLeDiff, fz, nilS, packR, List.take_nil, List.take_length, List.length_map, List.length_append, cond_true, cond_false, Nat.ble_eq, ble_self, List.map_append] <;> rfl)

end Go.AX.Z.TW

/-! (TWW slices Contains api Addr api Addr) -/

set_option linter.unusedSimpArgs false
set_option linter.unusedVariables false
set_option maxHeartbeats 4000000
set_option maxRecDepth 20000
namespace Go.AX.Z.TW
open Go.AX Go.Proofs
attribute [local irreducible] awp xw xop xcall gsp ob xd xdop xcallD seqQ loopQ blkQ endQ


theorem slices_Contains_api_Addr_api_Addr_p (a0 : (List A6vu)) (a1 : A6vu) {r : Bool} (h0 : slices_Contains_api_Addr_api_Addr a0 a1 = some r) : SndP K 36 [(S_A6vu a0), (.agg (e_A6vu a1))] (vb r) := by
 refine SndP.of_walkW hC (Clean.v _) (clean_cons (S_A6vu_clean _) (clean_cons (Clean.agg (e_A6vu_clean _)) clean_nil)) (show K.P.funcs[36]? = some Try.f36 from Try.func36) rfl rfl (by decide +kernel) (Nat.le_of_ble_eq_true rfl) ?_
 unfold slices_Contains_api_Addr_api_Addr at h0
 refine awp_nr [0,1] (fun _ => rfl) fun tz => ?_
 refine awp_regW fun KK hKK => ?_
 refine xw_id ?_
 try simp only [go_sem, Nat.reduceEqDiff, reduceIte, Nat.reduceAdd, Nat.reduceMul, Nat.reduceSub, Nat.reduceLT, Nat.reduceLeDiff]
 refine hKK _ _ (Wk.refl _ _ _) ?_; clear hKK KK
 refine awp_nr [0,3] (fun _ => rfl) fun tz => ?_
 refine awp_regW fun KK hKK => ?_
 refine xw_id ?_
 obtain ⟨x5, bx5, h0⟩ := bnd h0
 try simp only [go_sem, Nat.reduceEqDiff, reduceIte, Nat.reduceAdd, Nat.reduceMul, Nat.reduceSub, Nat.reduceLT, Nat.reduceLeDiff]
 refine xcall_p (slices_Index_api_Addr_api_Addr_p a0 a1 bx5) ?_; try dsimp only
 try refine xw_id ?_
 try simp only [go_sem, Nat.reduceEqDiff, reduceIte, Nat.reduceAdd, Nat.reduceMul, Nat.reduceSub, Nat.reduceLT, Nat.reduceLeDiff]
 refine hKK _ _ (Wk.refl _ _ _) ?_; clear hKK KK
 refine awp_ret1 ?_
 obtain rfl := someInj h0
 refine endW_i ?_
 refine end_ret0 rs36 (rfl) ?_
 try simp only [go_sem, Nat.reduceEqDiff, reduceIte, Nat.reduceAdd, Nat.reduceMul, Nat.reduceSub, Nat.reduceLT, Nat.reduceLeDiff, fz, nilS, packR, List.take_nil, List.take_length, List.length_map, List.length_append, cond_true, cond_false, Nat.ble_eq, ble_self]
 all_goals first | rfl | (simp only [go_sem, Nat.reduceEqDiff, reduceIte, Nat.reduceAdd, Nat.reduceMul, Nat.reduceSub, Nat.reduceLT, Nat.reduceLeDiff, fz, nilS, packR, List.take_nil, List.take_length, List.length_map, List.length_append, cond_true, cond_false, Nat.ble_eq, ble_self, List.map_append] <;> rfl)

end Go.AX.Z.TW

/-! (TWW auth CheckDoor) -/

set_option linter.unusedSimpArgs false
set_option linter.unusedVariables false
set_option maxHeartbeats 4000000
set_option maxRecDepth 20000
namespace Go.AX.Z.TW
open Go.AX Go.Proofs
attribute [local irreducible] awp xw xop xcall gsp ob xd xdop xcallD seqQ loopQ blkQ endQ

def auth_CheckDoor_S0 (d2 : Unit) : AS :=
 { objs := (fun _ => .dead), next := 0, tmps := (fun _ => .unk) }

def auth_CheckDoor_S1 (a0 : AuthDoor) (d4 : Int) : AS :=
 { objs := (upd (fun _ => .dead) 0 (.live (e_AuthDoor a0 (.imm (List.flatMap e_A6vu a0.Open) a0.Open.length)))), next := 1, tmps := (upd (upd (upd (upd (fun _ => .unk) 1 (.ptr 0 0)) 10 (.imm (List.flatMap e_A6vu a0.Open) a0.Open.length)) 11 (vi (a0.Open.length : Int))) 12 (vi d4)) }

theorem auth_CheckDoor_p (a0 : AuthDoor) {r : Int} (h0 : auth_CheckDoor a0 = some r) : SndP K 16 [(.agg (E_AuthDoor a0))] (vi r) := by
 refine SndP.of_walkW hC (Clean.v _) (clean_cons (Clean.agg (E_AuthDoor_clean _)) clean_nil) (show K.P.funcs[16]? = some Try.f16 from Try.func16) rfl rfl (by decide +kernel) (Nat.le_of_ble_eq_true rfl) ?_
 unfold auth_CheckDoor at h0
 refine awp_nr [0] (fun _ => rfl) fun tz => ?_
 refine awp_regW fun KK hKK => ?_
 refine xw_id ?_
 try simp only [go_sem, Nat.reduceEqDiff, reduceIte, Nat.reduceAdd, Nat.reduceMul, Nat.reduceSub, Nat.reduceLT, Nat.reduceLeDiff]
 refine hKK _ _ (Wk.refl _ _ _) ?_; clear hKK KK
 refine awp_assoc ?_
 refine awp_nr [1] (fun _ => rfl) fun tz => ?_
 refine awp_regW fun KK hKK => ?_
 refine xw_id ?_
 try simp only [go_sem, Nat.reduceEqDiff, reduceIte, Nat.reduceAdd, Nat.reduceMul, Nat.reduceSub, Nat.reduceLT, Nat.reduceLeDiff, Int.reduceToNat, Int.reduceBEq, Int.reduceBNe, Int.reduceLT, Int.reduceLE, Int.reduceAdd, Int.reduceSub, Int.reduceMul]
 refine hKK _ _ (Wk.refl _ _ _) ?_; clear hKK KK
 refine awp_cond (b := (decide (16 < (a0.Open.length : Int)))) rfl (fun h1 => ?_) (fun h1 => ?_)
 ·
  have h0 := cT h0 h1
  refine awp_assoc ?_
  refine awp_nr [] (fun _ => rfl) fun tz => ?_
  refine awp_regW fun KK hKK => ?_
  refine xw_id ?_
  try simp only [go_sem, Nat.reduceEqDiff, reduceIte, Nat.reduceAdd, Nat.reduceMul, Nat.reduceSub, Nat.reduceLT, Nat.reduceLeDiff]
  refine hKK _ _ (Wk.refl _ _ _) ?_; clear hKK KK
  refine awp_ret ?_
  obtain rfl := someInj h0
  refine endW_i ?_
  refine end_ret0 rs16 (rfl) ?_
  try simp only [go_sem, Nat.reduceEqDiff, reduceIte, Nat.reduceAdd, Nat.reduceMul, Nat.reduceSub, Nat.reduceLT, Nat.reduceLeDiff, fz, nilS, packR, List.take_nil, List.take_length, List.length_map, List.length_append, cond_true, cond_false, Nat.ble_eq, ble_self]
  all_goals first | rfl | (simp only [go_sem, Nat.reduceEqDiff, reduceIte, Nat.reduceAdd, Nat.reduceMul, Nat.reduceSub, Nat.reduceLT, Nat.reduceLeDiff, fz, nilS, packR, List.take_nil, List.take_length, List.length_map, List.length_append, cond_true, cond_false, Nat.ble_eq, ble_self, List.map_append] <;> rfl)
 ·
  have h0 := cF h0 h1
  refine awp_skip ?_
  refine awp_assoc ?_
  refine awp_nr [1] (fun _ => rfl) fun tz => ?_
  refine awp_regW fun KK hKK => ?_
  refine xw_id ?_
  try simp only [go_sem, Nat.reduceEqDiff, reduceIte, Nat.reduceAdd, Nat.reduceMul, Nat.reduceSub, Nat.reduceLT, Nat.reduceLeDiff, Int.reduceToNat, Int.reduceBEq, Int.reduceBNe, Int.reduceLT, Int.reduceLE, Int.reduceAdd, Int.reduceSub, Int.reduceMul]
  refine hKK _ _ (Wk.refl _ _ _) ?_; clear hKK KK
  obtain ⟨o3, hi2, h0⟩ := bnd h0
  refine awp_cut (fun d2 : Unit => o3 = Ex.go d2) (fun d2 : Unit => auth_CheckDoor_S0 d2) ?_ ?_
  ·
   refine awp_block1 ?_
   refine awp_loopS (fun n (d4 : Int) => auth_CheckDoor_L2 a0 n d4 = some o3) (fun d4 : Int => auth_CheckDoor_S1 a0 d4) big 0 (Wk.canonD [] [] [some 0] rfl trivial rfl (tmOU 0 tmO0 rfl List.not_mem_nil (by simp only [upd_get, ↓iop_and, Nat.reduceEqDiff, reduceIte, if_true, if_false] <;> rfl) (e_AuthDoor_tmx (by rfl) (Tm.clean (Clean.imm (c_A6vu _))))) (tmAllU 12 (tmAllU 11 (tmAllU 10 (tmAllU 1 tmAll0 (Tm.ptr rfl)) (Tm.clean (Clean.imm (c_A6vu _)))) (Tm.v _)) (Tm.v _))) hi2 ?_
   clear hi2
   rintro n d4 hl4
   rcases n with _ | n3
   ·
    (rw [auth_CheckDoor_L2] at hl4; cases hl4)
   ·
    rw [auth_CheckDoor_L2] at hl4
    unfold auth_CheckDoor_S1
    refine awp_nr [1,10,11,12] (fun _ => rfl) fun tz => ?_
    refine awp_regW fun KK hKK => ?_
    refine xw_id ?_
    try simp only [go_sem, Nat.reduceEqDiff, reduceIte, Nat.reduceAdd, Nat.reduceMul, Nat.reduceSub, Nat.reduceLT, Nat.reduceLeDiff]
    refine hKK _ _ (Wk.refl _ _ _) ?_; clear hKK KK
    refine awp_cond (b := (decide (d4 < (a0.Open.length : Int)))) rfl (fun h5 => ?_) (fun h5 => ?_)
    ·
     have hl4 := cT hl4 h5
     refine awp_skip ?_
     refine awp_blockW ?_
     refine awp_nr [1,10,11,12] (fun _ => rfl) fun tz => ?_
     refine awp_regW fun KK hKK => ?_
     refine xw_id ?_
     obtain ⟨x5, bx5, hl4⟩ := bnd hl4
     obtain ⟨fx5_0, fx5_1, fx5_2, fx5_3⟩ := idx_some bx5
     try simp only [go_sem, Nat.reduceEqDiff, reduceIte, Nat.reduceAdd, Nat.reduceMul, Nat.reduceSub, Nat.reduceLT, Nat.reduceLeDiff, fx5_0, fx5_1, fx5_2]
     refine hKK _ _ (Wk.refl _ _ _) ?_; clear hKK KK
     refine awp_nr [1,3,4,10,11,12] (fun _ => rfl) fun tz => ?_
     refine awp_regW fun KK hKK => ?_
     refine xw_id ?_
     obtain ⟨x6, bx6, hl4⟩ := bnd hl4
     have bx6 := chk_some bx6
     simp only [Bool.and_eq_true, decide_eq_true_eq] at bx6
     obtain ⟨gx6_0, gx6_1⟩ := bx6
     have g6 : AV.imm (List.flatMap e_A6vu (List.take ((d4).toNat) a0.Open)) (d4).toNat = AV.imm (List.flatMap e_A6vu (List.take ((d4).toNat) a0.Open)) (List.take ((d4).toNat) a0.Open).length := by congr 1; simp only [List.length_take]; omega
     obtain ⟨x7, bx7, hl4⟩ := bnd hl4
     try simp only [go_sem, Nat.reduceEqDiff, reduceIte, Nat.reduceAdd, Nat.reduceMul, Nat.reduceSub, Nat.reduceLT, Nat.reduceLeDiff, Int.reduceToNat, Int.reduceBEq, Int.reduceBNe, Int.reduceLT, Int.reduceLE, Int.reduceAdd, Int.reduceSub, Int.reduceMul, fx5_0, fx5_1, fx5_2, gx6_0, gx6_1, g6, Int.sub_zero]
     refine xcall_p (slices_Contains_api_Addr_api_Addr_p (List.take ((d4).toNat) a0.Open) x5 bx7) ?_; try dsimp only
     try refine xw_id ?_
     try simp only [go_sem, Nat.reduceEqDiff, reduceIte, Nat.reduceAdd, Nat.reduceMul, Nat.reduceSub, Nat.reduceLT, Nat.reduceLeDiff, Int.reduceToNat, Int.reduceBEq, Int.reduceBNe, Int.reduceLT, Int.reduceLE, Int.reduceAdd, Int.reduceSub, Int.reduceMul, fx5_0, fx5_1, fx5_2, gx6_0, gx6_1, g6, Int.sub_zero]
     refine hKK _ _ (Wk.refl _ _ _) ?_; clear hKK KK
     refine awp_cond1 (b := x7) rfl (fun h7 => ?_) (fun h7 => ?_)
     ·
      have hl4 := cT hl4 h7
      refine awp_nr [] (fun _ => rfl) fun tz => ?_
      refine awp_regW fun KK hKK => ?_
      refine xw_id ?_
      try simp only [go_sem, Nat.reduceEqDiff, reduceIte, Nat.reduceAdd, Nat.reduceMul, Nat.reduceSub, Nat.reduceLT, Nat.reduceLeDiff, fx5_0, fx5_1, fx5_2]
      refine hKK _ _ (Wk.refl _ _ _) ?_; clear hKK KK
      refine awp_ret1 ?_
      refine bq_r ?_
      refine sq_r ?_
      refine lq_r ?_
      refine bq_r ?_
      refine sq_r ?_
      obtain rfl := someInj hl4
      obtain rfl := Ex.k_ret h0
      refine endW_i ?_
      refine end_ret0 rs16 (rfl) ?_
      try simp only [go_sem, Nat.reduceEqDiff, reduceIte, Nat.reduceAdd, Nat.reduceMul, Nat.reduceSub, Nat.reduceLT, Nat.reduceLeDiff, fz, nilS, packR, List.take_nil, List.take_length, List.length_map, List.length_append, cond_true, cond_false, Nat.ble_eq, ble_self]
      all_goals first | rfl | (simp only [go_sem, Nat.reduceEqDiff, reduceIte, Nat.reduceAdd, Nat.reduceMul, Nat.reduceSub, Nat.reduceLT, Nat.reduceLeDiff, fz, nilS, packR, List.take_nil, List.take_length, List.length_map, List.length_append, cond_true, cond_false, Nat.ble_eq, ble_self, List.map_append] <;> rfl)
     ·
      have hl4 := cF hl4 h7
      refine awp_skip1 ?_
      refine bq_n ?_
      refine seqW_i ?_
      refine awp_nr1 [1,10,11,12] (fun _ => rfl) fun tz => ?_
      refine awp_reg1 fun KK hKK => ?_
      refine xw_id ?_
      try simp only [go_sem, Nat.reduceEqDiff, reduceIte, Nat.reduceAdd, Nat.reduceMul, Nat.reduceSub, Nat.reduceLT, Nat.reduceLeDiff, fx5_0, fx5_1, fx5_2]
      refine hKK _ ?_; clear hKK KK
      refine lq_n ?_
      exact ⟨n3, IntKind.wrap .i64 (d4 + 1), rfl, hl4, (Wk.canonD [] [] [some 0] rfl trivial rfl (tmOU 0 tmO0 rfl List.not_mem_nil (by simp only [upd_get, ↓iop_and, Nat.reduceEqDiff, reduceIte, if_true, if_false] <;> rfl) (e_AuthDoor_tmx (by rfl) (Tm.clean (Clean.imm (c_A6vu _))))) (tmAllU 12 (tmAllU 11 (tmAllU 10 (tmAllU 1 tmAll0 (Tm.ptr rfl)) (Tm.clean (Clean.imm (c_A6vu _)))) (Tm.v _)) (Tm.v _)))⟩
    ·
     have hl4 := cF hl4 h5
     refine awp_exit ?_
     refine lq_e ?_
     refine bq_e ?_
     refine sq_n ?_
     obtain rfl := someInj hl4
     exact ⟨_, rfl, (Wk.canonD [] [] [] rfl trivial rfl tmO0 tmAll0)⟩
  ·
   rintro d2 rfl
   have h0 := Ex.k_go h0
   clear hi2
   unfold auth_CheckDoor_S0
   refine awp_nr [] (fun _ => rfl) fun tz => ?_
   refine awp_regW fun KK hKK => ?_
   refine xw_id ?_
   try simp only [go_sem, Nat.reduceEqDiff, reduceIte, Nat.reduceAdd, Nat.reduceMul, Nat.reduceSub, Nat.reduceLT, Nat.reduceLeDiff]
   refine hKK _ _ (Wk.refl _ _ _) ?_; clear hKK KK
   refine awp_ret1 ?_
   obtain rfl := someInj h0
   refine endW_i ?_
   refine end_ret0 rs16 (rfl) ?_
   try simp only [go_sem, Nat.reduceEqDiff, reduceIte, Nat.reduceAdd, Nat.reduceMul, Nat.reduceSub, Nat.reduceLT, Nat.reduceLeDiff, fz, nilS, packR, List.take_nil, List.take_length, List.length_map, List.length_append, cond_true, cond_false, Nat.ble_eq, ble_self]
   all_goals first | rfl | (simp only [go_sem, Nat.reduceEqDiff, reduceIte, Nat.reduceAdd, Nat.reduceMul, Nat.reduceSub, Nat.reduceLT, Nat.reduceLeDiff, fz, nilS, packR, List.take_nil, List.take_length, List.length_map, List.length_append, cond_true, cond_false, Nat.ble_eq, ble_self, List.map_append] <;> rfl)

end Go.AX.Z.TW

/-! (TWW derive two) -/

set_option linter.unusedSimpArgs false
set_option linter.unusedVariables false
set_option maxHeartbeats 4000000
set_option maxRecDepth 20000
namespace Go.AX.Z.TW
open Go.AX Go.Proofs
attribute [local irreducible] awp xw xop xcall gsp ob xd xdop xcallD seqQ loopQ blkQ endQ


theorem derive_two_r (a0 : Int) {r : (List Int)} (h0 : derive_two a0 = some r) : SndR K 75 [(vi a0)] (fun q => (.ref (q 0) 0 r.length 1)) [(List.map vu r)] := by
 refine SndR.of_walkW hC (show K.P.funcs[75]? = some Try.f75 from Try.func75) rfl rfl (by decide +kernel) (Nat.le_of_ble_eq_true rfl) ?_
 unfold derive_two at h0
 refine awp_nr [0] (fun _ => rfl) fun tz => ?_
 refine awp_regW fun KK hKK => ?_
 refine xw_id ?_
 try simp only [go_sem, Nat.reduceEqDiff, reduceIte, Nat.reduceAdd, Nat.reduceMul, Nat.reduceSub, Nat.reduceLT, Nat.reduceLeDiff]
 refine hKK _ _ (Wk.refl _ _ _) ?_; clear hKK KK
 refine awp_nr [0] (fun _ => rfl) fun tz => ?_
 refine awp_regW fun KK hKK => ?_
 refine xw_id ?_
 try simp only [go_sem, Nat.reduceEqDiff, reduceIte, Nat.reduceAdd, Nat.reduceMul, Nat.reduceSub, Nat.reduceLT, Nat.reduceLeDiff, Int.reduceToNat, Int.reduceBEq, Int.reduceBNe, Int.reduceLT, Int.reduceLE, Int.reduceAdd, Int.reduceSub, Int.reduceMul]
 refine hKK _ _ (Wk.refl _ _ _) ?_; clear hKK KK
 refine awp_ret1 ?_
 obtain rfl := someInj h0
 refine endW_i ?_
 refine end_ret0 rs75 (rfl) ?_
 refine Res.mk [] [some 6] rfl (resOU List.not_mem_nil (by simp only [upd_get, ↓iop_and, Nat.reduceEqDiff, reduceIte, if_true, if_false] <;> rfl) (TmL.of_eq (by first | rfl | (simp only [List.flatMap_append, List.flatMap_cons, List.flatMap_nil, List.map_append, List.map_cons, List.map_nil, List.append_nil, List.nil_append]; done) | (simp only [List.flatMap_append, List.flatMap_cons, List.flatMap_nil, List.map_append, List.map_cons, List.map_nil, List.append_nil, List.nil_append]; rfl)) (vu_clean _)) resO0) (Tm.refL rfl ?_)
 all_goals (first | rfl | (simp only [List.length_take]; omega) | (simp only [List.length_append, List.length_cons, List.length_nil, List.length_modify, List.length_set, Nat.zero_add]; done) | (simp only [List.length_append, List.length_take, List.length_drop, List.length_cons, List.length_nil, List.length_modify, List.length_set, Nat.zero_add]; omega) | (simp only [List.length_append, List.length_take, List.length_drop, List.length_cons, List.length_nil, List.length_modify, List.length_set, Nat.zero_add]; done) | omega)

theorem derive_two_m (a0 : Int) {r : (List Int)} (h0 : derive_two a0 = some r) : SndM K 75 [(vi a0)] (fun q => (.ref (q 0) 0 r.length 1)) [(List.map vu r)] :=
 fun hs => Snd.of_newM (RenM.ref 0 0 _ _) (rows_all_cons (vu_clean _) rows_all_nil) (clean_cons (Clean.v _) clean_nil) (derive_two_r a0 h0) hs

theorem derive_two_e (a0 : Int) {r : (List Int)} (h0 : derive_two a0 = some r) (fr : Nat) (hs : HS) : SndE K 75 [(vi a0)] hs fr ⟨(fun q : Nat → Nat => (.ref (q 0) 0 r.length 1)) fun _ => fr, .new (List.map vu r)⟩ :=
 SndE.of_res (RenM.ref 0 0 _ _) (vu_clean _) (clean_cons (Clean.v _) clean_nil) (fun a b h => by simp only [h]) (derive_two_r a0 h0) hs fr

theorem derive_two_p (a0 : Int) {r : (List Int)} (h0 : derive_two a0 = some r) : SndP K 75 [(vi a0)] (S_vu r) :=
 SndM.pure (derive_two_m a0 h0) (S_vu_clean _) (clean_cons (Clean.v _) clean_nil) (by simp only [go_sem, newL_n, newL_c, upd_get, fz, nilS, cond_true, cond_false, List.drop_zero, List.take_length, List.length_map, ble_self, Nat.reduceEqDiff, reduceIte, Nat.reduceAdd, Nat.reduceMul, Nat.reduceSub, Nat.reduceLT, Nat.reduceLeDiff] <;> rfl)

end Go.AX.Z.TW

/-! (TWW derive join) -/

set_option linter.unusedSimpArgs false
set_option linter.unusedVariables false
set_option maxHeartbeats 4000000
set_option maxRecDepth 20000
namespace Go.AX.Z.TW
open Go.AX Go.Proofs
attribute [local irreducible] awp xw xop xcall gsp ob xd xdop xcallD seqQ loopQ blkQ endQ

def derive_join_S0 (d23 : (List Int)) : AS :=
 { objs := (upd (fun _ => .dead) 0 (.live (List.map vu d23))), next := 1, tmps := (upd (fun _ => .unk) 2 (.ref 0 0 ((d23).length) 1)) }

def derive_join_S1 (a0 : (List (List Int))) (d24 : (List Int × Int)) : AS :=
 { objs := (upd (fun _ => .dead) 0 (.live (List.map vu d24.1))), next := 1, tmps := (upd (upd (upd (upd (fun _ => .unk) 2 (.ref 0 0 ((d24.1).length) 1)) 5 (.imm (List.map S_vu a0) a0.length)) 6 (vi (a0.length : Int))) 7 (vi d24.2)) }

theorem derive_join_r (a0 : (List (List Int))) {r : (List Int)} (h0 : derive_join a0 = some r) : SndR K 74 [(S_S_vu a0)] (fun q => (.ref (q 0) 0 r.length 1)) [(List.map vu r)] := by
 refine SndR.of_walkW hC (show K.P.funcs[74]? = some Try.f74 from Try.func74) rfl rfl (by decide +kernel) (Nat.le_of_ble_eq_true rfl) ?_
 unfold derive_join at h0
 refine awp_nr [0] (fun _ => rfl) fun tz => ?_
 refine awp_regW fun KK hKK => ?_
 refine xw_id ?_
 try simp only [go_sem, Nat.reduceEqDiff, reduceIte, Nat.reduceAdd, Nat.reduceMul, Nat.reduceSub, Nat.reduceLT, Nat.reduceLeDiff]
 refine hKK _ _ (Wk.refl _ _ _) ?_; clear hKK KK
 refine awp_assoc ?_
 refine awp_nr [0,2] (fun _ => rfl) fun tz => ?_
 refine awp_regW fun KK hKK => ?_
 refine xw_id ?_
 try simp only [go_sem, Nat.reduceEqDiff, reduceIte, Nat.reduceAdd, Nat.reduceMul, Nat.reduceSub, Nat.reduceLT, Nat.reduceLeDiff, Int.reduceToNat, Int.reduceBEq, Int.reduceBNe, Int.reduceLT, Int.reduceLE, Int.reduceAdd, Int.reduceSub, Int.reduceMul]
 refine hKK _ _ (Wk.refl _ _ _) ?_; clear hKK KK
 obtain ⟨d23, hi1, h0⟩ := bnd h0
 refine awp_cut (fun z => d23 = z) (fun d23 : (List Int) => derive_join_S0 d23) ?_ ?_
 ·
  refine awp_block1 ?_
  refine awp_loopS (fun n (d24 : (List Int × Int)) => derive_join_L2 a0 n d24 = some d23) (fun d24 : (List Int × Int) => derive_join_S1 a0 d24) big ([], 0) (Wk.canonD [] [] [none] rfl trivial rfl (tmON 0 tmO0 rfl) (tmAllU 7 (tmAllU 6 (tmAllU 5 (tmAllU 2 tmAll0 (Tm.thaw _ _ _)) (Tm.clean (Clean.imm (cS_vu _)))) (Tm.v _)) (Tm.v _))) hi1 ?_
  clear hi1
  rintro n d24 hl3
  rcases n with _ | n2
  ·
   (rw [derive_join_L2] at hl3; cases hl3)
  ·
   rw [derive_join_L2] at hl3
   unfold derive_join_S1
   refine awp_nr [2,5,6,7] (fun _ => rfl) fun tz => ?_
   refine awp_regW fun KK hKK => ?_
   refine xw_id ?_
   try simp only [go_sem, Nat.reduceEqDiff, reduceIte, Nat.reduceAdd, Nat.reduceMul, Nat.reduceSub, Nat.reduceLT, Nat.reduceLeDiff]
   refine hKK _ _ (Wk.refl _ _ _) ?_; clear hKK KK
   refine awp_cond (b := (decide (d24.2 < (a0.length : Int)))) rfl (fun h4 => ?_) (fun h4 => ?_)
   ·
    have hl3 := cT hl3 h4
    refine awp_skip ?_
    refine awp_blockW ?_
    refine awp_nr [2,5,6,7] (fun _ => rfl) fun tz => ?_
    refine awp_regW fun KK hKK => ?_
    refine xw_id ?_
    obtain ⟨x25, bx25, hl3⟩ := bnd hl3
    obtain ⟨fx25_0, fx25_1, fx25_2, fx25_3⟩ := idx_some bx25
    have fx25_9 : (List.map S_vu a0)[(d24.2).toNat]? = some (S_vu x25) := by rw [List.getElem?_map, fx25_2]; rfl
    try simp only [go_sem, Nat.reduceEqDiff, reduceIte, Nat.reduceAdd, Nat.reduceMul, Nat.reduceSub, Nat.reduceLT, Nat.reduceLeDiff, fx25_0, fx25_1, fx25_2, fx25_9]
    refine hKK _ _ (Wk.refl _ _ _) ?_; clear hKK KK
    refine awp_nr1 [2,4,5,6,7] (fun _ => rfl) fun tz => ?_
    refine awp_reg1 fun KK hKK => ?_
    refine xw_id ?_
    obtain ⟨x26, bx26, hl3⟩ := bnd hl3
    have bx26 := chk_some bx26
    simp only [Bool.and_eq_true, decide_eq_true_eq] at bx26
    have gx26_0 := bx26
    try simp only [go_sem, Nat.reduceEqDiff, reduceIte, Nat.reduceAdd, Nat.reduceMul, Nat.reduceSub, Nat.reduceLT, Nat.reduceLeDiff, Int.reduceToNat, Int.reduceBEq, Int.reduceBNe, Int.reduceLT, Int.reduceLE, Int.reduceAdd, Int.reduceSub, Int.reduceMul, fx25_0, fx25_1, fx25_2, fx25_9, gx26_0]
    refine hKK _ ?_; clear hKK KK
    refine bq_n ?_
    refine seqW_i ?_
    refine awp_nr1 [2,5,6,7] (fun _ => rfl) fun tz => ?_
    refine awp_reg1 fun KK hKK => ?_
    refine xw_id ?_
    try simp only [go_sem, Nat.reduceEqDiff, reduceIte, Nat.reduceAdd, Nat.reduceMul, Nat.reduceSub, Nat.reduceLT, Nat.reduceLeDiff, fx25_0, fx25_1, fx25_2, fx25_9]
    refine hKK _ ?_; clear hKK KK
    refine lq_n ?_
    exact ⟨n2, ((d24.1 ++ x25), IntKind.wrap .i64 (d24.2 + 1)), rfl, hl3, (by refine Wk.canonD [] [] [some 7] rfl trivial rfl (tmOU 0 tmO0 rfl List.not_mem_nil (by simp only [upd_get, ↓iop_and, Nat.reduceEqDiff, reduceIte, if_true, if_false] <;> rfl) (TmL.of_eq (by first | rfl | (simp only [List.flatMap_append, List.flatMap_cons, List.flatMap_nil, List.map_append, List.map_cons, List.map_nil, List.append_nil, List.nil_append]; done) | (simp only [List.flatMap_append, List.flatMap_cons, List.flatMap_nil, List.map_append, List.map_cons, List.map_nil, List.append_nil, List.nil_append]; rfl)) (vu_clean _))) (tmAllU 7 (tmAllU 6 (tmAllU 5 (tmAllU 2 tmAll0 (Tm.refL rfl ?_)) (Tm.clean (Clean.imm (cS_vu _)))) (Tm.v _)) (Tm.v _)); all_goals (first | rfl | (simp only [List.length_take]; omega) | (simp only [List.length_append, List.length_cons, List.length_nil, List.length_modify, List.length_set, Nat.zero_add]; done) | (simp only [List.length_append, List.length_take, List.length_drop, List.length_cons, List.length_nil, List.length_modify, List.length_set, Nat.zero_add]; omega) | (simp only [List.length_append, List.length_take, List.length_drop, List.length_cons, List.length_nil, List.length_modify, List.length_set, Nat.zero_add]; done) | omega))⟩
   ·
    have hl3 := cF hl3 h4
    refine awp_exit ?_
    refine lq_e ?_
    refine bq_e ?_
    refine sq_n ?_
    obtain rfl := someInj hl3
    exact ⟨_, rfl, (by refine Wk.canonD [] [] [some 0] rfl trivial rfl (tmOU 0 tmO0 rfl List.not_mem_nil (by simp only [upd_get, ↓iop_and, Nat.reduceEqDiff, reduceIte, if_true, if_false] <;> rfl) (TmL.of_eq (by first | rfl | (simp only [List.flatMap_append, List.flatMap_cons, List.flatMap_nil, List.map_append, List.map_cons, List.map_nil, List.append_nil, List.nil_append]; done) | (simp only [List.flatMap_append, List.flatMap_cons, List.flatMap_nil, List.map_append, List.map_cons, List.map_nil, List.append_nil, List.nil_append]; rfl)) (vu_clean _))) (tmAllU 2 tmAll0 (Tm.refL rfl ?_)); all_goals (first | rfl | (simp only [List.length_take]; omega) | (simp only [List.length_append, List.length_cons, List.length_nil, List.length_modify, List.length_set, Nat.zero_add]; done) | (simp only [List.length_append, List.length_take, List.length_drop, List.length_cons, List.length_nil, List.length_modify, List.length_set, Nat.zero_add]; omega) | (simp only [List.length_append, List.length_take, List.length_drop, List.length_cons, List.length_nil, List.length_modify, List.length_set, Nat.zero_add]; done) | omega))⟩
 ·
  rintro _ rfl
  clear hi1
  unfold derive_join_S0
  refine awp_nr [2] (fun _ => rfl) fun tz => ?_
  refine awp_regW fun KK hKK => ?_
  refine xw_id ?_
  try simp only [go_sem, Nat.reduceEqDiff, reduceIte, Nat.reduceAdd, Nat.reduceMul, Nat.reduceSub, Nat.reduceLT, Nat.reduceLeDiff]
  refine hKK _ _ (Wk.refl _ _ _) ?_; clear hKK KK
  refine awp_ret1 ?_
  obtain rfl := someInj h0
  refine endW_i ?_
  refine end_ret0 rs74 (rfl) ?_
  refine Res.mk [] [some 0] rfl (resOU List.not_mem_nil (by simp only [upd_get, ↓iop_and, Nat.reduceEqDiff, reduceIte, if_true, if_false] <;> rfl) (TmL.of_eq (by first | rfl | (simp only [List.flatMap_append, List.flatMap_cons, List.flatMap_nil, List.map_append, List.map_cons, List.map_nil, List.append_nil, List.nil_append]; done) | (simp only [List.flatMap_append, List.flatMap_cons, List.flatMap_nil, List.map_append, List.map_cons, List.map_nil, List.append_nil, List.nil_append]; rfl)) (vu_clean _)) resO0) (Tm.refL rfl ?_)
  all_goals (first | rfl | (simp only [List.length_take]; omega) | (simp only [List.length_append, List.length_cons, List.length_nil, List.length_modify, List.length_set, Nat.zero_add]; done) | (simp only [List.length_append, List.length_take, List.length_drop, List.length_cons, List.length_nil, List.length_modify, List.length_set, Nat.zero_add]; omega) | (simp only [List.length_append, List.length_take, List.length_drop, List.length_cons, List.length_nil, List.length_modify, List.length_set, Nat.zero_add]; done) | omega)

theorem derive_join_m (a0 : (List (List Int))) {r : (List Int)} (h0 : derive_join a0 = some r) : SndM K 74 [(S_S_vu a0)] (fun q => (.ref (q 0) 0 r.length 1)) [(List.map vu r)] :=
 fun hs => Snd.of_newM (RenM.ref 0 0 _ _) (rows_all_cons (vu_clean _) rows_all_nil) (clean_cons (S_S_vu_clean _) clean_nil) (derive_join_r a0 h0) hs

theorem derive_join_e (a0 : (List (List Int))) {r : (List Int)} (h0 : derive_join a0 = some r) (fr : Nat) (hs : HS) : SndE K 74 [(S_S_vu a0)] hs fr ⟨(fun q : Nat → Nat => (.ref (q 0) 0 r.length 1)) fun _ => fr, .new (List.map vu r)⟩ :=
 SndE.of_res (RenM.ref 0 0 _ _) (vu_clean _) (clean_cons (S_S_vu_clean _) clean_nil) (fun a b h => by simp only [h]) (derive_join_r a0 h0) hs fr

theorem derive_join_p (a0 : (List (List Int))) {r : (List Int)} (h0 : derive_join a0 = some r) : SndP K 74 [(S_S_vu a0)] (S_vu r) :=
 SndM.pure (derive_join_m a0 h0) (S_vu_clean _) (clean_cons (S_S_vu_clean _) clean_nil) (by simp only [go_sem, newL_n, newL_c, upd_get, fz, nilS, cond_true, cond_false, List.drop_zero, List.take_length, List.length_map, ble_self, Nat.reduceEqDiff, reduceIte, Nat.reduceAdd, Nat.reduceMul, Nat.reduceSub, Nat.reduceLT, Nat.reduceLeDiff] <;> rfl)

end Go.AX.Z.TW

/-! (TWW derive Input) -/

set_option linter.unusedSimpArgs false
set_option linter.unusedVariables false
set_option maxHeartbeats 4000000
set_option maxRecDepth 20000
namespace Go.AX.Z.TW
open Go.AX Go.Proofs
attribute [local irreducible] awp xw xop xcall gsp ob xd xdop xcallD seqQ loopQ blkQ endQ

def derive_Input_S0 (x23 : (List Int)) : AS :=
 { objs := (upd (fun _ => .dead) 0 (.live (List.map vu x23))), next := 1, tmps := (upd (fun _ => .unk) 6 (.ref 0 0 x23.length 1)) }

theorem derive_Input_r (a0 : (List Int)) (a1 : Int) {r : (List Int)} (h0 : derive_Input a0 a1 = some r) : SndR K 65 [(.v (.string ⟨#[116, 111, 107, 101, 110]⟩)), (S_vu a0), (vi a1)] (fun q => (.ref (q 0) 0 r.length 1)) [(List.map vu r)] := by
 refine SndR.of_walkW hC (show K.P.funcs[65]? = some Try.f65 from Try.func65) rfl rfl (by decide +kernel) (Nat.le_of_ble_eq_true rfl) ?_
 unfold derive_Input at h0
 refine awp_nr [0,1,2] (fun _ => rfl) fun tz => ?_
 refine awp_regW fun KK hKK => ?_
 refine xw_id ?_
 try simp only [go_sem, Nat.reduceEqDiff, reduceIte, Nat.reduceAdd, Nat.reduceMul, Nat.reduceSub, Nat.reduceLT, Nat.reduceLeDiff]
 refine hKK _ _ (Wk.refl _ _ _) ?_; clear hKK KK
 refine awp_nr [0,1,2] (fun _ => rfl) fun tz => ?_
 refine awp_regW fun KK hKK => ?_
 refine xw_id ?_
 have gs1 : (⟨#[116, 111, 107, 101, 110]⟩ : ByteArray).size = 5 := by rfl
 have gs2 : sbE K.P 9 29 (.v (.string ⟨#[116, 111, 107, 101, 110]⟩)) = some (.imm (List.map vu [116, 111, 107, 101, 110]) 5) := by kernel_rfl
 obtain ⟨x21, bx21, h0⟩ := bnd h0
 try simp only [go_sem, Nat.reduceEqDiff, reduceIte, Nat.reduceAdd, Nat.reduceMul, Nat.reduceSub, Nat.reduceLT, Nat.reduceLeDiff, Int.reduceToNat, Int.reduceBEq, Int.reduceBNe, Int.reduceLT, Int.reduceLE, Int.reduceAdd, Int.reduceSub, Int.reduceMul, gs1, gs2]
 refine xcall_M (derive_two_m (a0.length : Int) bx21) ?_; try dsimp only
 try refine xw_id ?_
 obtain ⟨x22, bx22, h0⟩ := bnd h0
 try simp only [go_sem, Nat.reduceEqDiff, reduceIte, Nat.reduceAdd, Nat.reduceMul, Nat.reduceSub, Nat.reduceLT, Nat.reduceLeDiff, Int.reduceToNat, Int.reduceBEq, Int.reduceBNe, Int.reduceLT, Int.reduceLE, Int.reduceAdd, Int.reduceSub, Int.reduceMul, gs1, gs2]
 refine xcall_M (derive_two_m a1 bx22) ?_; try dsimp only
 try refine xw_id ?_
 obtain ⟨x23, bx23, h0⟩ := bnd h0
 try simp only [go_sem, Nat.reduceEqDiff, reduceIte, Nat.reduceAdd, Nat.reduceMul, Nat.reduceSub, Nat.reduceLT, Nat.reduceLeDiff, Int.reduceToNat, Int.reduceBEq, Int.reduceBNe, Int.reduceLT, Int.reduceLE, Int.reduceAdd, Int.reduceSub, Int.reduceMul, gs1, gs2]
 refine xcall_ML (by first | (simp only [go_sem, fz, nilS, cond_true, cond_false, Nat.reduceEqDiff, reduceIte, Nat.reduceAdd, Nat.reduceMul, Nat.reduceSub, Nat.reduceLT, Nat.reduceLeDiff, gs1, gs2]; done) | (simp only [go_sem, fz, nilS, cond_true, cond_false, Nat.reduceEqDiff, reduceIte, Nat.reduceAdd, Nat.reduceMul, Nat.reduceSub, Nat.reduceLT, Nat.reduceLeDiff, gs1, gs2]; rfl) | (simp only [go_sem, fz, List.length_set, ble_self, take_set, cond_true, cond_false, Nat.reduceEqDiff, reduceIte, Nat.reduceAdd, Nat.reduceMul, Nat.reduceSub, Nat.reduceLT, Nat.reduceLeDiff, gs1, gs2]; done) | (simp only [go_sem, fz, List.length_set, ble_self, take_set, cond_true, cond_false, Nat.reduceEqDiff, reduceIte, Nat.reduceAdd, Nat.reduceMul, Nat.reduceSub, Nat.reduceLT, Nat.reduceLeDiff, gs1, gs2]; rfl)) (derive_join_m [[IntKind.wrap .u8 5], [116, 111, 107, 101, 110], x21, a0, x22] bx23) (fun _ => by repeat' (first | exact NoV.v _ | exact NoV.ref _ _ _ _ | exact NoV.onil | refine NoV.ocons ?_ ?_ | exact NoV.nil | refine NoV.tup ?_ | refine NoV.agg ?_ | refine NoV.rows (fun _ => ?_) _ | refine NoV.maps (fun _ => ?_) _ | refine NoV.cons ?_ ?_)) (by repeat' (first | exact NoV.v _ | exact NoV.ref _ _ _ _ | exact NoV.onil | refine NoV.ocons ?_ ?_ | exact NoV.nil | refine NoV.tup ?_ | refine NoV.agg ?_ | refine NoV.rows (fun _ => ?_) _ | refine NoV.maps (fun _ => ?_) _ | refine NoV.cons ?_ ?_)) ?_; try dsimp only
 try refine xw_id ?_
 try simp only [go_sem, Nat.reduceEqDiff, reduceIte, Nat.reduceAdd, Nat.reduceMul, Nat.reduceSub, Nat.reduceLT, Nat.reduceLeDiff, Int.reduceToNat, Int.reduceBEq, Int.reduceBNe, Int.reduceLT, Int.reduceLE, Int.reduceAdd, Int.reduceSub, Int.reduceMul, gs1, gs2]
 refine hKK _ (derive_Input_S0 x23) (by refine Wk.canonD [] [] [some 18] rfl trivial rfl (tmOU 0 tmO0 rfl List.not_mem_nil (by simp only [upd_get, ↓iop_and, Nat.reduceEqDiff, reduceIte, if_true, if_false] <;> rfl) (TmL.of_eq (by first | rfl | (simp only [List.flatMap_append, List.flatMap_cons, List.flatMap_nil, List.map_append, List.map_cons, List.map_nil, List.append_nil, List.nil_append]; done) | (simp only [List.flatMap_append, List.flatMap_cons, List.flatMap_nil, List.map_append, List.map_cons, List.map_nil, List.append_nil, List.nil_append]; rfl)) (vu_clean _))) (tmAllU 6 tmAll0 (Tm.refL rfl ?_)); all_goals (first | rfl | (simp only [List.length_take]; omega) | (simp only [List.length_append, List.length_cons, List.length_nil, List.length_modify, List.length_set, Nat.zero_add]; done) | (simp only [List.length_append, List.length_take, List.length_drop, List.length_cons, List.length_nil, List.length_modify, List.length_set, Nat.zero_add]; omega) | (simp only [List.length_append, List.length_take, List.length_drop, List.length_cons, List.length_nil, List.length_modify, List.length_set, Nat.zero_add]; done) | omega)) ?_; clear hKK KK
 unfold derive_Input_S0
 refine awp_ret1 ?_
 obtain rfl := someInj h0
 refine endW_i ?_
 refine end_ret0 rs65 (rfl) ?_
 refine Res.mk [] [some 0] rfl (resOU List.not_mem_nil (by simp only [upd_get, ↓iop_and, Nat.reduceEqDiff, reduceIte, if_true, if_false] <;> rfl) (TmL.of_eq (by first | rfl | (simp only [List.flatMap_append, List.flatMap_cons, List.flatMap_nil, List.map_append, List.map_cons, List.map_nil, List.append_nil, List.nil_append]; done) | (simp only [List.flatMap_append, List.flatMap_cons, List.flatMap_nil, List.map_append, List.map_cons, List.map_nil, List.append_nil, List.nil_append]; rfl)) (vu_clean _)) resO0) (Tm.refL rfl ?_)
 all_goals (first | rfl | (simp only [List.length_take]; omega) | (simp only [List.length_append, List.length_cons, List.length_nil, List.length_modify, List.length_set, Nat.zero_add]; done) | (simp only [List.length_append, List.length_take, List.length_drop, List.length_cons, List.length_nil, List.length_modify, List.length_set, Nat.zero_add]; omega) | (simp only [List.length_append, List.length_take, List.length_drop, List.length_cons, List.length_nil, List.length_modify, List.length_set, Nat.zero_add]; done) | omega)

theorem derive_Input_m (a0 : (List Int)) (a1 : Int) {r : (List Int)} (h0 : derive_Input a0 a1 = some r) : SndM K 65 [(.v (.string ⟨#[116, 111, 107, 101, 110]⟩)), (S_vu a0), (vi a1)] (fun q => (.ref (q 0) 0 r.length 1)) [(List.map vu r)] :=
 fun hs => Snd.of_newM (RenM.ref 0 0 _ _) (rows_all_cons (vu_clean _) rows_all_nil) (clean_cons (Clean.v _) (clean_cons (S_vu_clean _) (clean_cons (Clean.v _) clean_nil))) (derive_Input_r a0 a1 h0) hs

theorem derive_Input_e (a0 : (List Int)) (a1 : Int) {r : (List Int)} (h0 : derive_Input a0 a1 = some r) (fr : Nat) (hs : HS) : SndE K 65 [(.v (.string ⟨#[116, 111, 107, 101, 110]⟩)), (S_vu a0), (vi a1)] hs fr ⟨(fun q : Nat → Nat => (.ref (q 0) 0 r.length 1)) fun _ => fr, .new (List.map vu r)⟩ :=
 SndE.of_res (RenM.ref 0 0 _ _) (vu_clean _) (clean_cons (Clean.v _) (clean_cons (S_vu_clean _) (clean_cons (Clean.v _) clean_nil))) (fun a b h => by simp only [h]) (derive_Input_r a0 a1 h0) hs fr

theorem derive_Input_p (a0 : (List Int)) (a1 : Int) {r : (List Int)} (h0 : derive_Input a0 a1 = some r) : SndP K 65 [(.v (.string ⟨#[116, 111, 107, 101, 110]⟩)), (S_vu a0), (vi a1)] (S_vu r) :=
 SndM.pure (derive_Input_m a0 a1 h0) (S_vu_clean _) (clean_cons (Clean.v _) (clean_cons (S_vu_clean _) (clean_cons (Clean.v _) clean_nil))) (by simp only [go_sem, newL_n, newL_c, upd_get, fz, nilS, cond_true, cond_false, List.drop_zero, List.take_length, List.length_map, ble_self, Nat.reduceEqDiff, reduceIte, Nat.reduceAdd, Nat.reduceMul, Nat.reduceSub, Nat.reduceLT, Nat.reduceLeDiff] <;> rfl)

end Go.AX.Z.TW

/-! (TWW cipher Words) -/

set_option linter.unusedSimpArgs false
set_option linter.unusedVariables false
set_option maxHeartbeats 4000000
set_option maxRecDepth 20000
namespace Go.AX.Z.TW
open Go.AX Go.Proofs
attribute [local irreducible] awp xw xop xcall gsp ob xd xdop xcallD seqQ loopQ blkQ endQ

def cipher_Words_S0 (d29 : A4vw) : AS :=
 { objs := (upd (fun _ => .dead) 0 (.live (e_A4vw d29))), next := 1, tmps := (upd (fun _ => .unk) 2 (.ptr 0 0)) }

def cipher_Words_S1 (a0 : A16vu) (d30 : (A4vw × Int)) : AS :=
 { objs := (upd (fun _ => .dead) 0 (.live (e_A4vw d30.1))), next := 1, tmps := (upd (upd (upd (fun _ => .unk) 2 (.ptr 0 0)) 5 (.agg (e_A16vu a0))) 6 (vi d30.2)) }

theorem cipher_Words_p (a0 : A16vu) {r : A4vw} (h0 : cipher_Words a0 = some r) : SndP K 82 [(.agg (e_A16vu a0))] (.agg (e_A4vw r)) := by
 refine SndP.of_walkW hC (Clean.agg (e_A4vw_clean _)) (clean_cons (Clean.agg (e_A16vu_clean _)) clean_nil) (show K.P.funcs[82]? = some Try.f82 from Try.func82) rfl rfl (by decide +kernel) (Nat.le_of_ble_eq_true rfl) ?_
 unfold cipher_Words at h0
 refine awp_nr [0] (fun _ => rfl) fun tz => ?_
 refine awp_regW fun KK hKK => ?_
 refine xw_id ?_
 try simp only [go_sem, ↓iop_and, ↓iop_or, ↓iop_xor, ↓iop_andn, Nat.reduceEqDiff, reduceIte, Nat.reduceAdd, Nat.reduceMul, Nat.reduceSub, Nat.reduceLT, Nat.reduceLeDiff]
 refine hKK _ _ (Wk.refl _ _ _) ?_; clear hKK KK
 refine awp_assoc ?_
 refine awp_nr [1,2] (fun _ => rfl) fun tz => ?_
 refine awp_regW fun KK hKK => ?_
 refine xw_id ?_
 try simp only [go_sem, ↓iop_and, ↓iop_or, ↓iop_xor, ↓iop_andn, Nat.reduceEqDiff, reduceIte, Nat.reduceAdd, Nat.reduceMul, Nat.reduceSub, Nat.reduceLT, Nat.reduceLeDiff]
 refine hKK _ _ (Wk.refl _ _ _) ?_; clear hKK KK
 obtain ⟨d29, hi1, h0⟩ := bnd h0
 refine awp_cut (fun z => d29 = z) (fun d29 : A4vw => cipher_Words_S0 d29) ?_ ?_
 ·
  refine awp_block1 ?_
  refine awp_loopS (fun n (d30 : (A4vw × Int)) => cipher_Words_L2 a0 n d30 = some d29) (fun d30 : (A4vw × Int) => cipher_Words_S1 a0 d30) big (A4vw.z, 0) (Wk.canonD [] [] [some 1] rfl trivial rfl (tmOU 0 tmO0 rfl List.not_mem_nil (by simp only [upd_get, ↓iop_and, ↓iop_or, ↓iop_xor, ↓iop_andn, Nat.reduceEqDiff, reduceIte, Nat.reduceAdd, Nat.reduceMul, Nat.reduceSub, Nat.reduceLT, Nat.reduceLeDiff, if_true, if_false] <;> rfl) (TmL.clean (e_A4vw_clean _))) (tmAllU 6 (tmAllU 5 (tmAllU 2 tmAll0 (Tm.ptr rfl)) (Tm.clean (Clean.agg (e_A16vu_clean _)))) (Tm.v _))) hi1 ?_
  clear hi1
  rintro n d30 hl3
  rcases n with _ | n2
  ·
   (rw [cipher_Words_L2] at hl3; cases hl3)
  ·
   rw [cipher_Words_L2] at hl3
   unfold cipher_Words_S1
   refine awp_nr [2,5,6] (fun _ => rfl) fun tz => ?_
   refine awp_regW fun KK hKK => ?_
   refine xw_id ?_
   try simp only [go_sem, ↓iop_and, ↓iop_or, ↓iop_xor, ↓iop_andn, Nat.reduceEqDiff, reduceIte, Nat.reduceAdd, Nat.reduceMul, Nat.reduceSub, Nat.reduceLT, Nat.reduceLeDiff]
   refine hKK _ _ (Wk.refl _ _ _) ?_; clear hKK KK
   refine awp_cond (b := (decide (d30.2 < 16))) rfl (fun h4 => ?_) (fun h4 => ?_)
   ·
    have hl3 := cT hl3 h4
    refine awp_skip ?_
    refine awp_blockW ?_
    refine awp_nr [2,5,6] (fun _ => rfl) fun tz => ?_
    refine awp_regW fun KK hKK => ?_
    refine xw_id ?_
    obtain ⟨x31, bx31, hl3⟩ := bnd hl3
    obtain ⟨fx31_0, fx31_1, fx31_2, fx31_3⟩ := idxA_some bx31
    have fx31_6 : (e_A16vu a0)[(d30.2).toNat]? = some (vu x31) := by show (List.map vu [a0.a0, a0.a1, a0.a2, a0.a3, a0.a4, a0.a5, a0.a6, a0.a7, a0.a8, a0.a9, a0.a10, a0.a11, a0.a12, a0.a13, a0.a14, a0.a15])[(d30.2).toNat]? = _; rw [List.getElem?_map, fx31_2]; rfl
    try simp only [go_sem, ↓iop_and, ↓iop_or, ↓iop_xor, ↓iop_andn, Nat.reduceEqDiff, reduceIte, Nat.reduceAdd, Nat.reduceMul, Nat.reduceSub, Nat.reduceLT, Nat.reduceLeDiff, Int.reduceToNat, Int.reduceBEq, Int.reduceBNe, Int.reduceLT, Int.reduceLE, Int.reduceAdd, Int.reduceSub, Int.reduceMul, Int.reduceNeg, Int.reduceEq, Int.reduceNe, fx31_0, fx31_1, fx31_6]
    refine hKK _ _ (Wk.refl _ _ _) ?_; clear hKK KK
    refine awp_nr1 [2,3,4,5,6] (fun _ => rfl) fun tz => ?_
    refine awp_regD1 fun KK hKK all hall => ?_
    refine xd_id ?_
    try simp only [List.toList_toArray, List.map_cons, List.map_nil, List.size_toArray, List.length_cons, List.length_nil, Nat.zero_add]
    try simp only [Nat.reduceAdd]
    obtain ⟨x32, bx32, hl3⟩ := bnd hl3
    obtain ⟨fx32_0, fx32_1, fx32_2, fx32_3⟩ := idxA_some bx32
    have fx32_6 : (e_A4vw d30.1)[(IntKind.wrap .i64 ((d30.2).tdiv 4)).toNat]? = some (vw x32) := by show (List.map vw [d30.1.a0, d30.1.a1, d30.1.a2, d30.1.a3])[(IntKind.wrap .i64 ((d30.2).tdiv 4)).toNat]? = _; rw [List.getElem?_map, fx32_2]; rfl
    obtain ⟨x33, bx33, hl3⟩ := bnd hl3
    have bx33 := chk_some bx33
    simp only [Bool.and_eq_true, decide_eq_true_eq] at bx33
    have gx33_0 := bx33
    have gs5b : (IntKind.wrap .i64 ((d30.2).tdiv 4)).toNat < 4 := by have h0 := of_eq_true fx32_0; have h1 := of_eq_true fx32_1; omega
    have gs5 : (e_A4vw d30.1).set ((IntKind.wrap .i64 ((d30.2).tdiv 4)).toNat) (vw (bor .u32 x32 (IntKind.wrap .u32 ((IntKind.wrap .u32 x31) * 2 ^ (min ((IntKind.wrap .i64 (((d30.2).tmod 4) * 8))).toNat 32))))) = e_A4vw (d30.1.setA ((IntKind.wrap .i64 ((d30.2).tdiv 4)).toNat) (bor .u32 x32 (IntKind.wrap .u32 ((IntKind.wrap .u32 x31) * 2 ^ (min ((IntKind.wrap .i64 (((d30.2).tmod 4) * 8))).toNat 32))))) := e_A4vw_setA _ _ gs5b
    have gs5l : ((IntKind.wrap .i64 ((d30.2).tdiv 4)).toNat + 1 ≤ 4) = True := eq_true (by omega)
    simp only [go_sem, ↓iop_and, ↓iop_or, ↓iop_xor, ↓iop_andn, Nat.reduceEqDiff, reduceIte, Nat.reduceMul, Nat.reduceSub, Nat.reduceLT, Nat.reduceLeDiff, Int.reduceToNat, Int.reduceBEq, Int.reduceBNe, Int.reduceLT, Int.reduceLE, Int.reduceAdd, Int.reduceSub, Int.reduceMul, Int.reduceNeg, Int.reduceEq, Int.reduceNe, fx31_0, fx31_1, fx31_6, fx32_0, fx32_1, fx32_6, gx33_0, gs5, gs5l]
    try simp only [Nat.reduceAdd]
    try simp only [go_sem, ↓iop_and, ↓iop_or, ↓iop_xor, ↓iop_andn, Nat.reduceEqDiff, reduceIte, Nat.reduceMul, Nat.reduceSub, Nat.reduceLT, Nat.reduceLeDiff, Int.reduceToNat, Int.reduceBEq, Int.reduceBNe, Int.reduceLT, Int.reduceLE, Int.reduceAdd, Int.reduceSub, Int.reduceMul, Int.reduceNeg, Int.reduceEq, Int.reduceNe, fx31_0, fx31_1, fx31_6, fx32_0, fx32_1, fx32_6, gx33_0, gs5, gs5l]
    try simp only [Nat.reduceAdd]
    try simp only [go_sem, ↓iop_and, ↓iop_or, ↓iop_xor, ↓iop_andn, Nat.reduceEqDiff, reduceIte, Nat.reduceMul, Nat.reduceSub, Nat.reduceLT, Nat.reduceLeDiff, Int.reduceToNat, Int.reduceBEq, Int.reduceBNe, Int.reduceLT, Int.reduceLE, Int.reduceAdd, Int.reduceSub, Int.reduceMul, Int.reduceNeg, Int.reduceEq, Int.reduceNe, fx31_0, fx31_1, fx31_6, fx32_0, fx32_1, fx32_6, gx33_0, gs5, gs5l]
    refine And.intro ?_ (hKK _ ?_)
    ·
     subst hall
     clear hKK KK
     first | decide +kernel | (simp [printsOk, apartP, clash, meet]; done) | (simp [printsOk, apartP, clash, meet]; decide +kernel) | (simp [printsOk, apartP, clash, meet]; repeat (first | exact Or.inr (by decide +kernel) | (refine And.intro (Or.inr (by decide +kernel)) ?_)))
    ·
     clear hKK KK hall all
     refine bq_n ?_
     refine seqW_i ?_
     refine awp_nr1 [2,5,6] (fun _ => rfl) fun tz => ?_
     refine awp_reg1 fun KK hKK => ?_
     refine xw_id ?_
     try simp only [go_sem, ↓iop_and, ↓iop_or, ↓iop_xor, ↓iop_andn, Nat.reduceEqDiff, reduceIte, Nat.reduceAdd, Nat.reduceMul, Nat.reduceSub, Nat.reduceLT, Nat.reduceLeDiff, fx31_0, fx31_1, fx31_6, fx32_0, fx32_1, fx32_6]
     refine hKK _ ?_; clear hKK KK
     refine lq_n ?_
     exact ⟨n2, ((d30.1.setA ((IntKind.wrap .i64 ((d30.2).tdiv 4)).toNat) (bor .u32 x32 (IntKind.wrap .u32 ((IntKind.wrap .u32 x31) * 2 ^ (min ((IntKind.wrap .i64 (((d30.2).tmod 4) * 8))).toNat 32))))), IntKind.wrap .i64 (d30.2 + 1)), rfl, hl3, (Wk.canonD [] [] [some 0] rfl trivial rfl (tmOU 0 tmO0 rfl List.not_mem_nil (by simp only [upd_get, ↓iop_and, ↓iop_or, ↓iop_xor, ↓iop_andn, Nat.reduceEqDiff, reduceIte, Nat.reduceAdd, Nat.reduceMul, Nat.reduceSub, Nat.reduceLT, Nat.reduceLeDiff, if_true, if_false] <;> rfl) (TmL.clean (e_A4vw_clean _))) (tmAllU 6 (tmAllU 5 (tmAllU 2 tmAll0 (Tm.ptr rfl)) (Tm.clean (Clean.agg (e_A16vu_clean _)))) (Tm.v _)))⟩
   ·
    have hl3 := cF hl3 h4
    refine awp_exit ?_
    refine lq_e ?_
    refine bq_e ?_
    refine sq_n ?_
    obtain rfl := someInj hl3
    exact ⟨_, rfl, (Wk.canonD [] [] [some 0] rfl trivial rfl (tmOU 0 tmO0 rfl List.not_mem_nil (by simp only [upd_get, ↓iop_and, ↓iop_or, ↓iop_xor, ↓iop_andn, Nat.reduceEqDiff, reduceIte, Nat.reduceAdd, Nat.reduceMul, Nat.reduceSub, Nat.reduceLT, Nat.reduceLeDiff, if_true, if_false] <;> rfl) (TmL.clean (e_A4vw_clean _))) (tmAllU 2 tmAll0 (Tm.ptr rfl)))⟩
 ·
  rintro _ rfl
  clear hi1
  unfold cipher_Words_S0
  refine awp_nr [2] (fun _ => rfl) fun tz => ?_
  refine awp_regW fun KK hKK => ?_
  refine xw_id ?_
  try simp only [go_sem, ↓iop_and, ↓iop_or, ↓iop_xor, ↓iop_andn, Nat.reduceEqDiff, reduceIte, Nat.reduceAdd, Nat.reduceMul, Nat.reduceSub, Nat.reduceLT, Nat.reduceLeDiff]
  refine hKK _ _ (Wk.refl _ _ _) ?_; clear hKK KK
  refine awp_ret1 ?_
  obtain rfl := someInj h0
  refine endW_i ?_
  refine end_ret0 rs82 (by simp only [go_sem, resV, resAll, resOf, packR, ↓iop_and, ↓iop_or, ↓iop_xor, ↓iop_andn, Nat.reduceEqDiff, reduceIte, Nat.reduceAdd, Nat.reduceMul, Nat.reduceSub, Nat.reduceLT, Nat.reduceLeDiff]; rfl) ?_
  try simp only [go_sem, ↓iop_and, ↓iop_or, ↓iop_xor, ↓iop_andn, Nat.reduceEqDiff, reduceIte, Nat.reduceAdd, Nat.reduceMul, Nat.reduceSub, Nat.reduceLT, Nat.reduceLeDiff, fz, nilS, packR, List.take_nil, List.take_length, List.length_map, List.length_append, cond_true, cond_false, Nat.ble_eq, ble_self]
  all_goals first | rfl | (simp only [go_sem, ↓iop_and, ↓iop_or, ↓iop_xor, ↓iop_andn, Nat.reduceEqDiff, reduceIte, Nat.reduceAdd, Nat.reduceMul, Nat.reduceSub, Nat.reduceLT, Nat.reduceLeDiff, fz, nilS, packR, List.take_nil, List.take_length, List.length_map, List.length_append, cond_true, cond_false, Nat.ble_eq, ble_self, List.map_append] <;> rfl)

end Go.AX.Z.TW

/-! (TWW math bits RotateLeft32) -/

set_option linter.unusedSimpArgs false
set_option linter.unusedVariables false
set_option maxHeartbeats 4000000
set_option maxRecDepth 20000
namespace Go.AX.Z.TW
open Go.AX Go.Proofs
attribute [local irreducible] awp xw xop xcall gsp ob xd xdop xcallD seqQ loopQ blkQ endQ


theorem math_bits_RotateLeft32_p (a0 : Int) (a1 : Int) {r : Int} (h0 : math_bits_RotateLeft32 a0 a1 = some r) : SndP K 90 [(vw a0), (vi a1)] (vw r) := by
 refine SndP.of_walkW hC (Clean.v _) (clean_cons (Clean.v _) (clean_cons (Clean.v _) clean_nil)) (show K.P.funcs[90]? = some Try.f90 from Try.func90) rfl rfl (by decide +kernel) (Nat.le_of_ble_eq_true rfl) ?_
 unfold math_bits_RotateLeft32 at h0
 refine awp_nr [0,1] (fun _ => rfl) fun tz => ?_
 refine awp_regW fun KK hKK => ?_
 refine xw_id ?_
 try simp only [go_sem, ↓iop_and, ↓iop_or, ↓iop_xor, ↓iop_andn, Nat.reduceEqDiff, reduceIte, Nat.reduceAdd, Nat.reduceMul, Nat.reduceSub, Nat.reduceLT, Nat.reduceLeDiff]
 refine hKK _ _ (Wk.refl _ _ _) ?_; clear hKK KK
 refine awp_nr [0,1] (fun _ => rfl) fun tz => ?_
 refine awp_regW fun KK hKK => ?_
 refine xw_id ?_
 try simp only [go_sem, ↓iop_and, ↓iop_or, ↓iop_xor, ↓iop_andn, Nat.reduceEqDiff, reduceIte, Nat.reduceAdd, Nat.reduceMul, Nat.reduceSub, Nat.reduceLT, Nat.reduceLeDiff]
 refine hKK _ _ (Wk.refl _ _ _) ?_; clear hKK KK
 refine awp_nr [0,5] (fun _ => rfl) fun tz => ?_
 refine awp_regW fun KK hKK => ?_
 refine xw_id ?_
 obtain ⟨x38, bx38, h0⟩ := bnd h0
 have bx38 := chk_some bx38
 simp only [Bool.and_eq_true, decide_eq_true_eq] at bx38
 have gx38_0 := bx38
 obtain ⟨x39, bx39, h0⟩ := bnd h0
 have bx39 := chk_some bx39
 simp only [Bool.and_eq_true, decide_eq_true_eq] at bx39
 have gx39_0 := bx39
 try simp only [go_sem, ↓iop_and, ↓iop_or, ↓iop_xor, ↓iop_andn, Nat.reduceEqDiff, reduceIte, Nat.reduceAdd, Nat.reduceMul, Nat.reduceSub, Nat.reduceLT, Nat.reduceLeDiff, gx38_0, gx39_0]
 refine hKK _ _ (Wk.refl _ _ _) ?_; clear hKK KK
 refine awp_ret1 ?_
 obtain rfl := someInj h0
 refine endW_i ?_
 refine end_ret0 rs90 (rfl) ?_
 try simp only [go_sem, ↓iop_and, ↓iop_or, ↓iop_xor, ↓iop_andn, Nat.reduceEqDiff, reduceIte, Nat.reduceAdd, Nat.reduceMul, Nat.reduceSub, Nat.reduceLT, Nat.reduceLeDiff, fz, nilS, packR, List.take_nil, List.take_length, List.length_map, List.length_append, cond_true, cond_false, Nat.ble_eq, ble_self]
 all_goals first | rfl | (simp only [go_sem, ↓iop_and, ↓iop_or, ↓iop_xor, ↓iop_andn, Nat.reduceEqDiff, reduceIte, Nat.reduceAdd, Nat.reduceMul, Nat.reduceSub, Nat.reduceLT, Nat.reduceLeDiff, fz, nilS, packR, List.take_nil, List.take_length, List.length_map, List.length_append, cond_true, cond_false, Nat.ble_eq, ble_self, List.map_append] <;> rfl)

end Go.AX.Z.TW

/-! (TWW cipher Schedule) -/

set_option linter.unusedSimpArgs false
set_option linter.unusedVariables false
set_option maxHeartbeats 4000000
set_option maxRecDepth 20000
namespace Go.AX.Z.TW
open Go.AX Go.Proofs
attribute [local irreducible] awp xw xop xcall gsp ob xd xdop xcallD seqQ loopQ blkQ endQ

def cipher_Schedule_S0 (x29 : A4vw) : AS :=
 { objs := (upd (upd (fun _ => .dead) 0 (.live (e_A36vw A36vw.z))) 1 (.live (e_A4vw x29))), next := 2, tmps := (upd (upd (fun _ => .unk) 2 (.ptr 0 0)) 3 (.ptr 1 0)) }

def cipher_Schedule_S1 (d30 : A36vw) : AS :=
 { objs := (upd (fun _ => .dead) 0 (.live (e_A36vw d30))), next := 1, tmps := (upd (fun _ => .unk) 2 (.ptr 0 0)) }

def cipher_Schedule_S2 (d31 : (A36vw × Int)) : AS :=
 { objs := (upd (fun _ => .dead) 0 (.live (e_A36vw d31.1))), next := 1, tmps := (upd (upd (fun _ => .unk) 2 (.ptr 0 0)) 4 (vi d31.2)) }

theorem cipher_Schedule_p (a0 : A16vu) {r : A36vw} (h0 : cipher_Schedule a0 = some r) : SndP K 80 [(.agg (e_A16vu a0))] (.agg (e_A36vw r)) := by
 refine SndP.of_walkW hC (Clean.agg (e_A36vw_clean _)) (clean_cons (Clean.agg (e_A16vu_clean _)) clean_nil) (show K.P.funcs[80]? = some Try.f80 from Try.func80) rfl rfl (by decide +kernel) (Nat.le_of_ble_eq_true rfl) ?_
 unfold cipher_Schedule at h0
 refine awp_nr [0] (fun _ => rfl) fun tz => ?_
 refine awp_regW fun KK hKK => ?_
 refine xw_id ?_
 try simp only [go_sem, ↓iop_and, ↓iop_or, ↓iop_xor, ↓iop_andn, Nat.reduceEqDiff, reduceIte, Nat.reduceAdd, Nat.reduceMul, Nat.reduceSub, Nat.reduceLT, Nat.reduceLeDiff]
 refine hKK _ _ (Wk.refl _ _ _) ?_; clear hKK KK
 refine awp_nr [1,2] (fun _ => rfl) fun tz => ?_
 refine awp_regW fun KK hKK => ?_
 refine xw_id ?_
 obtain ⟨x29, bx29, h0⟩ := bnd h0
 try simp only [go_sem, ↓iop_and, ↓iop_or, ↓iop_xor, ↓iop_andn, Nat.reduceEqDiff, reduceIte, Nat.reduceAdd, Nat.reduceMul, Nat.reduceSub, Nat.reduceLT, Nat.reduceLeDiff]
 refine xcall_p (cipher_Words_p a0 bx29) ?_; try dsimp only
 try refine xw_id ?_
 try simp only [go_sem, ↓iop_and, ↓iop_or, ↓iop_xor, ↓iop_andn, Nat.reduceEqDiff, reduceIte, Nat.reduceAdd, Nat.reduceMul, Nat.reduceSub, Nat.reduceLT, Nat.reduceLeDiff]
 refine hKK _ (cipher_Schedule_S0 x29) (Wk.canonD [] [] [some 1, some 4] rfl trivial rfl (tmOU 1 (tmOU 0 tmO0 rfl List.not_mem_nil (by simp only [upd_get, ↓iop_and, Nat.reduceEqDiff, reduceIte, if_true, if_false] <;> rfl) (TmL.clean (e_A36vw_clean _))) rfl List.not_mem_nil (by simp only [upd_get, ↓iop_and, Nat.reduceEqDiff, reduceIte, if_true, if_false] <;> rfl) (TmL.clean (e_A4vw_clean _))) (tmAllU 3 (tmAllU 2 tmAll0 (Tm.ptr rfl)) (Tm.ptr rfl))) ?_; clear hKK KK
 unfold cipher_Schedule_S0
 refine awp_nr [2,3] (fun _ => rfl) fun tz => ?_
 refine awp_regDW fun KK hKK all hall => ?_
 refine xd_id ?_
 try simp only [List.toList_toArray, List.map_cons, List.map_nil, List.size_toArray, List.length_cons, List.length_nil, Nat.zero_add]
 try simp only [Nat.reduceAdd]
 have gs1 : putAt (e_A36vw A36vw.z) 0 (e_A4vw x29) = e_A36vw { A36vw.z with a0 := x29.a0, a1 := x29.a1, a2 := x29.a2, a3 := x29.a3 } := by rfl
 have gs1m : min 4 36 = 4 := by rfl
 simp only [go_sem, ↓iop_and, ↓iop_or, ↓iop_xor, ↓iop_andn, Nat.reduceEqDiff, reduceIte, Nat.reduceMul, Nat.reduceSub, Nat.reduceLT, Nat.reduceLeDiff, Int.reduceToNat, Int.reduceBEq, Int.reduceBNe, Int.reduceLT, Int.reduceLE, Int.reduceAdd, Int.reduceSub, Int.reduceMul, Int.sub_zero, Int.sub_zero, gs1, gs1m]
 try simp only [Nat.reduceAdd]
 try simp only [go_sem, ↓iop_and, ↓iop_or, ↓iop_xor, ↓iop_andn, Nat.reduceEqDiff, reduceIte, Nat.reduceMul, Nat.reduceSub, Nat.reduceLT, Nat.reduceLeDiff, Int.reduceToNat, Int.reduceBEq, Int.reduceBNe, Int.reduceLT, Int.reduceLE, Int.reduceAdd, Int.reduceSub, Int.reduceMul, Int.sub_zero, Int.sub_zero, gs1, gs1m]
 try simp only [Nat.reduceAdd]
 try simp only [go_sem, ↓iop_and, ↓iop_or, ↓iop_xor, ↓iop_andn, Nat.reduceEqDiff, reduceIte, Nat.reduceMul, Nat.reduceSub, Nat.reduceLT, Nat.reduceLeDiff, Int.reduceToNat, Int.reduceBEq, Int.reduceBNe, Int.reduceLT, Int.reduceLE, Int.reduceAdd, Int.reduceSub, Int.reduceMul, Int.sub_zero, Int.sub_zero, gs1, gs1m]
 refine And.intro ?_ (hKK _ _ (Wk.refl _ _ _) ?_)
 ·
  subst hall
  clear hKK KK
  first | decide +kernel | (simp [printsOk, apartP, clash, meet]; done) | (simp [printsOk, apartP, clash, meet]; decide +kernel) | (simp [printsOk, apartP, clash, meet]; repeat (first | exact Or.inr (by decide +kernel) | (refine And.intro (Or.inr (by decide +kernel)) ?_)))
 ·
  clear hKK KK hall all
  refine awp_assoc ?_
  refine awp_nr [2] (fun _ => rfl) fun tz => ?_
  refine awp_regW fun KK hKK => ?_
  refine xw_id ?_
  try simp only [go_sem, ↓iop_and, ↓iop_or, ↓iop_xor, ↓iop_andn, Nat.reduceEqDiff, reduceIte, Nat.reduceAdd, Nat.reduceMul, Nat.reduceSub, Nat.reduceLT, Nat.reduceLeDiff]
  refine hKK _ _ (Wk.refl _ _ _) ?_; clear hKK KK
  obtain ⟨d30, hi2, h0⟩ := bnd h0
  refine awp_cut (fun z => d30 = z) (fun d30 : A36vw => cipher_Schedule_S1 d30) ?_ ?_
  ·
   refine awp_block1 ?_
   refine awp_loopS (fun n (d31 : (A36vw × Int)) => cipher_Schedule_L3 a0 n d31 = some d30) (fun d31 : (A36vw × Int) => cipher_Schedule_S2 d31) big ({ A36vw.z with a0 := x29.a0, a1 := x29.a1, a2 := x29.a2, a3 := x29.a3 }, 4) (Wk.canonD [] [] [some 0] rfl trivial rfl (tmOU 0 tmO0 rfl List.not_mem_nil (by simp only [upd_get, ↓iop_and, Nat.reduceEqDiff, reduceIte, if_true, if_false] <;> rfl) (TmL.clean (e_A36vw_clean _))) (tmAllU 4 (tmAllU 2 tmAll0 (Tm.ptr rfl)) (Tm.v _))) hi2 ?_
   clear hi2
   rintro n d31 hl4
   rcases n with _ | n3
   ·
    (rw [cipher_Schedule_L3] at hl4; cases hl4)
   ·
    rw [cipher_Schedule_L3] at hl4
    unfold cipher_Schedule_S2
    refine awp_assoc ?_
    refine awp_nr [2,4] (fun _ => rfl) fun tz => ?_
    refine awp_regW fun KK hKK => ?_
    refine xw_id ?_
    try simp only [go_sem, ↓iop_and, ↓iop_or, ↓iop_xor, ↓iop_andn, Nat.reduceEqDiff, reduceIte, Nat.reduceAdd, Nat.reduceMul, Nat.reduceSub, Nat.reduceLT, Nat.reduceLeDiff]
    refine hKK _ _ (Wk.refl _ _ _) ?_; clear hKK KK
    refine awp_cond (b := (decide (d31.2 < 36))) rfl (fun h5 => ?_) (fun h5 => ?_)
    ·
     have hl4 := cT hl4 h5
     refine awp_skip ?_
     refine awp_blockW ?_
     refine awp_nr1 [2,4] (fun _ => rfl) fun tz => ?_
     refine awp_regD1 fun KK hKK all hall => ?_
     refine xd_id ?_
     try simp only [List.toList_toArray, List.map_cons, List.map_nil, List.size_toArray, List.length_cons, List.length_nil, Nat.zero_add]
     try simp only [Nat.reduceAdd]
     obtain ⟨x32, bx32, hl4⟩ := bnd hl4
     obtain ⟨fx32_0, fx32_1, fx32_2, fx32_3⟩ := idxA_some bx32
     have fx32_6 : (e_A36vw d31.1)[(IntKind.wrap .i64 (d31.2 - 4)).toNat]? = some (vw x32) := by show (List.map vw [d31.1.a0, d31.1.a1, d31.1.a2, d31.1.a3, d31.1.a4, d31.1.a5, d31.1.a6, d31.1.a7, d31.1.a8, d31.1.a9, d31.1.a10, d31.1.a11, d31.1.a12, d31.1.a13, d31.1.a14, d31.1.a15, d31.1.a16, d31.1.a17, d31.1.a18, d31.1.a19, d31.1.a20, d31.1.a21, d31.1.a22, d31.1.a23, d31.1.a24, d31.1.a25, d31.1.a26, d31.1.a27, d31.1.a28, d31.1.a29, d31.1.a30, d31.1.a31, d31.1.a32, d31.1.a33, d31.1.a34, d31.1.a35])[(IntKind.wrap .i64 (d31.2 - 4)).toNat]? = _; rw [List.getElem?_map, fx32_2]; rfl
     obtain ⟨x33, bx33, hl4⟩ := bnd hl4
     obtain ⟨fx33_0, fx33_1, fx33_2, fx33_3⟩ := idxA_some bx33
     have fx33_6 : (e_A36vw d31.1)[(IntKind.wrap .i64 (d31.2 - 1)).toNat]? = some (vw x33) := by show (List.map vw [d31.1.a0, d31.1.a1, d31.1.a2, d31.1.a3, d31.1.a4, d31.1.a5, d31.1.a6, d31.1.a7, d31.1.a8, d31.1.a9, d31.1.a10, d31.1.a11, d31.1.a12, d31.1.a13, d31.1.a14, d31.1.a15, d31.1.a16, d31.1.a17, d31.1.a18, d31.1.a19, d31.1.a20, d31.1.a21, d31.1.a22, d31.1.a23, d31.1.a24, d31.1.a25, d31.1.a26, d31.1.a27, d31.1.a28, d31.1.a29, d31.1.a30, d31.1.a31, d31.1.a32, d31.1.a33, d31.1.a34, d31.1.a35])[(IntKind.wrap .i64 (d31.2 - 1)).toNat]? = _; rw [List.getElem?_map, fx33_2]; rfl
     obtain ⟨x34, bx34, hl4⟩ := bnd hl4
     simp only [go_sem, ↓iop_and, ↓iop_or, ↓iop_xor, ↓iop_andn, Nat.reduceEqDiff, reduceIte, Nat.reduceMul, Nat.reduceSub, Nat.reduceLT, Nat.reduceLeDiff, Int.reduceToNat, Int.reduceBEq, Int.reduceBNe, Int.reduceLT, Int.reduceLE, Int.reduceAdd, Int.reduceSub, Int.reduceMul, fx32_0, fx32_1, fx32_6, fx33_0, fx33_1, fx33_6]
     try simp only [Nat.reduceAdd]
     try simp only [go_sem, ↓iop_and, ↓iop_or, ↓iop_xor, ↓iop_andn, Nat.reduceEqDiff, reduceIte, Nat.reduceMul, Nat.reduceSub, Nat.reduceLT, Nat.reduceLeDiff, Int.reduceToNat, Int.reduceBEq, Int.reduceBNe, Int.reduceLT, Int.reduceLE, Int.reduceAdd, Int.reduceSub, Int.reduceMul, fx32_0, fx32_1, fx32_6, fx33_0, fx33_1, fx33_6]
     try simp only [Nat.reduceAdd]
     try simp only [go_sem, ↓iop_and, ↓iop_or, ↓iop_xor, ↓iop_andn, Nat.reduceEqDiff, reduceIte, Nat.reduceMul, Nat.reduceSub, Nat.reduceLT, Nat.reduceLeDiff, Int.reduceToNat, Int.reduceBEq, Int.reduceBNe, Int.reduceLT, Int.reduceLE, Int.reduceAdd, Int.reduceSub, Int.reduceMul, fx32_0, fx32_1, fx32_6, fx33_0, fx33_1, fx33_6]
     refine xcallD_p (math_bits_RotateLeft32_p x33 7 bx34) ?_; try dsimp only
     try refine xd_id ?_
     obtain ⟨x35, bx35, hl4⟩ := bnd hl4
     obtain ⟨fx35_0, fx35_1, fx35_2, fx35_3⟩ := idxA_some bx35
     have fx35_6 : (e_A36vw d31.1)[(d31.2).toNat]? = some (vw x35) := by show (List.map vw [d31.1.a0, d31.1.a1, d31.1.a2, d31.1.a3, d31.1.a4, d31.1.a5, d31.1.a6, d31.1.a7, d31.1.a8, d31.1.a9, d31.1.a10, d31.1.a11, d31.1.a12, d31.1.a13, d31.1.a14, d31.1.a15, d31.1.a16, d31.1.a17, d31.1.a18, d31.1.a19, d31.1.a20, d31.1.a21, d31.1.a22, d31.1.a23, d31.1.a24, d31.1.a25, d31.1.a26, d31.1.a27, d31.1.a28, d31.1.a29, d31.1.a30, d31.1.a31, d31.1.a32, d31.1.a33, d31.1.a34, d31.1.a35])[(d31.2).toNat]? = _; rw [List.getElem?_map, fx35_2]; rfl
     have gs6b : (d31.2).toNat < 36 := by have h0 := of_eq_true fx35_0; have h1 := of_eq_true fx35_1; omega
     have gs6 : (e_A36vw d31.1).set ((d31.2).toNat) (vw (IntKind.wrap .u32 (x32 + (bxor .u32 x34 (IntKind.wrap .u32 ((IntKind.wrap .u32 ((IntKind.wrap .u32 d31.2) * 2050759141)) + 525043411)))))) = e_A36vw (d31.1.setA ((d31.2).toNat) (IntKind.wrap .u32 (x32 + (bxor .u32 x34 (IntKind.wrap .u32 ((IntKind.wrap .u32 ((IntKind.wrap .u32 d31.2) * 2050759141)) + 525043411)))))) := e_A36vw_setA _ _ gs6b
     have gs6l : ((d31.2).toNat + 1 ≤ 36) = True := eq_true (by omega)
     simp only [go_sem, ↓iop_and, ↓iop_or, ↓iop_xor, ↓iop_andn, Nat.reduceEqDiff, reduceIte, Nat.reduceMul, Nat.reduceSub, Nat.reduceLT, Nat.reduceLeDiff, Int.reduceToNat, Int.reduceBEq, Int.reduceBNe, Int.reduceLT, Int.reduceLE, Int.reduceAdd, Int.reduceSub, Int.reduceMul, fx32_0, fx32_1, fx32_6, fx33_0, fx33_1, fx33_6, fx35_0, fx35_1, fx35_6, gs6, gs6l]
     try simp only [Nat.reduceAdd]
     try simp only [go_sem, ↓iop_and, ↓iop_or, ↓iop_xor, ↓iop_andn, Nat.reduceEqDiff, reduceIte, Nat.reduceMul, Nat.reduceSub, Nat.reduceLT, Nat.reduceLeDiff, Int.reduceToNat, Int.reduceBEq, Int.reduceBNe, Int.reduceLT, Int.reduceLE, Int.reduceAdd, Int.reduceSub, Int.reduceMul, fx32_0, fx32_1, fx32_6, fx33_0, fx33_1, fx33_6, fx35_0, fx35_1, fx35_6, gs6, gs6l]
     try simp only [Nat.reduceAdd]
     try simp only [go_sem, ↓iop_and, ↓iop_or, ↓iop_xor, ↓iop_andn, Nat.reduceEqDiff, reduceIte, Nat.reduceMul, Nat.reduceSub, Nat.reduceLT, Nat.reduceLeDiff, Int.reduceToNat, Int.reduceBEq, Int.reduceBNe, Int.reduceLT, Int.reduceLE, Int.reduceAdd, Int.reduceSub, Int.reduceMul, fx32_0, fx32_1, fx32_6, fx33_0, fx33_1, fx33_6, fx35_0, fx35_1, fx35_6, gs6, gs6l]
     refine And.intro ?_ (hKK _ ?_)
     ·
      subst hall
      clear hKK KK
      first | decide +kernel | (simp [printsOk, apartP, clash, meet]; done) | (simp [printsOk, apartP, clash, meet]; decide +kernel) | (simp [printsOk, apartP, clash, meet]; repeat (first | exact Or.inr (by decide +kernel) | (refine And.intro (Or.inr (by decide +kernel)) ?_)))
     ·
      clear hKK KK hall all
      refine bq_n ?_
      refine seqW_i ?_
      refine awp_nr1 [2,4] (fun _ => rfl) fun tz => ?_
      refine awp_reg1 fun KK hKK => ?_
      refine xw_id ?_
      try simp only [go_sem, ↓iop_and, ↓iop_or, ↓iop_xor, ↓iop_andn, Nat.reduceEqDiff, reduceIte, Nat.reduceAdd, Nat.reduceMul, Nat.reduceSub, Nat.reduceLT, Nat.reduceLeDiff, fx32_0, fx32_1, fx32_6, fx33_0, fx33_1, fx33_6, fx35_0, fx35_1, fx35_6]
      refine hKK _ ?_; clear hKK KK
      refine lq_n ?_
      exact ⟨n3, ((d31.1.setA ((d31.2).toNat) (IntKind.wrap .u32 (x32 + (bxor .u32 x34 (IntKind.wrap .u32 ((IntKind.wrap .u32 ((IntKind.wrap .u32 d31.2) * 2050759141)) + 525043411)))))), IntKind.wrap .i64 (d31.2 + 1)), rfl, hl4, (Wk.canonD [] [] [some 0] rfl trivial rfl (tmOU 0 tmO0 rfl List.not_mem_nil (by simp only [upd_get, ↓iop_and, Nat.reduceEqDiff, reduceIte, if_true, if_false] <;> rfl) (TmL.clean (e_A36vw_clean _))) (tmAllU 4 (tmAllU 2 tmAll0 (Tm.ptr rfl)) (Tm.v _)))⟩
    ·
     have hl4 := cF hl4 h5
     refine awp_exit ?_
     refine lq_e ?_
     refine bq_e ?_
     refine sq_n ?_
     obtain rfl := someInj hl4
     exact ⟨_, rfl, (Wk.canonD [] [] [some 0] rfl trivial rfl (tmOU 0 tmO0 rfl List.not_mem_nil (by simp only [upd_get, ↓iop_and, Nat.reduceEqDiff, reduceIte, if_true, if_false] <;> rfl) (TmL.clean (e_A36vw_clean _))) (tmAllU 2 tmAll0 (Tm.ptr rfl)))⟩
  ·
   rintro _ rfl
   clear hi2
   unfold cipher_Schedule_S1
   refine awp_nr [2] (fun _ => rfl) fun tz => ?_
   refine awp_regW fun KK hKK => ?_
   refine xw_id ?_
   try simp only [go_sem, ↓iop_and, ↓iop_or, ↓iop_xor, ↓iop_andn, Nat.reduceEqDiff, reduceIte, Nat.reduceAdd, Nat.reduceMul, Nat.reduceSub, Nat.reduceLT, Nat.reduceLeDiff]
   refine hKK _ _ (Wk.refl _ _ _) ?_; clear hKK KK
   refine awp_ret1 ?_
   obtain rfl := someInj h0
   refine endW_i ?_
   refine end_ret0 rs80 (by simp only [go_sem, resV, resAll, resOf, packR, ↓iop_and, ↓iop_or, ↓iop_xor, ↓iop_andn, Nat.reduceEqDiff, reduceIte, Nat.reduceAdd, Nat.reduceMul, Nat.reduceSub, Nat.reduceLT, Nat.reduceLeDiff]; rfl) ?_
   try simp only [go_sem, ↓iop_and, ↓iop_or, ↓iop_xor, ↓iop_andn, Nat.reduceEqDiff, reduceIte, Nat.reduceAdd, Nat.reduceMul, Nat.reduceSub, Nat.reduceLT, Nat.reduceLeDiff, fz, nilS, packR, List.take_nil, List.take_length, List.length_map, List.length_append, cond_true, cond_false, Nat.ble_eq, ble_self]
   all_goals first | rfl | (simp only [go_sem, ↓iop_and, ↓iop_or, ↓iop_xor, ↓iop_andn, Nat.reduceEqDiff, reduceIte, Nat.reduceAdd, Nat.reduceMul, Nat.reduceSub, Nat.reduceLT, Nat.reduceLeDiff, fz, nilS, packR, List.take_nil, List.take_length, List.length_map, List.length_append, cond_true, cond_false, Nat.ble_eq, ble_self, List.map_append] <;> rfl)

end Go.AX.Z.TW

/-! (TWW cipher mask) -/

set_option linter.unusedSimpArgs false
set_option linter.unusedVariables false
set_option maxHeartbeats 4000000
set_option maxRecDepth 20000
namespace Go.AX.Z.TW
open Go.AX Go.Proofs
attribute [local irreducible] awp xw xop xcall gsp ob xd xdop xcallD seqQ loopQ blkQ endQ

def cipher_mask_S0 (d38 : A4vw) : AS :=
 { objs := (upd (upd (fun _ => .dead) 0 (.live (e_A4vw d38))) 1 (.live (e_A4vw A4vw.z))), next := 2, tmps := (upd (upd (fun _ => .unk) 2 (.ptr 0 0)) 4 (.ptr 1 0)) }

def cipher_mask_S1 (a1 : A36vw) (d39 : (A4vw × Int)) : AS :=
 { objs := (upd (upd (upd (fun _ => .dead) 0 (.live (e_A4vw d39.1))) 1 (.live (e_A36vw a1))) 2 (.live (e_A4vw A4vw.z))), next := 3, tmps := (upd (upd (upd (upd (fun _ => .unk) 2 (.ptr 0 0)) 3 (.ptr 1 0)) 4 (.ptr 2 0)) 6 (vi d39.2)) }

theorem cipher_mask_p (a0 : A4vw) (a1 : A36vw) {r : A4vw} (h0 : cipher_mask a0 a1 = some r) : SndP K 81 [(.agg (e_A4vw a0)), (.agg (e_A36vw a1))] (.agg (e_A4vw r)) := by
 refine SndP.of_walkW hC (Clean.agg (e_A4vw_clean _)) (clean_cons (Clean.agg (e_A4vw_clean _)) (clean_cons (Clean.agg (e_A36vw_clean _)) clean_nil)) (show K.P.funcs[81]? = some Try.f81 from Try.func81) rfl rfl (by decide +kernel) (Nat.le_of_ble_eq_true rfl) ?_
 unfold cipher_mask at h0
 refine awp_nr [0,1] (fun _ => rfl) fun tz => ?_
 refine awp_regW fun KK hKK => ?_
 refine xw_id ?_
 try simp only [go_sem, ↓iop_and, ↓iop_or, ↓iop_xor, ↓iop_andn, Nat.reduceEqDiff, reduceIte, Nat.reduceAdd, Nat.reduceMul, Nat.reduceSub, Nat.reduceLT, Nat.reduceLeDiff]
 refine hKK _ _ (Wk.refl _ _ _) ?_; clear hKK KK
 refine awp_assoc ?_
 refine awp_nr [2,3,4] (fun _ => rfl) fun tz => ?_
 refine awp_regW fun KK hKK => ?_
 refine xw_id ?_
 try simp only [go_sem, ↓iop_and, ↓iop_or, ↓iop_xor, ↓iop_andn, Nat.reduceEqDiff, reduceIte, Nat.reduceAdd, Nat.reduceMul, Nat.reduceSub, Nat.reduceLT, Nat.reduceLeDiff]
 refine hKK _ _ (Wk.refl _ _ _) ?_; clear hKK KK
 obtain ⟨d38, hi1, h0⟩ := bnd h0
 refine awp_cut (fun z => d38 = z) (fun d38 : A4vw => cipher_mask_S0 d38) ?_ ?_
 ·
  refine awp_block1 ?_
  refine awp_loopS (fun n (d39 : (A4vw × Int)) => cipher_mask_L2 a0 a1 n d39 = some d38) (fun d39 : (A4vw × Int) => cipher_mask_S1 a1 d39) big (a0, 0) (Wk.canonD [] [] [some 0, some 1, some 2] rfl trivial rfl (tmOU 2 (tmOU 1 (tmOU 0 tmO0 rfl List.not_mem_nil (by simp only [upd_get, ↓iop_and, Nat.reduceEqDiff, reduceIte, if_true, if_false] <;> rfl) (TmL.clean (e_A4vw_clean _))) rfl List.not_mem_nil (by simp only [upd_get, ↓iop_and, Nat.reduceEqDiff, reduceIte, if_true, if_false] <;> rfl) (TmL.clean (e_A36vw_clean _))) rfl List.not_mem_nil (by simp only [upd_get, ↓iop_and, Nat.reduceEqDiff, reduceIte, if_true, if_false] <;> rfl) (TmL.clean (e_A4vw_clean _))) (tmAllU 6 (tmAllU 4 (tmAllU 3 (tmAllU 2 tmAll0 (Tm.ptr rfl)) (Tm.ptr rfl)) (Tm.ptr rfl)) (Tm.v _))) hi1 ?_
  clear hi1
  rintro n d39 hl3
  rcases n with _ | n2
  ·
   (rw [cipher_mask_L2] at hl3; cases hl3)
  ·
   rw [cipher_mask_L2] at hl3
   unfold cipher_mask_S1
   refine awp_nr [2,3,4,6] (fun _ => rfl) fun tz => ?_
   refine awp_regW fun KK hKK => ?_
   refine xw_id ?_
   try simp only [go_sem, ↓iop_and, ↓iop_or, ↓iop_xor, ↓iop_andn, Nat.reduceEqDiff, reduceIte, Nat.reduceAdd, Nat.reduceMul, Nat.reduceSub, Nat.reduceLT, Nat.reduceLeDiff]
   refine hKK _ _ (Wk.refl _ _ _) ?_; clear hKK KK
   refine awp_cond (b := (decide (d39.2 < 4))) rfl (fun h4 => ?_) (fun h4 => ?_)
   ·
    have hl3 := cT hl3 h4
    refine awp_skip ?_
    refine awp_blockW ?_
    refine awp_nr [2,3,4,6] (fun _ => rfl) fun tz => ?_
    refine awp_regW fun KK hKK => ?_
    refine xw_id ?_
    try simp only [go_sem, ↓iop_and, ↓iop_or, ↓iop_xor, ↓iop_andn, Nat.reduceEqDiff, reduceIte, Nat.reduceAdd, Nat.reduceMul, Nat.reduceSub, Nat.reduceLT, Nat.reduceLeDiff]
    refine hKK _ _ (Wk.refl _ _ _) ?_; clear hKK KK
    refine awp_nr1 [2,3,4,5,6] (fun _ => rfl) fun tz => ?_
    refine awp_regD1 fun KK hKK all hall => ?_
    refine xd_id ?_
    try simp only [List.toList_toArray, List.map_cons, List.map_nil, List.size_toArray, List.length_cons, List.length_nil, Nat.zero_add]
    try simp only [Nat.reduceAdd]
    obtain ⟨x40, bx40, hl3⟩ := bnd hl3
    obtain ⟨fx40_0, fx40_1, fx40_2, fx40_3⟩ := idxA_some bx40
    have fx40_6 : (e_A4vw d39.1)[(d39.2).toNat]? = some (vw x40) := by show (List.map vw [d39.1.a0, d39.1.a1, d39.1.a2, d39.1.a3])[(d39.2).toNat]? = _; rw [List.getElem?_map, fx40_2]; rfl
    obtain ⟨x41, bx41, hl3⟩ := bnd hl3
    obtain ⟨fx41_0, fx41_1, fx41_2, fx41_3⟩ := idxA_some bx41
    have fx41_6 : (e_A36vw a1)[(d39.2).toNat]? = some (vw x41) := by show (List.map vw [a1.a0, a1.a1, a1.a2, a1.a3, a1.a4, a1.a5, a1.a6, a1.a7, a1.a8, a1.a9, a1.a10, a1.a11, a1.a12, a1.a13, a1.a14, a1.a15, a1.a16, a1.a17, a1.a18, a1.a19, a1.a20, a1.a21, a1.a22, a1.a23, a1.a24, a1.a25, a1.a26, a1.a27, a1.a28, a1.a29, a1.a30, a1.a31, a1.a32, a1.a33, a1.a34, a1.a35])[(d39.2).toNat]? = _; rw [List.getElem?_map, fx41_2]; rfl
    have gs5b : (d39.2).toNat < 4 := by have h0 := of_eq_true fx40_0; have h1 := of_eq_true fx40_1; omega
    have gs5 : (e_A4vw d39.1).set ((d39.2).toNat) (vw (bxor .u32 x40 x41)) = e_A4vw (d39.1.setA ((d39.2).toNat) (bxor .u32 x40 x41)) := e_A4vw_setA _ _ gs5b
    have gs5l : ((d39.2).toNat + 1 ≤ 4) = True := eq_true (by omega)
    simp only [go_sem, ↓iop_and, ↓iop_or, ↓iop_xor, ↓iop_andn, Nat.reduceEqDiff, reduceIte, Nat.reduceMul, Nat.reduceSub, Nat.reduceLT, Nat.reduceLeDiff, Int.reduceToNat, Int.reduceBEq, Int.reduceBNe, Int.reduceLT, Int.reduceLE, Int.reduceAdd, Int.reduceSub, Int.reduceMul, fx40_0, fx40_1, fx40_6, fx41_0, fx41_1, fx41_6, gs5, gs5l]
    try simp only [Nat.reduceAdd]
    try simp only [go_sem, ↓iop_and, ↓iop_or, ↓iop_xor, ↓iop_andn, Nat.reduceEqDiff, reduceIte, Nat.reduceMul, Nat.reduceSub, Nat.reduceLT, Nat.reduceLeDiff, Int.reduceToNat, Int.reduceBEq, Int.reduceBNe, Int.reduceLT, Int.reduceLE, Int.reduceAdd, Int.reduceSub, Int.reduceMul, fx40_0, fx40_1, fx40_6, fx41_0, fx41_1, fx41_6, gs5, gs5l]
    try simp only [Nat.reduceAdd]
    try simp only [go_sem, ↓iop_and, ↓iop_or, ↓iop_xor, ↓iop_andn, Nat.reduceEqDiff, reduceIte, Nat.reduceMul, Nat.reduceSub, Nat.reduceLT, Nat.reduceLeDiff, Int.reduceToNat, Int.reduceBEq, Int.reduceBNe, Int.reduceLT, Int.reduceLE, Int.reduceAdd, Int.reduceSub, Int.reduceMul, fx40_0, fx40_1, fx40_6, fx41_0, fx41_1, fx41_6, gs5, gs5l]
    refine And.intro ?_ (hKK _ ?_)
    ·
     subst hall
     clear hKK KK
     first | decide +kernel | (simp [printsOk, apartP, clash, meet]; done) | (simp [printsOk, apartP, clash, meet]; decide +kernel) | (simp [printsOk, apartP, clash, meet]; repeat (first | exact Or.inr (by decide +kernel) | (refine And.intro (Or.inr (by decide +kernel)) ?_)))
    ·
     clear hKK KK hall all
     refine bq_n ?_
     refine seqW_i ?_
     refine awp_nr1 [2,3,4,6] (fun _ => rfl) fun tz => ?_
     refine awp_reg1 fun KK hKK => ?_
     refine xw_id ?_
     try simp only [go_sem, ↓iop_and, ↓iop_or, ↓iop_xor, ↓iop_andn, Nat.reduceEqDiff, reduceIte, Nat.reduceAdd, Nat.reduceMul, Nat.reduceSub, Nat.reduceLT, Nat.reduceLeDiff, fx40_0, fx40_1, fx40_6, fx41_0, fx41_1, fx41_6]
     refine hKK _ ?_; clear hKK KK
     refine lq_n ?_
     exact ⟨n2, ((d39.1.setA ((d39.2).toNat) (bxor .u32 x40 x41)), IntKind.wrap .i64 (d39.2 + 1)), rfl, hl3, (Wk.canonD [] [] [some 0, some 1, some 2] rfl trivial rfl (tmOU 2 (tmOU 1 (tmOU 0 tmO0 rfl List.not_mem_nil (by simp only [upd_get, ↓iop_and, Nat.reduceEqDiff, reduceIte, if_true, if_false] <;> rfl) (TmL.clean (e_A4vw_clean _))) rfl List.not_mem_nil (by simp only [upd_get, ↓iop_and, Nat.reduceEqDiff, reduceIte, if_true, if_false] <;> rfl) (TmL.clean (e_A36vw_clean _))) rfl List.not_mem_nil (by simp only [upd_get, ↓iop_and, Nat.reduceEqDiff, reduceIte, if_true, if_false] <;> rfl) (TmL.clean (e_A4vw_clean _))) (tmAllU 6 (tmAllU 4 (tmAllU 3 (tmAllU 2 tmAll0 (Tm.ptr rfl)) (Tm.ptr rfl)) (Tm.ptr rfl)) (Tm.v _)))⟩
   ·
    have hl3 := cF hl3 h4
    refine awp_exit ?_
    refine lq_e ?_
    refine bq_e ?_
    refine sq_n ?_
    obtain rfl := someInj hl3
    exact ⟨_, rfl, (Wk.canonD [] [] [some 0, some 2] rfl trivial rfl (tmOU 1 (tmOU 0 tmO0 rfl List.not_mem_nil (by simp only [upd_get, ↓iop_and, Nat.reduceEqDiff, reduceIte, if_true, if_false] <;> rfl) (TmL.clean (e_A4vw_clean _))) rfl List.not_mem_nil (by simp only [upd_get, ↓iop_and, Nat.reduceEqDiff, reduceIte, if_true, if_false] <;> rfl) (TmL.clean (e_A4vw_clean _))) (tmAllU 4 (tmAllU 2 tmAll0 (Tm.ptr rfl)) (Tm.ptr rfl)))⟩
 ·
  rintro _ rfl
  clear hi1
  unfold cipher_mask_S0
  refine awp_nr [2,4] (fun _ => rfl) fun tz => ?_
  refine awp_regW fun KK hKK => ?_
  refine xw_id ?_
  try simp only [go_sem, ↓iop_and, ↓iop_or, ↓iop_xor, ↓iop_andn, Nat.reduceEqDiff, reduceIte, Nat.reduceAdd, Nat.reduceMul, Nat.reduceSub, Nat.reduceLT, Nat.reduceLeDiff]
  refine hKK _ _ (Wk.refl _ _ _) ?_; clear hKK KK
  refine awp_ret1 ?_
  obtain rfl := someInj h0
  refine endW_i ?_
  refine end_ret0 rs81 (by simp only [go_sem, resV, resAll, resOf, packR, ↓iop_and, ↓iop_or, ↓iop_xor, ↓iop_andn, Nat.reduceEqDiff, reduceIte, Nat.reduceAdd, Nat.reduceMul, Nat.reduceSub, Nat.reduceLT, Nat.reduceLeDiff]; rfl) ?_
  try simp only [go_sem, ↓iop_and, ↓iop_or, ↓iop_xor, ↓iop_andn, Nat.reduceEqDiff, reduceIte, Nat.reduceAdd, Nat.reduceMul, Nat.reduceSub, Nat.reduceLT, Nat.reduceLeDiff, fz, nilS, packR, List.take_nil, List.take_length, List.length_map, List.length_append, cond_true, cond_false, Nat.ble_eq, ble_self]
  all_goals first | rfl | (simp only [go_sem, ↓iop_and, ↓iop_or, ↓iop_xor, ↓iop_andn, Nat.reduceEqDiff, reduceIte, Nat.reduceAdd, Nat.reduceMul, Nat.reduceSub, Nat.reduceLT, Nat.reduceLeDiff, fz, nilS, packR, List.take_nil, List.take_length, List.length_map, List.length_append, cond_true, cond_false, Nat.ble_eq, ble_self, List.map_append] <;> rfl)

end Go.AX.Z.TW

/-! (TWW cipher Round) -/

set_option linter.unusedSimpArgs false
set_option linter.unusedVariables false
set_option maxHeartbeats 4000000
set_option maxRecDepth 20000
namespace Go.AX.Z.TW
open Go.AX Go.Proofs
attribute [local irreducible] awp xw xop xcall gsp ob xd xdop xcallD seqQ loopQ blkQ endQ

def cipher_Round_S0 (a0 : A4vw) (x46 : Int) (a1 : Int) (a2 : Int) : AS :=
 { objs := (upd (upd (fun _ => .dead) 0 (.live (e_A4vw { a0 with a0 := IntKind.wrap .u32 (a0.a0 + (bxor .u32 x46 a1)) }))) 1 (.live (e_A4vw A4vw.z))), next := 2, tmps := (upd (upd (upd (upd (fun _ => .unk) 1 (vw a1)) 2 (vw a2)) 3 (.ptr 0 0)) 6 (.ptr 1 0)) }

def cipher_Round_S1 (a0 : A4vw) (x46 : Int) (a1 : Int) (x48 : Int) (a2 : Int) (x47 : Int) : AS :=
 { objs := (upd (upd (fun _ => .dead) 0 (.live (e_A4vw { a0 with a0 := IntKind.wrap .u32 (a0.a0 + (bxor .u32 x46 a1)), a1 := bxor .u32 a0.a1 x48, a2 := IntKind.wrap .u32 (a0.a2 + (bxor .u32 x47 a2)) }))) 1 (.live (e_A4vw A4vw.z))), next := 2, tmps := (upd (upd (upd (fun _ => .unk) 2 (vw a2)) 3 (.ptr 0 0)) 6 (.ptr 1 0)) }

theorem cipher_Round_p (a0 : A4vw) (a1 : Int) (a2 : Int) {r : A4vw} (h0 : cipher_Round a0 a1 a2 = some r) : SndP K 83 [(.agg (e_A4vw a0)), (vw a1), (vw a2)] (.agg (e_A4vw r)) := by
 refine SndP.of_walkW hC (Clean.agg (e_A4vw_clean _)) (clean_cons (Clean.agg (e_A4vw_clean _)) (clean_cons (Clean.v _) (clean_cons (Clean.v _) clean_nil))) (show K.P.funcs[83]? = some Try.f83 from Try.func83) rfl rfl (by decide +kernel) (Nat.le_of_ble_eq_true rfl) ?_
 unfold cipher_Round at h0
 refine awp_nr [0,1,2] (fun _ => rfl) fun tz => ?_
 refine awp_regW fun KK hKK => ?_
 refine xw_id ?_
 try simp only [go_sem, ↓iop_and, ↓iop_or, ↓iop_xor, ↓iop_andn, Nat.reduceEqDiff, reduceIte, Nat.reduceAdd, Nat.reduceMul, Nat.reduceSub, Nat.reduceLT, Nat.reduceLeDiff]
 refine hKK _ _ (Wk.refl _ _ _) ?_; clear hKK KK
 refine awp_nr [1,2,3,6] (fun _ => rfl) fun tz => ?_
 refine awp_regDW fun KK hKK all hall => ?_
 refine xd_id ?_
 try simp only [List.toList_toArray, List.map_cons, List.map_nil, List.size_toArray, List.length_cons, List.length_nil, Nat.zero_add]
 try simp only [Nat.reduceAdd]
 obtain ⟨x46, bx46, h0⟩ := bnd h0
 simp only [go_sem, ↓iop_and, ↓iop_or, ↓iop_xor, ↓iop_andn, Nat.reduceEqDiff, reduceIte, Nat.reduceMul, Nat.reduceSub, Nat.reduceLT, Nat.reduceLeDiff, Int.reduceToNat, Int.reduceBEq, Int.reduceBNe, Int.reduceLT, Int.reduceLE, Int.reduceAdd, Int.reduceSub, Int.reduceMul]
 try simp only [Nat.reduceAdd]
 try simp only [go_sem, ↓iop_and, ↓iop_or, ↓iop_xor, ↓iop_andn, Nat.reduceEqDiff, reduceIte, Nat.reduceMul, Nat.reduceSub, Nat.reduceLT, Nat.reduceLeDiff, Int.reduceToNat, Int.reduceBEq, Int.reduceBNe, Int.reduceLT, Int.reduceLE, Int.reduceAdd, Int.reduceSub, Int.reduceMul]
 try simp only [Nat.reduceAdd]
 try simp only [go_sem, ↓iop_and, ↓iop_or, ↓iop_xor, ↓iop_andn, Nat.reduceEqDiff, reduceIte, Nat.reduceMul, Nat.reduceSub, Nat.reduceLT, Nat.reduceLeDiff, Int.reduceToNat, Int.reduceBEq, Int.reduceBNe, Int.reduceLT, Int.reduceLE, Int.reduceAdd, Int.reduceSub, Int.reduceMul]
 refine xcallD_p (math_bits_RotateLeft32_p a0.a1 5 bx46) ?_; try dsimp only
 try refine xd_id ?_
 simp only [go_sem, ↓iop_and, ↓iop_or, ↓iop_xor, ↓iop_andn, Nat.reduceEqDiff, reduceIte, Nat.reduceMul, Nat.reduceSub, Nat.reduceLT, Nat.reduceLeDiff, Int.reduceToNat, Int.reduceBEq, Int.reduceBNe, Int.reduceLT, Int.reduceLE, Int.reduceAdd, Int.reduceSub, Int.reduceMul]
 try simp only [Nat.reduceAdd]
 try simp only [go_sem, ↓iop_and, ↓iop_or, ↓iop_xor, ↓iop_andn, Nat.reduceEqDiff, reduceIte, Nat.reduceMul, Nat.reduceSub, Nat.reduceLT, Nat.reduceLeDiff, Int.reduceToNat, Int.reduceBEq, Int.reduceBNe, Int.reduceLT, Int.reduceLE, Int.reduceAdd, Int.reduceSub, Int.reduceMul]
 try simp only [Nat.reduceAdd]
 try simp only [go_sem, ↓iop_and, ↓iop_or, ↓iop_xor, ↓iop_andn, Nat.reduceEqDiff, reduceIte, Nat.reduceMul, Nat.reduceSub, Nat.reduceLT, Nat.reduceLeDiff, Int.reduceToNat, Int.reduceBEq, Int.reduceBNe, Int.reduceLT, Int.reduceLE, Int.reduceAdd, Int.reduceSub, Int.reduceMul]
 refine And.intro ?_ (hKK _ (cipher_Round_S0 a0 x46 a1 a2) (Wk.canonD [] [] [some 0, some 1] rfl trivial rfl (tmOU 1 (tmOU 0 tmO0 rfl List.not_mem_nil (by simp only [upd_get, ↓iop_and, Nat.reduceEqDiff, reduceIte, if_true, if_false] <;> rfl) (TmL.clean (e_A4vw_clean _))) rfl List.not_mem_nil (by simp only [upd_get, ↓iop_and, Nat.reduceEqDiff, reduceIte, if_true, if_false] <;> rfl) (TmL.clean (e_A4vw_clean _))) (tmAllU 6 (tmAllU 3 (tmAllU 2 (tmAllU 1 tmAll0 (Tm.v _)) (Tm.v _)) (Tm.ptr rfl)) (Tm.ptr rfl))) ?_)
 ·
  subst hall
  clear hKK KK
  first | decide +kernel | (simp [printsOk, apartP, clash, meet]; done) | (simp [printsOk, apartP, clash, meet]; decide +kernel) | (simp [printsOk, apartP, clash, meet]; repeat (first | exact Or.inr (by decide +kernel) | (refine And.intro (Or.inr (by decide +kernel)) ?_)))
 ·
  clear hKK KK hall all
  unfold cipher_Round_S0
  refine awp_nr [1,2,3,6] (fun _ => rfl) fun tz => ?_
  refine awp_regDW fun KK hKK all hall => ?_
  refine xd_id ?_
  try simp only [List.toList_toArray, List.map_cons, List.map_nil, List.size_toArray, List.length_cons, List.length_nil, Nat.zero_add]
  try simp only [Nat.reduceAdd]
  obtain ⟨x47, bx47, h0⟩ := bnd h0
  simp only [go_sem, ↓iop_and, ↓iop_or, ↓iop_xor, ↓iop_andn, Nat.reduceEqDiff, reduceIte, Nat.reduceMul, Nat.reduceSub, Nat.reduceLT, Nat.reduceLeDiff, Int.reduceToNat, Int.reduceBEq, Int.reduceBNe, Int.reduceLT, Int.reduceLE, Int.reduceAdd, Int.reduceSub, Int.reduceMul]
  try simp only [Nat.reduceAdd]
  try simp only [go_sem, ↓iop_and, ↓iop_or, ↓iop_xor, ↓iop_andn, Nat.reduceEqDiff, reduceIte, Nat.reduceMul, Nat.reduceSub, Nat.reduceLT, Nat.reduceLeDiff, Int.reduceToNat, Int.reduceBEq, Int.reduceBNe, Int.reduceLT, Int.reduceLE, Int.reduceAdd, Int.reduceSub, Int.reduceMul]
  try simp only [Nat.reduceAdd]
  try simp only [go_sem, ↓iop_and, ↓iop_or, ↓iop_xor, ↓iop_andn, Nat.reduceEqDiff, reduceIte, Nat.reduceMul, Nat.reduceSub, Nat.reduceLT, Nat.reduceLeDiff, Int.reduceToNat, Int.reduceBEq, Int.reduceBNe, Int.reduceLT, Int.reduceLE, Int.reduceAdd, Int.reduceSub, Int.reduceMul]
  refine xcallD_p (math_bits_RotateLeft32_p a0.a3 9 bx47) ?_; try dsimp only
  try refine xd_id ?_
  simp only [go_sem, ↓iop_and, ↓iop_or, ↓iop_xor, ↓iop_andn, Nat.reduceEqDiff, reduceIte, Nat.reduceMul, Nat.reduceSub, Nat.reduceLT, Nat.reduceLeDiff, Int.reduceToNat, Int.reduceBEq, Int.reduceBNe, Int.reduceLT, Int.reduceLE, Int.reduceAdd, Int.reduceSub, Int.reduceMul]
  try simp only [Nat.reduceAdd]
  try simp only [go_sem, ↓iop_and, ↓iop_or, ↓iop_xor, ↓iop_andn, Nat.reduceEqDiff, reduceIte, Nat.reduceMul, Nat.reduceSub, Nat.reduceLT, Nat.reduceLeDiff, Int.reduceToNat, Int.reduceBEq, Int.reduceBNe, Int.reduceLT, Int.reduceLE, Int.reduceAdd, Int.reduceSub, Int.reduceMul]
  try simp only [Nat.reduceAdd]
  try simp only [go_sem, ↓iop_and, ↓iop_or, ↓iop_xor, ↓iop_andn, Nat.reduceEqDiff, reduceIte, Nat.reduceMul, Nat.reduceSub, Nat.reduceLT, Nat.reduceLeDiff, Int.reduceToNat, Int.reduceBEq, Int.reduceBNe, Int.reduceLT, Int.reduceLE, Int.reduceAdd, Int.reduceSub, Int.reduceMul]
  refine And.intro ?_ (hKK _ _ (Wk.refl _ _ _) ?_)
  ·
   subst hall
   clear hKK KK
   first | decide +kernel | (simp [printsOk, apartP, clash, meet]; done) | (simp [printsOk, apartP, clash, meet]; decide +kernel) | (simp [printsOk, apartP, clash, meet]; repeat (first | exact Or.inr (by decide +kernel) | (refine And.intro (Or.inr (by decide +kernel)) ?_)))
  ·
   clear hKK KK hall all
   refine awp_nr [1,2,3,6] (fun _ => rfl) fun tz => ?_
   refine awp_regDW fun KK hKK all hall => ?_
   refine xd_id ?_
   try simp only [List.toList_toArray, List.map_cons, List.map_nil, List.size_toArray, List.length_cons, List.length_nil, Nat.zero_add]
   try simp only [Nat.reduceAdd]
   obtain ⟨x48, bx48, h0⟩ := bnd h0
   simp only [go_sem, ↓iop_and, ↓iop_or, ↓iop_xor, ↓iop_andn, Nat.reduceEqDiff, reduceIte, Nat.reduceMul, Nat.reduceSub, Nat.reduceLT, Nat.reduceLeDiff, Int.reduceToNat, Int.reduceBEq, Int.reduceBNe, Int.reduceLT, Int.reduceLE, Int.reduceAdd, Int.reduceSub, Int.reduceMul]
   try simp only [Nat.reduceAdd]
   try simp only [go_sem, ↓iop_and, ↓iop_or, ↓iop_xor, ↓iop_andn, Nat.reduceEqDiff, reduceIte, Nat.reduceMul, Nat.reduceSub, Nat.reduceLT, Nat.reduceLeDiff, Int.reduceToNat, Int.reduceBEq, Int.reduceBNe, Int.reduceLT, Int.reduceLE, Int.reduceAdd, Int.reduceSub, Int.reduceMul]
   try simp only [Nat.reduceAdd]
   try simp only [go_sem, ↓iop_and, ↓iop_or, ↓iop_xor, ↓iop_andn, Nat.reduceEqDiff, reduceIte, Nat.reduceMul, Nat.reduceSub, Nat.reduceLT, Nat.reduceLeDiff, Int.reduceToNat, Int.reduceBEq, Int.reduceBNe, Int.reduceLT, Int.reduceLE, Int.reduceAdd, Int.reduceSub, Int.reduceMul]
   refine xcallD_p (math_bits_RotateLeft32_p (IntKind.wrap .u32 ((IntKind.wrap .u32 (a0.a2 + (bxor .u32 x47 a2))) + a1)) 13 bx48) ?_; try dsimp only
   try refine xd_id ?_
   simp only [go_sem, ↓iop_and, ↓iop_or, ↓iop_xor, ↓iop_andn, Nat.reduceEqDiff, reduceIte, Nat.reduceMul, Nat.reduceSub, Nat.reduceLT, Nat.reduceLeDiff, Int.reduceToNat, Int.reduceBEq, Int.reduceBNe, Int.reduceLT, Int.reduceLE, Int.reduceAdd, Int.reduceSub, Int.reduceMul]
   try simp only [Nat.reduceAdd]
   try simp only [go_sem, ↓iop_and, ↓iop_or, ↓iop_xor, ↓iop_andn, Nat.reduceEqDiff, reduceIte, Nat.reduceMul, Nat.reduceSub, Nat.reduceLT, Nat.reduceLeDiff, Int.reduceToNat, Int.reduceBEq, Int.reduceBNe, Int.reduceLT, Int.reduceLE, Int.reduceAdd, Int.reduceSub, Int.reduceMul]
   try simp only [Nat.reduceAdd]
   try simp only [go_sem, ↓iop_and, ↓iop_or, ↓iop_xor, ↓iop_andn, Nat.reduceEqDiff, reduceIte, Nat.reduceMul, Nat.reduceSub, Nat.reduceLT, Nat.reduceLeDiff, Int.reduceToNat, Int.reduceBEq, Int.reduceBNe, Int.reduceLT, Int.reduceLE, Int.reduceAdd, Int.reduceSub, Int.reduceMul]
   refine And.intro ?_ (hKK _ (cipher_Round_S1 a0 x46 a1 x48 a2 x47) (Wk.canonD [] [] [some 0, some 1] rfl trivial rfl (tmOU 1 (tmOU 0 tmO0 rfl List.not_mem_nil (by simp only [upd_get, ↓iop_and, Nat.reduceEqDiff, reduceIte, if_true, if_false] <;> rfl) (TmL.clean (e_A4vw_clean _))) rfl List.not_mem_nil (by simp only [upd_get, ↓iop_and, Nat.reduceEqDiff, reduceIte, if_true, if_false] <;> rfl) (TmL.clean (e_A4vw_clean _))) (tmAllU 6 (tmAllU 3 (tmAllU 2 tmAll0 (Tm.v _)) (Tm.ptr rfl)) (Tm.ptr rfl))) ?_)
   ·
    subst hall
    clear hKK KK
    first | decide +kernel | (simp [printsOk, apartP, clash, meet]; done) | (simp [printsOk, apartP, clash, meet]; decide +kernel) | (simp [printsOk, apartP, clash, meet]; repeat (first | exact Or.inr (by decide +kernel) | (refine And.intro (Or.inr (by decide +kernel)) ?_)))
   ·
    clear hKK KK hall all
    unfold cipher_Round_S1
    refine awp_nr [2,3,6] (fun _ => rfl) fun tz => ?_
    refine awp_regDW fun KK hKK all hall => ?_
    refine xd_id ?_
    try simp only [List.toList_toArray, List.map_cons, List.map_nil, List.size_toArray, List.length_cons, List.length_nil, Nat.zero_add]
    try simp only [Nat.reduceAdd]
    obtain ⟨x49, bx49, h0⟩ := bnd h0
    simp only [go_sem, ↓iop_and, ↓iop_or, ↓iop_xor, ↓iop_andn, Nat.reduceEqDiff, reduceIte, Nat.reduceMul, Nat.reduceSub, Nat.reduceLT, Nat.reduceLeDiff, Int.reduceToNat, Int.reduceBEq, Int.reduceBNe, Int.reduceLT, Int.reduceLE, Int.reduceAdd, Int.reduceSub, Int.reduceMul]
    try simp only [Nat.reduceAdd]
    try simp only [go_sem, ↓iop_and, ↓iop_or, ↓iop_xor, ↓iop_andn, Nat.reduceEqDiff, reduceIte, Nat.reduceMul, Nat.reduceSub, Nat.reduceLT, Nat.reduceLeDiff, Int.reduceToNat, Int.reduceBEq, Int.reduceBNe, Int.reduceLT, Int.reduceLE, Int.reduceAdd, Int.reduceSub, Int.reduceMul]
    try simp only [Nat.reduceAdd]
    try simp only [go_sem, ↓iop_and, ↓iop_or, ↓iop_xor, ↓iop_andn, Nat.reduceEqDiff, reduceIte, Nat.reduceMul, Nat.reduceSub, Nat.reduceLT, Nat.reduceLeDiff, Int.reduceToNat, Int.reduceBEq, Int.reduceBNe, Int.reduceLT, Int.reduceLE, Int.reduceAdd, Int.reduceSub, Int.reduceMul]
    refine xcallD_p (math_bits_RotateLeft32_p (IntKind.wrap .u32 ((IntKind.wrap .u32 (a0.a0 + (bxor .u32 x46 a1))) + a2)) 19 bx49) ?_; try dsimp only
    try refine xd_id ?_
    simp only [go_sem, ↓iop_and, ↓iop_or, ↓iop_xor, ↓iop_andn, Nat.reduceEqDiff, reduceIte, Nat.reduceMul, Nat.reduceSub, Nat.reduceLT, Nat.reduceLeDiff, Int.reduceToNat, Int.reduceBEq, Int.reduceBNe, Int.reduceLT, Int.reduceLE, Int.reduceAdd, Int.reduceSub, Int.reduceMul]
    try simp only [Nat.reduceAdd]
    try simp only [go_sem, ↓iop_and, ↓iop_or, ↓iop_xor, ↓iop_andn, Nat.reduceEqDiff, reduceIte, Nat.reduceMul, Nat.reduceSub, Nat.reduceLT, Nat.reduceLeDiff, Int.reduceToNat, Int.reduceBEq, Int.reduceBNe, Int.reduceLT, Int.reduceLE, Int.reduceAdd, Int.reduceSub, Int.reduceMul]
    try simp only [Nat.reduceAdd]
    try simp only [go_sem, ↓iop_and, ↓iop_or, ↓iop_xor, ↓iop_andn, Nat.reduceEqDiff, reduceIte, Nat.reduceMul, Nat.reduceSub, Nat.reduceLT, Nat.reduceLeDiff, Int.reduceToNat, Int.reduceBEq, Int.reduceBNe, Int.reduceLT, Int.reduceLE, Int.reduceAdd, Int.reduceSub, Int.reduceMul]
    refine And.intro ?_ (hKK _ _ (Wk.refl _ _ _) ?_)
    ·
     subst hall
     clear hKK KK
     first | decide +kernel | (simp [printsOk, apartP, clash, meet]; done) | (simp [printsOk, apartP, clash, meet]; decide +kernel) | (simp [printsOk, apartP, clash, meet]; repeat (first | exact Or.inr (by decide +kernel) | (refine And.intro (Or.inr (by decide +kernel)) ?_)))
    ·
     clear hKK KK hall all
     refine awp_nr [3,6] (fun _ => rfl) fun tz => ?_
     refine awp_regW fun KK hKK => ?_
     refine xw_id ?_
     try simp only [go_sem, ↓iop_and, ↓iop_or, ↓iop_xor, ↓iop_andn, Nat.reduceEqDiff, reduceIte, Nat.reduceAdd, Nat.reduceMul, Nat.reduceSub, Nat.reduceLT, Nat.reduceLeDiff, Int.reduceToNat, Int.reduceBEq, Int.reduceBNe, Int.reduceLT, Int.reduceLE, Int.reduceAdd, Int.reduceSub, Int.reduceMul]
     refine hKK _ _ (Wk.refl _ _ _) ?_; clear hKK KK
     refine awp_ret1 ?_
     obtain rfl := someInj h0
     refine endW_i ?_
     refine end_ret0 rs83 (by simp only [go_sem, resV, resAll, resOf, packR, ↓iop_and, ↓iop_or, ↓iop_xor, ↓iop_andn, Nat.reduceEqDiff, reduceIte, Nat.reduceAdd, Nat.reduceMul, Nat.reduceSub, Nat.reduceLT, Nat.reduceLeDiff]; rfl) ?_
     try simp only [go_sem, ↓iop_and, ↓iop_or, ↓iop_xor, ↓iop_andn, Nat.reduceEqDiff, reduceIte, Nat.reduceAdd, Nat.reduceMul, Nat.reduceSub, Nat.reduceLT, Nat.reduceLeDiff, fz, nilS, packR, List.take_nil, List.take_length, List.length_map, List.length_append, cond_true, cond_false, Nat.ble_eq, ble_self]
     all_goals first | rfl | (simp only [go_sem, ↓iop_and, ↓iop_or, ↓iop_xor, ↓iop_andn, Nat.reduceEqDiff, reduceIte, Nat.reduceAdd, Nat.reduceMul, Nat.reduceSub, Nat.reduceLT, Nat.reduceLeDiff, fz, nilS, packR, List.take_nil, List.take_length, List.length_map, List.length_append, cond_true, cond_false, Nat.ble_eq, ble_self, List.map_append] <;> rfl)

end Go.AX.Z.TW

/-! (TWW cipher Join) -/

set_option linter.unusedSimpArgs false
set_option linter.unusedVariables false
set_option maxHeartbeats 4000000
set_option maxRecDepth 20000
namespace Go.AX.Z.TW
open Go.AX Go.Proofs
attribute [local irreducible] awp xw xop xcall gsp ob xd xdop xcallD seqQ loopQ blkQ endQ

def cipher_Join_S0 (d48 : A16vu) : AS :=
 { objs := (upd (fun _ => .dead) 0 (.live (e_A16vu d48))), next := 1, tmps := (upd (fun _ => .unk) 2 (.ptr 0 0)) }

def cipher_Join_S1 (a0 : A4vw) (d49 : (A16vu × Int)) : AS :=
 { objs := (upd (upd (fun _ => .dead) 0 (.live (e_A4vw a0))) 1 (.live (e_A16vu d49.1))), next := 2, tmps := (upd (upd (upd (fun _ => .unk) 1 (.ptr 0 0)) 2 (.ptr 1 0)) 4 (vi d49.2)) }

theorem cipher_Join_p (a0 : A4vw) {r : A16vu} (h0 : cipher_Join a0 = some r) : SndP K 84 [(.agg (e_A4vw a0))] (.agg (e_A16vu r)) := by
 refine SndP.of_walkW hC (Clean.agg (e_A16vu_clean _)) (clean_cons (Clean.agg (e_A4vw_clean _)) clean_nil) (show K.P.funcs[84]? = some Try.f84 from Try.func84) rfl rfl (by decide +kernel) (Nat.le_of_ble_eq_true rfl) ?_
 unfold cipher_Join at h0
 refine awp_nr [0] (fun _ => rfl) fun tz => ?_
 refine awp_regW fun KK hKK => ?_
 refine xw_id ?_
 try simp only [go_sem, Nat.reduceEqDiff, reduceIte, Nat.reduceAdd, Nat.reduceMul, Nat.reduceSub, Nat.reduceLT, Nat.reduceLeDiff]
 refine hKK _ _ (Wk.refl _ _ _) ?_; clear hKK KK
 refine awp_assoc ?_
 refine awp_nr [1,2] (fun _ => rfl) fun tz => ?_
 refine awp_regW fun KK hKK => ?_
 refine xw_id ?_
 try simp only [go_sem, Nat.reduceEqDiff, reduceIte, Nat.reduceAdd, Nat.reduceMul, Nat.reduceSub, Nat.reduceLT, Nat.reduceLeDiff]
 refine hKK _ _ (Wk.refl _ _ _) ?_; clear hKK KK
 obtain ⟨d48, hi1, h0⟩ := bnd h0
 refine awp_cut (fun z => d48 = z) (fun d48 : A16vu => cipher_Join_S0 d48) ?_ ?_
 ·
  refine awp_block1 ?_
  refine awp_loopS (fun n (d49 : (A16vu × Int)) => cipher_Join_L2 a0 n d49 = some d48) (fun d49 : (A16vu × Int) => cipher_Join_S1 a0 d49) big (A16vu.z, 0) (Wk.canonD [] [] [some 0, some 1] rfl trivial rfl (tmOU 1 (tmOU 0 tmO0 rfl List.not_mem_nil (by simp only [upd_get, Nat.reduceEqDiff, reduceIte, Nat.reduceAdd, Nat.reduceMul, Nat.reduceSub, Nat.reduceLT, Nat.reduceLeDiff, if_true, if_false] <;> rfl) (TmL.clean (e_A4vw_clean _))) rfl List.not_mem_nil (by simp only [upd_get, Nat.reduceEqDiff, reduceIte, Nat.reduceAdd, Nat.reduceMul, Nat.reduceSub, Nat.reduceLT, Nat.reduceLeDiff, if_true, if_false] <;> rfl) (TmL.clean (e_A16vu_clean _))) (tmAllU 4 (tmAllU 2 (tmAllU 1 tmAll0 (Tm.ptr rfl)) (Tm.ptr rfl)) (Tm.v _))) hi1 ?_
  clear hi1
  rintro n d49 hl3
  rcases n with _ | n2
  ·
   (rw [cipher_Join_L2] at hl3; cases hl3)
  ·
   rw [cipher_Join_L2] at hl3
   unfold cipher_Join_S1
   refine awp_nr [1,2,4] (fun _ => rfl) fun tz => ?_
   refine awp_regW fun KK hKK => ?_
   refine xw_id ?_
   try simp only [go_sem, Nat.reduceEqDiff, reduceIte, Nat.reduceAdd, Nat.reduceMul, Nat.reduceSub, Nat.reduceLT, Nat.reduceLeDiff]
   refine hKK _ _ (Wk.refl _ _ _) ?_; clear hKK KK
   refine awp_cond (b := (decide (d49.2 < 16))) rfl (fun h4 => ?_) (fun h4 => ?_)
   ·
    have hl3 := cT hl3 h4
    refine awp_skip ?_
    refine awp_blockW ?_
    refine awp_nr [1,2,4] (fun _ => rfl) fun tz => ?_
    refine awp_regW fun KK hKK => ?_
    refine xw_id ?_
    try simp only [go_sem, Nat.reduceEqDiff, reduceIte, Nat.reduceAdd, Nat.reduceMul, Nat.reduceSub, Nat.reduceLT, Nat.reduceLeDiff]
    refine hKK _ _ (Wk.refl _ _ _) ?_; clear hKK KK
    refine awp_nr1 [1,2,3,4] (fun _ => rfl) fun tz => ?_
    refine awp_reg1 fun KK hKK => ?_
    refine xw_id ?_
    obtain ⟨x50, bx50, hl3⟩ := bnd hl3
    obtain ⟨fx50_0, fx50_1, fx50_2, fx50_3⟩ := idxA_some bx50
    have fx50_6 : (e_A4vw a0)[(IntKind.wrap .i64 ((d49.2).tdiv 4)).toNat]? = some (vw x50) := by show (List.map vw [a0.a0, a0.a1, a0.a2, a0.a3])[(IntKind.wrap .i64 ((d49.2).tdiv 4)).toNat]? = _; rw [List.getElem?_map, fx50_2]; rfl
    obtain ⟨x51, bx51, hl3⟩ := bnd hl3
    have bx51 := chk_some bx51
    simp only [Bool.and_eq_true, decide_eq_true_eq] at bx51
    have gx51_0 := bx51
    obtain ⟨x52, bx52, hl3⟩ := bnd hl3
    obtain ⟨fx52_0, fx52_1, fx52_2, fx52_3⟩ := idxA_some bx52
    have fx52_6 : (e_A16vu d49.1)[(d49.2).toNat]? = some (vu x52) := by show (List.map vu [d49.1.a0, d49.1.a1, d49.1.a2, d49.1.a3, d49.1.a4, d49.1.a5, d49.1.a6, d49.1.a7, d49.1.a8, d49.1.a9, d49.1.a10, d49.1.a11, d49.1.a12, d49.1.a13, d49.1.a14, d49.1.a15])[(d49.2).toNat]? = _; rw [List.getElem?_map, fx52_2]; rfl
    have gs5b : (d49.2).toNat < 16 := by have h0 := of_eq_true fx52_0; have h1 := of_eq_true fx52_1; omega
    have gs5 : (e_A16vu d49.1).set ((d49.2).toNat) (vu (IntKind.wrap .u8 ((x50).fdiv (2 ^ (min ((IntKind.wrap .i64 (((d49.2).tmod 4) * 8))).toNat 32))))) = e_A16vu (d49.1.setA ((d49.2).toNat) (IntKind.wrap .u8 ((x50).fdiv (2 ^ (min ((IntKind.wrap .i64 (((d49.2).tmod 4) * 8))).toNat 32))))) := e_A16vu_setA _ _ gs5b
    have gs5l : ((d49.2).toNat + 1 ≤ 16) = True := eq_true (by omega)
    try simp only [go_sem, Nat.reduceEqDiff, reduceIte, Nat.reduceAdd, Nat.reduceMul, Nat.reduceSub, Nat.reduceLT, Nat.reduceLeDiff, Int.reduceToNat, Int.reduceBEq, Int.reduceBNe, Int.reduceLT, Int.reduceLE, Int.reduceAdd, Int.reduceSub, Int.reduceMul, Int.reduceNeg, Int.reduceEq, Int.reduceNe, fx50_0, fx50_1, fx50_6, gx51_0, fx52_0, fx52_1, fx52_6, gs5, gs5l]
    refine hKK _ ?_; clear hKK KK
    refine bq_n ?_
    refine seqW_i ?_
    refine awp_nr1 [1,2,4] (fun _ => rfl) fun tz => ?_
    refine awp_reg1 fun KK hKK => ?_
    refine xw_id ?_
    try simp only [go_sem, Nat.reduceEqDiff, reduceIte, Nat.reduceAdd, Nat.reduceMul, Nat.reduceSub, Nat.reduceLT, Nat.reduceLeDiff, fx50_0, fx50_1, fx50_6, fx52_0, fx52_1, fx52_6]
    refine hKK _ ?_; clear hKK KK
    refine lq_n ?_
    exact ⟨n2, ((d49.1.setA ((d49.2).toNat) (IntKind.wrap .u8 ((x50).fdiv (2 ^ (min ((IntKind.wrap .i64 (((d49.2).tmod 4) * 8))).toNat 32))))), IntKind.wrap .i64 (d49.2 + 1)), rfl, hl3, (Wk.canonD [] [] [some 0, some 1] rfl trivial rfl (tmOU 1 (tmOU 0 tmO0 rfl List.not_mem_nil (by simp only [upd_get, Nat.reduceEqDiff, reduceIte, Nat.reduceAdd, Nat.reduceMul, Nat.reduceSub, Nat.reduceLT, Nat.reduceLeDiff, if_true, if_false] <;> rfl) (TmL.clean (e_A4vw_clean _))) rfl List.not_mem_nil (by simp only [upd_get, Nat.reduceEqDiff, reduceIte, Nat.reduceAdd, Nat.reduceMul, Nat.reduceSub, Nat.reduceLT, Nat.reduceLeDiff, if_true, if_false] <;> rfl) (TmL.clean (e_A16vu_clean _))) (tmAllU 4 (tmAllU 2 (tmAllU 1 tmAll0 (Tm.ptr rfl)) (Tm.ptr rfl)) (Tm.v _)))⟩
   ·
    have hl3 := cF hl3 h4
    refine awp_exit ?_
    refine lq_e ?_
    refine bq_e ?_
    refine sq_n ?_
    obtain rfl := someInj hl3
    exact ⟨_, rfl, (Wk.canonD [] [] [some 1] rfl trivial rfl (tmOU 0 tmO0 rfl List.not_mem_nil (by simp only [upd_get, Nat.reduceEqDiff, reduceIte, Nat.reduceAdd, Nat.reduceMul, Nat.reduceSub, Nat.reduceLT, Nat.reduceLeDiff, if_true, if_false] <;> rfl) (TmL.clean (e_A16vu_clean _))) (tmAllU 2 tmAll0 (Tm.ptr rfl)))⟩
 ·
  rintro _ rfl
  clear hi1
  unfold cipher_Join_S0
  refine awp_nr [2] (fun _ => rfl) fun tz => ?_
  refine awp_regW fun KK hKK => ?_
  refine xw_id ?_
  try simp only [go_sem, Nat.reduceEqDiff, reduceIte, Nat.reduceAdd, Nat.reduceMul, Nat.reduceSub, Nat.reduceLT, Nat.reduceLeDiff]
  refine hKK _ _ (Wk.refl _ _ _) ?_; clear hKK KK
  refine awp_ret1 ?_
  obtain rfl := someInj h0
  refine endW_i ?_
  refine end_ret0 rs84 (by simp only [go_sem, resV, resAll, resOf, packR, Nat.reduceEqDiff, reduceIte, Nat.reduceAdd, Nat.reduceMul, Nat.reduceSub, Nat.reduceLT, Nat.reduceLeDiff]; rfl) ?_
  try simp only [go_sem, Nat.reduceEqDiff, reduceIte, Nat.reduceAdd, Nat.reduceMul, Nat.reduceSub, Nat.reduceLT, Nat.reduceLeDiff, fz, nilS, packR, List.take_nil, List.take_length, List.length_map, List.length_append, cond_true, cond_false, Nat.ble_eq, ble_self]
  all_goals first | rfl | (simp only [go_sem, Nat.reduceEqDiff, reduceIte, Nat.reduceAdd, Nat.reduceMul, Nat.reduceSub, Nat.reduceLT, Nat.reduceLeDiff, fz, nilS, packR, List.take_nil, List.take_length, List.length_map, List.length_append, cond_true, cond_false, Nat.ble_eq, ble_self, List.map_append] <;> rfl)

end Go.AX.Z.TW

/-! (TWW cipher Encrypt) -/

set_option linter.unusedSimpArgs false
set_option linter.unusedVariables false
set_option maxHeartbeats 4000000
set_option maxRecDepth 20000
namespace Go.AX.Z.TW
open Go.AX Go.Proofs
attribute [local irreducible] awp xw xop xcall gsp ob xd xdop xcallD seqQ loopQ blkQ endQ

def cipher_Encrypt_S0 (a1 : A16vu) (x29 : A36vw) : AS :=
 { objs := (upd (upd (upd (fun _ => .dead) 0 (.live (e_A16vu a1))) 1 (.live (e_A16vu A16vu.z))) 2 (.live (e_A36vw x29))), next := 3, tmps := (upd (upd (upd (fun _ => .unk) 3 (.ptr 0 0)) 4 (.ptr 1 0)) 5 (.ptr 2 0)) }

def cipher_Encrypt_S1 (x29 : A36vw) (x31 : A4vw) : AS :=
 { objs := (upd (upd (upd (fun _ => .dead) 0 (.live (e_A16vu A16vu.z))) 1 (.live (e_A36vw x29))) 2 (.live (e_A4vw x31))), next := 3, tmps := (upd (upd (upd (fun _ => .unk) 4 (.ptr 0 0)) 5 (.ptr 1 0)) 6 (.ptr 2 0)) }

def cipher_Encrypt_S2 (d32 : A4vw) : AS :=
 { objs := (upd (upd (fun _ => .dead) 0 (.live (e_A16vu A16vu.z))) 1 (.live (e_A4vw d32))), next := 2, tmps := (upd (upd (fun _ => .unk) 4 (.ptr 0 0)) 6 (.ptr 1 0)) }

def cipher_Encrypt_S3 (x29 : A36vw) (d33 : (A4vw × Int)) : AS :=
 { objs := (upd (upd (upd (fun _ => .dead) 0 (.live (e_A16vu A16vu.z))) 1 (.live (e_A36vw x29))) 2 (.live (e_A4vw d33.1))), next := 3, tmps := (upd (upd (upd (upd (fun _ => .unk) 4 (.ptr 0 0)) 5 (.ptr 1 0)) 6 (.ptr 2 0)) 14 (vi d33.2)) }

theorem cipher_Encrypt_p (a0 : A16vu) (a1 : A16vu) {r : A16vu} (h0 : cipher_Encrypt a0 a1 = some r) : SndP K 73 [(.agg (e_A16vu a0)), (.agg (e_A16vu a1))] (.agg (e_A16vu r)) := by
 refine SndP.of_walkW hC (Clean.agg (e_A16vu_clean _)) (clean_cons (Clean.agg (e_A16vu_clean _)) (clean_cons (Clean.agg (e_A16vu_clean _)) clean_nil)) (show K.P.funcs[73]? = some Try.f73 from Try.func73) rfl rfl (by decide +kernel) (Nat.le_of_ble_eq_true rfl) ?_
 unfold cipher_Encrypt at h0
 refine awp_nr [0,1] (fun _ => rfl) fun tz => ?_
 refine awp_regW fun KK hKK => ?_
 refine xw_id ?_
 try simp only [go_sem, Nat.reduceEqDiff, reduceIte, Nat.reduceAdd, Nat.reduceMul, Nat.reduceSub, Nat.reduceLT, Nat.reduceLeDiff]
 refine hKK _ _ (Wk.refl _ _ _) ?_; clear hKK KK
 refine awp_nr [2,3,4] (fun _ => rfl) fun tz => ?_
 refine awp_regW fun KK hKK => ?_
 refine xw_id ?_
 obtain ⟨x29, bx29, h0⟩ := bnd h0
 try simp only [go_sem, Nat.reduceEqDiff, reduceIte, Nat.reduceAdd, Nat.reduceMul, Nat.reduceSub, Nat.reduceLT, Nat.reduceLeDiff]
 refine xcall_p (cipher_Schedule_p a0 bx29) ?_; try dsimp only
 try refine xw_id ?_
 try simp only [go_sem, Nat.reduceEqDiff, reduceIte, Nat.reduceAdd, Nat.reduceMul, Nat.reduceSub, Nat.reduceLT, Nat.reduceLeDiff]
 refine hKK _ (cipher_Encrypt_S0 a1 x29) (Wk.canonD [] [] [some 1, some 2, some 5] rfl trivial rfl (tmOU 2 (tmOU 1 (tmOU 0 tmO0 rfl List.not_mem_nil (by simp only [upd_get, ↓iop_and, Nat.reduceEqDiff, reduceIte, if_true, if_false] <;> rfl) (TmL.clean (e_A16vu_clean _))) rfl List.not_mem_nil (by simp only [upd_get, ↓iop_and, Nat.reduceEqDiff, reduceIte, if_true, if_false] <;> rfl) (TmL.clean (e_A16vu_clean _))) rfl List.not_mem_nil (by simp only [upd_get, ↓iop_and, Nat.reduceEqDiff, reduceIte, if_true, if_false] <;> rfl) (TmL.clean (e_A36vw_clean _))) (tmAllU 5 (tmAllU 4 (tmAllU 3 tmAll0 (Tm.ptr rfl)) (Tm.ptr rfl)) (Tm.ptr rfl))) ?_; clear hKK KK
 unfold cipher_Encrypt_S0
 refine awp_nr [3,4,5] (fun _ => rfl) fun tz => ?_
 refine awp_regDW fun KK hKK all hall => ?_
 refine xd_id ?_
 try simp only [List.toList_toArray, List.map_cons, List.map_nil, List.size_toArray, List.length_cons, List.length_nil, Nat.zero_add]
 try simp only [Nat.reduceAdd]
 obtain ⟨x30, bx30, h0⟩ := bnd h0
 simp only [go_sem, Nat.reduceEqDiff, reduceIte, Nat.reduceMul, Nat.reduceSub, Nat.reduceLT, Nat.reduceLeDiff]
 try simp only [Nat.reduceAdd]
 try simp only [go_sem, Nat.reduceEqDiff, reduceIte, Nat.reduceMul, Nat.reduceSub, Nat.reduceLT, Nat.reduceLeDiff]
 try simp only [Nat.reduceAdd]
 try simp only [go_sem, Nat.reduceEqDiff, reduceIte, Nat.reduceMul, Nat.reduceSub, Nat.reduceLT, Nat.reduceLeDiff]
 refine xcallD_p (cipher_Words_p a1 bx30) ?_; try dsimp only
 try refine xd_id ?_
 obtain ⟨x31, bx31, h0⟩ := bnd h0
 simp only [go_sem, Nat.reduceEqDiff, reduceIte, Nat.reduceMul, Nat.reduceSub, Nat.reduceLT, Nat.reduceLeDiff]
 try simp only [Nat.reduceAdd]
 try simp only [go_sem, Nat.reduceEqDiff, reduceIte, Nat.reduceMul, Nat.reduceSub, Nat.reduceLT, Nat.reduceLeDiff]
 try simp only [Nat.reduceAdd]
 try simp only [go_sem, Nat.reduceEqDiff, reduceIte, Nat.reduceMul, Nat.reduceSub, Nat.reduceLT, Nat.reduceLeDiff]
 refine xcallD_p (cipher_mask_p x30 x29 bx31) ?_; try dsimp only
 try refine xd_id ?_
 simp only [go_sem, Nat.reduceEqDiff, reduceIte, Nat.reduceMul, Nat.reduceSub, Nat.reduceLT, Nat.reduceLeDiff]
 try simp only [Nat.reduceAdd]
 try simp only [go_sem, Nat.reduceEqDiff, reduceIte, Nat.reduceMul, Nat.reduceSub, Nat.reduceLT, Nat.reduceLeDiff]
 try simp only [Nat.reduceAdd]
 try simp only [go_sem, Nat.reduceEqDiff, reduceIte, Nat.reduceMul, Nat.reduceSub, Nat.reduceLT, Nat.reduceLeDiff]
 refine And.intro ?_ (hKK _ (cipher_Encrypt_S1 x29 x31) (Wk.canonD [] [] [some 1, some 2, some 7] rfl trivial rfl (tmOU 2 (tmOU 1 (tmOU 0 tmO0 rfl List.not_mem_nil (by simp only [upd_get, ↓iop_and, Nat.reduceEqDiff, reduceIte, if_true, if_false] <;> rfl) (TmL.clean (e_A16vu_clean _))) rfl List.not_mem_nil (by simp only [upd_get, ↓iop_and, Nat.reduceEqDiff, reduceIte, if_true, if_false] <;> rfl) (TmL.clean (e_A36vw_clean _))) rfl List.not_mem_nil (by simp only [upd_get, ↓iop_and, Nat.reduceEqDiff, reduceIte, if_true, if_false] <;> rfl) (TmL.clean (e_A4vw_clean _))) (tmAllU 6 (tmAllU 5 (tmAllU 4 tmAll0 (Tm.ptr rfl)) (Tm.ptr rfl)) (Tm.ptr rfl))) ?_)
 ·
  subst hall
  clear hKK KK
  first | decide +kernel | (simp [printsOk, apartP, clash, meet]; done) | (simp [printsOk, apartP, clash, meet]; decide +kernel) | (simp [printsOk, apartP, clash, meet]; repeat (first | exact Or.inr (by decide +kernel) | (refine And.intro (Or.inr (by decide +kernel)) ?_)))
 ·
  clear hKK KK hall all
  unfold cipher_Encrypt_S1
  refine awp_assoc ?_
  refine awp_nr [4,5,6] (fun _ => rfl) fun tz => ?_
  refine awp_regW fun KK hKK => ?_
  refine xw_id ?_
  try simp only [go_sem, Nat.reduceEqDiff, reduceIte, Nat.reduceAdd, Nat.reduceMul, Nat.reduceSub, Nat.reduceLT, Nat.reduceLeDiff]
  refine hKK _ _ (Wk.refl _ _ _) ?_; clear hKK KK
  obtain ⟨d32, hi1, h0⟩ := bnd h0
  refine awp_cut (fun z => d32 = z) (fun d32 : A4vw => cipher_Encrypt_S2 d32) ?_ ?_
  ·
   refine awp_block1 ?_
   refine awp_loopS (fun n (d33 : (A4vw × Int)) => cipher_Encrypt_L4 x29 a0 a1 n d33 = some d32) (fun d33 : (A4vw × Int) => cipher_Encrypt_S3 x29 d33) big (x31, 0) (Wk.canonD [] [] [some 0, some 1, some 2] rfl trivial rfl (tmOU 2 (tmOU 1 (tmOU 0 tmO0 rfl List.not_mem_nil (by simp only [upd_get, ↓iop_and, Nat.reduceEqDiff, reduceIte, if_true, if_false] <;> rfl) (TmL.clean (e_A16vu_clean _))) rfl List.not_mem_nil (by simp only [upd_get, ↓iop_and, Nat.reduceEqDiff, reduceIte, if_true, if_false] <;> rfl) (TmL.clean (e_A36vw_clean _))) rfl List.not_mem_nil (by simp only [upd_get, ↓iop_and, Nat.reduceEqDiff, reduceIte, if_true, if_false] <;> rfl) (TmL.clean (e_A4vw_clean _))) (tmAllU 14 (tmAllU 6 (tmAllU 5 (tmAllU 4 tmAll0 (Tm.ptr rfl)) (Tm.ptr rfl)) (Tm.ptr rfl)) (Tm.v _))) hi1 ?_
   clear hi1
   rintro n d33 hl3
   rcases n with _ | n2
   ·
    (rw [cipher_Encrypt_L4] at hl3; cases hl3)
   ·
    rw [cipher_Encrypt_L4] at hl3
    unfold cipher_Encrypt_S3
    refine awp_nr [4,5,6,14] (fun _ => rfl) fun tz => ?_
    refine awp_regW fun KK hKK => ?_
    refine xw_id ?_
    try simp only [go_sem, Nat.reduceEqDiff, reduceIte, Nat.reduceAdd, Nat.reduceMul, Nat.reduceSub, Nat.reduceLT, Nat.reduceLeDiff]
    refine hKK _ _ (Wk.refl _ _ _) ?_; clear hKK KK
    refine awp_cond (b := (decide (d33.2 < 16))) rfl (fun h4 => ?_) (fun h4 => ?_)
    ·
     have hl3 := cT hl3 h4
     refine awp_skip ?_
     refine awp_blockW ?_
     refine awp_nr [4,5,6,14] (fun _ => rfl) fun tz => ?_
     refine awp_regW fun KK hKK => ?_
     refine xw_id ?_
     try simp only [go_sem, Nat.reduceEqDiff, reduceIte, Nat.reduceAdd, Nat.reduceMul, Nat.reduceSub, Nat.reduceLT, Nat.reduceLeDiff]
     refine hKK _ _ (Wk.refl _ _ _) ?_; clear hKK KK
     refine awp_nr1 [4,5,6,7,14] (fun _ => rfl) fun tz => ?_
     refine awp_regD1 fun KK hKK all hall => ?_
     refine xd_id ?_
     try simp only [List.toList_toArray, List.map_cons, List.map_nil, List.size_toArray, List.length_cons, List.length_nil, Nat.zero_add]
     try simp only [Nat.reduceAdd]
     obtain ⟨x34, bx34, hl3⟩ := bnd hl3
     obtain ⟨fx34_0, fx34_1, fx34_2, fx34_3⟩ := idxA_some bx34
     have fx34_6 : (e_A36vw x29)[(IntKind.wrap .i64 (4 + (IntKind.wrap .i64 (2 * d33.2)))).toNat]? = some (vw x34) := by show (List.map vw [x29.a0, x29.a1, x29.a2, x29.a3, x29.a4, x29.a5, x29.a6, x29.a7, x29.a8, x29.a9, x29.a10, x29.a11, x29.a12, x29.a13, x29.a14, x29.a15, x29.a16, x29.a17, x29.a18, x29.a19, x29.a20, x29.a21, x29.a22, x29.a23, x29.a24, x29.a25, x29.a26, x29.a27, x29.a28, x29.a29, x29.a30, x29.a31, x29.a32, x29.a33, x29.a34, x29.a35])[(IntKind.wrap .i64 (4 + (IntKind.wrap .i64 (2 * d33.2)))).toNat]? = _; rw [List.getElem?_map, fx34_2]; rfl
     obtain ⟨x35, bx35, hl3⟩ := bnd hl3
     obtain ⟨fx35_0, fx35_1, fx35_2, fx35_3⟩ := idxA_some bx35
     have fx35_6 : (e_A36vw x29)[(IntKind.wrap .i64 (5 + (IntKind.wrap .i64 (2 * d33.2)))).toNat]? = some (vw x35) := by show (List.map vw [x29.a0, x29.a1, x29.a2, x29.a3, x29.a4, x29.a5, x29.a6, x29.a7, x29.a8, x29.a9, x29.a10, x29.a11, x29.a12, x29.a13, x29.a14, x29.a15, x29.a16, x29.a17, x29.a18, x29.a19, x29.a20, x29.a21, x29.a22, x29.a23, x29.a24, x29.a25, x29.a26, x29.a27, x29.a28, x29.a29, x29.a30, x29.a31, x29.a32, x29.a33, x29.a34, x29.a35])[(IntKind.wrap .i64 (5 + (IntKind.wrap .i64 (2 * d33.2)))).toNat]? = _; rw [List.getElem?_map, fx35_2]; rfl
     obtain ⟨x36, bx36, hl3⟩ := bnd hl3
     simp only [go_sem, Nat.reduceEqDiff, reduceIte, Nat.reduceMul, Nat.reduceSub, Nat.reduceLT, Nat.reduceLeDiff, Int.reduceToNat, Int.reduceBEq, Int.reduceBNe, Int.reduceLT, Int.reduceLE, Int.reduceAdd, Int.reduceSub, Int.reduceMul, fx34_0, fx34_1, fx34_6, fx35_0, fx35_1, fx35_6]
     try simp only [Nat.reduceAdd]
     try simp only [go_sem, Nat.reduceEqDiff, reduceIte, Nat.reduceMul, Nat.reduceSub, Nat.reduceLT, Nat.reduceLeDiff, Int.reduceToNat, Int.reduceBEq, Int.reduceBNe, Int.reduceLT, Int.reduceLE, Int.reduceAdd, Int.reduceSub, Int.reduceMul, fx34_0, fx34_1, fx34_6, fx35_0, fx35_1, fx35_6]
     try simp only [Nat.reduceAdd]
     try simp only [go_sem, Nat.reduceEqDiff, reduceIte, Nat.reduceMul, Nat.reduceSub, Nat.reduceLT, Nat.reduceLeDiff, Int.reduceToNat, Int.reduceBEq, Int.reduceBNe, Int.reduceLT, Int.reduceLE, Int.reduceAdd, Int.reduceSub, Int.reduceMul, fx34_0, fx34_1, fx34_6, fx35_0, fx35_1, fx35_6]
     refine xcallD_p (cipher_Round_p d33.1 x34 x35 bx36) ?_; try dsimp only
     try refine xd_id ?_
     simp only [go_sem, Nat.reduceEqDiff, reduceIte, Nat.reduceMul, Nat.reduceSub, Nat.reduceLT, Nat.reduceLeDiff, Int.reduceToNat, Int.reduceBEq, Int.reduceBNe, Int.reduceLT, Int.reduceLE, Int.reduceAdd, Int.reduceSub, Int.reduceMul, fx34_0, fx34_1, fx34_6, fx35_0, fx35_1, fx35_6]
     try simp only [Nat.reduceAdd]
     try simp only [go_sem, Nat.reduceEqDiff, reduceIte, Nat.reduceMul, Nat.reduceSub, Nat.reduceLT, Nat.reduceLeDiff, Int.reduceToNat, Int.reduceBEq, Int.reduceBNe, Int.reduceLT, Int.reduceLE, Int.reduceAdd, Int.reduceSub, Int.reduceMul, fx34_0, fx34_1, fx34_6, fx35_0, fx35_1, fx35_6]
     try simp only [Nat.reduceAdd]
     try simp only [go_sem, Nat.reduceEqDiff, reduceIte, Nat.reduceMul, Nat.reduceSub, Nat.reduceLT, Nat.reduceLeDiff, Int.reduceToNat, Int.reduceBEq, Int.reduceBNe, Int.reduceLT, Int.reduceLE, Int.reduceAdd, Int.reduceSub, Int.reduceMul, fx34_0, fx34_1, fx34_6, fx35_0, fx35_1, fx35_6]
     refine And.intro ?_ (hKK _ ?_)
     ·
      subst hall
      clear hKK KK
      first | decide +kernel | (simp [printsOk, apartP, clash, meet]; done) | (simp [printsOk, apartP, clash, meet]; decide +kernel) | (simp [printsOk, apartP, clash, meet]; repeat (first | exact Or.inr (by decide +kernel) | (refine And.intro (Or.inr (by decide +kernel)) ?_)))
     ·
      clear hKK KK hall all
      refine bq_n ?_
      refine seqW_i ?_
      refine awp_nr1 [4,5,6,14] (fun _ => rfl) fun tz => ?_
      refine awp_reg1 fun KK hKK => ?_
      refine xw_id ?_
      try simp only [go_sem, Nat.reduceEqDiff, reduceIte, Nat.reduceAdd, Nat.reduceMul, Nat.reduceSub, Nat.reduceLT, Nat.reduceLeDiff, fx34_0, fx34_1, fx34_6, fx35_0, fx35_1, fx35_6]
      refine hKK _ ?_; clear hKK KK
      refine lq_n ?_
      exact ⟨n2, (x36, IntKind.wrap .i64 (d33.2 + 1)), rfl, hl3, (Wk.canonD [] [] [some 0, some 1, some 2] rfl trivial rfl (tmOU 2 (tmOU 1 (tmOU 0 tmO0 rfl List.not_mem_nil (by simp only [upd_get, ↓iop_and, Nat.reduceEqDiff, reduceIte, if_true, if_false] <;> rfl) (TmL.clean (e_A16vu_clean _))) rfl List.not_mem_nil (by simp only [upd_get, ↓iop_and, Nat.reduceEqDiff, reduceIte, if_true, if_false] <;> rfl) (TmL.clean (e_A36vw_clean _))) rfl List.not_mem_nil (by simp only [upd_get, ↓iop_and, Nat.reduceEqDiff, reduceIte, if_true, if_false] <;> rfl) (TmL.clean (e_A4vw_clean _))) (tmAllU 14 (tmAllU 6 (tmAllU 5 (tmAllU 4 tmAll0 (Tm.ptr rfl)) (Tm.ptr rfl)) (Tm.ptr rfl)) (Tm.v _)))⟩
    ·
     have hl3 := cF hl3 h4
     refine awp_exit ?_
     refine lq_e ?_
     refine bq_e ?_
     refine sq_n ?_
     obtain rfl := someInj hl3
     exact ⟨_, rfl, (Wk.canonD [] [] [some 0, some 2] rfl trivial rfl (tmOU 1 (tmOU 0 tmO0 rfl List.not_mem_nil (by simp only [upd_get, ↓iop_and, Nat.reduceEqDiff, reduceIte, if_true, if_false] <;> rfl) (TmL.clean (e_A16vu_clean _))) rfl List.not_mem_nil (by simp only [upd_get, ↓iop_and, Nat.reduceEqDiff, reduceIte, if_true, if_false] <;> rfl) (TmL.clean (e_A4vw_clean _))) (tmAllU 6 (tmAllU 4 tmAll0 (Tm.ptr rfl)) (Tm.ptr rfl)))⟩
  ·
   rintro _ rfl
   clear hi1
   unfold cipher_Encrypt_S2
   refine awp_nr [4,6] (fun _ => rfl) fun tz => ?_
   refine awp_regW fun KK hKK => ?_
   refine xw_id ?_
   obtain ⟨x37, bx37, h0⟩ := bnd h0
   try simp only [go_sem, Nat.reduceEqDiff, reduceIte, Nat.reduceAdd, Nat.reduceMul, Nat.reduceSub, Nat.reduceLT, Nat.reduceLeDiff]
   refine xcall_p (cipher_Join_p d32 bx37) ?_; try dsimp only
   try refine xw_id ?_
   try simp only [go_sem, Nat.reduceEqDiff, reduceIte, Nat.reduceAdd, Nat.reduceMul, Nat.reduceSub, Nat.reduceLT, Nat.reduceLeDiff]
   refine hKK _ _ (Wk.refl _ _ _) ?_; clear hKK KK
   refine awp_ret1 ?_
   obtain rfl := someInj h0
   refine endW_i ?_
   refine end_ret0 rs73 (by simp only [go_sem, resV, resAll, resOf, packR, Nat.reduceEqDiff, reduceIte, Nat.reduceAdd, Nat.reduceMul, Nat.reduceSub, Nat.reduceLT, Nat.reduceLeDiff]; rfl) ?_
   try simp only [go_sem, Nat.reduceEqDiff, reduceIte, Nat.reduceAdd, Nat.reduceMul, Nat.reduceSub, Nat.reduceLT, Nat.reduceLeDiff, fz, nilS, packR, List.take_nil, List.take_length, List.length_map, List.length_append, cond_true, cond_false, Nat.ble_eq, ble_self]
   all_goals first | rfl | (simp only [go_sem, Nat.reduceEqDiff, reduceIte, Nat.reduceAdd, Nat.reduceMul, Nat.reduceSub, Nat.reduceLT, Nat.reduceLeDiff, fz, nilS, packR, List.take_nil, List.take_length, List.length_map, List.length_append, cond_true, cond_false, Nat.ble_eq, ble_self, List.map_append] <;> rfl)

end Go.AX.Z.TW

/-! (TWW derive Mac) -/

set_option linter.unusedSimpArgs false
set_option linter.unusedVariables false
set_option maxHeartbeats 4000000
set_option maxRecDepth 20000
namespace Go.AX.Z.TW
open Go.AX Go.Proofs
attribute [local irreducible] awp xw xop xcall gsp ob xd xdop xcallD seqQ loopQ blkQ endQ

def derive_Mac_S0 (a0 : A16vu) (a1 : (List Int)) : AS :=
 { objs := (upd (upd (upd (fun _ => .dead) 0 (.live (e_A16vu a0))) 1 (.live (e_A16vu A16vu.z))) 2 (.live (e_A16vu { A16vu.z with a0 := 3 }))), next := 3, tmps := (upd (upd (upd (upd (fun _ => .unk) 1 (.imm (List.map vu a1) a1.length)) 2 (.ptr 0 0)) 4 (.ptr 1 0)) 5 (.ptr 2 0)) }

def derive_Mac_S1 (a0 : A16vu) (a1 : (List Int)) (d25 : A16vu) : AS :=
 { objs := (upd (upd (upd (fun _ => .dead) 0 (.live (e_A16vu a0))) 1 (.live (e_A16vu A16vu.z))) 2 (.live (e_A16vu d25))), next := 3, tmps := (upd (upd (upd (upd (fun _ => .unk) 1 (.imm (List.map vu a1) a1.length)) 2 (.ptr 0 0)) 4 (.ptr 1 0)) 5 (.ptr 2 0)) }

def derive_Mac_S2 (a0 : A16vu) (a1 : (List Int)) (d26 : (A16vu × Int)) : AS :=
 { objs := (upd (upd (upd (fun _ => .dead) 0 (.live (e_A16vu a0))) 1 (.live (e_A16vu A16vu.z))) 2 (.live (e_A16vu d26.1))), next := 3, tmps := (upd (upd (upd (upd (upd (fun _ => .unk) 1 (.imm (List.map vu a1) a1.length)) 2 (.ptr 0 0)) 4 (.ptr 1 0)) 5 (.ptr 2 0)) 10 (vi d26.2)) }

def derive_Mac_S4 (d30 : A16vu) : AS :=
 { objs := (upd (upd (fun _ => .dead) 0 (.live (e_A16vu A16vu.z))) 1 (.live (e_A16vu d30))), next := 2, tmps := (upd (upd (fun _ => .unk) 4 (.ptr 0 0)) 5 (.ptr 1 0)) }

def derive_Mac_S5 (a0 : A16vu) (a1 : (List Int)) (d31 : (A16vu × Int)) : AS :=
 { objs := (upd (upd (upd (fun _ => .dead) 0 (.live (e_A16vu a0))) 1 (.live (e_A16vu A16vu.z))) 2 (.live (e_A16vu d31.1))), next := 3, tmps := (upd (upd (upd (upd (upd (upd (upd (fun _ => .unk) 1 (.imm (List.map vu a1) a1.length)) 2 (.ptr 0 0)) 4 (.ptr 1 0)) 5 (.ptr 2 0)) 26 (.imm (List.map vu a1) a1.length)) 27 (vi (a1.length : Int))) 28 (vi d31.2)) }

theorem derive_Mac_p (a0 : A16vu) (a1 : (List Int)) {r : A16vu} (h0 : derive_Mac a0 a1 = some r) : SndP K 64 [(.agg (e_A16vu a0)), (S_vu a1)] (.agg (e_A16vu r)) := by
 refine SndP.of_walkW hC (Clean.agg (e_A16vu_clean _)) (clean_cons (Clean.agg (e_A16vu_clean _)) (clean_cons (S_vu_clean _) clean_nil)) (show K.P.funcs[64]? = some Try.f64 from Try.func64) rfl rfl (by decide +kernel) (Nat.le_of_ble_eq_true rfl) ?_
 unfold derive_Mac at h0
 refine awp_nr [0,1] (fun _ => rfl) fun tz => ?_
 refine awp_regW fun KK hKK => ?_
 refine xw_id ?_
 try simp only [go_sem, ↓iop_and, ↓iop_or, ↓iop_xor, ↓iop_andn, Nat.reduceEqDiff, reduceIte, Nat.reduceAdd, Nat.reduceMul, Nat.reduceSub, Nat.reduceLT, Nat.reduceLeDiff]
 refine hKK _ _ (Wk.refl _ _ _) ?_; clear hKK KK
 refine awp_nr [1,2,4] (fun _ => rfl) fun tz => ?_
 refine awp_regW fun KK hKK => ?_
 refine xw_id ?_
 try simp only [go_sem, ↓iop_and, ↓iop_or, ↓iop_xor, ↓iop_andn, Nat.reduceEqDiff, reduceIte, Nat.reduceAdd, Nat.reduceMul, Nat.reduceSub, Nat.reduceLT, Nat.reduceLeDiff]
 refine hKK _ (derive_Mac_S0 a0 a1) (Wk.canonD [] [] [some 0, some 1, some 3] rfl trivial rfl (tmOU 2 (tmOU 1 (tmOU 0 tmO0 rfl List.not_mem_nil (by simp only [upd_get, ↓iop_and, ↓iop_or, ↓iop_xor, ↓iop_andn, Nat.reduceEqDiff, reduceIte, Nat.reduceAdd, Nat.reduceMul, Nat.reduceSub, Nat.reduceLT, Nat.reduceLeDiff, if_true, if_false] <;> rfl) (TmL.clean (e_A16vu_clean _))) rfl List.not_mem_nil (by simp only [upd_get, ↓iop_and, ↓iop_or, ↓iop_xor, ↓iop_andn, Nat.reduceEqDiff, reduceIte, Nat.reduceAdd, Nat.reduceMul, Nat.reduceSub, Nat.reduceLT, Nat.reduceLeDiff, if_true, if_false] <;> rfl) (TmL.clean (e_A16vu_clean _))) rfl List.not_mem_nil (by simp only [upd_get, ↓iop_and, ↓iop_or, ↓iop_xor, ↓iop_andn, Nat.reduceEqDiff, reduceIte, Nat.reduceAdd, Nat.reduceMul, Nat.reduceSub, Nat.reduceLT, Nat.reduceLeDiff, if_true, if_false] <;> rfl) (TmL.clean (e_A16vu_clean _))) (tmAllU 5 (tmAllU 4 (tmAllU 2 (tmAllU 1 tmAll0 (Tm.clean (Clean.imm (vu_clean _)))) (Tm.ptr rfl)) (Tm.ptr rfl)) (Tm.ptr rfl))) ?_; clear hKK KK
 unfold derive_Mac_S0
 refine awp_assoc ?_
 refine awp_nr [1,2,4,5] (fun _ => rfl) fun tz => ?_
 refine awp_regW fun KK hKK => ?_
 refine xw_id ?_
 try simp only [go_sem, ↓iop_and, ↓iop_or, ↓iop_xor, ↓iop_andn, Nat.reduceEqDiff, reduceIte, Nat.reduceAdd, Nat.reduceMul, Nat.reduceSub, Nat.reduceLT, Nat.reduceLeDiff]
 refine hKK _ _ (Wk.refl _ _ _) ?_; clear hKK KK
 obtain ⟨d25, hi1, h0⟩ := bnd h0
 refine awp_cut (fun z => d25 = z) (fun d25 : A16vu => derive_Mac_S1 a0 a1 d25) ?_ ?_
 ·
  refine awp_block1 ?_
  refine awp_loopS (fun n (d26 : (A16vu × Int)) => derive_Mac_L3 a0 a1 n d26 = some d25) (fun d26 : (A16vu × Int) => derive_Mac_S2 a0 a1 d26) big ({ A16vu.z with a0 := 3 }, 0) (Wk.canonD [] [] [some 0, some 1, some 2] rfl trivial rfl (tmOU 2 (tmOU 1 (tmOU 0 tmO0 rfl List.not_mem_nil (by simp only [upd_get, ↓iop_and, ↓iop_or, ↓iop_xor, ↓iop_andn, Nat.reduceEqDiff, reduceIte, Nat.reduceAdd, Nat.reduceMul, Nat.reduceSub, Nat.reduceLT, Nat.reduceLeDiff, if_true, if_false] <;> rfl) (TmL.clean (e_A16vu_clean _))) rfl List.not_mem_nil (by simp only [upd_get, ↓iop_and, ↓iop_or, ↓iop_xor, ↓iop_andn, Nat.reduceEqDiff, reduceIte, Nat.reduceAdd, Nat.reduceMul, Nat.reduceSub, Nat.reduceLT, Nat.reduceLeDiff, if_true, if_false] <;> rfl) (TmL.clean (e_A16vu_clean _))) rfl List.not_mem_nil (by simp only [upd_get, ↓iop_and, ↓iop_or, ↓iop_xor, ↓iop_andn, Nat.reduceEqDiff, reduceIte, Nat.reduceAdd, Nat.reduceMul, Nat.reduceSub, Nat.reduceLT, Nat.reduceLeDiff, if_true, if_false] <;> rfl) (TmL.clean (e_A16vu_clean _))) (tmAllU 10 (tmAllU 5 (tmAllU 4 (tmAllU 2 (tmAllU 1 tmAll0 (Tm.clean (Clean.imm (vu_clean _)))) (Tm.ptr rfl)) (Tm.ptr rfl)) (Tm.ptr rfl)) (Tm.v _))) hi1 ?_
  clear hi1
  rintro n d26 hl3
  rcases n with _ | n2
  ·
   (rw [derive_Mac_L3] at hl3; cases hl3)
  ·
   rw [derive_Mac_L3] at hl3
   unfold derive_Mac_S2
   refine awp_nr [1,2,4,5,10] (fun _ => rfl) fun tz => ?_
   refine awp_regW fun KK hKK => ?_
   refine xw_id ?_
   try simp only [go_sem, ↓iop_and, ↓iop_or, ↓iop_xor, ↓iop_andn, Nat.reduceEqDiff, reduceIte, Nat.reduceAdd, Nat.reduceMul, Nat.reduceSub, Nat.reduceLT, Nat.reduceLeDiff]
   refine hKK _ _ (Wk.refl _ _ _) ?_; clear hKK KK
   refine awp_cond (b := (decide (d26.2 < 8))) rfl (fun h4 => ?_) (fun h4 => ?_)
   ·
    have hl3 := cT hl3 h4
    refine awp_skip ?_
    refine awp_blockW ?_
    refine awp_nr [1,2,4,5,10] (fun _ => rfl) fun tz => ?_
    refine awp_regW fun KK hKK => ?_
    refine xw_id ?_
    try simp only [go_sem, ↓iop_and, ↓iop_or, ↓iop_xor, ↓iop_andn, Nat.reduceEqDiff, reduceIte, Nat.reduceAdd, Nat.reduceMul, Nat.reduceSub, Nat.reduceLT, Nat.reduceLeDiff]
    refine hKK _ _ (Wk.refl _ _ _) ?_; clear hKK KK
    refine awp_nr1 [1,2,4,5,6,10] (fun _ => rfl) fun tz => ?_
    refine awp_reg1 fun KK hKK => ?_
    refine xw_id ?_
    obtain ⟨x27, bx27, hl3⟩ := bnd hl3
    have bx27 := chk_some bx27
    simp only [Bool.and_eq_true, decide_eq_true_eq] at bx27
    have gx27_0 := bx27
    obtain ⟨x28, bx28, hl3⟩ := bnd hl3
    obtain ⟨fx28_0, fx28_1, fx28_2, fx28_3⟩ := idxA_some bx28
    have fx28_6 : (e_A16vu d26.1)[(IntKind.wrap .i64 (1 + d26.2)).toNat]? = some (vu x28) := by show (List.map vu [d26.1.a0, d26.1.a1, d26.1.a2, d26.1.a3, d26.1.a4, d26.1.a5, d26.1.a6, d26.1.a7, d26.1.a8, d26.1.a9, d26.1.a10, d26.1.a11, d26.1.a12, d26.1.a13, d26.1.a14, d26.1.a15])[(IntKind.wrap .i64 (1 + d26.2)).toNat]? = _; rw [List.getElem?_map, fx28_2]; rfl
    have gs5b : (IntKind.wrap .i64 (1 + d26.2)).toNat < 16 := by have h0 := of_eq_true fx28_0; have h1 := of_eq_true fx28_1; omega
    have gs5 : (e_A16vu d26.1).set ((IntKind.wrap .i64 (1 + d26.2)).toNat) (vu (IntKind.wrap .u8 (((a1.length : Int)).fdiv (2 ^ (min ((IntKind.wrap .i64 (8 * d26.2))).toNat 64))))) = e_A16vu (d26.1.setA ((IntKind.wrap .i64 (1 + d26.2)).toNat) (IntKind.wrap .u8 (((a1.length : Int)).fdiv (2 ^ (min ((IntKind.wrap .i64 (8 * d26.2))).toNat 64))))) := e_A16vu_setA _ _ gs5b
    have gs5l : ((IntKind.wrap .i64 (1 + d26.2)).toNat + 1 ≤ 16) = True := eq_true (by omega)
    try simp only [go_sem, ↓iop_and, ↓iop_or, ↓iop_xor, ↓iop_andn, Nat.reduceEqDiff, reduceIte, Nat.reduceAdd, Nat.reduceMul, Nat.reduceSub, Nat.reduceLT, Nat.reduceLeDiff, Int.reduceToNat, Int.reduceBEq, Int.reduceBNe, Int.reduceLT, Int.reduceLE, Int.reduceAdd, Int.reduceSub, Int.reduceMul, Int.reduceNeg, Int.reduceEq, Int.reduceNe, gx27_0, fx28_0, fx28_1, fx28_6, gs5, gs5l]
    refine hKK _ ?_; clear hKK KK
    refine bq_n ?_
    refine seqW_i ?_
    refine awp_nr1 [1,2,4,5,10] (fun _ => rfl) fun tz => ?_
    refine awp_reg1 fun KK hKK => ?_
    refine xw_id ?_
    try simp only [go_sem, ↓iop_and, ↓iop_or, ↓iop_xor, ↓iop_andn, Nat.reduceEqDiff, reduceIte, Nat.reduceAdd, Nat.reduceMul, Nat.reduceSub, Nat.reduceLT, Nat.reduceLeDiff, fx28_0, fx28_1, fx28_6]
    refine hKK _ ?_; clear hKK KK
    refine lq_n ?_
    exact ⟨n2, ((d26.1.setA ((IntKind.wrap .i64 (1 + d26.2)).toNat) (IntKind.wrap .u8 (((a1.length : Int)).fdiv (2 ^ (min ((IntKind.wrap .i64 (8 * d26.2))).toNat 64))))), IntKind.wrap .i64 (d26.2 + 1)), rfl, hl3, (Wk.canonD [] [] [some 0, some 1, some 2] rfl trivial rfl (tmOU 2 (tmOU 1 (tmOU 0 tmO0 rfl List.not_mem_nil (by simp only [upd_get, ↓iop_and, ↓iop_or, ↓iop_xor, ↓iop_andn, Nat.reduceEqDiff, reduceIte, Nat.reduceAdd, Nat.reduceMul, Nat.reduceSub, Nat.reduceLT, Nat.reduceLeDiff, if_true, if_false] <;> rfl) (TmL.clean (e_A16vu_clean _))) rfl List.not_mem_nil (by simp only [upd_get, ↓iop_and, ↓iop_or, ↓iop_xor, ↓iop_andn, Nat.reduceEqDiff, reduceIte, Nat.reduceAdd, Nat.reduceMul, Nat.reduceSub, Nat.reduceLT, Nat.reduceLeDiff, if_true, if_false] <;> rfl) (TmL.clean (e_A16vu_clean _))) rfl List.not_mem_nil (by simp only [upd_get, ↓iop_and, ↓iop_or, ↓iop_xor, ↓iop_andn, Nat.reduceEqDiff, reduceIte, Nat.reduceAdd, Nat.reduceMul, Nat.reduceSub, Nat.reduceLT, Nat.reduceLeDiff, if_true, if_false] <;> rfl) (TmL.clean (e_A16vu_clean _))) (tmAllU 10 (tmAllU 5 (tmAllU 4 (tmAllU 2 (tmAllU 1 tmAll0 (Tm.clean (Clean.imm (vu_clean _)))) (Tm.ptr rfl)) (Tm.ptr rfl)) (Tm.ptr rfl)) (Tm.v _)))⟩
   ·
    have hl3 := cF hl3 h4
    refine awp_exit ?_
    refine lq_e ?_
    refine bq_e ?_
    refine sq_n ?_
    obtain rfl := someInj hl3
    exact ⟨_, rfl, (Wk.canonD [] [] [some 0, some 1, some 2] rfl trivial rfl (tmOU 2 (tmOU 1 (tmOU 0 tmO0 rfl List.not_mem_nil (by simp only [upd_get, ↓iop_and, ↓iop_or, ↓iop_xor, ↓iop_andn, Nat.reduceEqDiff, reduceIte, Nat.reduceAdd, Nat.reduceMul, Nat.reduceSub, Nat.reduceLT, Nat.reduceLeDiff, if_true, if_false] <;> rfl) (TmL.clean (e_A16vu_clean _))) rfl List.not_mem_nil (by simp only [upd_get, ↓iop_and, ↓iop_or, ↓iop_xor, ↓iop_andn, Nat.reduceEqDiff, reduceIte, Nat.reduceAdd, Nat.reduceMul, Nat.reduceSub, Nat.reduceLT, Nat.reduceLeDiff, if_true, if_false] <;> rfl) (TmL.clean (e_A16vu_clean _))) rfl List.not_mem_nil (by simp only [upd_get, ↓iop_and, ↓iop_or, ↓iop_xor, ↓iop_andn, Nat.reduceEqDiff, reduceIte, Nat.reduceAdd, Nat.reduceMul, Nat.reduceSub, Nat.reduceLT, Nat.reduceLeDiff, if_true, if_false] <;> rfl) (TmL.clean (e_A16vu_clean _))) (tmAllU 5 (tmAllU 4 (tmAllU 2 (tmAllU 1 tmAll0 (Tm.clean (Clean.imm (vu_clean _)))) (Tm.ptr rfl)) (Tm.ptr rfl)) (Tm.ptr rfl)))⟩
 ·
  rintro _ rfl
  clear hi1
  unfold derive_Mac_S1
  refine awp_nr [1,2,4,5] (fun _ => rfl) fun tz => ?_
  refine awp_regW fun KK hKK => ?_
  refine xw_id ?_
  obtain ⟨x29, bx29, h0⟩ := bnd h0
  try simp only [go_sem, ↓iop_and, ↓iop_or, ↓iop_xor, ↓iop_andn, Nat.reduceEqDiff, reduceIte, Nat.reduceAdd, Nat.reduceMul, Nat.reduceSub, Nat.reduceLT, Nat.reduceLeDiff]
  refine xcall_p (cipher_Encrypt_p a0 d25 bx29) ?_; try dsimp only
  try refine xw_id ?_
  try simp only [go_sem, ↓iop_and, ↓iop_or, ↓iop_xor, ↓iop_andn, Nat.reduceEqDiff, reduceIte, Nat.reduceAdd, Nat.reduceMul, Nat.reduceSub, Nat.reduceLT, Nat.reduceLeDiff]
  refine hKK _ _ (Wk.refl _ _ _) ?_; clear hKK KK
  refine awp_assoc ?_
  refine awp_nr [1,2,4,5] (fun _ => rfl) fun tz => ?_
  refine awp_regW fun KK hKK => ?_
  refine xw_id ?_
  try simp only [go_sem, ↓iop_and, ↓iop_or, ↓iop_xor, ↓iop_andn, Nat.reduceEqDiff, reduceIte, Nat.reduceAdd, Nat.reduceMul, Nat.reduceSub, Nat.reduceLT, Nat.reduceLeDiff, Int.reduceToNat, Int.reduceBEq, Int.reduceBNe, Int.reduceLT, Int.reduceLE, Int.reduceAdd, Int.reduceSub, Int.reduceMul, Int.reduceNeg, Int.reduceEq, Int.reduceNe]
  refine hKK _ _ (Wk.refl _ _ _) ?_; clear hKK KK
  obtain ⟨d30, hi6, h0⟩ := bnd h0
  refine awp_cut (fun z => d30 = z) (fun d30 : A16vu => derive_Mac_S4 d30) ?_ ?_
  ·
   refine awp_block1 ?_
   refine awp_loopS (fun n (d31 : (A16vu × Int)) => derive_Mac_L6 a1 a0 n d31 = some d30) (fun d31 : (A16vu × Int) => derive_Mac_S5 a0 a1 d31) big (x29, 0) (Wk.canonD [] [] [some 0, some 1, some 2] rfl trivial rfl (tmOU 2 (tmOU 1 (tmOU 0 tmO0 rfl List.not_mem_nil (by simp only [upd_get, ↓iop_and, ↓iop_or, ↓iop_xor, ↓iop_andn, Nat.reduceEqDiff, reduceIte, Nat.reduceAdd, Nat.reduceMul, Nat.reduceSub, Nat.reduceLT, Nat.reduceLeDiff, if_true, if_false] <;> rfl) (TmL.clean (e_A16vu_clean _))) rfl List.not_mem_nil (by simp only [upd_get, ↓iop_and, ↓iop_or, ↓iop_xor, ↓iop_andn, Nat.reduceEqDiff, reduceIte, Nat.reduceAdd, Nat.reduceMul, Nat.reduceSub, Nat.reduceLT, Nat.reduceLeDiff, if_true, if_false] <;> rfl) (TmL.clean (e_A16vu_clean _))) rfl List.not_mem_nil (by simp only [upd_get, ↓iop_and, ↓iop_or, ↓iop_xor, ↓iop_andn, Nat.reduceEqDiff, reduceIte, Nat.reduceAdd, Nat.reduceMul, Nat.reduceSub, Nat.reduceLT, Nat.reduceLeDiff, if_true, if_false] <;> rfl) (TmL.clean (e_A16vu_clean _))) (tmAllU 28 (tmAllU 27 (tmAllU 26 (tmAllU 5 (tmAllU 4 (tmAllU 2 (tmAllU 1 tmAll0 (Tm.clean (Clean.imm (vu_clean _)))) (Tm.ptr rfl)) (Tm.ptr rfl)) (Tm.ptr rfl)) (Tm.clean (Clean.imm (vu_clean _)))) (Tm.v _)) (Tm.v _))) hi6 ?_
   clear hi6
   rintro n d31 hl8
   rcases n with _ | n7
   ·
    (rw [derive_Mac_L6] at hl8; cases hl8)
   ·
    rw [derive_Mac_L6] at hl8
    unfold derive_Mac_S5
    refine awp_nr [1,2,4,5,26,27,28] (fun _ => rfl) fun tz => ?_
    refine awp_regW fun KK hKK => ?_
    refine xw_id ?_
    try simp only [go_sem, ↓iop_and, ↓iop_or, ↓iop_xor, ↓iop_andn, Nat.reduceEqDiff, reduceIte, Nat.reduceAdd, Nat.reduceMul, Nat.reduceSub, Nat.reduceLT, Nat.reduceLeDiff]
    refine hKK _ _ (Wk.refl _ _ _) ?_; clear hKK KK
    refine awp_cond (b := (decide (d31.2 < (a1.length : Int)))) rfl (fun h9 => ?_) (fun h9 => ?_)
    ·
     have hl8 := cT hl8 h9
     refine awp_skip ?_
     refine awp_blockW ?_
     refine awp_nr [1,2,4,5,26,27,28] (fun _ => rfl) fun tz => ?_
     refine awp_regW fun KK hKK => ?_
     refine xw_id ?_
     obtain ⟨x32, bx32, hl8⟩ := bnd hl8
     obtain ⟨fx32_0, fx32_1, fx32_2, fx32_3⟩ := idx_some bx32
     try simp only [go_sem, ↓iop_and, ↓iop_or, ↓iop_xor, ↓iop_andn, Nat.reduceEqDiff, reduceIte, Nat.reduceAdd, Nat.reduceMul, Nat.reduceSub, Nat.reduceLT, Nat.reduceLeDiff, fx32_0, fx32_1, fx32_2]
     refine hKK _ _ (Wk.refl _ _ _) ?_; clear hKK KK
     refine awp_nr [1,2,4,5,7,8,26,27,28] (fun _ => rfl) fun tz => ?_
     refine awp_regW fun KK hKK => ?_
     refine xw_id ?_
     obtain ⟨x33, bx33, hl8⟩ := bnd hl8
     obtain ⟨fx33_0, fx33_1, fx33_2, fx33_3⟩ := idxA_some bx33
     have fx33_6 : (e_A16vu d31.1)[((d31.2).tmod 16).toNat]? = some (vu x33) := by show (List.map vu [d31.1.a0, d31.1.a1, d31.1.a2, d31.1.a3, d31.1.a4, d31.1.a5, d31.1.a6, d31.1.a7, d31.1.a8, d31.1.a9, d31.1.a10, d31.1.a11, d31.1.a12, d31.1.a13, d31.1.a14, d31.1.a15])[((d31.2).tmod 16).toNat]? = _; rw [List.getElem?_map, fx33_2]; rfl
     have gs10b : ((d31.2).tmod 16).toNat < 16 := by have h0 := of_eq_true fx33_0; have h1 := of_eq_true fx33_1; omega
     have gs10 : (e_A16vu d31.1).set (((d31.2).tmod 16).toNat) (vu (bxor .u8 x33 x32)) = e_A16vu (d31.1.setA (((d31.2).tmod 16).toNat) (bxor .u8 x33 x32)) := e_A16vu_setA _ _ gs10b
     have gs10l : (((d31.2).tmod 16).toNat + 1 ≤ 16) = True := eq_true (by omega)
     try simp only [go_sem, ↓iop_and, ↓iop_or, ↓iop_xor, ↓iop_andn, Nat.reduceEqDiff, reduceIte, Nat.reduceAdd, Nat.reduceMul, Nat.reduceSub, Nat.reduceLT, Nat.reduceLeDiff, Int.reduceToNat, Int.reduceBEq, Int.reduceBNe, Int.reduceLT, Int.reduceLE, Int.reduceAdd, Int.reduceSub, Int.reduceMul, Int.reduceNeg, Int.reduceEq, Int.reduceNe, fx32_0, fx32_1, fx32_2, fx33_0, fx33_1, fx33_6, gs10, gs10l]
     refine hKK _ _ (Wk.refl _ _ _) ?_; clear hKK KK
     refine awp_nr [1,2,4,5,7,26,27,28] (fun _ => rfl) fun tz => ?_
     refine awp_regW fun KK hKK => ?_
     refine xw_id ?_
     refine xw_stop 4 (by (try simp only [go_sem]); rfl) (by (try simp only [go_sem]); rfl) (by rfl) fun K1 hK1 => ?_
     refine xw_id ?_
     try simp only [go_sem, ↓iop_and, ↓iop_or, ↓iop_xor, ↓iop_andn, Nat.reduceEqDiff, reduceIte, Nat.reduceAdd, Nat.reduceMul, Nat.reduceSub, Nat.reduceLT, Nat.reduceLeDiff, Int.reduceToNat, Int.reduceBEq, Int.reduceBNe, Int.reduceLT, Int.reduceLE, Int.reduceAdd, Int.reduceSub, Int.reduceMul, Int.reduceNeg, Int.reduceEq, Int.reduceNe, fx32_0, fx32_1, fx32_2, fx33_0, fx33_1, fx33_6]
     refine hK1 _ ?_; clear hK1 K1
     refine xw_cut 6 [(1, (.imm (List.map vu a1) a1.length)), (2, (.ptr 0 0)), (4, (.ptr 1 0)), (5, (.ptr 2 0)), (26, (.imm (List.map vu a1) a1.length)), (27, (vi (a1.length : Int))), (28, (vi d31.2)), (49, (vb ((((d31.2).tmod 16) == 15) || (d31.2 == (IntKind.wrap .i64 ((a1.length : Int) - 1))))))] (by (try simp only [go_sem]); rfl) (by (try simp only [go_sem]); rfl) (by rfl) (fun K1 hK1 => ?_) fun tz => ?_
     ·
      refine xw_id ?_
      rcases Bool.eq_false_or_eq_true (((d31.2).tmod 16) == 15) with h11 | h11
      ·
       try simp only [go_sem, ↓iop_and, ↓iop_or, ↓iop_xor, ↓iop_andn, Nat.reduceEqDiff, reduceIte, Nat.reduceAdd, Nat.reduceMul, Nat.reduceSub, Nat.reduceLT, Nat.reduceLeDiff, Int.reduceToNat, Int.reduceBEq, Int.reduceBNe, Int.reduceLT, Int.reduceLE, Int.reduceAdd, Int.reduceSub, Int.reduceMul, Int.reduceNeg, Int.reduceEq, Int.reduceNe, fx32_0, fx32_1, fx32_2, fx33_0, fx33_1, fx33_6, h11]
       exact hK1 _ ⟨rfl, rfl, rfl, rfl, rfl, rfl, rfl, rfl, (by first | rfl | (rw [h11]; rfl) | (simp only [h11, Bool.true_and, Bool.false_and, Bool.true_or, Bool.false_or, cond_true, cond_false]; done)), trivial⟩
      ·
       try simp only [go_sem, ↓iop_and, ↓iop_or, ↓iop_xor, ↓iop_andn, Nat.reduceEqDiff, reduceIte, Nat.reduceAdd, Nat.reduceMul, Nat.reduceSub, Nat.reduceLT, Nat.reduceLeDiff, Int.reduceToNat, Int.reduceBEq, Int.reduceBNe, Int.reduceLT, Int.reduceLE, Int.reduceAdd, Int.reduceSub, Int.reduceMul, Int.reduceNeg, Int.reduceEq, Int.reduceNe, fx32_0, fx32_1, fx32_2, fx33_0, fx33_1, fx33_6, h11]
       exact hK1 _ ⟨rfl, rfl, rfl, rfl, rfl, rfl, rfl, rfl, (by first | rfl | (rw [h11]; rfl) | (simp only [h11, Bool.true_and, Bool.false_and, Bool.true_or, Bool.false_or, cond_true, cond_false]; done)), trivial⟩
     ·
      refine xw_id ?_
      try simp only [go_sem, ↓iop_and, ↓iop_or, ↓iop_xor, ↓iop_andn, Nat.reduceEqDiff, reduceIte, Nat.reduceAdd, Nat.reduceMul, Nat.reduceSub, Nat.reduceLT, Nat.reduceLeDiff, Int.reduceToNat, Int.reduceBEq, Int.reduceBNe, Int.reduceLT, Int.reduceLE, Int.reduceAdd, Int.reduceSub, Int.reduceMul, Int.reduceNeg, Int.reduceEq, Int.reduceNe, fx32_0, fx32_1, fx32_2, fx33_0, fx33_1, fx33_6]
      refine hKK _ _ (Wk.refl _ _ _) ?_; clear hKK KK
      refine awp_cond1 (b := ((((d31.2).tmod 16) == 15) || (d31.2 == (IntKind.wrap .i64 ((a1.length : Int) - 1))))) rfl (fun h12 => ?_) (fun h12 => ?_)
      ·
       have hl8 := cT hl8 h12
       refine awp_nr1 [1,2,4,5,26,27,28] (fun _ => rfl) fun tz => ?_
       refine awp_reg1 fun KK hKK => ?_
       refine xw_id ?_
       obtain ⟨x34, bx34, hl8⟩ := bnd hl8
       try simp only [go_sem, ↓iop_and, ↓iop_or, ↓iop_xor, ↓iop_andn, Nat.reduceEqDiff, reduceIte, Nat.reduceAdd, Nat.reduceMul, Nat.reduceSub, Nat.reduceLT, Nat.reduceLeDiff, fx32_0, fx32_1, fx32_2, fx33_0, fx33_1, fx33_6]
       refine xcall_p (cipher_Encrypt_p a0 (d31.1.setA (((d31.2).tmod 16).toNat) (bxor .u8 x33 x32)) bx34) ?_; try dsimp only
       try refine xw_id ?_
       try simp only [go_sem, ↓iop_and, ↓iop_or, ↓iop_xor, ↓iop_andn, Nat.reduceEqDiff, reduceIte, Nat.reduceAdd, Nat.reduceMul, Nat.reduceSub, Nat.reduceLT, Nat.reduceLeDiff, fx32_0, fx32_1, fx32_2, fx33_0, fx33_1, fx33_6]
       refine hKK _ ?_; clear hKK KK
       refine bq_n ?_
       refine seqW_i ?_
       refine awp_nr1 [1,2,4,5,26,27,28] (fun _ => rfl) fun tz => ?_
       refine awp_reg1 fun KK hKK => ?_
       refine xw_id ?_
       try simp only [go_sem, ↓iop_and, ↓iop_or, ↓iop_xor, ↓iop_andn, Nat.reduceEqDiff, reduceIte, Nat.reduceAdd, Nat.reduceMul, Nat.reduceSub, Nat.reduceLT, Nat.reduceLeDiff, fx32_0, fx32_1, fx32_2, fx33_0, fx33_1, fx33_6]
       refine hKK _ ?_; clear hKK KK
       refine lq_n ?_
       exact ⟨n7, (x34, IntKind.wrap .i64 (d31.2 + 1)), rfl, hl8, (Wk.canonD [] [] [some 0, some 1, some 2] rfl trivial rfl (tmOU 2 (tmOU 1 (tmOU 0 tmO0 rfl List.not_mem_nil (by simp only [upd_get, ↓iop_and, ↓iop_or, ↓iop_xor, ↓iop_andn, Nat.reduceEqDiff, reduceIte, Nat.reduceAdd, Nat.reduceMul, Nat.reduceSub, Nat.reduceLT, Nat.reduceLeDiff, if_true, if_false] <;> rfl) (TmL.clean (e_A16vu_clean _))) rfl List.not_mem_nil (by simp only [upd_get, ↓iop_and, ↓iop_or, ↓iop_xor, ↓iop_andn, Nat.reduceEqDiff, reduceIte, Nat.reduceAdd, Nat.reduceMul, Nat.reduceSub, Nat.reduceLT, Nat.reduceLeDiff, if_true, if_false] <;> rfl) (TmL.clean (e_A16vu_clean _))) rfl List.not_mem_nil (by simp only [upd_get, ↓iop_and, ↓iop_or, ↓iop_xor, ↓iop_andn, Nat.reduceEqDiff, reduceIte, Nat.reduceAdd, Nat.reduceMul, Nat.reduceSub, Nat.reduceLT, Nat.reduceLeDiff, if_true, if_false] <;> rfl) (TmL.clean (e_A16vu_clean _))) (tmAllU 28 (tmAllU 27 (tmAllU 26 (tmAllU 5 (tmAllU 4 (tmAllU 2 (tmAllU 1 tmAll0 (Tm.clean (Clean.imm (vu_clean _)))) (Tm.ptr rfl)) (Tm.ptr rfl)) (Tm.ptr rfl)) (Tm.clean (Clean.imm (vu_clean _)))) (Tm.v _)) (Tm.v _)))⟩
      ·
       have hl8 := cF hl8 h12
       refine awp_skip1 ?_
       refine bq_n ?_
       refine seqW_i ?_
       refine awp_nr1 [1,2,4,5,26,27,28] (fun _ => rfl) fun tz => ?_
       refine awp_reg1 fun KK hKK => ?_
       refine xw_id ?_
       try simp only [go_sem, ↓iop_and, ↓iop_or, ↓iop_xor, ↓iop_andn, Nat.reduceEqDiff, reduceIte, Nat.reduceAdd, Nat.reduceMul, Nat.reduceSub, Nat.reduceLT, Nat.reduceLeDiff, fx32_0, fx32_1, fx32_2, fx33_0, fx33_1, fx33_6]
       refine hKK _ ?_; clear hKK KK
       refine lq_n ?_
       exact ⟨n7, ((d31.1.setA (((d31.2).tmod 16).toNat) (bxor .u8 x33 x32)), IntKind.wrap .i64 (d31.2 + 1)), rfl, hl8, (Wk.canonD [] [] [some 0, some 1, some 2] rfl trivial rfl (tmOU 2 (tmOU 1 (tmOU 0 tmO0 rfl List.not_mem_nil (by simp only [upd_get, ↓iop_and, ↓iop_or, ↓iop_xor, ↓iop_andn, Nat.reduceEqDiff, reduceIte, Nat.reduceAdd, Nat.reduceMul, Nat.reduceSub, Nat.reduceLT, Nat.reduceLeDiff, if_true, if_false] <;> rfl) (TmL.clean (e_A16vu_clean _))) rfl List.not_mem_nil (by simp only [upd_get, ↓iop_and, ↓iop_or, ↓iop_xor, ↓iop_andn, Nat.reduceEqDiff, reduceIte, Nat.reduceAdd, Nat.reduceMul, Nat.reduceSub, Nat.reduceLT, Nat.reduceLeDiff, if_true, if_false] <;> rfl) (TmL.clean (e_A16vu_clean _))) rfl List.not_mem_nil (by simp only [upd_get, ↓iop_and, ↓iop_or, ↓iop_xor, ↓iop_andn, Nat.reduceEqDiff, reduceIte, Nat.reduceAdd, Nat.reduceMul, Nat.reduceSub, Nat.reduceLT, Nat.reduceLeDiff, if_true, if_false] <;> rfl) (TmL.clean (e_A16vu_clean _))) (tmAllU 28 (tmAllU 27 (tmAllU 26 (tmAllU 5 (tmAllU 4 (tmAllU 2 (tmAllU 1 tmAll0 (Tm.clean (Clean.imm (vu_clean _)))) (Tm.ptr rfl)) (Tm.ptr rfl)) (Tm.ptr rfl)) (Tm.clean (Clean.imm (vu_clean _)))) (Tm.v _)) (Tm.v _)))⟩
    ·
     have hl8 := cF hl8 h9
     refine awp_exit ?_
     refine lq_e ?_
     refine bq_e ?_
     refine sq_n ?_
     obtain rfl := someInj hl8
     exact ⟨_, rfl, (Wk.canonD [] [] [some 1, some 2] rfl trivial rfl (tmOU 1 (tmOU 0 tmO0 rfl List.not_mem_nil (by simp only [upd_get, ↓iop_and, ↓iop_or, ↓iop_xor, ↓iop_andn, Nat.reduceEqDiff, reduceIte, Nat.reduceAdd, Nat.reduceMul, Nat.reduceSub, Nat.reduceLT, Nat.reduceLeDiff, if_true, if_false] <;> rfl) (TmL.clean (e_A16vu_clean _))) rfl List.not_mem_nil (by simp only [upd_get, ↓iop_and, ↓iop_or, ↓iop_xor, ↓iop_andn, Nat.reduceEqDiff, reduceIte, Nat.reduceAdd, Nat.reduceMul, Nat.reduceSub, Nat.reduceLT, Nat.reduceLeDiff, if_true, if_false] <;> rfl) (TmL.clean (e_A16vu_clean _))) (tmAllU 5 (tmAllU 4 tmAll0 (Tm.ptr rfl)) (Tm.ptr rfl)))⟩
  ·
   rintro _ rfl
   clear hi6
   unfold derive_Mac_S4
   refine awp_nr [4,5] (fun _ => rfl) fun tz => ?_
   refine awp_regW fun KK hKK => ?_
   refine xw_id ?_
   try simp only [go_sem, ↓iop_and, ↓iop_or, ↓iop_xor, ↓iop_andn, Nat.reduceEqDiff, reduceIte, Nat.reduceAdd, Nat.reduceMul, Nat.reduceSub, Nat.reduceLT, Nat.reduceLeDiff]
   refine hKK _ _ (Wk.refl _ _ _) ?_; clear hKK KK
   refine awp_ret1 ?_
   obtain rfl := someInj h0
   refine endW_i ?_
   refine end_ret0 rs64 (by simp only [go_sem, resV, resAll, resOf, packR, ↓iop_and, ↓iop_or, ↓iop_xor, ↓iop_andn, Nat.reduceEqDiff, reduceIte, Nat.reduceAdd, Nat.reduceMul, Nat.reduceSub, Nat.reduceLT, Nat.reduceLeDiff]; rfl) ?_
   try simp only [go_sem, ↓iop_and, ↓iop_or, ↓iop_xor, ↓iop_andn, Nat.reduceEqDiff, reduceIte, Nat.reduceAdd, Nat.reduceMul, Nat.reduceSub, Nat.reduceLT, Nat.reduceLeDiff, fz, nilS, packR, List.take_nil, List.take_length, List.length_map, List.length_append, cond_true, cond_false, Nat.ble_eq, ble_self]
   all_goals first | rfl | (simp only [go_sem, ↓iop_and, ↓iop_or, ↓iop_xor, ↓iop_andn, Nat.reduceEqDiff, reduceIte, Nat.reduceAdd, Nat.reduceMul, Nat.reduceSub, Nat.reduceLT, Nat.reduceLeDiff, fz, nilS, packR, List.take_nil, List.take_length, List.length_map, List.length_append, cond_true, cond_false, Nat.ble_eq, ble_self, List.map_append] <;> rfl)

end Go.AX.Z.TW

/-! (TWW derive Expand) -/

set_option linter.unusedSimpArgs false
set_option linter.unusedVariables false
set_option maxHeartbeats 4000000
set_option maxRecDepth 20000
namespace Go.AX.Z.TW
open Go.AX Go.Proofs
attribute [local irreducible] awp xw xop xcall gsp ob xd xdop xcallD seqQ loopQ blkQ endQ

def derive_Expand_S0 (a2 : Int) (d20 : (List Int)) : AS :=
 { objs := (upd (fun _ => .dead) 0 (.live (List.map vu d20))), next := 1, tmps := (upd (upd (fun _ => .unk) 3 (vi a2)) 10 (.ref 0 0 ((d20).length) 1)) }

def derive_Expand_S1 (a0 : A16vu) (a1 : (List Int)) (a2 : Int) (d21 : (List Int × Int)) : AS :=
 { objs := (upd (upd (fun _ => .dead) 0 (.live (e_A16vu a0))) 1 (.live (List.map vu d21.1))), next := 2, tmps := (upd (upd (upd (upd (upd (upd (fun _ => .unk) 1 (.v (.string ⟨#[116, 111, 107, 101, 110]⟩))) 2 (.imm (List.map vu a1) a1.length)) 3 (vi a2)) 4 (.ptr 0 0)) 10 (.ref 1 0 ((d21.1).length) 1)) 11 (vi d21.2)) }

def derive_Expand_S3 (a0 : A16vu) (d21 : (List Int × Int)) (x23 : A16vu) (a1 : (List Int)) (a2 : Int) : AS :=
 { objs := (upd (upd (upd (fun _ => .dead) 0 (.live (e_A16vu a0))) 1 (.live (List.map vu d21.1))) 2 (.live (e_A16vu x23))), next := 3, tmps := (upd (upd (upd (upd (upd (upd (upd (fun _ => .unk) 1 (.v (.string ⟨#[116, 111, 107, 101, 110]⟩))) 2 (.imm (List.map vu a1) a1.length)) 3 (vi a2)) 4 (.ptr 0 0)) 10 (.ref 1 0 d21.1.length 1)) 11 (vi d21.2)) 12 (.ptr 2 0)) }

theorem derive_Expand_r (a0 : A16vu) (a1 : (List Int)) (a2 : Int) {r : ((List Int) × Int)} (h0 : derive_Expand a0 a1 a2 = some r) : SndR K 44 [(.agg (e_A16vu a0)), (.v (.string ⟨#[116, 111, 107, 101, 110]⟩)), (S_vu a1), (vi a2)] (fun q => (.tup [(.ref (q 0) 0 r.1.length 1), (vi r.2)])) [(List.map vu r.1)] := by
 refine SndR.of_walkW hC (show K.P.funcs[44]? = some Try.f44 from Try.func44) rfl rfl (by decide +kernel) (Nat.le_of_ble_eq_true rfl) ?_
 unfold derive_Expand at h0
 refine awp_nr [0,1,2,3] (fun _ => rfl) fun tz => ?_
 refine awp_regW fun KK hKK => ?_
 refine xw_id ?_
 try simp only [go_sem, Nat.reduceEqDiff, reduceIte, Nat.reduceAdd, Nat.reduceMul, Nat.reduceSub, Nat.reduceLT, Nat.reduceLeDiff]
 refine hKK _ _ (Wk.refl _ _ _) ?_; clear hKK KK
 refine awp_assoc ?_
 refine awp_nr [1,2,3,4] (fun _ => rfl) fun tz => ?_
 refine awp_regW fun KK hKK => ?_
 refine xw_id ?_
 try simp only [go_sem, Nat.reduceEqDiff, reduceIte, Nat.reduceAdd, Nat.reduceMul, Nat.reduceSub, Nat.reduceLT, Nat.reduceLeDiff]
 refine hKK _ _ (Wk.refl _ _ _) ?_; clear hKK KK
 refine awp_cond (b := (decide (a2 < 0))) rfl (fun h1 => ?_) (fun h1 => ?_)
 ·
  have h0 := cT h0 h1
  refine awp_assoc ?_
  refine awp_nr [] (fun _ => rfl) fun tz => ?_
  refine awp_regW fun KK hKK => ?_
  refine xw_id ?_
  try simp only [go_sem, Nat.reduceEqDiff, reduceIte, Nat.reduceAdd, Nat.reduceMul, Nat.reduceSub, Nat.reduceLT, Nat.reduceLeDiff]
  refine hKK _ _ (Wk.refl _ _ _) ?_; clear hKK KK
  refine awp_ret ?_
  obtain rfl := someInj h0
  refine endW_i ?_
  refine end_ret0 rs44 (rfl) ?_
  refine Res.mk [] [none] rfl (resON resO0) (Tm.tup (TmL.cons (Tm.thaw _ _ _) (TmL.cons (Tm.v _) TmL.nil)))
 ·
  have h0 := cF h0 h1
  refine awp_skip ?_
  refine awp_assoc ?_
  refine awp_nr [1,2,3,4] (fun _ => rfl) fun tz => ?_
  refine awp_regW fun KK hKK => ?_
  refine xw_id ?_
  have gs2 : (⟨#[116, 111, 107, 101, 110]⟩ : ByteArray).size = 5 := by rfl
  refine xw_stop 9 (by (try simp only [go_sem]); rfl) (by (try simp only [go_sem]); rfl) (by rfl) fun K1 hK1 => ?_
  refine xw_id ?_
  try simp only [go_sem, Nat.reduceEqDiff, reduceIte, Nat.reduceAdd, Nat.reduceMul, Nat.reduceSub, Nat.reduceLT, Nat.reduceLeDiff, Int.reduceToNat, Int.reduceBEq, Int.reduceBNe, Int.reduceLT, Int.reduceLE, Int.reduceAdd, Int.reduceSub, Int.reduceMul, gs2]
  refine hK1 _ ?_; clear hK1 K1
  refine xw_cut 3 [(1, (.v (.string ⟨#[116, 111, 107, 101, 110]⟩))), (2, (.imm (List.map vu a1) a1.length)), (3, (vi a2)), (4, (.ptr 0 0)), (26, (vb ((decide (256 < (a1.length : Int))) || (decide (1024 < a2)))))] (by (try simp only [go_sem]); rfl) (by (try simp only [go_sem]); rfl) (by rfl) (fun K1 hK1 => ?_) fun tz => ?_
  ·
   refine xw_id ?_
   rcases Bool.eq_false_or_eq_true (decide (256 < (a1.length : Int))) with h3 | h3
   ·
    try simp only [go_sem, Nat.reduceEqDiff, reduceIte, Nat.reduceAdd, Nat.reduceMul, Nat.reduceSub, Nat.reduceLT, Nat.reduceLeDiff, Int.reduceToNat, Int.reduceBEq, Int.reduceBNe, Int.reduceLT, Int.reduceLE, Int.reduceAdd, Int.reduceSub, Int.reduceMul, gs2, h3]
    exact hK1 _ ⟨rfl, rfl, rfl, rfl, rfl, (by first | rfl | (rw [h3]; rfl) | (simp only [h3, Bool.true_and, Bool.false_and, Bool.true_or, Bool.false_or, cond_true, cond_false]; done)), trivial⟩
   ·
    try simp only [go_sem, Nat.reduceEqDiff, reduceIte, Nat.reduceAdd, Nat.reduceMul, Nat.reduceSub, Nat.reduceLT, Nat.reduceLeDiff, Int.reduceToNat, Int.reduceBEq, Int.reduceBNe, Int.reduceLT, Int.reduceLE, Int.reduceAdd, Int.reduceSub, Int.reduceMul, gs2, h3]
    exact hK1 _ ⟨rfl, rfl, rfl, rfl, rfl, (by first | rfl | (rw [h3]; rfl) | (simp only [h3, Bool.true_and, Bool.false_and, Bool.true_or, Bool.false_or, cond_true, cond_false]; done)), trivial⟩
  ·
   refine xw_id ?_
   try simp only [go_sem, Nat.reduceEqDiff, reduceIte, Nat.reduceAdd, Nat.reduceMul, Nat.reduceSub, Nat.reduceLT, Nat.reduceLeDiff, Int.reduceToNat, Int.reduceBEq, Int.reduceBNe, Int.reduceLT, Int.reduceLE, Int.reduceAdd, Int.reduceSub, Int.reduceMul, gs2]
   refine hKK _ _ (Wk.refl _ _ _) ?_; clear hKK KK
   refine awp_cond (b := ((decide (256 < (a1.length : Int))) || (decide (1024 < a2)))) rfl (fun h4 => ?_) (fun h4 => ?_)
   ·
    have h0 := cT h0 h4
    refine awp_assoc ?_
    refine awp_nr [] (fun _ => rfl) fun tz => ?_
    refine awp_regW fun KK hKK => ?_
    refine xw_id ?_
    try simp only [go_sem, Nat.reduceEqDiff, reduceIte, Nat.reduceAdd, Nat.reduceMul, Nat.reduceSub, Nat.reduceLT, Nat.reduceLeDiff]
    refine hKK _ _ (Wk.refl _ _ _) ?_; clear hKK KK
    refine awp_ret ?_
    obtain rfl := someInj h0
    refine endW_i ?_
    refine end_ret0 rs44 (rfl) ?_
    refine Res.mk [] [none] rfl (resON resO0) (Tm.tup (TmL.cons (Tm.thaw _ _ _) (TmL.cons (Tm.v _) TmL.nil)))
   ·
    have h0 := cF h0 h4
    refine awp_skip ?_
    refine awp_nr [1,2,3,4] (fun _ => rfl) fun tz => ?_
    refine awp_regW fun KK hKK => ?_
    refine xw_id ?_
    try simp only [go_sem, Nat.reduceEqDiff, reduceIte, Nat.reduceAdd, Nat.reduceMul, Nat.reduceSub, Nat.reduceLT, Nat.reduceLeDiff]
    refine hKK _ _ (Wk.refl _ _ _) ?_; clear hKK KK
    refine awp_assoc ?_
    refine awp_nr [1,2,3,4,10] (fun _ => rfl) fun tz => ?_
    refine awp_regW fun KK hKK => ?_
    refine xw_id ?_
    try simp only [go_sem, Nat.reduceEqDiff, reduceIte, Nat.reduceAdd, Nat.reduceMul, Nat.reduceSub, Nat.reduceLT, Nat.reduceLeDiff]
    refine hKK _ _ (Wk.refl _ _ _) ?_; clear hKK KK
    obtain ⟨d20, hi5, h0⟩ := bnd h0
    refine awp_cut (fun z => d20 = z) (fun d20 : (List Int) => derive_Expand_S0 a2 d20) ?_ ?_
    ·
     refine awp_block1 ?_
     refine awp_loopS (fun n (d21 : (List Int × Int)) => derive_Expand_L2 a2 a1 a0 n d21 = some d20) (fun d21 : (List Int × Int) => derive_Expand_S1 a0 a1 a2 d21) big ([], 0) (Wk.canonD [] [] [some 0, none] rfl trivial rfl (tmON 1 (tmOU 0 tmO0 rfl List.not_mem_nil (by simp only [upd_get, ↓iop_and, Nat.reduceEqDiff, reduceIte, if_true, if_false] <;> rfl) (TmL.clean (e_A16vu_clean _))) rfl) (tmAllU 11 (tmAllU 10 (tmAllU 4 (tmAllU 3 (tmAllU 2 (tmAllU 1 tmAll0 (Tm.v _)) (Tm.clean (Clean.imm (vu_clean _)))) (Tm.v _)) (Tm.ptr rfl)) (Tm.thaw _ _ _)) (Tm.v _))) hi5 ?_
     clear hi5
     rintro n d21 hl7
     rcases n with _ | n6
     ·
      (rw [derive_Expand_L2] at hl7; cases hl7)
     ·
      rw [derive_Expand_L2] at hl7
      unfold derive_Expand_S1
      refine awp_assoc ?_
      refine awp_nr [1,2,3,4,10,11] (fun _ => rfl) fun tz => ?_
      refine awp_regW fun KK hKK => ?_
      refine xw_id ?_
      try simp only [go_sem, Nat.reduceEqDiff, reduceIte, Nat.reduceAdd, Nat.reduceMul, Nat.reduceSub, Nat.reduceLT, Nat.reduceLeDiff, Int.reduceToNat, Int.reduceBEq, Int.reduceBNe, Int.reduceLT, Int.reduceLE, Int.reduceAdd, Int.reduceSub, Int.reduceMul]
      refine hKK _ _ (Wk.refl _ _ _) ?_; clear hKK KK
      refine awp_cond (b := (decide ((((d21.1).length : Nat) : Int) < a2))) rfl (fun h8 => ?_) (fun h8 => ?_)
      ·
       have hl7 := cT hl7 h8
       refine awp_skip ?_
       refine awp_blockW ?_
       refine awp_nr [1,2,3,4,10,11] (fun _ => rfl) fun tz => ?_
       refine awp_regDW fun KK hKK all hall => ?_
       refine xd_id ?_
       try simp only [List.toList_toArray, List.map_cons, List.map_nil, List.size_toArray, List.length_cons, List.length_nil, Nat.zero_add]
       try simp only [Nat.reduceAdd]
       obtain ⟨x22, bx22, hl7⟩ := bnd hl7
       simp only [go_sem, Nat.reduceEqDiff, reduceIte, Nat.reduceMul, Nat.reduceSub, Nat.reduceLT, Nat.reduceLeDiff]
       try simp only [Nat.reduceAdd]
       try simp only [go_sem, Nat.reduceEqDiff, reduceIte, Nat.reduceMul, Nat.reduceSub, Nat.reduceLT, Nat.reduceLeDiff]
       try simp only [Nat.reduceAdd]
       try simp only [go_sem, Nat.reduceEqDiff, reduceIte, Nat.reduceMul, Nat.reduceSub, Nat.reduceLT, Nat.reduceLeDiff]
       refine xcallD_E (derive_Input_e a1 d21.2 bx22 _) ?_; try dsimp only
       try refine xd_id ?_
       obtain ⟨x23, bx23, hl7⟩ := bnd hl7
       simp only [go_sem, Nat.reduceEqDiff, reduceIte, Nat.reduceMul, Nat.reduceSub, Nat.reduceLT, Nat.reduceLeDiff]
       try simp only [Nat.reduceAdd]
       try simp only [go_sem, Nat.reduceEqDiff, reduceIte, Nat.reduceMul, Nat.reduceSub, Nat.reduceLT, Nat.reduceLeDiff]
       try simp only [Nat.reduceAdd]
       try simp only [go_sem, Nat.reduceEqDiff, reduceIte, Nat.reduceMul, Nat.reduceSub, Nat.reduceLT, Nat.reduceLeDiff]
       refine xcallD_L (by first | (simp only [go_sem, fz, Nat.reduceEqDiff, reduceIte, Nat.reduceAdd, Nat.reduceMul, Nat.reduceSub, Nat.reduceLT, Nat.reduceLeDiff]; done) | (simp only [go_sem, fz, Nat.reduceEqDiff, reduceIte, Nat.reduceAdd, Nat.reduceMul, Nat.reduceSub, Nat.reduceLT, Nat.reduceLeDiff]; rfl) | (simp only [go_sem, fz, List.length_set, ble_self, take_set, cond_true, cond_false, Nat.reduceEqDiff, reduceIte, Nat.reduceAdd, Nat.reduceMul, Nat.reduceSub, Nat.reduceLT, Nat.reduceLeDiff]; done) | (simp only [go_sem, fz, List.length_set, ble_self, take_set, cond_true, cond_false, Nat.reduceEqDiff, reduceIte, Nat.reduceAdd, Nat.reduceMul, Nat.reduceSub, Nat.reduceLT, Nat.reduceLeDiff]; rfl)) (by first | (simp only [go_sem, reach, Nat.reduceEqDiff, reduceIte, Nat.reduceAdd, Nat.reduceMul, Nat.reduceSub, Nat.reduceLT, Nat.reduceLeDiff]; done) | (simp only [go_sem, reach, Nat.reduceEqDiff, reduceIte, Nat.reduceAdd, Nat.reduceMul, Nat.reduceSub, Nat.reduceLT, Nat.reduceLeDiff]; rfl)) (derive_Mac_p a0 x22 bx23) (bare_ok (by rfl)) ?_; try dsimp only
       try refine xd_id ?_
       simp only [go_sem, Nat.reduceEqDiff, reduceIte, Nat.reduceMul, Nat.reduceSub, Nat.reduceLT, Nat.reduceLeDiff]
       try simp only [Nat.reduceAdd]
       try simp only [go_sem, Nat.reduceEqDiff, reduceIte, Nat.reduceMul, Nat.reduceSub, Nat.reduceLT, Nat.reduceLeDiff]
       try simp only [Nat.reduceAdd]
       try simp only [go_sem, Nat.reduceEqDiff, reduceIte, Nat.reduceMul, Nat.reduceSub, Nat.reduceLT, Nat.reduceLeDiff]
       refine And.intro ?_ (hKK _ (derive_Expand_S3 a0 d21 x23 a1 a2) (by refine Wk.canonD [] [] [some 0, some 1, some 12] rfl trivial rfl (tmOU 2 (tmOU 1 (tmOU 0 tmO0 rfl List.not_mem_nil (by simp only [upd_get, ↓iop_and, Nat.reduceEqDiff, reduceIte, if_true, if_false] <;> rfl) (TmL.clean (e_A16vu_clean _))) rfl List.not_mem_nil (by simp only [upd_get, ↓iop_and, Nat.reduceEqDiff, reduceIte, if_true, if_false] <;> rfl) (TmL.of_eq (by first | rfl | (simp only [List.flatMap_append, List.flatMap_cons, List.flatMap_nil, List.map_append, List.map_cons, List.map_nil, List.append_nil, List.nil_append]; done) | (simp only [List.flatMap_append, List.flatMap_cons, List.flatMap_nil, List.map_append, List.map_cons, List.map_nil, List.append_nil, List.nil_append]; rfl)) (vu_clean _))) rfl List.not_mem_nil (by simp only [upd_get, ↓iop_and, Nat.reduceEqDiff, reduceIte, if_true, if_false] <;> rfl) (TmL.clean (e_A16vu_clean _))) (tmAllU 12 (tmAllU 11 (tmAllU 10 (tmAllU 4 (tmAllU 3 (tmAllU 2 (tmAllU 1 tmAll0 (Tm.v _)) (Tm.clean (Clean.imm (vu_clean _)))) (Tm.v _)) (Tm.ptr rfl)) (Tm.refL rfl ?_)) (Tm.v _)) (Tm.ptr rfl)); all_goals (first | rfl | (simp only [List.length_take]; omega) | (simp only [List.length_append, List.length_cons, List.length_nil, List.length_modify, List.length_set, Nat.zero_add]; done) | (simp only [List.length_append, List.length_take, List.length_drop, List.length_cons, List.length_nil, List.length_modify, List.length_set, Nat.zero_add]; omega) | (simp only [List.length_append, List.length_take, List.length_drop, List.length_cons, List.length_nil, List.length_modify, List.length_set, Nat.zero_add]; done) | omega)) ?_)
       ·
        subst hall
        clear hKK KK
        first | decide +kernel | (simp [printsOk, apartP, clash, meet]; done) | (simp [printsOk, apartP, clash, meet]; decide +kernel) | (simp [printsOk, apartP, clash, meet]; repeat (first | exact Or.inr (by decide +kernel) | (refine And.intro (Or.inr (by decide +kernel)) ?_)))
       ·
        clear hKK KK hall all
        unfold derive_Expand_S3
        refine awp_nr1 [1,2,3,4,10,11,12] (fun _ => rfl) fun tz => ?_
        refine awp_reg1 fun KK hKK => ?_
        refine xw_id ?_
        obtain ⟨x24, bx24, hl7⟩ := bnd hl7
        have bx24 := chk_some bx24
        simp only [Bool.and_eq_true, decide_eq_true_eq] at bx24
        have gx24_0 := bx24
        try simp only [List.length_append, List.length_cons, List.length_nil, Nat.zero_add, Nat.reduceAdd, Nat.add_assoc, Nat.reduceLeDiff] at gx24_0
        try simp only [go_sem, Nat.reduceEqDiff, reduceIte, Nat.reduceAdd, Nat.reduceMul, Nat.reduceSub, Nat.reduceLT, Nat.reduceLeDiff, Int.reduceToNat, Int.reduceBEq, Int.reduceBNe, Int.reduceLT, Int.reduceLE, Int.reduceAdd, Int.reduceSub, Int.reduceMul, Int.sub_zero, gx24_0, List.length_append, vu_len]
        refine hKK _ ?_; clear hKK KK
        refine bq_n ?_
        refine seqW_i ?_
        refine awp_nr1 [1,2,3,4,10,11] (fun _ => rfl) fun tz => ?_
        refine awp_reg1 fun KK hKK => ?_
        refine xw_id ?_
        try simp only [go_sem, Nat.reduceEqDiff, reduceIte, Nat.reduceAdd, Nat.reduceMul, Nat.reduceSub, Nat.reduceLT, Nat.reduceLeDiff]
        refine hKK _ ?_; clear hKK KK
        refine lq_n ?_
        exact ⟨n6, ((d21.1 ++ [x23.a0, x23.a1, x23.a2, x23.a3, x23.a4, x23.a5, x23.a6, x23.a7, x23.a8, x23.a9, x23.a10, x23.a11, x23.a12, x23.a13, x23.a14, x23.a15]), IntKind.wrap .i64 (d21.2 + 1)), rfl, hl7, (by refine Wk.canonD [] [] [some 0, some 5] rfl trivial rfl (tmOU 1 (tmOU 0 tmO0 rfl List.not_mem_nil (by simp only [upd_get, ↓iop_and, Nat.reduceEqDiff, reduceIte, if_true, if_false] <;> rfl) (TmL.clean (e_A16vu_clean _))) rfl List.not_mem_nil (by simp only [upd_get, ↓iop_and, Nat.reduceEqDiff, reduceIte, if_true, if_false] <;> rfl) (TmL.of_eq (by first | rfl | (simp only [List.flatMap_append, List.flatMap_cons, List.flatMap_nil, List.map_append, List.map_cons, List.map_nil, List.append_nil, List.nil_append]; done) | (simp only [List.flatMap_append, List.flatMap_cons, List.flatMap_nil, List.map_append, List.map_cons, List.map_nil, List.append_nil, List.nil_append]; rfl)) (vu_clean _))) (tmAllU 11 (tmAllU 10 (tmAllU 4 (tmAllU 3 (tmAllU 2 (tmAllU 1 tmAll0 (Tm.v _)) (Tm.clean (Clean.imm (vu_clean _)))) (Tm.v _)) (Tm.ptr rfl)) (Tm.refL rfl ?_)) (Tm.v _)); all_goals (first | rfl | (simp only [List.length_take]; omega) | (simp only [List.length_append, List.length_cons, List.length_nil, List.length_modify, List.length_set, Nat.zero_add]; done) | (simp only [List.length_append, List.length_take, List.length_drop, List.length_cons, List.length_nil, List.length_modify, List.length_set, Nat.zero_add]; omega) | (simp only [List.length_append, List.length_take, List.length_drop, List.length_cons, List.length_nil, List.length_modify, List.length_set, Nat.zero_add]; done) | omega))⟩
      ·
       have hl7 := cF hl7 h8
       refine awp_exit ?_
       refine lq_e ?_
       refine bq_e ?_
       refine sq_n ?_
       obtain rfl := someInj hl7
       exact ⟨_, rfl, (by refine Wk.canonD [] [] [some 1] rfl trivial rfl (tmOU 0 tmO0 rfl List.not_mem_nil (by simp only [upd_get, ↓iop_and, Nat.reduceEqDiff, reduceIte, if_true, if_false] <;> rfl) (TmL.of_eq (by first | rfl | (simp only [List.flatMap_append, List.flatMap_cons, List.flatMap_nil, List.map_append, List.map_cons, List.map_nil, List.append_nil, List.nil_append]; done) | (simp only [List.flatMap_append, List.flatMap_cons, List.flatMap_nil, List.map_append, List.map_cons, List.map_nil, List.append_nil, List.nil_append]; rfl)) (vu_clean _))) (tmAllU 10 (tmAllU 3 tmAll0 (Tm.v _)) (Tm.refL rfl ?_)); all_goals (first | rfl | (simp only [List.length_take]; omega) | (simp only [List.length_append, List.length_cons, List.length_nil, List.length_modify, List.length_set, Nat.zero_add]; done) | (simp only [List.length_append, List.length_take, List.length_drop, List.length_cons, List.length_nil, List.length_modify, List.length_set, Nat.zero_add]; omega) | (simp only [List.length_append, List.length_take, List.length_drop, List.length_cons, List.length_nil, List.length_modify, List.length_set, Nat.zero_add]; done) | omega))⟩
    ·
     rintro _ rfl
     clear hi5
     unfold derive_Expand_S0
     refine awp_nr [3,10] (fun _ => rfl) fun tz => ?_
     refine awp_regW fun KK hKK => ?_
     refine xw_id ?_
     obtain ⟨x25, bx25, h0⟩ := bnd h0
     have bx25 := chk_some bx25
     simp only [Bool.and_eq_true, decide_eq_true_eq] at bx25
     obtain ⟨⟨gx25_0, gx25_1⟩, gx25_2⟩ := bx25
     try simp only [go_sem, Nat.reduceEqDiff, reduceIte, Nat.reduceAdd, Nat.reduceMul, Nat.reduceSub, Nat.reduceLT, Nat.reduceLeDiff, Int.reduceToNat, Int.reduceBEq, Int.reduceBNe, Int.reduceLT, Int.reduceLE, Int.reduceAdd, Int.reduceSub, Int.reduceMul, gx25_0, gx25_1, gx25_2]
     have ht : List.map vu d20 = List.map vu (List.take ((a2).toNat) d20) ++ List.map vu (List.drop ((a2).toNat) d20) := by rw [← List.map_append, List.take_append_drop]
     refine hKK _ _ (Wk.trim 0 ?_ ht) ?_
     ·
      simp only [upd_get, ↓iop_and, Nat.reduceEqDiff, reduceIte, if_true, if_false] <;> rfl
     clear hKK KK ht
     refine awp_ret1 ?_
     obtain rfl := someInj h0
     refine endW_i ?_
     refine end_ret0 rs44 (rfl) ?_
     refine Res.mk [] [some 0] rfl (resOU List.not_mem_nil (by simp only [upd_get, ↓iop_and, Nat.reduceEqDiff, reduceIte, if_true, if_false] <;> rfl) (TmL.of_eq (by first | rfl | (simp only [List.flatMap_append, List.flatMap_cons, List.flatMap_nil, List.map_append, List.map_cons, List.map_nil, List.append_nil, List.nil_append]; done) | (simp only [List.flatMap_append, List.flatMap_cons, List.flatMap_nil, List.map_append, List.map_cons, List.map_nil, List.append_nil, List.nil_append]; rfl)) (vu_clean _)) resO0) (Tm.tup (TmL.cons (Tm.refL rfl ?_) (TmL.cons (Tm.v _) TmL.nil)))
     all_goals (first | rfl | (simp only [List.length_take]; omega) | (simp only [List.length_append, List.length_cons, List.length_nil, List.length_modify, List.length_set, Nat.zero_add]; done) | (simp only [List.length_append, List.length_take, List.length_drop, List.length_cons, List.length_nil, List.length_modify, List.length_set, Nat.zero_add]; omega) | (simp only [List.length_append, List.length_take, List.length_drop, List.length_cons, List.length_nil, List.length_modify, List.length_set, Nat.zero_add]; done) | omega)

theorem derive_Expand_m (a0 : A16vu) (a1 : (List Int)) (a2 : Int) {r : ((List Int) × Int)} (h0 : derive_Expand a0 a1 a2 = some r) : SndM K 44 [(.agg (e_A16vu a0)), (.v (.string ⟨#[116, 111, 107, 101, 110]⟩)), (S_vu a1), (vi a2)] (fun q => (.tup [(.ref (q 0) 0 r.1.length 1), (vi r.2)])) [(List.map vu r.1)] :=
 fun hs => Snd.of_newM (RenM.tup (RenML.cons (RenM.ref 0 0 _ _) (RenML.cons (RenM.const (Clean.v _)) RenML.nil))) (rows_all_cons (vu_clean _) rows_all_nil) (clean_cons (Clean.agg (e_A16vu_clean _)) (clean_cons (Clean.v _) (clean_cons (S_vu_clean _) (clean_cons (Clean.v _) clean_nil)))) (derive_Expand_r a0 a1 a2 h0) hs

theorem derive_Expand_e (a0 : A16vu) (a1 : (List Int)) (a2 : Int) {r : ((List Int) × Int)} (h0 : derive_Expand a0 a1 a2 = some r) (fr : Nat) (hs : HS) : SndE K 44 [(.agg (e_A16vu a0)), (.v (.string ⟨#[116, 111, 107, 101, 110]⟩)), (S_vu a1), (vi a2)] hs fr ⟨(fun q : Nat → Nat => (.tup [(.ref (q 0) 0 r.1.length 1), (vi r.2)])) fun _ => fr, .new (List.map vu r.1)⟩ :=
 SndE.of_res (RenM.tup (RenML.cons (RenM.ref 0 0 _ _) (RenML.cons (RenM.const (Clean.v _)) RenML.nil))) (vu_clean _) (clean_cons (Clean.agg (e_A16vu_clean _)) (clean_cons (Clean.v _) (clean_cons (S_vu_clean _) (clean_cons (Clean.v _) clean_nil)))) (fun a b h => by simp only [h]) (derive_Expand_r a0 a1 a2 h0) hs fr

theorem derive_Expand_p (a0 : A16vu) (a1 : (List Int)) (a2 : Int) {r : ((List Int) × Int)} (h0 : derive_Expand a0 a1 a2 = some r) : SndP K 44 [(.agg (e_A16vu a0)), (.v (.string ⟨#[116, 111, 107, 101, 110]⟩)), (S_vu a1), (vi a2)] (.tup [(S_vu r.1), (vi r.2)]) :=
 SndM.pure (derive_Expand_m a0 a1 a2 h0) (Clean.tup (clean_cons (S_vu_clean _) (clean_cons (Clean.v _) clean_nil))) (clean_cons (Clean.agg (e_A16vu_clean _)) (clean_cons (Clean.v _) (clean_cons (S_vu_clean _) (clean_cons (Clean.v _) clean_nil)))) (by simp only [go_sem, newL_n, newL_c, upd_get, fz, nilS, cond_true, cond_false, List.drop_zero, List.take_length, List.length_map, ble_self, Nat.reduceEqDiff, reduceIte, Nat.reduceAdd, Nat.reduceMul, Nat.reduceSub, Nat.reduceLT, Nat.reduceLeDiff] <;> rfl)

end Go.AX.Z.TW

/-! (TWW auth get) -/

set_option linter.unusedSimpArgs false
set_option linter.unusedVariables false
set_option maxHeartbeats 4000000
set_option maxRecDepth 20000
namespace Go.AX.Z.TW
open Go.AX Go.Proofs
attribute [local irreducible] awp xw xop xcall gsp ob xd xdop xcallD seqQ loopQ blkQ endQ

def auth_get_S0 (d27 : Int) : AS :=
 { objs := (fun _ => .dead), next := 0, tmps := (upd (fun _ => .unk) 2 (vq d27)) }

def auth_get_S1 (a0 : (List Int)) (d28 : (Int × Int)) : AS :=
 { objs := (fun _ => .dead), next := 0, tmps := (upd (upd (upd (fun _ => .unk) 0 (.imm (List.map vu a0) a0.length)) 2 (vq d28.1)) 4 (vi d28.2)) }

theorem auth_get_p (a0 : (List Int)) {r : Int} (h0 : auth_get a0 = some r) : SndP K 35 [(S_vu a0)] (vq r) := by
 refine SndP.of_walkW hC (Clean.v _) (clean_cons (S_vu_clean _) clean_nil) (show K.P.funcs[35]? = some Try.f35 from Try.func35) rfl rfl (by decide +kernel) (Nat.le_of_ble_eq_true rfl) ?_
 unfold auth_get at h0
 refine awp_nr [0] (fun _ => rfl) fun tz => ?_
 refine awp_regW fun KK hKK => ?_
 refine xw_id ?_
 try simp only [go_sem, ↓iop_and, ↓iop_or, ↓iop_xor, ↓iop_andn, Nat.reduceEqDiff, reduceIte, Nat.reduceAdd, Nat.reduceMul, Nat.reduceSub, Nat.reduceLT, Nat.reduceLeDiff]
 refine hKK _ _ (Wk.refl _ _ _) ?_; clear hKK KK
 refine awp_assoc ?_
 refine awp_nr [0,2] (fun _ => rfl) fun tz => ?_
 refine awp_regW fun KK hKK => ?_
 refine xw_id ?_
 try simp only [go_sem, ↓iop_and, ↓iop_or, ↓iop_xor, ↓iop_andn, Nat.reduceEqDiff, reduceIte, Nat.reduceAdd, Nat.reduceMul, Nat.reduceSub, Nat.reduceLT, Nat.reduceLeDiff]
 refine hKK _ _ (Wk.refl _ _ _) ?_; clear hKK KK
 obtain ⟨d27, hi1, h0⟩ := bnd h0
 refine awp_cut (fun z => d27 = z) (fun d27 : Int => auth_get_S0 d27) ?_ ?_
 ·
  refine awp_block1 ?_
  refine awp_loopS (fun n (d28 : (Int × Int)) => auth_get_L2 a0 n d28 = some d27) (fun d28 : (Int × Int) => auth_get_S1 a0 d28) big (0, 0) (Wk.canonD [] [] [] rfl trivial rfl tmO0 (tmAllU 4 (tmAllU 2 (tmAllU 0 tmAll0 (Tm.clean (Clean.imm (vu_clean _)))) (Tm.v _)) (Tm.v _))) hi1 ?_
  clear hi1
  rintro n d28 hl3
  rcases n with _ | n2
  ·
   (rw [auth_get_L2] at hl3; cases hl3)
  ·
   rw [auth_get_L2] at hl3
   unfold auth_get_S1
   refine awp_nr [0,2,4] (fun _ => rfl) fun tz => ?_
   refine awp_regW fun KK hKK => ?_
   refine xw_id ?_
   try simp only [go_sem, ↓iop_and, ↓iop_or, ↓iop_xor, ↓iop_andn, Nat.reduceEqDiff, reduceIte, Nat.reduceAdd, Nat.reduceMul, Nat.reduceSub, Nat.reduceLT, Nat.reduceLeDiff]
   refine hKK _ _ (Wk.refl _ _ _) ?_; clear hKK KK
   refine awp_cond (b := (decide (d28.2 < 8))) rfl (fun h4 => ?_) (fun h4 => ?_)
   ·
    have hl3 := cT hl3 h4
    refine awp_skip ?_
    refine awp_blockW ?_
    refine awp_nr [0,2,4] (fun _ => rfl) fun tz => ?_
    refine awp_regW fun KK hKK => ?_
    refine xw_id ?_
    try simp only [go_sem, ↓iop_and, ↓iop_or, ↓iop_xor, ↓iop_andn, Nat.reduceEqDiff, reduceIte, Nat.reduceAdd, Nat.reduceMul, Nat.reduceSub, Nat.reduceLT, Nat.reduceLeDiff]
    refine hKK _ _ (Wk.refl _ _ _) ?_; clear hKK KK
    refine awp_nr1 [0,2,3,4] (fun _ => rfl) fun tz => ?_
    refine awp_reg1 fun KK hKK => ?_
    refine xw_id ?_
    obtain ⟨x29, bx29, hl3⟩ := bnd hl3
    obtain ⟨fx29_0, fx29_1, fx29_2, fx29_3⟩ := idx_some bx29
    obtain ⟨x30, bx30, hl3⟩ := bnd hl3
    have bx30 := chk_some bx30
    simp only [Bool.and_eq_true, decide_eq_true_eq] at bx30
    have gx30_0 := bx30
    try simp only [go_sem, ↓iop_and, ↓iop_or, ↓iop_xor, ↓iop_andn, Nat.reduceEqDiff, reduceIte, Nat.reduceAdd, Nat.reduceMul, Nat.reduceSub, Nat.reduceLT, Nat.reduceLeDiff, fx29_0, fx29_1, fx29_2, gx30_0]
    refine hKK _ ?_; clear hKK KK
    refine bq_n ?_
    refine seqW_i ?_
    refine awp_nr1 [0,2,4] (fun _ => rfl) fun tz => ?_
    refine awp_reg1 fun KK hKK => ?_
    refine xw_id ?_
    try simp only [go_sem, ↓iop_and, ↓iop_or, ↓iop_xor, ↓iop_andn, Nat.reduceEqDiff, reduceIte, Nat.reduceAdd, Nat.reduceMul, Nat.reduceSub, Nat.reduceLT, Nat.reduceLeDiff, fx29_0, fx29_1, fx29_2]
    refine hKK _ ?_; clear hKK KK
    refine lq_n ?_
    exact ⟨n2, (bor .u64 d28.1 (IntKind.wrap .u64 ((IntKind.wrap .u64 x29) * 2 ^ (min ((IntKind.wrap .i64 (8 * d28.2))).toNat 64))), IntKind.wrap .i64 (d28.2 + 1)), rfl, hl3, (Wk.canonD [] [] [] rfl trivial rfl tmO0 (tmAllU 4 (tmAllU 2 (tmAllU 0 tmAll0 (Tm.clean (Clean.imm (vu_clean _)))) (Tm.v _)) (Tm.v _)))⟩
   ·
    have hl3 := cF hl3 h4
    refine awp_exit ?_
    refine lq_e ?_
    refine bq_e ?_
    refine sq_n ?_
    obtain rfl := someInj hl3
    exact ⟨_, rfl, (Wk.canonD [] [] [] rfl trivial rfl tmO0 (tmAllU 2 tmAll0 (Tm.v _)))⟩
 ·
  rintro _ rfl
  clear hi1
  unfold auth_get_S0
  refine awp_nr [2] (fun _ => rfl) fun tz => ?_
  refine awp_regW fun KK hKK => ?_
  refine xw_id ?_
  try simp only [go_sem, ↓iop_and, ↓iop_or, ↓iop_xor, ↓iop_andn, Nat.reduceEqDiff, reduceIte, Nat.reduceAdd, Nat.reduceMul, Nat.reduceSub, Nat.reduceLT, Nat.reduceLeDiff]
  refine hKK _ _ (Wk.refl _ _ _) ?_; clear hKK KK
  refine awp_ret1 ?_
  obtain rfl := someInj h0
  refine endW_i ?_
  refine end_ret0 rs35 (rfl) ?_
  try simp only [go_sem, ↓iop_and, ↓iop_or, ↓iop_xor, ↓iop_andn, Nat.reduceEqDiff, reduceIte, Nat.reduceAdd, Nat.reduceMul, Nat.reduceSub, Nat.reduceLT, Nat.reduceLeDiff, fz, nilS, packR, List.take_nil, List.take_length, List.length_map, List.length_append, cond_true, cond_false, Nat.ble_eq, ble_self]
  all_goals first | rfl | (simp only [go_sem, ↓iop_and, ↓iop_or, ↓iop_xor, ↓iop_andn, Nat.reduceEqDiff, reduceIte, Nat.reduceAdd, Nat.reduceMul, Nat.reduceSub, Nat.reduceLT, Nat.reduceLeDiff, fz, nilS, packR, List.take_nil, List.take_length, List.length_map, List.length_append, cond_true, cond_false, Nat.ble_eq, ble_self, List.map_append] <;> rfl)

end Go.AX.Z.TW

/-! (TWW auth Token) -/

set_option linter.unusedSimpArgs false
set_option linter.unusedVariables false
set_option maxHeartbeats 4000000
set_option maxRecDepth 20000
namespace Go.AX.Z.TW
open Go.AX Go.Proofs
attribute [local irreducible] awp xw xop xcall gsp ob xd xdop xcallD seqQ loopQ blkQ endQ


theorem auth_Token_p (a0 : AuthDoor) (a1 : A6vu) {r : Int} (h0 : auth_Token a0 a1 = some r) : SndP K 18 [(.agg (E_AuthDoor a0)), (.agg (e_A6vu a1))] (vq r) := by
 refine SndP.of_walkW hC (Clean.v _) (clean_cons (Clean.agg (E_AuthDoor_clean _)) (clean_cons (Clean.agg (e_A6vu_clean _)) clean_nil)) (show K.P.funcs[18]? = some Try.f18 from Try.func18) rfl rfl (by decide +kernel) (Nat.le_of_ble_eq_true rfl) ?_
 unfold auth_Token at h0
 refine awp_nr [0,1] (fun _ => rfl) fun tz => ?_
 refine awp_regW fun KK hKK => ?_
 refine xw_id ?_
 try simp only [go_sem, Nat.reduceEqDiff, reduceIte, Nat.reduceAdd, Nat.reduceMul, Nat.reduceSub, Nat.reduceLT, Nat.reduceLeDiff]
 refine hKK _ _ (Wk.refl _ _ _) ?_; clear hKK KK
 refine awp_nr [2,3] (fun _ => rfl) fun tz => ?_
 refine awp_regDW fun KK hKK all hall => ?_
 refine xd_id ?_
 try simp only [List.toList_toArray, List.map_cons, List.map_nil, List.size_toArray, List.length_cons, List.length_nil, Nat.zero_add]
 try simp only [Nat.reduceAdd]
 obtain ⟨x20, bx20, h0⟩ := bnd h0
 simp only [go_sem, Nat.reduceEqDiff, reduceIte, Nat.reduceMul, Nat.reduceSub, Nat.reduceLT, Nat.reduceLeDiff, Int.reduceToNat, Int.reduceBEq, Int.reduceBNe, Int.reduceLT, Int.reduceLE, Int.reduceAdd, Int.reduceSub, Int.reduceMul, Int.sub_zero]
 try simp only [Nat.reduceAdd]
 try simp only [go_sem, Nat.reduceEqDiff, reduceIte, Nat.reduceMul, Nat.reduceSub, Nat.reduceLT, Nat.reduceLeDiff, Int.reduceToNat, Int.reduceBEq, Int.reduceBNe, Int.reduceLT, Int.reduceLE, Int.reduceAdd, Int.reduceSub, Int.reduceMul, Int.sub_zero]
 try simp only [Nat.reduceAdd]
 try simp only [go_sem, Nat.reduceEqDiff, reduceIte, Nat.reduceMul, Nat.reduceSub, Nat.reduceLT, Nat.reduceLeDiff, Int.reduceToNat, Int.reduceBEq, Int.reduceBNe, Int.reduceLT, Int.reduceLE, Int.reduceAdd, Int.reduceSub, Int.reduceMul, Int.sub_zero]
 refine xcallD_EL (by first | (simp only [go_sem, fz, nilS, cond_true, cond_false, Nat.reduceEqDiff, reduceIte, Nat.reduceAdd, Nat.reduceMul, Nat.reduceSub, Nat.reduceLT, Nat.reduceLeDiff, Int.sub_zero]; done) | (simp only [go_sem, fz, nilS, cond_true, cond_false, Nat.reduceEqDiff, reduceIte, Nat.reduceAdd, Nat.reduceMul, Nat.reduceSub, Nat.reduceLT, Nat.reduceLeDiff, Int.sub_zero]; rfl) | (simp only [go_sem, fz, List.length_set, ble_self, take_set, cond_true, cond_false, Nat.reduceEqDiff, reduceIte, Nat.reduceAdd, Nat.reduceMul, Nat.reduceSub, Nat.reduceLT, Nat.reduceLeDiff, Int.sub_zero]; done) | (simp only [go_sem, fz, List.length_set, ble_self, take_set, cond_true, cond_false, Nat.reduceEqDiff, reduceIte, Nat.reduceAdd, Nat.reduceMul, Nat.reduceSub, Nat.reduceLT, Nat.reduceLeDiff, Int.sub_zero]; rfl)) (by first | (simp only [go_sem, reach, Nat.reduceEqDiff, reduceIte, Nat.reduceAdd, Nat.reduceMul, Nat.reduceSub, Nat.reduceLT, Nat.reduceLeDiff, Int.sub_zero]; done) | (simp only [go_sem, reach, Nat.reduceEqDiff, reduceIte, Nat.reduceAdd, Nat.reduceMul, Nat.reduceSub, Nat.reduceLT, Nat.reduceLeDiff, Int.sub_zero]; rfl)) (derive_Expand_e a0.Secret [a1.a0, a1.a1, a1.a2, a1.a3, a1.a4, a1.a5] 8 bx20 _) (by repeat' (first | exact NoV.v _ | exact NoV.ref _ _ _ _ | exact NoV.onil | refine NoV.ocons ?_ ?_ | exact NoV.nil | refine NoV.tup ?_ | refine NoV.agg ?_ | refine NoV.rows (fun _ => ?_) _ | refine NoV.maps (fun _ => ?_) _ | refine NoV.cons ?_ ?_)) (by repeat' (first | exact NoV.v _ | exact NoV.ref _ _ _ _ | exact NoV.onil | refine NoV.ocons ?_ ?_ | exact NoV.nil | refine NoV.tup ?_ | refine NoV.agg ?_ | refine NoV.rows (fun _ => ?_) _ | refine NoV.maps (fun _ => ?_) _ | refine NoV.cons ?_ ?_)) ?_; try dsimp only
 try refine xd_id ?_
 simp only [go_sem, Nat.reduceEqDiff, reduceIte, Nat.reduceMul, Nat.reduceSub, Nat.reduceLT, Nat.reduceLeDiff, Int.reduceToNat, Int.reduceBEq, Int.reduceBNe, Int.reduceLT, Int.reduceLE, Int.reduceAdd, Int.reduceSub, Int.reduceMul, Int.sub_zero]
 try simp only [Nat.reduceAdd]
 try simp only [go_sem, Nat.reduceEqDiff, reduceIte, Nat.reduceMul, Nat.reduceSub, Nat.reduceLT, Nat.reduceLeDiff, Int.reduceToNat, Int.reduceBEq, Int.reduceBNe, Int.reduceLT, Int.reduceLE, Int.reduceAdd, Int.reduceSub, Int.reduceMul, Int.sub_zero]
 try simp only [Nat.reduceAdd]
 try simp only [go_sem, Nat.reduceEqDiff, reduceIte, Nat.reduceMul, Nat.reduceSub, Nat.reduceLT, Nat.reduceLeDiff, Int.reduceToNat, Int.reduceBEq, Int.reduceBNe, Int.reduceLT, Int.reduceLE, Int.reduceAdd, Int.reduceSub, Int.reduceMul, Int.sub_zero]
 refine And.intro ?_ (hKK _ _ (Wk.refl _ _ _) ?_)
 ·
  subst hall
  clear hKK KK
  first | decide +kernel | (simp [printsOk, apartP, clash, meet]; done) | (simp [printsOk, apartP, clash, meet]; decide +kernel) | (simp [printsOk, apartP, clash, meet]; repeat (first | exact Or.inr (by decide +kernel) | (refine And.intro (Or.inr (by decide +kernel)) ?_)))
 ·
  clear hKK KK hall all
  refine awp_nr [5] (fun _ => rfl) fun tz => ?_
  refine awp_regW fun KK hKK => ?_
  refine xw_id ?_
  obtain ⟨x21, bx21, h0⟩ := bnd h0
  try simp only [go_sem, Nat.reduceEqDiff, reduceIte, Nat.reduceAdd, Nat.reduceMul, Nat.reduceSub, Nat.reduceLT, Nat.reduceLeDiff]
  refine xcall_L (by first | (simp only [go_sem, fz, Nat.reduceEqDiff, reduceIte, Nat.reduceAdd, Nat.reduceMul, Nat.reduceSub, Nat.reduceLT, Nat.reduceLeDiff]; done) | (simp only [go_sem, fz, Nat.reduceEqDiff, reduceIte, Nat.reduceAdd, Nat.reduceMul, Nat.reduceSub, Nat.reduceLT, Nat.reduceLeDiff]; rfl) | (simp only [go_sem, fz, List.length_set, ble_self, take_set, cond_true, cond_false, Nat.reduceEqDiff, reduceIte, Nat.reduceAdd, Nat.reduceMul, Nat.reduceSub, Nat.reduceLT, Nat.reduceLeDiff]; done) | (simp only [go_sem, fz, List.length_set, ble_self, take_set, cond_true, cond_false, Nat.reduceEqDiff, reduceIte, Nat.reduceAdd, Nat.reduceMul, Nat.reduceSub, Nat.reduceLT, Nat.reduceLeDiff]; rfl)) (auth_get_p x20.1 bx21) (Bare.v _) ?_; try dsimp only
  try refine xw_id ?_
  try simp only [go_sem, Nat.reduceEqDiff, reduceIte, Nat.reduceAdd, Nat.reduceMul, Nat.reduceSub, Nat.reduceLT, Nat.reduceLeDiff]
  refine hKK _ _ (Wk.refl _ _ _) ?_; clear hKK KK
  refine awp_ret1 ?_
  obtain rfl := someInj h0
  refine endW_i ?_
  refine end_ret0 rs18 (rfl) ?_
  try simp only [go_sem, Nat.reduceEqDiff, reduceIte, Nat.reduceAdd, Nat.reduceMul, Nat.reduceSub, Nat.reduceLT, Nat.reduceLeDiff, fz, nilS, packR, List.take_nil, List.take_length, List.length_map, List.length_append, cond_true, cond_false, Nat.ble_eq, ble_self]
  all_goals first | rfl | (simp only [go_sem, Nat.reduceEqDiff, reduceIte, Nat.reduceAdd, Nat.reduceMul, Nat.reduceSub, Nat.reduceLT, Nat.reduceLeDiff, fz, nilS, packR, List.take_nil, List.take_length, List.length_map, List.length_append, cond_true, cond_false, Nat.ble_eq, ble_self, List.map_append] <;> rfl)

end Go.AX.Z.TW

/-! (TWW auth shaped) -/

set_option linter.unusedSimpArgs false
set_option linter.unusedVariables false
set_option maxHeartbeats 4000000
set_option maxRecDepth 20000
namespace Go.AX.Z.TW
open Go.AX Go.Proofs
attribute [local irreducible] awp xw xop xcall gsp ob xd xdop xcallD seqQ loopQ blkQ endQ

def auth_shaped_S0 (d10 : Bool) : AS :=
 { objs := (fun _ => .dead), next := 0, tmps := (upd (fun _ => .unk) 3 (vb d10)) }

theorem auth_shaped_p (a0 : (List Int)) {r : Int} (h0 : auth_shaped a0 = some r) : SndP K 33 [(S_vu a0)] (vi r) := by
 refine SndP.of_walkW hC (Clean.v _) (clean_cons (S_vu_clean _) clean_nil) (show K.P.funcs[33]? = some Try.f33 from Try.func33) rfl rfl (by decide +kernel) (Nat.le_of_ble_eq_true rfl) ?_
 unfold auth_shaped at h0
 refine awp_nr [0] (fun _ => rfl) fun tz => ?_
 refine awp_regW fun KK hKK => ?_
 refine xw_id ?_
 try simp only [go_sem, Nat.reduceEqDiff, reduceIte, Nat.reduceAdd, Nat.reduceMul, Nat.reduceSub, Nat.reduceLT, Nat.reduceLeDiff]
 refine hKK _ _ (Wk.refl _ _ _) ?_; clear hKK KK
 refine awp_assoc ?_
 refine awp_nr [0] (fun _ => rfl) fun tz => ?_
 refine awp_regW fun KK hKK => ?_
 refine xw_id ?_
 try simp only [go_sem, Nat.reduceEqDiff, reduceIte, Nat.reduceAdd, Nat.reduceMul, Nat.reduceSub, Nat.reduceLT, Nat.reduceLeDiff, Int.reduceToNat, Int.reduceBEq, Int.reduceBNe, Int.reduceLT, Int.reduceLE, Int.reduceAdd, Int.reduceSub, Int.reduceMul]
 refine hKK _ _ (Wk.refl _ _ _) ?_; clear hKK KK
 refine awp_cond (b := ((a0.length : Int) == 0)) rfl (fun h1 => ?_) (fun h1 => ?_)
 ·
  have h0 := cT h0 h1
  refine awp_assoc ?_
  refine awp_nr [] (fun _ => rfl) fun tz => ?_
  refine awp_regW fun KK hKK => ?_
  refine xw_id ?_
  try simp only [go_sem, Nat.reduceEqDiff, reduceIte, Nat.reduceAdd, Nat.reduceMul, Nat.reduceSub, Nat.reduceLT, Nat.reduceLeDiff]
  refine hKK _ _ (Wk.refl _ _ _) ?_; clear hKK KK
  refine awp_ret ?_
  obtain rfl := someInj h0
  refine endW_i ?_
  refine end_ret0 rs33 (rfl) ?_
  try simp only [go_sem, Nat.reduceEqDiff, reduceIte, Nat.reduceAdd, Nat.reduceMul, Nat.reduceSub, Nat.reduceLT, Nat.reduceLeDiff, fz, nilS, packR, List.take_nil, List.take_length, List.length_map, List.length_append, cond_true, cond_false, Nat.ble_eq, ble_self]
  all_goals first | rfl | (simp only [go_sem, Nat.reduceEqDiff, reduceIte, Nat.reduceAdd, Nat.reduceMul, Nat.reduceSub, Nat.reduceLT, Nat.reduceLeDiff, fz, nilS, packR, List.take_nil, List.take_length, List.length_map, List.length_append, cond_true, cond_false, Nat.ble_eq, ble_self, List.map_append] <;> rfl)
 ·
  have h0 := cF h0 h1
  refine awp_skip ?_
  refine awp_nr [0] (fun _ => rfl) fun tz => ?_
  refine awp_regW fun KK hKK => ?_
  refine xw_id ?_
  try simp only [go_sem, Nat.reduceEqDiff, reduceIte, Nat.reduceAdd, Nat.reduceMul, Nat.reduceSub, Nat.reduceLT, Nat.reduceLeDiff]
  refine hKK _ _ (Wk.refl _ _ _) ?_; clear hKK KK
  refine awp_assoc ?_
  refine awp_nr [0,3] (fun _ => rfl) fun tz => ?_
  refine awp_regW fun KK hKK => ?_
  refine xw_id ?_
  obtain ⟨x9, bx9, h0⟩ := bnd h0
  obtain ⟨fx9_0, fx9_1, fx9_2, fx9_3⟩ := idx_some bx9
  simp only [Int.reduceToNat] at fx9_2 fx9_3
  try simp only [go_sem, Nat.reduceEqDiff, reduceIte, Nat.reduceAdd, Nat.reduceMul, Nat.reduceSub, Nat.reduceLT, Nat.reduceLeDiff, Int.reduceToNat, Int.reduceBEq, Int.reduceBNe, Int.reduceLT, Int.reduceLE, Int.reduceAdd, Int.reduceSub, Int.reduceMul, fx9_0, fx9_1, fx9_2]
  refine hKK _ _ (Wk.refl _ _ _) ?_; clear hKK KK
  obtain ⟨d10, hi2, h0⟩ := bnd h0
  refine awp_cut (fun z => d10 = z) (fun d10 : Bool => auth_shaped_S0 d10) ?_ ?_
  ·
   refine awp_block1 ?_
   refine awp_nr [0,3,9] (fun _ => rfl) fun tz => ?_
   refine awp_regW fun KK hKK => ?_
   refine xw_id ?_
   try simp only [go_sem, Nat.reduceEqDiff, reduceIte, Nat.reduceAdd, Nat.reduceMul, Nat.reduceSub, Nat.reduceLT, Nat.reduceLeDiff, fx9_0, fx9_1, fx9_2]
   refine hKK _ _ (Wk.refl _ _ _) ?_; clear hKK KK
   refine awp_cond1 (b := (x9 == 1)) rfl (fun h3 => ?_) (fun h3 => ?_)
   ·
    have hi2 := cT hi2 h3
    refine awp_nr1 [0] (fun _ => rfl) fun tz => ?_
    refine awp_reg1 fun KK hKK => ?_
    refine xw_id ?_
    refine xw_stop 4 (by (try simp only [go_sem]); rfl) (by (try simp only [go_sem]); rfl) (by rfl) fun K1 hK1 => ?_
    refine xw_id ?_
    try simp only [go_sem, Nat.reduceEqDiff, reduceIte, Nat.reduceAdd, Nat.reduceMul, Nat.reduceSub, Nat.reduceLT, Nat.reduceLeDiff, Int.reduceToNat, Int.reduceBEq, Int.reduceBNe, Int.reduceLT, Int.reduceLE, Int.reduceAdd, Int.reduceSub, Int.reduceMul, fx9_0, fx9_1, fx9_2]
    refine hK1 _ ?_; clear hK1 K1
    obtain ⟨x12, hvh4, hi2⟩ := bnd hi2
    refine xw_cut 5 [(0, (.imm (List.map vu a0) a0.length)), (20, (vb x12))] (by (try simp only [go_sem]); rfl) (by (try simp only [go_sem]); rfl) (by rfl) (fun K1 hK1 => ?_) fun tz => ?_
    ·
     refine xw_id ?_
     rcases Bool.eq_false_or_eq_true ((a0.length : Int) == 18) with h4 | h4
     ·
      have hvh4 := cT hvh4 h4
      obtain ⟨x11, bx11, hvh4⟩ := bnd hvh4
      obtain ⟨fx11_0, fx11_1, fx11_2, fx11_3⟩ := idx_some bx11
      simp only [Int.reduceToNat] at fx11_2 fx11_3
      try simp only [go_sem, Nat.reduceEqDiff, reduceIte, Nat.reduceAdd, Nat.reduceMul, Nat.reduceSub, Nat.reduceLT, Nat.reduceLeDiff, Int.reduceToNat, Int.reduceBEq, Int.reduceBNe, Int.reduceLT, Int.reduceLE, Int.reduceAdd, Int.reduceSub, Int.reduceMul, fx9_0, fx9_1, fx9_2, h4, fx11_0, fx11_1, fx11_2]
      obtain rfl := someInj hvh4
      exact hK1 _ ⟨rfl, rfl, (by first | rfl | (rw [h4]; rfl) | (simp only [h4, Bool.true_and, Bool.false_and, Bool.true_or, Bool.false_or, cond_true, cond_false]; done)), trivial⟩
     ·
      have hvh4 := cF hvh4 h4
      try simp only [go_sem, Nat.reduceEqDiff, reduceIte, Nat.reduceAdd, Nat.reduceMul, Nat.reduceSub, Nat.reduceLT, Nat.reduceLeDiff, Int.reduceToNat, Int.reduceBEq, Int.reduceBNe, Int.reduceLT, Int.reduceLE, Int.reduceAdd, Int.reduceSub, Int.reduceMul, fx9_0, fx9_1, fx9_2, h4]
      obtain rfl := someInj hvh4
      exact hK1 _ ⟨rfl, rfl, (by first | rfl | (rw [h4]; rfl) | (simp only [h4, Bool.true_and, Bool.false_and, Bool.true_or, Bool.false_or, cond_true, cond_false]; done)), trivial⟩
    ·
     refine xw_id ?_
     refine xw_stop 1 (by (try simp only [go_sem]); rfl) (by (try simp only [go_sem]); rfl) (by rfl) fun K1 hK1 => ?_
     refine xw_id ?_
     try simp only [go_sem, Nat.reduceEqDiff, reduceIte, Nat.reduceAdd, Nat.reduceMul, Nat.reduceSub, Nat.reduceLT, Nat.reduceLeDiff, Int.reduceToNat, Int.reduceBEq, Int.reduceBNe, Int.reduceLT, Int.reduceLE, Int.reduceAdd, Int.reduceSub, Int.reduceMul, fx9_0, fx9_1, fx9_2]
     refine hK1 _ ?_; clear hK1 K1
     obtain ⟨x15, hvh5, hi2⟩ := bnd hi2
     refine xw_cut 10 [(31, (vb x15))] (by (try simp only [go_sem]); rfl) (by (try simp only [go_sem]); rfl) (by rfl) (fun K1 hK1 => ?_) fun tz => ?_
     ·
      refine xw_id ?_
      rcases Bool.eq_false_or_eq_true x12 with h5 | h5
      ·
       have hvh5 := cT hvh5 h5
       try simp only [go_sem, Nat.reduceEqDiff, reduceIte, Nat.reduceAdd, Nat.reduceMul, Nat.reduceSub, Nat.reduceLT, Nat.reduceLeDiff, Int.reduceToNat, Int.reduceBEq, Int.reduceBNe, Int.reduceLT, Int.reduceLE, Int.reduceAdd, Int.reduceSub, Int.reduceMul, fx9_0, fx9_1, fx9_2, h5]
       obtain rfl := someInj hvh5
       exact hK1 _ ⟨rfl, (by first | rfl | (rw [h5]; rfl) | (simp only [h5, Bool.true_and, Bool.false_and, Bool.true_or, Bool.false_or, cond_true, cond_false]; done)), trivial⟩
      ·
       have hvh5 := cF hvh5 h5
       refine xw_stop 4 (by (try simp only [go_sem]); rfl) (by (try simp only [go_sem]); rfl) (by rfl) fun K1 hK1 => ?_
       refine xw_id ?_
       try simp only [go_sem, Nat.reduceEqDiff, reduceIte, Nat.reduceAdd, Nat.reduceMul, Nat.reduceSub, Nat.reduceLT, Nat.reduceLeDiff, Int.reduceToNat, Int.reduceBEq, Int.reduceBNe, Int.reduceLT, Int.reduceLE, Int.reduceAdd, Int.reduceSub, Int.reduceMul, fx9_0, fx9_1, fx9_2, h5]
       refine hK1 _ ?_; clear hK1 K1
       obtain ⟨x14, hvh6, hvh5⟩ := bnd hvh5
       refine xw_cut 5 [(21, (vb false)), (30, (vb x14))] (by (try simp only [go_sem]); rfl) (by (try simp only [go_sem]); rfl) (by rfl) (fun K1 hK1 => ?_) fun tz => ?_
       ·
        refine xw_id ?_
        rcases Bool.eq_false_or_eq_true ((a0.length : Int) == 26) with h6 | h6
        ·
         have hvh6 := cT hvh6 h6
         obtain ⟨x13, bx13, hvh6⟩ := bnd hvh6
         obtain ⟨fx13_0, fx13_1, fx13_2, fx13_3⟩ := idx_some bx13
         simp only [Int.reduceToNat] at fx13_2 fx13_3
         try simp only [go_sem, Nat.reduceEqDiff, reduceIte, Nat.reduceAdd, Nat.reduceMul, Nat.reduceSub, Nat.reduceLT, Nat.reduceLeDiff, Int.reduceToNat, Int.reduceBEq, Int.reduceBNe, Int.reduceLT, Int.reduceLE, Int.reduceAdd, Int.reduceSub, Int.reduceMul, fx9_0, fx9_1, fx9_2, h5, h6, fx13_0, fx13_1, fx13_2]
         obtain rfl := someInj hvh6
         exact hK1 _ ⟨rfl, rfl, (by first | rfl | (rw [h6]; rfl) | (simp only [h6, Bool.true_and, Bool.false_and, Bool.true_or, Bool.false_or, cond_true, cond_false]; done)), trivial⟩
        ·
         have hvh6 := cF hvh6 h6
         try simp only [go_sem, Nat.reduceEqDiff, reduceIte, Nat.reduceAdd, Nat.reduceMul, Nat.reduceSub, Nat.reduceLT, Nat.reduceLeDiff, Int.reduceToNat, Int.reduceBEq, Int.reduceBNe, Int.reduceLT, Int.reduceLE, Int.reduceAdd, Int.reduceSub, Int.reduceMul, fx9_0, fx9_1, fx9_2, h5, h6]
         obtain rfl := someInj hvh6
         exact hK1 _ ⟨rfl, rfl, (by first | rfl | (rw [h6]; rfl) | (simp only [h6, Bool.true_and, Bool.false_and, Bool.true_or, Bool.false_or, cond_true, cond_false]; done)), trivial⟩
       ·
        refine xw_id ?_
        try simp only [go_sem, Nat.reduceEqDiff, reduceIte, Nat.reduceAdd, Nat.reduceMul, Nat.reduceSub, Nat.reduceLT, Nat.reduceLeDiff, Int.reduceToNat, Int.reduceBEq, Int.reduceBNe, Int.reduceLT, Int.reduceLE, Int.reduceAdd, Int.reduceSub, Int.reduceMul, fx9_0, fx9_1, fx9_2, h5]
        obtain rfl := someInj hvh5
        exact hK1 _ ⟨rfl, (by first | rfl | (rw [h5]; rfl) | (simp only [h5, Bool.true_and, Bool.false_and, Bool.true_or, Bool.false_or, cond_true, cond_false]; done)), trivial⟩
     ·
      refine xw_id ?_
      try simp only [go_sem, Nat.reduceEqDiff, reduceIte, Nat.reduceAdd, Nat.reduceMul, Nat.reduceSub, Nat.reduceLT, Nat.reduceLeDiff, Int.reduceToNat, Int.reduceBEq, Int.reduceBNe, Int.reduceLT, Int.reduceLE, Int.reduceAdd, Int.reduceSub, Int.reduceMul, fx9_0, fx9_1, fx9_2]
      refine hKK _ ?_; clear hKK KK
      refine bq_n ?_
      refine sq_n ?_
      obtain rfl := someInj hi2
      exact ⟨_, rfl, (Wk.canonD [] [] [] rfl trivial rfl tmO0 (tmAllU 3 tmAll0 (Tm.v _)))⟩
   ·
    have hi2 := cF hi2 h3
    refine awp_nr [0,3,9] (fun _ => rfl) fun tz => ?_
    refine awp_regW fun KK hKK => ?_
    refine xw_id ?_
    try simp only [go_sem, Nat.reduceEqDiff, reduceIte, Nat.reduceAdd, Nat.reduceMul, Nat.reduceSub, Nat.reduceLT, Nat.reduceLeDiff, fx9_0, fx9_1, fx9_2]
    refine hKK _ _ (Wk.refl _ _ _) ?_; clear hKK KK
    refine awp_cond1 (b := (x9 == 2)) rfl (fun h7 => ?_) (fun h7 => ?_)
    ·
     have hi2 := cT hi2 h7
     refine awp_nr1 [0] (fun _ => rfl) fun tz => ?_
     refine awp_reg1 fun KK hKK => ?_
     refine xw_id ?_
     try simp only [go_sem, Nat.reduceEqDiff, reduceIte, Nat.reduceAdd, Nat.reduceMul, Nat.reduceSub, Nat.reduceLT, Nat.reduceLeDiff, Int.reduceToNat, Int.reduceBEq, Int.reduceBNe, Int.reduceLT, Int.reduceLE, Int.reduceAdd, Int.reduceSub, Int.reduceMul, fx9_0, fx9_1, fx9_2]
     refine hKK _ ?_; clear hKK KK
     refine bq_n ?_
     refine sq_n ?_
     obtain rfl := someInj hi2
     exact ⟨_, rfl, (Wk.canonD [] [] [] rfl trivial rfl tmO0 (tmAllU 3 tmAll0 (Tm.v _)))⟩
    ·
     have hi2 := cF hi2 h7
     refine awp_nr [0,3,9] (fun _ => rfl) fun tz => ?_
     refine awp_regW fun KK hKK => ?_
     refine xw_id ?_
     try simp only [go_sem, Nat.reduceEqDiff, reduceIte, Nat.reduceAdd, Nat.reduceMul, Nat.reduceSub, Nat.reduceLT, Nat.reduceLeDiff, fx9_0, fx9_1, fx9_2]
     refine hKK _ _ (Wk.refl _ _ _) ?_; clear hKK KK
     refine awp_cond1 (b := (x9 == 3)) rfl (fun h8 => ?_) (fun h8 => ?_)
     ·
      have hi2 := cT hi2 h8
      refine awp_nr1 [0] (fun _ => rfl) fun tz => ?_
      refine awp_reg1 fun KK hKK => ?_
      refine xw_id ?_
      try simp only [go_sem, Nat.reduceEqDiff, reduceIte, Nat.reduceAdd, Nat.reduceMul, Nat.reduceSub, Nat.reduceLT, Nat.reduceLeDiff, Int.reduceToNat, Int.reduceBEq, Int.reduceBNe, Int.reduceLT, Int.reduceLE, Int.reduceAdd, Int.reduceSub, Int.reduceMul, fx9_0, fx9_1, fx9_2]
      refine hKK _ ?_; clear hKK KK
      refine bq_n ?_
      refine sq_n ?_
      obtain rfl := someInj hi2
      exact ⟨_, rfl, (Wk.canonD [] [] [] rfl trivial rfl tmO0 (tmAllU 3 tmAll0 (Tm.v _)))⟩
     ·
      have hi2 := cF hi2 h8
      refine awp_skip1 ?_
      refine bq_n ?_
      refine sq_n ?_
      obtain rfl := someInj hi2
      exact ⟨_, rfl, (Wk.canonD [] [] [] rfl trivial rfl tmO0 (tmAllU 3 tmAll0 (Tm.v _)))⟩
  ·
   rintro _ rfl
   clear hi2
   unfold auth_shaped_S0
   refine awp_assoc ?_
   refine awp_nr [3] (fun _ => rfl) fun tz => ?_
   refine awp_regW fun KK hKK => ?_
   refine xw_id ?_
   try simp only [go_sem, Nat.reduceEqDiff, reduceIte, Nat.reduceAdd, Nat.reduceMul, Nat.reduceSub, Nat.reduceLT, Nat.reduceLeDiff]
   refine hKK _ _ (Wk.refl _ _ _) ?_; clear hKK KK
   refine awp_cond (b := (!d10)) rfl (fun h9 => ?_) (fun h9 => ?_)
   ·
    have h0 := cT h0 h9
    refine awp_assoc ?_
    refine awp_nr [] (fun _ => rfl) fun tz => ?_
    refine awp_regW fun KK hKK => ?_
    refine xw_id ?_
    try simp only [go_sem, Nat.reduceEqDiff, reduceIte, Nat.reduceAdd, Nat.reduceMul, Nat.reduceSub, Nat.reduceLT, Nat.reduceLeDiff]
    refine hKK _ _ (Wk.refl _ _ _) ?_; clear hKK KK
    refine awp_ret ?_
    obtain rfl := someInj h0
    refine endW_i ?_
    refine end_ret0 rs33 (rfl) ?_
    try simp only [go_sem, Nat.reduceEqDiff, reduceIte, Nat.reduceAdd, Nat.reduceMul, Nat.reduceSub, Nat.reduceLT, Nat.reduceLeDiff, fz, nilS, packR, List.take_nil, List.take_length, List.length_map, List.length_append, cond_true, cond_false, Nat.ble_eq, ble_self]
    all_goals first | rfl | (simp only [go_sem, Nat.reduceEqDiff, reduceIte, Nat.reduceAdd, Nat.reduceMul, Nat.reduceSub, Nat.reduceLT, Nat.reduceLeDiff, fz, nilS, packR, List.take_nil, List.take_length, List.length_map, List.length_append, cond_true, cond_false, Nat.ble_eq, ble_self, List.map_append] <;> rfl)
   ·
    have h0 := cF h0 h9
    refine awp_skip ?_
    refine awp_nr [] (fun _ => rfl) fun tz => ?_
    refine awp_regW fun KK hKK => ?_
    refine xw_id ?_
    try simp only [go_sem, Nat.reduceEqDiff, reduceIte, Nat.reduceAdd, Nat.reduceMul, Nat.reduceSub, Nat.reduceLT, Nat.reduceLeDiff]
    refine hKK _ _ (Wk.refl _ _ _) ?_; clear hKK KK
    refine awp_ret1 ?_
    obtain rfl := someInj h0
    refine endW_i ?_
    refine end_ret0 rs33 (rfl) ?_
    try simp only [go_sem, Nat.reduceEqDiff, reduceIte, Nat.reduceAdd, Nat.reduceMul, Nat.reduceSub, Nat.reduceLT, Nat.reduceLeDiff, fz, nilS, packR, List.take_nil, List.take_length, List.length_map, List.length_append, cond_true, cond_false, Nat.ble_eq, ble_self]
    all_goals first | rfl | (simp only [go_sem, Nat.reduceEqDiff, reduceIte, Nat.reduceAdd, Nat.reduceMul, Nat.reduceSub, Nat.reduceLT, Nat.reduceLeDiff, fz, nilS, packR, List.take_nil, List.take_length, List.length_map, List.length_append, cond_true, cond_false, Nat.ble_eq, ble_self, List.map_append] <;> rfl)

end Go.AX.Z.TW

/-! (TWW slices Clone api Addr api Addr) -/

set_option linter.unusedSimpArgs false
set_option linter.unusedVariables false
set_option maxHeartbeats 4000000
set_option maxRecDepth 20000
namespace Go.AX.Z.TW
open Go.AX Go.Proofs
attribute [local irreducible] awp xw xop xcall gsp ob xd xdop xcallD seqQ loopQ blkQ endQ


theorem slices_Clone_api_Addr_api_Addr_r (a0 : (List A6vu)) {r : (List A6vu)} (h0 : slices_Clone_api_Addr_api_Addr a0 = some r) : SndR K 34 [(S_A6vu a0)] (fun q => (.ref (q 0) 0 r.length 6)) [(List.flatMap e_A6vu r)] := by
 cases a0 with
 | nil =>
  refine SndR.split_nil (fun cap => ?_) (fun a cap => ?_)
  ·
   unfold slices_Clone_api_Addr_api_Addr at h0
   obtain ⟨x1, bx1, h0⟩ := bnd h0
   obtain rfl := someInj h0
   refine SndR.of_walkW hC (show K.P.funcs[34]? = some Try.f34 from Try.func34) rfl rfl (by decide +kernel) (Nat.le_of_ble_eq_true rfl) ?_
   refine awp_nr [0] (fun _ => rfl) fun tz => ?_
   refine awp_regW fun KK hKK => ?_
   refine xw_id ?_
   try simp only [go_sem, Nat.reduceEqDiff, reduceIte, Nat.reduceAdd, Nat.reduceMul, Nat.reduceSub, Nat.reduceLT, Nat.reduceLeDiff, Option.isSome_some, if_true, eq_self]
   refine hKK _ _ (Wk.refl _ _ _) ?_; clear hKK KK
   refine awp_assoc ?_
   refine awp_nr [0] (fun _ => rfl) fun tz => ?_
   refine awp_regW fun KK hKK => ?_
   refine xw_id ?_
   try simp only [go_sem, Nat.reduceEqDiff, reduceIte, Nat.reduceAdd, Nat.reduceMul, Nat.reduceSub, Nat.reduceLT, Nat.reduceLeDiff, Option.isSome_some, if_true, eq_self]
   refine hKK _ _ (Wk.refl _ _ _) ?_; clear hKK KK
   refine awp_condT rfl ?_
   refine awp_assoc ?_
   refine awp_nr [] (fun _ => rfl) fun tz => ?_
   refine awp_regW fun KK hKK => ?_
   refine xw_id ?_
   try simp only [go_sem, Nat.reduceEqDiff, reduceIte, Nat.reduceAdd, Nat.reduceMul, Nat.reduceSub, Nat.reduceLT, Nat.reduceLeDiff, Option.isSome_some, if_true, eq_self]
   refine hKK _ _ (Wk.refl _ _ _) ?_; clear hKK KK
   refine awp_ret ?_
   refine endW_i ?_
   refine end_ret0 rs34 (rfl) ?_
   exact Res.mk [] [none] rfl (resON resO0) (Tm.thaw _ _ _)
  ·
   revert h0; intro h0
   refine SndR.of_walkW hC (show K.P.funcs[34]? = some Try.f34 from Try.func34) rfl rfl (by decide +kernel) (Nat.le_of_ble_eq_true rfl) ?_
   unfold slices_Clone_api_Addr_api_Addr at h0
   refine awp_nr [0] (fun _ => rfl) fun tz => ?_
   refine awp_regW fun KK hKK => ?_
   refine xw_id ?_
   try simp only [go_sem, Nat.reduceEqDiff, reduceIte, Nat.reduceAdd, Nat.reduceMul, Nat.reduceSub, Nat.reduceLT, Nat.reduceLeDiff, Option.isSome_some, if_true, eq_self]
   refine hKK _ _ (Wk.refl _ _ _) ?_; clear hKK KK
   refine awp_assoc ?_
   refine awp_nr [0] (fun _ => rfl) fun tz => ?_
   refine awp_regW fun KK hKK => ?_
   refine xw_id ?_
   try simp only [go_sem, Nat.reduceEqDiff, reduceIte, Nat.reduceAdd, Nat.reduceMul, Nat.reduceSub, Nat.reduceLT, Nat.reduceLeDiff, Option.isSome_some, if_true, eq_self]
   refine hKK _ _ (Wk.refl _ _ _) ?_; clear hKK KK
   refine awp_condF rfl ?_
   refine awp_skip ?_
   refine awp_nr [0] (fun _ => rfl) fun tz => ?_
   refine awp_regW fun KK hKK => ?_
   refine xw_id ?_
   obtain ⟨x18, bx18, h0⟩ := bnd h0
   have bx18 := chk_some bx18
   simp only [Bool.and_eq_true, decide_eq_true_eq] at bx18
   have gx18_0 := bx18
   try simp only [go_sem, Nat.reduceEqDiff, reduceIte, Nat.reduceAdd, Nat.reduceMul, Nat.reduceSub, Nat.reduceLT, Nat.reduceLeDiff, Int.reduceToNat, Int.reduceBEq, Int.reduceBNe, Int.reduceLT, Int.reduceLE, Int.reduceAdd, Int.reduceSub, Int.reduceMul, Option.isSome_some, if_true, eq_self, gx18_0]
   refine hKK _ _ (Wk.refl _ _ _) ?_; clear hKK KK
   refine awp_ret1 ?_
   obtain rfl := someInj h0
   refine endW_i ?_
   refine end_ret0 rs34 (rfl) ?_
   refine Res.mk [] [some 5] rfl (resOU List.not_mem_nil (by simp only [upd_get, ↓iop_and, Nat.reduceEqDiff, reduceIte, if_true, if_false] <;> rfl) (TmL.of_eq (by first | rfl | (simp only [List.flatMap_append, List.flatMap_cons, List.flatMap_nil, List.map_append, List.map_cons, List.map_nil, List.append_nil, List.nil_append]; done) | (simp only [List.flatMap_append, List.flatMap_cons, List.flatMap_nil, List.map_append, List.map_cons, List.map_nil, List.append_nil, List.nil_append]; rfl)) (c_A6vu _)) resO0) (Tm.refL rfl ?_)
   all_goals (first | rfl | (simp only [List.length_take]; omega) | (simp only [List.length_append, List.length_cons, List.length_nil, List.length_modify, List.length_set, Nat.zero_add]; done) | (simp only [List.length_append, List.length_take, List.length_drop, List.length_cons, List.length_nil, List.length_modify, List.length_set, Nat.zero_add]; omega) | (simp only [List.length_append, List.length_take, List.length_drop, List.length_cons, List.length_nil, List.length_modify, List.length_set, Nat.zero_add]; done) | omega)
 | cons x l =>
  generalize ha : x :: l = a0 at *
  have nb : nilB (.imm (List.flatMap e_A6vu a0) a0.length) = some false := by subst ha; rfl
  refine SndR.of_walkW hC (show K.P.funcs[34]? = some Try.f34 from Try.func34) rfl rfl (by decide +kernel) (Nat.le_of_ble_eq_true rfl) ?_
  unfold slices_Clone_api_Addr_api_Addr at h0
  refine awp_nr [0] (fun _ => rfl) fun tz => ?_
  refine awp_regW fun KK hKK => ?_
  refine xw_id ?_
  try simp only [go_sem, Nat.reduceEqDiff, reduceIte, Nat.reduceAdd, Nat.reduceMul, Nat.reduceSub, Nat.reduceLT, Nat.reduceLeDiff, ↓nb, Option.isSome_some, if_true, eq_self]
  refine hKK _ _ (Wk.refl _ _ _) ?_; clear hKK KK
  refine awp_assoc ?_
  refine awp_nr [0] (fun _ => rfl) fun tz => ?_
  refine awp_regW fun KK hKK => ?_
  refine xw_id ?_
  try simp only [go_sem, Nat.reduceEqDiff, reduceIte, Nat.reduceAdd, Nat.reduceMul, Nat.reduceSub, Nat.reduceLT, Nat.reduceLeDiff, ↓nb, Option.isSome_some, if_true, eq_self]
  refine hKK _ _ (Wk.refl _ _ _) ?_; clear hKK KK
  refine awp_condF rfl ?_
  refine awp_skip ?_
  refine awp_nr [0] (fun _ => rfl) fun tz => ?_
  refine awp_regW fun KK hKK => ?_
  refine xw_id ?_
  obtain ⟨x18, bx18, h0⟩ := bnd h0
  have bx18 := chk_some bx18
  simp only [Bool.and_eq_true, decide_eq_true_eq] at bx18
  have gx18_0 := bx18
  try simp only [go_sem, Nat.reduceEqDiff, reduceIte, Nat.reduceAdd, Nat.reduceMul, Nat.reduceSub, Nat.reduceLT, Nat.reduceLeDiff, Int.reduceToNat, Int.reduceBEq, Int.reduceBNe, Int.reduceLT, Int.reduceLE, Int.reduceAdd, Int.reduceSub, Int.reduceMul, ↓nb, Option.isSome_some, if_true, eq_self, gx18_0]
  refine hKK _ _ (Wk.refl _ _ _) ?_; clear hKK KK
  refine awp_ret1 ?_
  obtain rfl := someInj h0
  refine endW_i ?_
  refine end_ret0 rs34 (rfl) ?_
  refine Res.mk [] [some 5] rfl (resOU List.not_mem_nil (by simp only [upd_get, ↓iop_and, Nat.reduceEqDiff, reduceIte, if_true, if_false] <;> rfl) (TmL.of_eq (by first | rfl | (simp only [List.flatMap_append, List.flatMap_cons, List.flatMap_nil, List.map_append, List.map_cons, List.map_nil, List.append_nil, List.nil_append]; done) | (simp only [List.flatMap_append, List.flatMap_cons, List.flatMap_nil, List.map_append, List.map_cons, List.map_nil, List.append_nil, List.nil_append]; rfl)) (c_A6vu _)) resO0) (Tm.refL rfl ?_)
  all_goals (first | rfl | (simp only [List.length_take]; omega) | (simp only [List.length_append, List.length_cons, List.length_nil, List.length_modify, List.length_set, Nat.zero_add]; done) | (simp only [List.length_append, List.length_take, List.length_drop, List.length_cons, List.length_nil, List.length_modify, List.length_set, Nat.zero_add]; omega) | (simp only [List.length_append, List.length_take, List.length_drop, List.length_cons, List.length_nil, List.length_modify, List.length_set, Nat.zero_add]; done) | omega)

theorem slices_Clone_api_Addr_api_Addr_m (a0 : (List A6vu)) {r : (List A6vu)} (h0 : slices_Clone_api_Addr_api_Addr a0 = some r) : SndM K 34 [(S_A6vu a0)] (fun q => (.ref (q 0) 0 r.length 6)) [(List.flatMap e_A6vu r)] :=
 fun hs => Snd.of_newM (RenM.ref 0 0 _ _) (rows_all_cons (c_A6vu _) rows_all_nil) (clean_cons (S_A6vu_clean _) clean_nil) (slices_Clone_api_Addr_api_Addr_r a0 h0) hs

theorem slices_Clone_api_Addr_api_Addr_e (a0 : (List A6vu)) {r : (List A6vu)} (h0 : slices_Clone_api_Addr_api_Addr a0 = some r) (fr : Nat) (hs : HS) : SndE K 34 [(S_A6vu a0)] hs fr ⟨(fun q : Nat → Nat => (.ref (q 0) 0 r.length 6)) fun _ => fr, .new (List.flatMap e_A6vu r)⟩ :=
 SndE.of_res (RenM.ref 0 0 _ _) (c_A6vu _) (clean_cons (S_A6vu_clean _) clean_nil) (fun a b h => by simp only [h]) (slices_Clone_api_Addr_api_Addr_r a0 h0) hs fr

theorem slices_Clone_api_Addr_api_Addr_p (a0 : (List A6vu)) {r : (List A6vu)} (h0 : slices_Clone_api_Addr_api_Addr a0 = some r) : SndP K 34 [(S_A6vu a0)] (S_A6vu r) :=
 SndM.pure (slices_Clone_api_Addr_api_Addr_m a0 h0) (S_A6vu_clean _) (clean_cons (S_A6vu_clean _) clean_nil) (by simp only [go_sem, newL_n, newL_c, upd_get, fz, nilS, cond_true, cond_false, List.drop_zero, List.take_length, List.length_map, ble_self, Nat.reduceEqDiff, reduceIte, Nat.reduceAdd, Nat.reduceMul, Nat.reduceSub, Nat.reduceLT, Nat.reduceLeDiff] <;> rfl)

end Go.AX.Z.TW

/-! (TWW auth put 2) -/

set_option linter.unusedSimpArgs false
set_option linter.unusedVariables false
set_option maxHeartbeats 4000000
set_option maxRecDepth 20000
namespace Go.AX.Z.TW
open Go.AX Go.Proofs
attribute [local irreducible] awp xw xop xcall gsp ob xd xdop xcallD seqQ loopQ blkQ endQ

def auth_put_2_S0 (d30 : (List Int)) : AS :=
 { objs := (upd (fun _ => .dead) 1 (.live (List.map vu d30))), next := 2, tmps := (upd (fun _ => .unk) 0 (.ref 1 0 ((d30).length) 1)) }

def auth_put_2_S1 (a0 : Int) (d31 : (List Int × Int)) : AS :=
 { objs := (upd (fun _ => .dead) 1 (.live (List.map vu d31.1))), next := 2, tmps := (upd (upd (upd (fun _ => .unk) 0 (.ref 1 0 ((d31.1).length) 1)) 1 (vq a0)) 6 (vi d31.2)) }

theorem auth_put_2_io (a0 : Int) (a1 : List Int) {r : (List Int)} (h0 : auth_put_2 a0 a1 = some r) : SndIO K 63 1 (fun q => [(.ref (q 0) 0 a1.length 1), (vq a0)]) [(fun q => (List.map vu a1))] (fun q => (.ref (q 1) 0 ((r).length) 1)) [none, (some (fun q => (List.map vu r)))] := by
 refine SndIO.of_walkW hC (RenML.cons (RenM.ref 0 0 _ _) (RenML.cons (RenM.const (Clean.v _)) RenML.nil)) (tpl_cons (RenML.const (vu_clean _)) tpl_nil) (otpl_none (otpl_some (RenML.const (vu_clean _)) otpl_nil)) (RenM.ref 1 0 _ _) rfl (Nat.le_of_ble_eq_true rfl) (show K.P.funcs[63]? = some Try.f63 from Try.func63) rfl rfl (by decide +kernel) (Nat.le_of_ble_eq_true rfl) ?_
 unfold auth_put_2 at h0
 refine awp_nr [0,1] (fun _ => rfl) fun tz => ?_
 refine awp_regW fun KK hKK => ?_
 refine xw_id ?_
 try simp only [go_sem, Nat.reduceEqDiff, reduceIte, Nat.reduceAdd, Nat.reduceMul, Nat.reduceSub, Nat.reduceLT, Nat.reduceLeDiff]
 refine hKK _ _ (Wk.refl _ _ _) ?_; clear hKK KK
 refine awp_assoc ?_
 refine awp_nr [0,1] (fun _ => rfl) fun tz => ?_
 refine awp_regW fun KK hKK => ?_
 refine xw_id ?_
 try simp only [go_sem, Nat.reduceEqDiff, reduceIte, Nat.reduceAdd, Nat.reduceMul, Nat.reduceSub, Nat.reduceLT, Nat.reduceLeDiff]
 refine hKK _ _ (Wk.refl _ _ _) ?_; clear hKK KK
 obtain ⟨d30, hi1, h0⟩ := bnd h0
 refine awp_cut (fun z => d30 = z) (fun d30 : (List Int) => auth_put_2_S0 d30) ?_ ?_
 ·
  refine awp_block1 ?_
  refine awp_loopS (fun n (d31 : (List Int × Int)) => auth_put_2_L2 a0 n d31 = some d30) (fun d31 : (List Int × Int) => auth_put_2_S1 a0 d31) big (a1, 0) (by refine Wk.canonD [] [0] [some 0, some 0] rfl ⟨rfl, trivial⟩ rfl (tmOU 1 tmO0 rfl List.not_mem_nil (by simp only [upd_get, ↓iop_and, Nat.reduceEqDiff, reduceIte, if_true, if_false] <;> rfl) (TmL.of_eq (by first | rfl | (simp only [List.flatMap_append, List.flatMap_cons, List.flatMap_nil, List.map_append, List.map_cons, List.map_nil, List.append_nil, List.nil_append]; done) | (simp only [List.flatMap_append, List.flatMap_cons, List.flatMap_nil, List.map_append, List.map_cons, List.map_nil, List.append_nil, List.nil_append]; rfl)) (vu_clean _))) (tmAllU 6 (tmAllU 1 (tmAllU 0 tmAll0 (Tm.refL rfl ?_)) (Tm.v _)) (Tm.v _)); all_goals (first | rfl | (simp only [List.length_take]; omega) | (simp only [List.length_append, List.length_cons, List.length_nil, List.length_modify, List.length_set, Nat.zero_add]; done) | (simp only [List.length_append, List.length_take, List.length_drop, List.length_cons, List.length_nil, List.length_modify, List.length_set, Nat.zero_add]; omega) | (simp only [List.length_append, List.length_take, List.length_drop, List.length_cons, List.length_nil, List.length_modify, List.length_set, Nat.zero_add]; done) | omega)) hi1 ?_
  clear hi1
  rintro n d31 hl3
  rcases n with _ | n2
  ·
   (rw [auth_put_2_L2] at hl3; cases hl3)
  ·
   rw [auth_put_2_L2] at hl3
   unfold auth_put_2_S1
   refine awp_nr [0,1,6] (fun _ => rfl) fun tz => ?_
   refine awp_regW fun KK hKK => ?_
   refine xw_id ?_
   try simp only [go_sem, Nat.reduceEqDiff, reduceIte, Nat.reduceAdd, Nat.reduceMul, Nat.reduceSub, Nat.reduceLT, Nat.reduceLeDiff]
   refine hKK _ _ (Wk.refl _ _ _) ?_; clear hKK KK
   refine awp_cond (b := (decide (d31.2 < 8))) rfl (fun h4 => ?_) (fun h4 => ?_)
   ·
    have hl3 := cT hl3 h4
    refine awp_skip ?_
    refine awp_blockW ?_
    refine awp_nr [0,1,6] (fun _ => rfl) fun tz => ?_
    refine awp_regW fun KK hKK => ?_
    refine xw_id ?_
    try simp only [go_sem, Nat.reduceEqDiff, reduceIte, Nat.reduceAdd, Nat.reduceMul, Nat.reduceSub, Nat.reduceLT, Nat.reduceLeDiff]
    refine hKK _ _ (Wk.refl _ _ _) ?_; clear hKK KK
    refine awp_nr1 [0,1,5,6] (fun _ => rfl) fun tz => ?_
    refine awp_reg1 fun KK hKK => ?_
    refine xw_id ?_
    obtain ⟨x32, bx32, hl3⟩ := bnd hl3
    have bx32 := chk_some bx32
    simp only [Bool.and_eq_true, decide_eq_true_eq] at bx32
    have gx32_0 := bx32
    obtain ⟨x33, bx33, hl3⟩ := bnd hl3
    have bx33 := chk_some bx33
    simp only [Bool.and_eq_true, decide_eq_true_eq] at bx33
    have gx33_0 := bx33
    try simp only [go_sem, Nat.reduceEqDiff, reduceIte, Nat.reduceAdd, Nat.reduceMul, Nat.reduceSub, Nat.reduceLT, Nat.reduceLeDiff, Int.reduceToNat, Int.reduceBEq, Int.reduceBNe, Int.reduceLT, Int.reduceLE, Int.reduceAdd, Int.reduceSub, Int.reduceMul, gx32_0, gx33_0]
    refine hKK _ ?_; clear hKK KK
    refine bq_n ?_
    refine seqW_i ?_
    refine awp_nr1 [0,1,6] (fun _ => rfl) fun tz => ?_
    refine awp_reg1 fun KK hKK => ?_
    refine xw_id ?_
    try simp only [go_sem, Nat.reduceEqDiff, reduceIte, Nat.reduceAdd, Nat.reduceMul, Nat.reduceSub, Nat.reduceLT, Nat.reduceLeDiff]
    refine hKK _ ?_; clear hKK KK
    refine lq_n ?_
    exact ⟨n2, ((d31.1 ++ [IntKind.wrap .u8 ((a0).fdiv (2 ^ (min ((IntKind.wrap .i64 (8 * d31.2))).toNat 64)))]), IntKind.wrap .i64 (d31.2 + 1)), rfl, hl3, (by refine Wk.canonD [] [0] [some 0, some 12] rfl ⟨rfl, trivial⟩ rfl (tmOU 1 tmO0 rfl List.not_mem_nil (by simp only [upd_get, ↓iop_and, Nat.reduceEqDiff, reduceIte, if_true, if_false] <;> rfl) (TmL.of_eq (by first | rfl | (simp only [List.flatMap_append, List.flatMap_cons, List.flatMap_nil, List.map_append, List.map_cons, List.map_nil, List.append_nil, List.nil_append]; done) | (simp only [List.flatMap_append, List.flatMap_cons, List.flatMap_nil, List.map_append, List.map_cons, List.map_nil, List.append_nil, List.nil_append]; rfl)) (vu_clean _))) (tmAllU 6 (tmAllU 1 (tmAllU 0 tmAll0 (Tm.refL rfl ?_)) (Tm.v _)) (Tm.v _)); all_goals (first | rfl | (simp only [List.length_take]; omega) | (simp only [List.length_append, List.length_cons, List.length_nil, List.length_modify, List.length_set, Nat.zero_add]; done) | (simp only [List.length_append, List.length_take, List.length_drop, List.length_cons, List.length_nil, List.length_modify, List.length_set, Nat.zero_add]; omega) | (simp only [List.length_append, List.length_take, List.length_drop, List.length_cons, List.length_nil, List.length_modify, List.length_set, Nat.zero_add]; done) | omega))⟩
   ·
    have hl3 := cF hl3 h4
    refine awp_exit ?_
    refine lq_e ?_
    refine bq_e ?_
    refine sq_n ?_
    obtain rfl := someInj hl3
    exact ⟨_, rfl, (by refine Wk.canonD [] [0] [some 0, some 1] rfl ⟨rfl, trivial⟩ rfl (tmOU 1 tmO0 rfl List.not_mem_nil (by simp only [upd_get, ↓iop_and, Nat.reduceEqDiff, reduceIte, if_true, if_false] <;> rfl) (TmL.of_eq (by first | rfl | (simp only [List.flatMap_append, List.flatMap_cons, List.flatMap_nil, List.map_append, List.map_cons, List.map_nil, List.append_nil, List.nil_append]; done) | (simp only [List.flatMap_append, List.flatMap_cons, List.flatMap_nil, List.map_append, List.map_cons, List.map_nil, List.append_nil, List.nil_append]; rfl)) (vu_clean _))) (tmAllU 0 tmAll0 (Tm.refL rfl ?_)); all_goals (first | rfl | (simp only [List.length_take]; omega) | (simp only [List.length_append, List.length_cons, List.length_nil, List.length_modify, List.length_set, Nat.zero_add]; done) | (simp only [List.length_append, List.length_take, List.length_drop, List.length_cons, List.length_nil, List.length_modify, List.length_set, Nat.zero_add]; omega) | (simp only [List.length_append, List.length_take, List.length_drop, List.length_cons, List.length_nil, List.length_modify, List.length_set, Nat.zero_add]; done) | omega))⟩
 ·
  rintro _ rfl
  clear hi1
  unfold auth_put_2_S0
  refine awp_nr [0] (fun _ => rfl) fun tz => ?_
  refine awp_regW fun KK hKK => ?_
  refine xw_id ?_
  try simp only [go_sem, Nat.reduceEqDiff, reduceIte, Nat.reduceAdd, Nat.reduceMul, Nat.reduceSub, Nat.reduceLT, Nat.reduceLeDiff]
  refine hKK _ _ (Wk.refl _ _ _) ?_; clear hKK KK
  refine awp_ret1 ?_
  obtain rfl := someInj h0
  refine endW_i ?_
  refine end_ret0 rs63 (rfl) ?_
  refine ResIO.mk [] [some 0, some 1] rfl (resED (resEU List.not_mem_nil (by simp only [upd_get, ↓iop_and, Nat.reduceEqDiff, reduceIte, if_true, if_false] <;> rfl) (TmL.of_eq (by first | rfl | (simp only [List.flatMap_append, List.flatMap_cons, List.flatMap_nil, List.map_append, List.map_cons, List.map_nil, List.append_nil, List.nil_append]; done) | (simp only [List.flatMap_append, List.flatMap_cons, List.flatMap_nil, List.map_append, List.map_cons, List.map_nil, List.append_nil, List.nil_append]; rfl)) (vu_clean _)) resE0)) (Tm.refL rfl ?_)
  all_goals (first | rfl | (simp only [List.length_take]; omega) | (simp only [List.length_append, List.length_cons, List.length_nil, List.length_modify, List.length_set, Nat.zero_add]; done) | (simp only [List.length_append, List.length_take, List.length_drop, List.length_cons, List.length_nil, List.length_modify, List.length_set, Nat.zero_add]; omega) | (simp only [List.length_append, List.length_take, List.length_drop, List.length_cons, List.length_nil, List.length_modify, List.length_set, Nat.zero_add]; done) | omega)

end Go.AX.Z.TW

/-! (TWW auth numbers) -/

set_option linter.unusedSimpArgs false
set_option linter.unusedVariables false
set_option maxHeartbeats 4000000
set_option maxRecDepth 20000
namespace Go.AX.Z.TW
open Go.AX Go.Proofs
attribute [local irreducible] awp xw xop xcall gsp ob xd xdop xcallD seqQ loopQ blkQ endQ

def auth_numbers_S0 (d28 : (List Int)) : AS :=
 { objs := (upd (fun _ => .dead) 0 (.live (List.map vu d28))), next := 1, tmps := (upd (fun _ => .unk) 2 (.ref 0 0 ((d28).length) 1)) }

def auth_numbers_S1 (a0 : (List Int)) (d29 : (List Int × Int)) : AS :=
 { objs := (upd (fun _ => .dead) 0 (.live (List.map vu d29.1))), next := 1, tmps := (upd (upd (upd (upd (fun _ => .unk) 2 (.ref 0 0 ((d29.1).length) 1)) 5 (.imm (List.map vq a0) a0.length)) 6 (vi (a0.length : Int))) 7 (vi d29.2)) }

theorem auth_numbers_r (a0 : (List Int)) {r : (List Int)} (h0 : auth_numbers a0 = some r) : SndR K 37 [(S_vq a0)] (fun q => (.ref (q 0) 0 r.length 1)) [(List.map vu r)] := by
 refine SndR.of_walkW hC (show K.P.funcs[37]? = some Try.f37 from Try.func37) rfl rfl (by decide +kernel) (Nat.le_of_ble_eq_true rfl) ?_
 unfold auth_numbers at h0
 refine awp_nr [0] (fun _ => rfl) fun tz => ?_
 refine awp_regW fun KK hKK => ?_
 refine xw_id ?_
 try simp only [go_sem, Nat.reduceEqDiff, reduceIte, Nat.reduceAdd, Nat.reduceMul, Nat.reduceSub, Nat.reduceLT, Nat.reduceLeDiff]
 refine hKK _ _ (Wk.refl _ _ _) ?_; clear hKK KK
 refine awp_assoc ?_
 refine awp_nr [0,2] (fun _ => rfl) fun tz => ?_
 refine awp_regW fun KK hKK => ?_
 refine xw_id ?_
 try simp only [go_sem, Nat.reduceEqDiff, reduceIte, Nat.reduceAdd, Nat.reduceMul, Nat.reduceSub, Nat.reduceLT, Nat.reduceLeDiff, Int.reduceToNat, Int.reduceBEq, Int.reduceBNe, Int.reduceLT, Int.reduceLE, Int.reduceAdd, Int.reduceSub, Int.reduceMul]
 refine hKK _ _ (Wk.refl _ _ _) ?_; clear hKK KK
 obtain ⟨d28, hi1, h0⟩ := bnd h0
 refine awp_cut (fun z => d28 = z) (fun d28 : (List Int) => auth_numbers_S0 d28) ?_ ?_
 ·
  refine awp_block1 ?_
  refine awp_loopS (fun n (d29 : (List Int × Int)) => auth_numbers_L2 a0 n d29 = some d28) (fun d29 : (List Int × Int) => auth_numbers_S1 a0 d29) big ([], 0) (Wk.canonD [] [] [none] rfl trivial rfl (tmON 0 tmO0 rfl) (tmAllU 7 (tmAllU 6 (tmAllU 5 (tmAllU 2 tmAll0 (Tm.thaw _ _ _)) (Tm.clean (Clean.imm (vq_clean _)))) (Tm.v _)) (Tm.v _))) hi1 ?_
  clear hi1
  rintro n d29 hl3
  rcases n with _ | n2
  ·
   (rw [auth_numbers_L2] at hl3; cases hl3)
  ·
   rw [auth_numbers_L2] at hl3
   unfold auth_numbers_S1
   refine awp_nr [2,5,6,7] (fun _ => rfl) fun tz => ?_
   refine awp_regW fun KK hKK => ?_
   refine xw_id ?_
   try simp only [go_sem, Nat.reduceEqDiff, reduceIte, Nat.reduceAdd, Nat.reduceMul, Nat.reduceSub, Nat.reduceLT, Nat.reduceLeDiff]
   refine hKK _ _ (Wk.refl _ _ _) ?_; clear hKK KK
   refine awp_cond (b := (decide (d29.2 < (a0.length : Int)))) rfl (fun h4 => ?_) (fun h4 => ?_)
   ·
    have hl3 := cT hl3 h4
    refine awp_skip ?_
    refine awp_blockW ?_
    refine awp_nr [2,5,6,7] (fun _ => rfl) fun tz => ?_
    refine awp_regW fun KK hKK => ?_
    refine xw_id ?_
    obtain ⟨x30, bx30, hl3⟩ := bnd hl3
    obtain ⟨fx30_0, fx30_1, fx30_2, fx30_3⟩ := idx_some bx30
    try simp only [go_sem, Nat.reduceEqDiff, reduceIte, Nat.reduceAdd, Nat.reduceMul, Nat.reduceSub, Nat.reduceLT, Nat.reduceLeDiff, fx30_0, fx30_1, fx30_2]
    refine hKK _ _ (Wk.refl _ _ _) ?_; clear hKK KK
    refine awp_nr1 [2,4,5,6,7] (fun _ => rfl) fun tz => ?_
    refine awp_reg1 fun KK hKK => ?_
    refine xw_id ?_
    obtain ⟨x31, bx31, hl3⟩ := bnd hl3
    try simp only [go_sem, Nat.reduceEqDiff, reduceIte, Nat.reduceAdd, Nat.reduceMul, Nat.reduceSub, Nat.reduceLT, Nat.reduceLeDiff, fx30_0, fx30_1, fx30_2]
    refine xcall_O [0] (auth_put_2_io x30 d29.1 bx31) (by decide) (by decide) ⟨(by first | rfl | (simp only [go_sem, Nat.reduceEqDiff, reduceIte, Nat.reduceAdd, Nat.reduceMul, Nat.reduceSub, Nat.reduceLT, Nat.reduceLeDiff, fx30_0, fx30_1, fx30_2]; done) | (simp only [go_sem, Nat.reduceEqDiff, reduceIte, Nat.reduceAdd, Nat.reduceMul, Nat.reduceSub, Nat.reduceLT, Nat.reduceLeDiff, fx30_0, fx30_1, fx30_2]; rfl)), trivial⟩ (by first | rfl | (simp only [go_sem, Nat.reduceEqDiff, reduceIte, Nat.reduceAdd, Nat.reduceMul, Nat.reduceSub, Nat.reduceLT, Nat.reduceLeDiff, fx30_0, fx30_1, fx30_2]; done) | (simp only [go_sem, Nat.reduceEqDiff, reduceIte, Nat.reduceAdd, Nat.reduceMul, Nat.reduceSub, Nat.reduceLT, Nat.reduceLeDiff, fx30_0, fx30_1, fx30_2]; rfl)) ?_; try dsimp only
    try refine xw_id ?_
    try simp only [go_sem, Nat.reduceEqDiff, reduceIte, Nat.reduceAdd, Nat.reduceMul, Nat.reduceSub, Nat.reduceLT, Nat.reduceLeDiff, fx30_0, fx30_1, fx30_2, List.length_cons, List.length_nil]
    refine hKK _ ?_; clear hKK KK
    refine bq_n ?_
    refine seqW_i ?_
    refine awp_nr1 [2,5,6,7] (fun _ => rfl) fun tz => ?_
    refine awp_reg1 fun KK hKK => ?_
    refine xw_id ?_
    try simp only [go_sem, Nat.reduceEqDiff, reduceIte, Nat.reduceAdd, Nat.reduceMul, Nat.reduceSub, Nat.reduceLT, Nat.reduceLeDiff, fx30_0, fx30_1, fx30_2]
    refine hKK _ ?_; clear hKK KK
    refine lq_n ?_
    exact ⟨n2, (x31, IntKind.wrap .i64 (d29.2 + 1)), rfl, hl3, (by refine Wk.canonD [] [] [some 9] rfl trivial rfl (tmOU 0 tmO0 rfl List.not_mem_nil (by simp only [upd_get, ↓iop_and, Nat.reduceEqDiff, reduceIte, if_true, if_false] <;> rfl) (TmL.of_eq (by first | rfl | (simp only [List.flatMap_append, List.flatMap_cons, List.flatMap_nil, List.map_append, List.map_cons, List.map_nil, List.append_nil, List.nil_append]; done) | (simp only [List.flatMap_append, List.flatMap_cons, List.flatMap_nil, List.map_append, List.map_cons, List.map_nil, List.append_nil, List.nil_append]; rfl)) (vu_clean _))) (tmAllU 7 (tmAllU 6 (tmAllU 5 (tmAllU 2 tmAll0 (Tm.refL rfl ?_)) (Tm.clean (Clean.imm (vq_clean _)))) (Tm.v _)) (Tm.v _)); all_goals (first | rfl | (simp only [List.length_take]; omega) | (simp only [List.length_append, List.length_cons, List.length_nil, List.length_modify, List.length_set, Nat.zero_add]; done) | (simp only [List.length_append, List.length_take, List.length_drop, List.length_cons, List.length_nil, List.length_modify, List.length_set, Nat.zero_add]; omega) | (simp only [List.length_append, List.length_take, List.length_drop, List.length_cons, List.length_nil, List.length_modify, List.length_set, Nat.zero_add]; done) | omega))⟩
   ·
    have hl3 := cF hl3 h4
    refine awp_exit ?_
    refine lq_e ?_
    refine bq_e ?_
    refine sq_n ?_
    obtain rfl := someInj hl3
    exact ⟨_, rfl, (by refine Wk.canonD [] [] [some 0] rfl trivial rfl (tmOU 0 tmO0 rfl List.not_mem_nil (by simp only [upd_get, ↓iop_and, Nat.reduceEqDiff, reduceIte, if_true, if_false] <;> rfl) (TmL.of_eq (by first | rfl | (simp only [List.flatMap_append, List.flatMap_cons, List.flatMap_nil, List.map_append, List.map_cons, List.map_nil, List.append_nil, List.nil_append]; done) | (simp only [List.flatMap_append, List.flatMap_cons, List.flatMap_nil, List.map_append, List.map_cons, List.map_nil, List.append_nil, List.nil_append]; rfl)) (vu_clean _))) (tmAllU 2 tmAll0 (Tm.refL rfl ?_)); all_goals (first | rfl | (simp only [List.length_take]; omega) | (simp only [List.length_append, List.length_cons, List.length_nil, List.length_modify, List.length_set, Nat.zero_add]; done) | (simp only [List.length_append, List.length_take, List.length_drop, List.length_cons, List.length_nil, List.length_modify, List.length_set, Nat.zero_add]; omega) | (simp only [List.length_append, List.length_take, List.length_drop, List.length_cons, List.length_nil, List.length_modify, List.length_set, Nat.zero_add]; done) | omega))⟩
 ·
  rintro _ rfl
  clear hi1
  unfold auth_numbers_S0
  refine awp_nr [2] (fun _ => rfl) fun tz => ?_
  refine awp_regW fun KK hKK => ?_
  refine xw_id ?_
  try simp only [go_sem, Nat.reduceEqDiff, reduceIte, Nat.reduceAdd, Nat.reduceMul, Nat.reduceSub, Nat.reduceLT, Nat.reduceLeDiff]
  refine hKK _ _ (Wk.refl _ _ _) ?_; clear hKK KK
  refine awp_ret1 ?_
  obtain rfl := someInj h0
  refine endW_i ?_
  refine end_ret0 rs37 (rfl) ?_
  refine Res.mk [] [some 0] rfl (resOU List.not_mem_nil (by simp only [upd_get, ↓iop_and, Nat.reduceEqDiff, reduceIte, if_true, if_false] <;> rfl) (TmL.of_eq (by first | rfl | (simp only [List.flatMap_append, List.flatMap_cons, List.flatMap_nil, List.map_append, List.map_cons, List.map_nil, List.append_nil, List.nil_append]; done) | (simp only [List.flatMap_append, List.flatMap_cons, List.flatMap_nil, List.map_append, List.map_cons, List.map_nil, List.append_nil, List.nil_append]; rfl)) (vu_clean _)) resO0) (Tm.refL rfl ?_)
  all_goals (first | rfl | (simp only [List.length_take]; omega) | (simp only [List.length_append, List.length_cons, List.length_nil, List.length_modify, List.length_set, Nat.zero_add]; done) | (simp only [List.length_append, List.length_take, List.length_drop, List.length_cons, List.length_nil, List.length_modify, List.length_set, Nat.zero_add]; omega) | (simp only [List.length_append, List.length_take, List.length_drop, List.length_cons, List.length_nil, List.length_modify, List.length_set, Nat.zero_add]; done) | omega)

theorem auth_numbers_m (a0 : (List Int)) {r : (List Int)} (h0 : auth_numbers a0 = some r) : SndM K 37 [(S_vq a0)] (fun q => (.ref (q 0) 0 r.length 1)) [(List.map vu r)] :=
 fun hs => Snd.of_newM (RenM.ref 0 0 _ _) (rows_all_cons (vu_clean _) rows_all_nil) (clean_cons (S_vq_clean _) clean_nil) (auth_numbers_r a0 h0) hs

theorem auth_numbers_e (a0 : (List Int)) {r : (List Int)} (h0 : auth_numbers a0 = some r) (fr : Nat) (hs : HS) : SndE K 37 [(S_vq a0)] hs fr ⟨(fun q : Nat → Nat => (.ref (q 0) 0 r.length 1)) fun _ => fr, .new (List.map vu r)⟩ :=
 SndE.of_res (RenM.ref 0 0 _ _) (vu_clean _) (clean_cons (S_vq_clean _) clean_nil) (fun a b h => by simp only [h]) (auth_numbers_r a0 h0) hs fr

theorem auth_numbers_p (a0 : (List Int)) {r : (List Int)} (h0 : auth_numbers a0 = some r) : SndP K 37 [(S_vq a0)] (S_vu r) :=
 SndM.pure (auth_numbers_m a0 h0) (S_vu_clean _) (clean_cons (S_vq_clean _) clean_nil) (by simp only [go_sem, newL_n, newL_c, upd_get, fz, nilS, cond_true, cond_false, List.drop_zero, List.take_length, List.length_map, ble_self, Nat.reduceEqDiff, reduceIte, Nat.reduceAdd, Nat.reduceMul, Nat.reduceSub, Nat.reduceLT, Nat.reduceLeDiff] <;> rfl)

end Go.AX.Z.TW

/-! (TWW auth Admit) -/

set_option linter.unusedSimpArgs false
set_option linter.unusedVariables false
set_option maxHeartbeats 4000000
set_option maxRecDepth 20000
namespace Go.AX.Z.TW
open Go.AX Go.Proofs
attribute [local irreducible] awp xw xop xcall gsp ob xd xdop xcallD seqQ loopQ blkQ endQ

def auth_Admit_S0 (a0 : AuthDoor) (a1 : A6vu) (a2 : (List Int)) (x2 : Int) : AS :=
 { objs := (upd (upd (upd (fun _ => .dead) 0 (.live (e_AuthDoor a0 (.imm (List.flatMap e_A6vu a0.Open) a0.Open.length)))) 1 (.live (e_A6vu a1))) 2 (.live (e_AuthDoor AuthDoor.z vnil))), next := 3, tmps := (upd (upd (upd (upd (upd (fun _ => .unk) 2 (.imm (List.map vu a2) a2.length)) 3 (.ptr 0 0)) 4 (.ptr 1 0)) 6 (.ptr 2 0)) 9 (vi x2)) }

def auth_Admit_S1 (a0 : AuthDoor) (x5 : (List A6vu)) (a1 : A6vu) (a2 : (List Int)) (x6 : Int) : AS :=
 { objs := (upd (upd (upd (upd (fun _ => .dead) 0 (.live (e_AuthDoor a0 (.ref 1 0 x5.length 6)))) 1 (.live (List.flatMap e_A6vu x5))) 2 (.live (e_A6vu a1))) 3 (.live (e_AuthDoor AuthDoor.z vnil))), next := 4, tmps := (upd (upd (upd (upd (upd (fun _ => .unk) 2 (.imm (List.map vu a2) a2.length)) 3 (.ptr 0 0)) 4 (.ptr 2 0)) 6 (.ptr 3 0)) 11 (vq x6)) }

theorem auth_Admit_r (a0 : AuthDoor) (a1 : A6vu) (a2 : (List Int)) {r : (AuthDoor × (List Int) × Int)} (h0 : auth_Admit a0 a1 a2 = some r) : SndR K 8 [(.agg (E_AuthDoor a0)), (.agg (e_A6vu a1)), (S_vu a2)] (fun q => (.tup [(.agg (e_AuthDoor r.1 (.ref (q 0) 0 r.1.Open.length 6))), (.ref (q 1) 0 r.2.1.length 1), (vi r.2.2)])) [(List.flatMap e_A6vu r.1.Open), (List.map vu r.2.1)] := by
 refine SndR.of_walkW hC (show K.P.funcs[8]? = some Try.f8 from Try.func8) rfl rfl (by decide +kernel) (Nat.le_of_ble_eq_true rfl) ?_
 unfold auth_Admit at h0
 refine awp_nr [0,1,2] (fun _ => rfl) fun tz => ?_
 refine awp_regW fun KK hKK => ?_
 refine xw_id ?_
 try simp only [go_sem, Nat.reduceEqDiff, reduceIte, Nat.reduceAdd, Nat.reduceMul, Nat.reduceSub, Nat.reduceLT, Nat.reduceLeDiff]
 refine hKK _ _ (Wk.refl _ _ _) ?_; clear hKK KK
 refine awp_assoc ?_
 refine awp_nr [2,3,4,6] (fun _ => rfl) fun tz => ?_
 refine awp_regW fun KK hKK => ?_
 refine xw_id ?_
 obtain ⟨x2, bx2, h0⟩ := bnd h0
 try simp only [go_sem, Nat.reduceEqDiff, reduceIte, Nat.reduceAdd, Nat.reduceMul, Nat.reduceSub, Nat.reduceLT, Nat.reduceLeDiff]
 refine xcall_p (auth_CheckDoor_p a0 bx2) ?_; try dsimp only
 try refine xw_id ?_
 try simp only [go_sem, Nat.reduceEqDiff, reduceIte, Nat.reduceAdd, Nat.reduceMul, Nat.reduceSub, Nat.reduceLT, Nat.reduceLeDiff]
 refine hKK _ (auth_Admit_S0 a0 a1 a2 x2) (Wk.canonD [] [] [some 0, some 1, some 2] rfl trivial rfl (tmOU 2 (tmOU 1 (tmOU 0 tmO0 rfl List.not_mem_nil (by simp only [upd_get, ↓iop_and, Nat.reduceEqDiff, reduceIte, if_true, if_false] <;> rfl) (e_AuthDoor_tmx (by rfl) (Tm.clean (Clean.imm (c_A6vu _))))) rfl List.not_mem_nil (by simp only [upd_get, ↓iop_and, Nat.reduceEqDiff, reduceIte, if_true, if_false] <;> rfl) (TmL.clean (e_A6vu_clean _))) rfl List.not_mem_nil (by simp only [upd_get, ↓iop_and, Nat.reduceEqDiff, reduceIte, if_true, if_false] <;> rfl) (e_AuthDoor_tmx (by rfl) (Tm.v _))) (tmAllU 9 (tmAllU 6 (tmAllU 4 (tmAllU 3 (tmAllU 2 tmAll0 (Tm.clean (Clean.imm (vu_clean _)))) (Tm.ptr rfl)) (Tm.ptr rfl)) (Tm.ptr rfl)) (Tm.v _))) ?_; clear hKK KK
 unfold auth_Admit_S0
 refine awp_assoc ?_
 refine awp_nr [2,3,4,6,9] (fun _ => rfl) fun tz => ?_
 refine awp_regW fun KK hKK => ?_
 refine xw_id ?_
 try simp only [go_sem, Nat.reduceEqDiff, reduceIte, Nat.reduceAdd, Nat.reduceMul, Nat.reduceSub, Nat.reduceLT, Nat.reduceLeDiff]
 refine hKK _ _ (Wk.refl _ _ _) ?_; clear hKK KK
 refine awp_cond (b := (x2 != 0)) rfl (fun h1 => ?_) (fun h1 => ?_)
 ·
  have h0 := cT h0 h1
  refine awp_assoc ?_
  refine awp_nr [6,9] (fun _ => rfl) fun tz => ?_
  refine awp_regW fun KK hKK => ?_
  refine xw_id ?_
  try simp only [go_sem, Nat.reduceEqDiff, reduceIte, Nat.reduceAdd, Nat.reduceMul, Nat.reduceSub, Nat.reduceLT, Nat.reduceLeDiff]
  refine hKK _ _ (Wk.refl _ _ _) ?_; clear hKK KK
  refine awp_ret ?_
  obtain rfl := someInj h0
  refine endW_i ?_
  refine end_ret0 rs8 (by simp only [go_sem, resV, resAll, resOf, packR, Nat.reduceEqDiff, reduceIte, Nat.reduceAdd, Nat.reduceMul, Nat.reduceSub, Nat.reduceLT, Nat.reduceLeDiff]; rfl) ?_
  refine Res.mk [] [none, none] rfl (resON (resON resO0)) (Tm.tup (TmL.cons (Tm.agg (e_AuthDoor_tmx (by rfl) (Tm.thaw _ _ _))) (TmL.cons (Tm.thaw _ _ _) (TmL.cons (Tm.v _) TmL.nil))))
 ·
  have h0 := cF h0 h1
  refine awp_skip ?_
  refine awp_assoc ?_
  refine awp_nr [2,3,4,6] (fun _ => rfl) fun tz => ?_
  refine awp_regW fun KK hKK => ?_
  refine xw_id ?_
  obtain ⟨x3, bx3, h0⟩ := bnd h0
  try simp only [go_sem, Nat.reduceEqDiff, reduceIte, Nat.reduceAdd, Nat.reduceMul, Nat.reduceSub, Nat.reduceLT, Nat.reduceLeDiff]
  refine xcall_p (auth_shaped_p a2 bx3) ?_; try dsimp only
  try refine xw_id ?_
  try simp only [go_sem, Nat.reduceEqDiff, reduceIte, Nat.reduceAdd, Nat.reduceMul, Nat.reduceSub, Nat.reduceLT, Nat.reduceLeDiff]
  refine hKK _ _ (Wk.refl _ _ _) ?_; clear hKK KK
  refine awp_assoc ?_
  refine awp_nr [2,3,4,6,10] (fun _ => rfl) fun tz => ?_
  refine awp_regW fun KK hKK => ?_
  refine xw_id ?_
  try simp only [go_sem, Nat.reduceEqDiff, reduceIte, Nat.reduceAdd, Nat.reduceMul, Nat.reduceSub, Nat.reduceLT, Nat.reduceLeDiff]
  refine hKK _ _ (Wk.refl _ _ _) ?_; clear hKK KK
  refine awp_cond (b := (x3 != 0)) rfl (fun h2 => ?_) (fun h2 => ?_)
  ·
   have h0 := cT h0 h2
   refine awp_assoc ?_
   refine awp_nr [6,10] (fun _ => rfl) fun tz => ?_
   refine awp_regW fun KK hKK => ?_
   refine xw_id ?_
   try simp only [go_sem, Nat.reduceEqDiff, reduceIte, Nat.reduceAdd, Nat.reduceMul, Nat.reduceSub, Nat.reduceLT, Nat.reduceLeDiff]
   refine hKK _ _ (Wk.refl _ _ _) ?_; clear hKK KK
   refine awp_ret ?_
   obtain rfl := someInj h0
   refine endW_i ?_
   refine end_ret0 rs8 (by simp only [go_sem, resV, resAll, resOf, packR, Nat.reduceEqDiff, reduceIte, Nat.reduceAdd, Nat.reduceMul, Nat.reduceSub, Nat.reduceLT, Nat.reduceLeDiff]; rfl) ?_
   refine Res.mk [] [none, none] rfl (resON (resON resO0)) (Tm.tup (TmL.cons (Tm.agg (e_AuthDoor_tmx (by rfl) (Tm.thaw _ _ _))) (TmL.cons (Tm.thaw _ _ _) (TmL.cons (Tm.v _) TmL.nil))))
  ·
   have h0 := cF h0 h2
   refine awp_skip ?_
   refine awp_assoc ?_
   refine awp_nr [2,3,4,6] (fun _ => rfl) fun tz => ?_
   refine awp_regW fun KK hKK => ?_
   refine xw_id ?_
   obtain ⟨x4, bx4, h0⟩ := bnd h0
   obtain ⟨fx4_0, fx4_1, fx4_2, fx4_3⟩ := idx_some bx4
   simp only [Int.reduceToNat] at fx4_2 fx4_3
   try simp only [go_sem, Nat.reduceEqDiff, reduceIte, Nat.reduceAdd, Nat.reduceMul, Nat.reduceSub, Nat.reduceLT, Nat.reduceLeDiff, Int.reduceToNat, Int.reduceBEq, Int.reduceBNe, Int.reduceLT, Int.reduceLE, Int.reduceAdd, Int.reduceSub, Int.reduceMul, fx4_0, fx4_1, fx4_2]
   refine hKK _ _ (Wk.refl _ _ _) ?_; clear hKK KK
   refine awp_cond (b := (x4 != 1)) rfl (fun h3 => ?_) (fun h3 => ?_)
   ·
    have h0 := cT h0 h3
    refine awp_assoc ?_
    refine awp_nr [6] (fun _ => rfl) fun tz => ?_
    refine awp_regW fun KK hKK => ?_
    refine xw_id ?_
    try simp only [go_sem, Nat.reduceEqDiff, reduceIte, Nat.reduceAdd, Nat.reduceMul, Nat.reduceSub, Nat.reduceLT, Nat.reduceLeDiff, fx4_0, fx4_1, fx4_2]
    refine hKK _ _ (Wk.refl _ _ _) ?_; clear hKK KK
    refine awp_ret ?_
    obtain rfl := someInj h0
    refine endW_i ?_
    refine end_ret0 rs8 (by simp only [go_sem, resV, resAll, resOf, packR, Nat.reduceEqDiff, reduceIte, Nat.reduceAdd, Nat.reduceMul, Nat.reduceSub, Nat.reduceLT, Nat.reduceLeDiff]; rfl) ?_
    refine Res.mk [] [none, none] rfl (resON (resON resO0)) (Tm.tup (TmL.cons (Tm.agg (e_AuthDoor_tmx (by rfl) (Tm.thaw _ _ _))) (TmL.cons (Tm.thaw _ _ _) (TmL.cons (Tm.v _) TmL.nil))))
   ·
    have h0 := cF h0 h3
    refine awp_skip ?_
    refine awp_nr [2,3,4,6] (fun _ => rfl) fun tz => ?_
    refine awp_regW fun KK hKK => ?_
    refine xw_id ?_
    obtain ⟨x5, bx5, h0⟩ := bnd h0
    try simp only [go_sem, Nat.reduceEqDiff, reduceIte, Nat.reduceAdd, Nat.reduceMul, Nat.reduceSub, Nat.reduceLT, Nat.reduceLeDiff, fx4_0, fx4_1, fx4_2]
    refine xcall_M (slices_Clone_api_Addr_api_Addr_m a0.Open bx5) ?_; try dsimp only
    try refine xw_id ?_
    try simp only [go_sem, Nat.reduceEqDiff, reduceIte, Nat.reduceAdd, Nat.reduceMul, Nat.reduceSub, Nat.reduceLT, Nat.reduceLeDiff, fx4_0, fx4_1, fx4_2]
    refine hKK _ _ (Wk.refl _ _ _) ?_; clear hKK KK
    refine awp_nr [2,3,4,6] (fun _ => rfl) fun tz => ?_
    refine awp_regW fun KK hKK => ?_
    refine xw_id ?_
    obtain ⟨x6, bx6, h0⟩ := bnd h0
    try simp only [go_sem, Nat.reduceEqDiff, reduceIte, Nat.reduceAdd, Nat.reduceMul, Nat.reduceSub, Nat.reduceLT, Nat.reduceLeDiff, fx4_0, fx4_1, fx4_2]
    refine xcall_L (by first | (simp only [go_sem, fz, Nat.reduceEqDiff, reduceIte, Nat.reduceAdd, Nat.reduceMul, Nat.reduceSub, Nat.reduceLT, Nat.reduceLeDiff, fx4_0, fx4_1, fx4_2]; done) | (simp only [go_sem, fz, Nat.reduceEqDiff, reduceIte, Nat.reduceAdd, Nat.reduceMul, Nat.reduceSub, Nat.reduceLT, Nat.reduceLeDiff, fx4_0, fx4_1, fx4_2]; rfl) | (simp only [go_sem, fz, List.length_set, ble_self, take_set, cond_true, cond_false, Nat.reduceEqDiff, reduceIte, Nat.reduceAdd, Nat.reduceMul, Nat.reduceSub, Nat.reduceLT, Nat.reduceLeDiff, fx4_0, fx4_1, fx4_2]; done) | (simp only [go_sem, fz, List.length_set, ble_self, take_set, cond_true, cond_false, Nat.reduceEqDiff, reduceIte, Nat.reduceAdd, Nat.reduceMul, Nat.reduceSub, Nat.reduceLT, Nat.reduceLeDiff, fx4_0, fx4_1, fx4_2]; rfl)) (auth_Token_p { a0 with Open := x5 } a1 bx6) (Bare.v _) ?_; try dsimp only
    try refine xw_id ?_
    try simp only [go_sem, Nat.reduceEqDiff, reduceIte, Nat.reduceAdd, Nat.reduceMul, Nat.reduceSub, Nat.reduceLT, Nat.reduceLeDiff, fx4_0, fx4_1, fx4_2]
    refine hKK _ (auth_Admit_S1 a0 x5 a1 a2 x6) (by refine Wk.canonD [] [] [some 0, some 19, some 1, some 2] rfl trivial rfl (tmOU 3 (tmOU 2 (tmOU 1 (tmOU 0 tmO0 rfl List.not_mem_nil (by simp only [upd_get, ↓iop_and, Nat.reduceEqDiff, reduceIte, if_true, if_false] <;> rfl) (e_AuthDoor_tmx (by rfl) (Tm.refL rfl ?_))) rfl List.not_mem_nil (by simp only [upd_get, ↓iop_and, Nat.reduceEqDiff, reduceIte, if_true, if_false] <;> rfl) (TmL.of_eq (by first | rfl | (simp only [List.flatMap_append, List.flatMap_cons, List.flatMap_nil, List.map_append, List.map_cons, List.map_nil, List.append_nil, List.nil_append]; done) | (simp only [List.flatMap_append, List.flatMap_cons, List.flatMap_nil, List.map_append, List.map_cons, List.map_nil, List.append_nil, List.nil_append]; rfl)) (c_A6vu _))) rfl List.not_mem_nil (by simp only [upd_get, ↓iop_and, Nat.reduceEqDiff, reduceIte, if_true, if_false] <;> rfl) (TmL.clean (e_A6vu_clean _))) rfl List.not_mem_nil (by simp only [upd_get, ↓iop_and, Nat.reduceEqDiff, reduceIte, if_true, if_false] <;> rfl) (e_AuthDoor_tmx (by rfl) (Tm.v _))) (tmAllU 11 (tmAllU 6 (tmAllU 4 (tmAllU 3 (tmAllU 2 tmAll0 (Tm.clean (Clean.imm (vu_clean _)))) (Tm.ptr rfl)) (Tm.ptr rfl)) (Tm.ptr rfl)) (Tm.v _)); all_goals (first | rfl | (simp only [List.length_take]; omega) | (simp only [List.length_append, List.length_cons, List.length_nil, List.length_modify, List.length_set, Nat.zero_add]; done) | (simp only [List.length_append, List.length_take, List.length_drop, List.length_cons, List.length_nil, List.length_modify, List.length_set, Nat.zero_add]; omega) | (simp only [List.length_append, List.length_take, List.length_drop, List.length_cons, List.length_nil, List.length_modify, List.length_set, Nat.zero_add]; done) | omega)) ?_; clear hKK KK
    unfold auth_Admit_S1
    refine awp_nr [2,3,4,6,11] (fun _ => rfl) fun tz => ?_
    refine awp_regW fun KK hKK => ?_
    refine xw_id ?_
    refine xw_stop 4 (by (try simp only [go_sem]); rfl) (by (try simp only [go_sem]); rfl) (by rfl) fun K1 hK1 => ?_
    refine xw_id ?_
    try simp only [go_sem, Nat.reduceEqDiff, reduceIte, Nat.reduceAdd, Nat.reduceMul, Nat.reduceSub, Nat.reduceLT, Nat.reduceLeDiff, Int.reduceToNat, Int.reduceBEq, Int.reduceBNe, Int.reduceLT, Int.reduceLE, Int.reduceAdd, Int.reduceSub, Int.reduceMul, fx4_0, fx4_1, fx4_2]
    refine hK1 _ ?_; clear hK1 K1
    obtain ⟨x9, hvh4, h0⟩ := bnd h0
    refine xw_cut 6 [(3, (.ptr 0 0)), (4, (.ptr 2 0)), (6, (.ptr 3 0)), (11, (vq x6)), (47, (vb x9))] (by (try simp only [go_sem]); rfl) (by (try simp only [go_sem]); rfl) (by rfl) (fun K1 hK1 => ?_) fun tz => ?_
    ·
     refine xw_id ?_
     rcases Bool.eq_false_or_eq_true ((a2.length : Int) == 26) with h4 | h4
     ·
      have hvh4 := cT hvh4 h4
      obtain ⟨x7, bx7, hvh4⟩ := bnd hvh4
      have bx7 := chk_some bx7
      simp only [Bool.and_eq_true, decide_eq_true_eq] at bx7
      have gx7_0 := bx7
      have g5 : ((a2.length : Int) - 18).toNat = (List.drop 18 a2).length := by simp only [List.length_take, List.length_drop]; omega
      try simp only [Int.sub_zero] at g5
      obtain ⟨x8, bx8, hvh4⟩ := bnd hvh4
      try simp only [go_sem, Nat.reduceEqDiff, reduceIte, Nat.reduceAdd, Nat.reduceMul, Nat.reduceSub, Nat.reduceLT, Nat.reduceLeDiff, Int.reduceToNat, Int.reduceBEq, Int.reduceBNe, Int.reduceLT, Int.reduceLE, Int.reduceAdd, Int.reduceSub, Int.reduceMul, fx4_0, fx4_1, fx4_2, h4, gx7_0, g5, Int.sub_zero]
      refine xcall_p (auth_get_p (List.drop 18 a2) bx8) ?_; try dsimp only
      try refine xw_id ?_
      try simp only [go_sem, Nat.reduceEqDiff, reduceIte, Nat.reduceAdd, Nat.reduceMul, Nat.reduceSub, Nat.reduceLT, Nat.reduceLeDiff, Int.reduceToNat, Int.reduceBEq, Int.reduceBNe, Int.reduceLT, Int.reduceLE, Int.reduceAdd, Int.reduceSub, Int.reduceMul, fx4_0, fx4_1, fx4_2, h4, gx7_0, g5, Int.sub_zero]
      obtain rfl := someInj hvh4
      exact hK1 _ ⟨rfl, rfl, rfl, rfl, rfl, (by first | rfl | (rw [h4]; rfl) | (simp only [h4, Bool.true_and, Bool.false_and, Bool.true_or, Bool.false_or, cond_true, cond_false]; done)), trivial⟩
     ·
      have hvh4 := cF hvh4 h4
      try simp only [go_sem, Nat.reduceEqDiff, reduceIte, Nat.reduceAdd, Nat.reduceMul, Nat.reduceSub, Nat.reduceLT, Nat.reduceLeDiff, Int.reduceToNat, Int.reduceBEq, Int.reduceBNe, Int.reduceLT, Int.reduceLE, Int.reduceAdd, Int.reduceSub, Int.reduceMul, fx4_0, fx4_1, fx4_2, h4]
      obtain rfl := someInj hvh4
      exact hK1 _ ⟨rfl, rfl, rfl, rfl, rfl, (by first | rfl | (rw [h4]; rfl) | (simp only [h4, Bool.true_and, Bool.false_and, Bool.true_or, Bool.false_or, cond_true, cond_false]; done)), trivial⟩
    ·
     refine xw_id ?_
     try simp only [go_sem, Nat.reduceEqDiff, reduceIte, Nat.reduceAdd, Nat.reduceMul, Nat.reduceSub, Nat.reduceLT, Nat.reduceLeDiff, Int.reduceToNat, Int.reduceBEq, Int.reduceBNe, Int.reduceLT, Int.reduceLE, Int.reduceAdd, Int.reduceSub, Int.reduceMul, fx4_0, fx4_1, fx4_2]
     refine hKK _ _ (Wk.refl _ _ _) ?_; clear hKK KK
     refine awp_assoc ?_
     refine awp_nr [3,4,6,11,12] (fun _ => rfl) fun tz => ?_
     refine awp_regW fun KK hKK => ?_
     refine xw_id ?_
     try simp only [go_sem, Nat.reduceEqDiff, reduceIte, Nat.reduceAdd, Nat.reduceMul, Nat.reduceSub, Nat.reduceLT, Nat.reduceLeDiff, Int.reduceToNat, Int.reduceBEq, Int.reduceBNe, Int.reduceLT, Int.reduceLE, Int.reduceAdd, Int.reduceSub, Int.reduceMul, fx4_0, fx4_1, fx4_2]
     refine hKK _ _ (Wk.refl _ _ _) ?_; clear hKK KK
     refine awp_blockW ?_
     refine awp_nr [3,4,6,11,12,13] (fun _ => rfl) fun tz => ?_
     refine awp_regW fun KK hKK => ?_
     refine xw_id ?_
     obtain ⟨x10, bx10, h0⟩ := bnd h0
     try simp only [go_sem, Nat.reduceEqDiff, reduceIte, Nat.reduceAdd, Nat.reduceMul, Nat.reduceSub, Nat.reduceLT, Nat.reduceLeDiff, fx4_0, fx4_1, fx4_2]
     refine xcall_L (by first | (simp only [go_sem, fz, Nat.reduceEqDiff, reduceIte, Nat.reduceAdd, Nat.reduceMul, Nat.reduceSub, Nat.reduceLT, Nat.reduceLeDiff, fx4_0, fx4_1, fx4_2]; done) | (simp only [go_sem, fz, Nat.reduceEqDiff, reduceIte, Nat.reduceAdd, Nat.reduceMul, Nat.reduceSub, Nat.reduceLT, Nat.reduceLeDiff, fx4_0, fx4_1, fx4_2]; rfl) | (simp only [go_sem, fz, List.length_set, ble_self, take_set, cond_true, cond_false, Nat.reduceEqDiff, reduceIte, Nat.reduceAdd, Nat.reduceMul, Nat.reduceSub, Nat.reduceLT, Nat.reduceLeDiff, fx4_0, fx4_1, fx4_2]; done) | (simp only [go_sem, fz, List.length_set, ble_self, take_set, cond_true, cond_false, Nat.reduceEqDiff, reduceIte, Nat.reduceAdd, Nat.reduceMul, Nat.reduceSub, Nat.reduceLT, Nat.reduceLeDiff, fx4_0, fx4_1, fx4_2]; rfl)) (slices_Contains_api_Addr_api_Addr_p x5 a1 bx10) (Bare.v _) ?_; try dsimp only
     try refine xw_id ?_
     try simp only [go_sem, Nat.reduceEqDiff, reduceIte, Nat.reduceAdd, Nat.reduceMul, Nat.reduceSub, Nat.reduceLT, Nat.reduceLeDiff, fx4_0, fx4_1, fx4_2]
     refine hKK _ _ (Wk.refl _ _ _) ?_; clear hKK KK
     refine awp_cond1 (b := x10) rfl (fun h6 => ?_) (fun h6 => ?_)
     ·
      have h0 := cT h0 h6
      refine awp_skip1 ?_
      refine bq_n ?_
      refine seqW_i ?_
      refine awp_nr [3,6] (fun _ => rfl) fun tz => ?_
      refine awp_regW fun KK hKK => ?_
      refine xw_id ?_
      try simp only [go_sem, Nat.reduceEqDiff, reduceIte, Nat.reduceAdd, Nat.reduceMul, Nat.reduceSub, Nat.reduceLT, Nat.reduceLeDiff, fx4_0, fx4_1, fx4_2]
      refine hKK _ _ (Wk.refl _ _ _) ?_; clear hKK KK
      refine awp_ret1 ?_
      obtain rfl := someInj h0
      refine endW_i ?_
      refine end_ret0 rs8 (by simp only [go_sem, resV, resAll, resOf, packR, Nat.reduceEqDiff, reduceIte, Nat.reduceAdd, Nat.reduceMul, Nat.reduceSub, Nat.reduceLT, Nat.reduceLeDiff]; rfl) ?_
      refine Res.mk [] [some 1, none] rfl (resOU List.not_mem_nil (by simp only [upd_get, ↓iop_and, Nat.reduceEqDiff, reduceIte, if_true, if_false] <;> rfl) (TmL.of_eq (by first | rfl | (simp only [List.flatMap_append, List.flatMap_cons, List.flatMap_nil, List.map_append, List.map_cons, List.map_nil, List.append_nil, List.nil_append]; done) | (simp only [List.flatMap_append, List.flatMap_cons, List.flatMap_nil, List.map_append, List.map_cons, List.map_nil, List.append_nil, List.nil_append]; rfl)) (c_A6vu _)) (resON resO0)) (Tm.tup (TmL.cons (Tm.agg (e_AuthDoor_tmx (by rfl) (Tm.refL rfl ?_))) (TmL.cons (Tm.thaw _ _ _) (TmL.cons (Tm.v _) TmL.nil))))
      all_goals (first | rfl | (simp only [List.length_take]; omega) | (simp only [List.length_append, List.length_cons, List.length_nil, List.length_modify, List.length_set, Nat.zero_add]; done) | (simp only [List.length_append, List.length_take, List.length_drop, List.length_cons, List.length_nil, List.length_modify, List.length_set, Nat.zero_add]; omega) | (simp only [List.length_append, List.length_take, List.length_drop, List.length_cons, List.length_nil, List.length_modify, List.length_set, Nat.zero_add]; done) | omega)
     ·
      have h0 := cF h0 h6
      refine awp_nr [3,4,6,11,12,13] (fun _ => rfl) fun tz => ?_
      refine awp_regW fun KK hKK => ?_
      refine xw_id ?_
      refine xw_stop 3 (by (try simp only [go_sem]); rfl) (by (try simp only [go_sem]); rfl) (by rfl) fun K1 hK1 => ?_
      refine xw_id ?_
      try simp only [go_sem, Nat.reduceEqDiff, reduceIte, Nat.reduceAdd, Nat.reduceMul, Nat.reduceSub, Nat.reduceLT, Nat.reduceLeDiff, fx4_0, fx4_1, fx4_2]
      refine hK1 _ ?_; clear hK1 K1
      refine xw_cut 6 [(3, (.ptr 0 0)), (4, (.ptr 2 0)), (6, (.ptr 3 0)), (11, (vq x6)), (13, (vi ((x5.length : Nat) : Int))), (71, (vb ((decide (((x5.length : Nat) : Int) < 8)) || (x9 && (decide (((x5.length : Nat) : Int) < 16))))))] (by (try simp only [go_sem]); rfl) (by (try simp only [go_sem]); rfl) (by rfl) (fun K1 hK1 => ?_) fun tz => ?_
      ·
       refine xw_id ?_
       rcases Bool.eq_false_or_eq_true (decide (((x5.length : Nat) : Int) < 8)) with h7 | h7
       ·
        try simp only [go_sem, Nat.reduceEqDiff, reduceIte, Nat.reduceAdd, Nat.reduceMul, Nat.reduceSub, Nat.reduceLT, Nat.reduceLeDiff, fx4_0, fx4_1, fx4_2, h7]
        exact hK1 _ ⟨rfl, rfl, rfl, rfl, rfl, rfl, (by first | rfl | (rw [h7]; rfl) | (simp only [h7, Bool.true_and, Bool.false_and, Bool.true_or, Bool.false_or, cond_true, cond_false]; done)), trivial⟩
       ·
        refine xw_stop 2 (by (try simp only [go_sem]); rfl) (by (try simp only [go_sem]); rfl) (by rfl) fun K1 hK1 => ?_
        refine xw_id ?_
        try simp only [go_sem, Nat.reduceEqDiff, reduceIte, Nat.reduceAdd, Nat.reduceMul, Nat.reduceSub, Nat.reduceLT, Nat.reduceLeDiff, fx4_0, fx4_1, fx4_2, h7]
        refine hK1 _ ?_; clear hK1 K1
        refine xw_cut 3 [(3, (.ptr 0 0)), (4, (.ptr 2 0)), (6, (.ptr 3 0)), (11, (vq x6)), (13, (vi ((x5.length : Nat) : Int))), (65, (vb false)), (70, (vb (x9 && (decide (((x5.length : Nat) : Int) < 16)))))] (by (try simp only [go_sem]); rfl) (by (try simp only [go_sem]); rfl) (by rfl) (fun K1 hK1 => ?_) fun tz => ?_
        ·
         refine xw_id ?_
         rcases Bool.eq_false_or_eq_true x9 with h8 | h8
         ·
          try simp only [go_sem, Nat.reduceEqDiff, reduceIte, Nat.reduceAdd, Nat.reduceMul, Nat.reduceSub, Nat.reduceLT, Nat.reduceLeDiff, fx4_0, fx4_1, fx4_2, h7, h8]
          exact hK1 _ ⟨rfl, rfl, rfl, rfl, rfl, rfl, rfl, (by first | rfl | (rw [h8]; rfl) | (simp only [h8, Bool.true_and, Bool.false_and, Bool.true_or, Bool.false_or, cond_true, cond_false]; done)), trivial⟩
         ·
          try simp only [go_sem, Nat.reduceEqDiff, reduceIte, Nat.reduceAdd, Nat.reduceMul, Nat.reduceSub, Nat.reduceLT, Nat.reduceLeDiff, fx4_0, fx4_1, fx4_2, h7, h8]
          exact hK1 _ ⟨rfl, rfl, rfl, rfl, rfl, rfl, rfl, (by first | rfl | (rw [h8]; rfl) | (simp only [h8, Bool.true_and, Bool.false_and, Bool.true_or, Bool.false_or, cond_true, cond_false]; done)), trivial⟩
        ·
         refine xw_id ?_
         try simp only [go_sem, Nat.reduceEqDiff, reduceIte, Nat.reduceAdd, Nat.reduceMul, Nat.reduceSub, Nat.reduceLT, Nat.reduceLeDiff, fx4_0, fx4_1, fx4_2, h7]
         exact hK1 _ ⟨rfl, rfl, rfl, rfl, rfl, rfl, (by first | rfl | (rw [h7]; rfl) | (simp only [h7, Bool.true_and, Bool.false_and, Bool.true_or, Bool.false_or, cond_true, cond_false]; done)), trivial⟩
      ·
       refine xw_id ?_
       try simp only [go_sem, Nat.reduceEqDiff, reduceIte, Nat.reduceAdd, Nat.reduceMul, Nat.reduceSub, Nat.reduceLT, Nat.reduceLeDiff, fx4_0, fx4_1, fx4_2]
       refine hKK _ _ (Wk.refl _ _ _) ?_; clear hKK KK
       refine awp_cond1 (b := ((decide (((x5.length : Nat) : Int) < 8)) || (x9 && (decide (((x5.length : Nat) : Int) < 16))))) rfl (fun h9 => ?_) (fun h9 => ?_)
       ·
        have h0 := cT h0 h9
        refine awp_nr1 [3,4,6] (fun _ => rfl) fun tz => ?_
        refine awp_reg1 fun KK hKK => ?_
        refine xw_id ?_
        obtain ⟨x11, bx11, h0⟩ := bnd h0
        have bx11 := chk_some bx11
        simp only [Bool.and_eq_true, decide_eq_true_eq] at bx11
        have gx11_0 := bx11
        try simp only [go_sem, Nat.reduceEqDiff, reduceIte, Nat.reduceAdd, Nat.reduceMul, Nat.reduceSub, Nat.reduceLT, Nat.reduceLeDiff, Int.reduceToNat, Int.reduceBEq, Int.reduceBNe, Int.reduceLT, Int.reduceLE, Int.reduceAdd, Int.reduceSub, Int.reduceMul, fx4_0, fx4_1, fx4_2, gx11_0]
        refine hKK _ ?_; clear hKK KK
        refine bq_n ?_
        refine seqW_i ?_
        refine awp_nr [3,6] (fun _ => rfl) fun tz => ?_
        refine awp_regW fun KK hKK => ?_
        refine xw_id ?_
        try simp only [go_sem, Nat.reduceEqDiff, reduceIte, Nat.reduceAdd, Nat.reduceMul, Nat.reduceSub, Nat.reduceLT, Nat.reduceLeDiff, fx4_0, fx4_1, fx4_2]
        refine hKK _ _ (Wk.refl _ _ _) ?_; clear hKK KK
        refine awp_ret1 ?_
        obtain rfl := someInj h0
        refine endW_i ?_
        refine end_ret0 rs8 (by simp only [go_sem, resV, resAll, resOf, packR, Nat.reduceEqDiff, reduceIte, Nat.reduceAdd, Nat.reduceMul, Nat.reduceSub, Nat.reduceLT, Nat.reduceLeDiff]; rfl) ?_
        refine Res.mk [] [some 38, none] rfl (resOU List.not_mem_nil (by simp only [upd_get, ↓iop_and, Nat.reduceEqDiff, reduceIte, if_true, if_false] <;> rfl) (TmL.of_eq (by first | rfl | (simp only [List.flatMap_append, List.flatMap_cons, List.flatMap_nil, List.map_append, List.map_cons, List.map_nil, List.append_nil, List.nil_append]; done) | (simp only [List.flatMap_append, List.flatMap_cons, List.flatMap_nil, List.map_append, List.map_cons, List.map_nil, List.append_nil, List.nil_append]; rfl)) (c_A6vu _)) (resON resO0)) (Tm.tup (TmL.cons (Tm.agg (e_AuthDoor_tmx (by rfl) (Tm.refL rfl ?_))) (TmL.cons (Tm.thaw _ _ _) (TmL.cons (Tm.v _) TmL.nil))))
        all_goals (first | rfl | (simp only [List.length_take]; omega) | (simp only [List.length_append, List.length_cons, List.length_nil, List.length_modify, List.length_set, Nat.zero_add]; done) | (simp only [List.length_append, List.length_take, List.length_drop, List.length_cons, List.length_nil, List.length_modify, List.length_set, Nat.zero_add]; omega) | (simp only [List.length_append, List.length_take, List.length_drop, List.length_cons, List.length_nil, List.length_modify, List.length_set, Nat.zero_add]; done) | omega)
       ·
        have h0 := cF h0 h9
        refine awp_nr [3,6,11,13] (fun _ => rfl) fun tz => ?_
        refine awp_regW fun KK hKK => ?_
        refine xw_id ?_
        try simp only [go_sem, Nat.reduceEqDiff, reduceIte, Nat.reduceAdd, Nat.reduceMul, Nat.reduceSub, Nat.reduceLT, Nat.reduceLeDiff, fx4_0, fx4_1, fx4_2]
        refine hKK _ _ (Wk.refl _ _ _) ?_; clear hKK KK
        refine awp_cond1 (b := (((x5.length : Nat) : Int) == 16)) rfl (fun h10 => ?_) (fun h10 => ?_)
        ·
         have h0 := cT h0 h10
         refine awp_nr [6] (fun _ => rfl) fun tz => ?_
         refine awp_regW fun KK hKK => ?_
         refine xw_id ?_
         try simp only [go_sem, Nat.reduceEqDiff, reduceIte, Nat.reduceAdd, Nat.reduceMul, Nat.reduceSub, Nat.reduceLT, Nat.reduceLeDiff, fx4_0, fx4_1, fx4_2]
         refine hKK _ _ (Wk.refl _ _ _) ?_; clear hKK KK
         refine awp_ret1 ?_
         refine bq_r ?_
         refine sq_r ?_
         obtain rfl := someInj h0
         refine endW_i ?_
         refine end_ret0 rs8 (by simp only [go_sem, resV, resAll, resOf, packR, Nat.reduceEqDiff, reduceIte, Nat.reduceAdd, Nat.reduceMul, Nat.reduceSub, Nat.reduceLT, Nat.reduceLeDiff]; rfl) ?_
         refine Res.mk [] [none, none] rfl (resON (resON resO0)) (Tm.tup (TmL.cons (Tm.agg (e_AuthDoor_tmx (by rfl) (Tm.thaw _ _ _))) (TmL.cons (Tm.thaw _ _ _) (TmL.cons (Tm.v _) TmL.nil))))
        ·
         have h0 := cF h0 h10
         refine awp_nr [3,6,11] (fun _ => rfl) fun tz => ?_
         refine awp_regDW fun KK hKK all hall => ?_
         refine xd_id ?_
         try simp only [List.toList_toArray, List.map_cons, List.map_nil, List.size_toArray, List.length_cons, List.length_nil, Nat.zero_add]
         try simp only [Nat.reduceAdd]
         obtain ⟨x12, bx12, h0⟩ := bnd h0
         simp only [go_sem, Nat.reduceEqDiff, reduceIte, Nat.reduceMul, Nat.reduceSub, Nat.reduceLT, Nat.reduceLeDiff, fx4_0, fx4_1, fx4_2]
         try simp only [Nat.reduceAdd]
         try simp only [go_sem, Nat.reduceEqDiff, reduceIte, Nat.reduceMul, Nat.reduceSub, Nat.reduceLT, Nat.reduceLeDiff, fx4_0, fx4_1, fx4_2]
         try simp only [Nat.reduceAdd]
         try simp only [go_sem, Nat.reduceEqDiff, reduceIte, Nat.reduceMul, Nat.reduceSub, Nat.reduceLT, Nat.reduceLeDiff, fx4_0, fx4_1, fx4_2]
         refine xcallD_EL (by first | (simp only [go_sem, fz, nilS, cond_true, cond_false, Nat.reduceEqDiff, reduceIte, Nat.reduceAdd, Nat.reduceMul, Nat.reduceSub, Nat.reduceLT, Nat.reduceLeDiff, fx4_0, fx4_1, fx4_2]; done) | (simp only [go_sem, fz, nilS, cond_true, cond_false, Nat.reduceEqDiff, reduceIte, Nat.reduceAdd, Nat.reduceMul, Nat.reduceSub, Nat.reduceLT, Nat.reduceLeDiff, fx4_0, fx4_1, fx4_2]; rfl) | (simp only [go_sem, fz, List.length_set, ble_self, take_set, cond_true, cond_false, Nat.reduceEqDiff, reduceIte, Nat.reduceAdd, Nat.reduceMul, Nat.reduceSub, Nat.reduceLT, Nat.reduceLeDiff, fx4_0, fx4_1, fx4_2]; done) | (simp only [go_sem, fz, List.length_set, ble_self, take_set, cond_true, cond_false, Nat.reduceEqDiff, reduceIte, Nat.reduceAdd, Nat.reduceMul, Nat.reduceSub, Nat.reduceLT, Nat.reduceLeDiff, fx4_0, fx4_1, fx4_2]; rfl)) (by first | (simp only [go_sem, reach, Nat.reduceEqDiff, reduceIte, Nat.reduceAdd, Nat.reduceMul, Nat.reduceSub, Nat.reduceLT, Nat.reduceLeDiff, fx4_0, fx4_1, fx4_2]; done) | (simp only [go_sem, reach, Nat.reduceEqDiff, reduceIte, Nat.reduceAdd, Nat.reduceMul, Nat.reduceSub, Nat.reduceLT, Nat.reduceLeDiff, fx4_0, fx4_1, fx4_2]; rfl)) (auth_numbers_e [x6] bx12 _) (by repeat' (first | exact NoV.v _ | exact NoV.ref _ _ _ _ | exact NoV.onil | refine NoV.ocons ?_ ?_ | exact NoV.nil | refine NoV.tup ?_ | refine NoV.agg ?_ | refine NoV.rows (fun _ => ?_) _ | refine NoV.maps (fun _ => ?_) _ | refine NoV.cons ?_ ?_)) (by repeat' (first | exact NoV.v _ | exact NoV.ref _ _ _ _ | exact NoV.onil | refine NoV.ocons ?_ ?_ | exact NoV.nil | refine NoV.tup ?_ | refine NoV.agg ?_ | refine NoV.rows (fun _ => ?_) _ | refine NoV.maps (fun _ => ?_) _ | refine NoV.cons ?_ ?_)) ?_; try dsimp only
         try refine xd_id ?_
         obtain ⟨x13, bx13, h0⟩ := bnd h0
         have bx13 := chk_some bx13
         simp only [Bool.and_eq_true, decide_eq_true_eq] at bx13
         have gx13_0 := bx13
         simp only [go_sem, Nat.reduceEqDiff, reduceIte, Nat.reduceMul, Nat.reduceSub, Nat.reduceLT, Nat.reduceLeDiff, Int.reduceToNat, Int.reduceBEq, Int.reduceBNe, Int.reduceLT, Int.reduceLE, Int.reduceAdd, Int.reduceSub, Int.reduceMul, fx4_0, fx4_1, fx4_2, gx13_0]
         try simp only [Nat.reduceAdd]
         try simp only [go_sem, Nat.reduceEqDiff, reduceIte, Nat.reduceMul, Nat.reduceSub, Nat.reduceLT, Nat.reduceLeDiff, Int.reduceToNat, Int.reduceBEq, Int.reduceBNe, Int.reduceLT, Int.reduceLE, Int.reduceAdd, Int.reduceSub, Int.reduceMul, fx4_0, fx4_1, fx4_2, gx13_0]
         try simp only [Nat.reduceAdd]
         try simp only [go_sem, Nat.reduceEqDiff, reduceIte, Nat.reduceMul, Nat.reduceSub, Nat.reduceLT, Nat.reduceLeDiff, Int.reduceToNat, Int.reduceBEq, Int.reduceBNe, Int.reduceLT, Int.reduceLE, Int.reduceAdd, Int.reduceSub, Int.reduceMul, fx4_0, fx4_1, fx4_2, gx13_0]
         refine And.intro ?_ (hKK _ _ (Wk.refl _ _ _) ?_)
         ·
          subst hall
          clear hKK KK
          first | decide +kernel | (simp [printsOk, apartP, clash, meet]; done) | (simp [printsOk, apartP, clash, meet]; decide +kernel) | (simp [printsOk, apartP, clash, meet]; repeat (first | exact Or.inr (by decide +kernel) | (refine And.intro (Or.inr (by decide +kernel)) ?_)))
         ·
          clear hKK KK hall all
          refine awp_ret1 ?_
          refine bq_r ?_
          refine sq_r ?_
          obtain rfl := someInj h0
          refine endW_i ?_
          refine end_ret0 rs8 (by simp only [go_sem, resV, resAll, resOf, packR, Nat.reduceEqDiff, reduceIte, Nat.reduceAdd, Nat.reduceMul, Nat.reduceSub, Nat.reduceLT, Nat.reduceLeDiff]; rfl) ?_
          refine Res.mk [] [some 1, some 42] rfl (resOU List.not_mem_nil (by simp only [upd_get, ↓iop_and, Nat.reduceEqDiff, reduceIte, if_true, if_false] <;> rfl) (TmL.of_eq (by first | rfl | (simp only [List.flatMap_append, List.flatMap_cons, List.flatMap_nil, List.map_append, List.map_cons, List.map_nil, List.append_nil, List.nil_append]; done) | (simp only [List.flatMap_append, List.flatMap_cons, List.flatMap_nil, List.map_append, List.map_cons, List.map_nil, List.append_nil, List.nil_append]; rfl)) (c_A6vu _)) (resOU List.not_mem_nil (by simp only [upd_get, ↓iop_and, Nat.reduceEqDiff, reduceIte, if_true, if_false] <;> rfl) (TmL.of_eq (by first | rfl | (simp only [List.flatMap_append, List.flatMap_cons, List.flatMap_nil, List.map_append, List.map_cons, List.map_nil, List.append_nil, List.nil_append]; done) | (simp only [List.flatMap_append, List.flatMap_cons, List.flatMap_nil, List.map_append, List.map_cons, List.map_nil, List.append_nil, List.nil_append]; rfl)) (vu_clean _)) resO0)) (Tm.tup (TmL.cons (Tm.agg (e_AuthDoor_tmx (by rfl) (Tm.refL rfl ?_))) (TmL.cons (Tm.refL rfl ?_) (TmL.cons (Tm.v _) TmL.nil))))
          all_goals (first | rfl | (simp only [List.length_take]; omega) | (simp only [List.length_append, List.length_cons, List.length_nil, List.length_modify, List.length_set, Nat.zero_add]; done) | (simp only [List.length_append, List.length_take, List.length_drop, List.length_cons, List.length_nil, List.length_modify, List.length_set, Nat.zero_add]; omega) | (simp only [List.length_append, List.length_take, List.length_drop, List.length_cons, List.length_nil, List.length_modify, List.length_set, Nat.zero_add]; done) | omega)

theorem auth_Admit_m (a0 : AuthDoor) (a1 : A6vu) (a2 : (List Int)) {r : (AuthDoor × (List Int) × Int)} (h0 : auth_Admit a0 a1 a2 = some r) : SndM K 8 [(.agg (E_AuthDoor a0)), (.agg (e_A6vu a1)), (S_vu a2)] (fun q => (.tup [(.agg (e_AuthDoor r.1 (.ref (q 0) 0 r.1.Open.length 6))), (.ref (q 1) 0 r.2.1.length 1), (vi r.2.2)])) [(List.flatMap e_A6vu r.1.Open), (List.map vu r.2.1)] :=
 fun hs => Snd.of_newM (RenM.tup (RenML.cons (RenM.agg (e_AuthDoor_ren _ (RenM.ref 0 0 _ _))) (RenML.cons (RenM.ref 1 0 _ _) (RenML.cons (RenM.const (Clean.v _)) RenML.nil)))) (rows_all_cons (c_A6vu _) (rows_all_cons (vu_clean _) rows_all_nil)) (clean_cons (Clean.agg (E_AuthDoor_clean _)) (clean_cons (Clean.agg (e_A6vu_clean _)) (clean_cons (S_vu_clean _) clean_nil))) (auth_Admit_r a0 a1 a2 h0) hs

theorem auth_Admit_p (a0 : AuthDoor) (a1 : A6vu) (a2 : (List Int)) {r : (AuthDoor × (List Int) × Int)} (h0 : auth_Admit a0 a1 a2 = some r) : SndP K 8 [(.agg (E_AuthDoor a0)), (.agg (e_A6vu a1)), (S_vu a2)] (.tup [(.agg (E_AuthDoor r.1)), (S_vu r.2.1), (vi r.2.2)]) :=
 SndM.pure (auth_Admit_m a0 a1 a2 h0) (Clean.tup (clean_cons (Clean.agg (E_AuthDoor_clean _)) (clean_cons (S_vu_clean _) (clean_cons (Clean.v _) clean_nil)))) (clean_cons (Clean.agg (E_AuthDoor_clean _)) (clean_cons (Clean.agg (e_A6vu_clean _)) (clean_cons (S_vu_clean _) clean_nil))) (by simp only [go_sem, newL_n, newL_c, upd_get, fz, nilS, cond_true, cond_false, List.drop_zero, List.take_length, List.length_map, ble_self, Nat.reduceEqDiff, reduceIte, Nat.reduceAdd, Nat.reduceMul, Nat.reduceSub, Nat.reduceLT, Nat.reduceLeDiff] <;> rfl)

end Go.AX.Z.TW

/-! (TWW hotspotref29 in) -/

set_option linter.unusedSimpArgs false
set_option linter.unusedVariables false
set_option maxHeartbeats 4000000
set_option maxRecDepth 20000
namespace Go.AX.Z.TW
open Go.AX Go.Proofs
attribute [local irreducible] awp xw xop xcall gsp ob xd xdop xcallD seqQ loopQ blkQ endQ

def hotspotref29_in_S0 (d18 : Unit) : AS :=
 { objs := (fun _ => .dead), next := 0, tmps := (fun _ => .unk) }

def hotspotref29_in_S1 (a1 : A6vu) (a0 : (List A6vu)) (d20 : Int) : AS :=
 { objs := (upd (fun _ => .dead) 0 (.live (e_A6vu a1))), next := 1, tmps := (upd (upd (upd (fun _ => .unk) 0 (.imm (List.flatMap e_A6vu a0) a0.length)) 3 (.ptr 0 0)) 5 (vi d20)) }

theorem hotspotref29_in_p (a0 : (List A6vu)) (a1 : A6vu) {r : Int} (h0 : hotspotref29_in a0 a1 = some r) : SndP K 39 [(S_A6vu a0), (.agg (e_A6vu a1))] (vi r) := by
 refine SndP.of_walkW hC (Clean.v _) (clean_cons (S_A6vu_clean _) (clean_cons (Clean.agg (e_A6vu_clean _)) clean_nil)) (show K.P.funcs[39]? = some Try.f39 from Try.func39) rfl rfl (by decide +kernel) (Nat.le_of_ble_eq_true rfl) ?_
 unfold hotspotref29_in at h0
 refine awp_nr [0,1] (fun _ => rfl) fun tz => ?_
 refine awp_regW fun KK hKK => ?_
 refine xw_id ?_
 try simp only [go_sem, Nat.reduceEqDiff, reduceIte, Nat.reduceAdd, Nat.reduceMul, Nat.reduceSub, Nat.reduceLT, Nat.reduceLeDiff]
 refine hKK _ _ (Wk.refl _ _ _) ?_; clear hKK KK
 refine awp_assoc ?_
 refine awp_nr [0,3] (fun _ => rfl) fun tz => ?_
 refine awp_regW fun KK hKK => ?_
 refine xw_id ?_
 try simp only [go_sem, Nat.reduceEqDiff, reduceIte, Nat.reduceAdd, Nat.reduceMul, Nat.reduceSub, Nat.reduceLT, Nat.reduceLeDiff]
 refine hKK _ _ (Wk.refl _ _ _) ?_; clear hKK KK
 obtain ⟨o19, hi1, h0⟩ := bnd h0
 refine awp_cut (fun d18 : Unit => o19 = Ex.go d18) (fun d18 : Unit => hotspotref29_in_S0 d18) ?_ ?_
 ·
  refine awp_block1 ?_
  refine awp_loopS (fun n (d20 : Int) => hotspotref29_in_L2 a0 a1 n d20 = some o19) (fun d20 : Int => hotspotref29_in_S1 a1 a0 d20) big 0 (Wk.canonD [] [] [some 0] rfl trivial rfl (tmOU 0 tmO0 rfl List.not_mem_nil (by simp only [upd_get, ↓iop_and, Nat.reduceEqDiff, reduceIte, if_true, if_false] <;> rfl) (TmL.clean (e_A6vu_clean _))) (tmAllU 5 (tmAllU 3 (tmAllU 0 tmAll0 (Tm.clean (Clean.imm (c_A6vu _)))) (Tm.ptr rfl)) (Tm.v _))) hi1 ?_
  clear hi1
  rintro n d20 hl3
  rcases n with _ | n2
  ·
   (rw [hotspotref29_in_L2] at hl3; cases hl3)
  ·
   rw [hotspotref29_in_L2] at hl3
   unfold hotspotref29_in_S1
   refine awp_assoc ?_
   refine awp_nr [0,3,5] (fun _ => rfl) fun tz => ?_
   refine awp_regW fun KK hKK => ?_
   refine xw_id ?_
   try simp only [go_sem, Nat.reduceEqDiff, reduceIte, Nat.reduceAdd, Nat.reduceMul, Nat.reduceSub, Nat.reduceLT, Nat.reduceLeDiff, Int.reduceToNat, Int.reduceBEq, Int.reduceBNe, Int.reduceLT, Int.reduceLE, Int.reduceAdd, Int.reduceSub, Int.reduceMul]
   refine hKK _ _ (Wk.refl _ _ _) ?_; clear hKK KK
   refine awp_cond (b := (decide (d20 < (a0.length : Int)))) rfl (fun h4 => ?_) (fun h4 => ?_)
   ·
    have hl3 := cT hl3 h4
    refine awp_skip ?_
    refine awp_blockW ?_
    refine awp_nr [0,3,5] (fun _ => rfl) fun tz => ?_
    refine awp_regW fun KK hKK => ?_
    refine xw_id ?_
    obtain ⟨x21, bx21, hl3⟩ := bnd hl3
    obtain ⟨fx21_0, fx21_1, fx21_2, fx21_3⟩ := idx_some bx21
    try simp only [go_sem, Nat.reduceEqDiff, reduceIte, Nat.reduceAdd, Nat.reduceMul, Nat.reduceSub, Nat.reduceLT, Nat.reduceLeDiff, fx21_0, fx21_1, fx21_2]
    refine hKK _ _ (Wk.refl _ _ _) ?_; clear hKK KK
    refine awp_cond1 (b := (decide (x21 = a1))) rfl (fun h5 => ?_) (fun h5 => ?_)
    ·
     have hl3 := cT hl3 h5
     refine awp_nr [5] (fun _ => rfl) fun tz => ?_
     refine awp_regW fun KK hKK => ?_
     refine xw_id ?_
     try simp only [go_sem, Nat.reduceEqDiff, reduceIte, Nat.reduceAdd, Nat.reduceMul, Nat.reduceSub, Nat.reduceLT, Nat.reduceLeDiff, fx21_0, fx21_1, fx21_2]
     refine hKK _ _ (Wk.refl _ _ _) ?_; clear hKK KK
     refine awp_ret1 ?_
     refine bq_r ?_
     refine sq_r ?_
     refine lq_r ?_
     refine bq_r ?_
     refine sq_r ?_
     obtain rfl := someInj hl3
     obtain rfl := Ex.k_ret h0
     refine endW_i ?_
     refine end_ret0 rs39 (rfl) ?_
     try simp only [go_sem, Nat.reduceEqDiff, reduceIte, Nat.reduceAdd, Nat.reduceMul, Nat.reduceSub, Nat.reduceLT, Nat.reduceLeDiff, fz, nilS, packR, List.take_nil, List.take_length, List.length_map, List.length_append, cond_true, cond_false, Nat.ble_eq, ble_self]
     all_goals first | rfl | (simp only [go_sem, Nat.reduceEqDiff, reduceIte, Nat.reduceAdd, Nat.reduceMul, Nat.reduceSub, Nat.reduceLT, Nat.reduceLeDiff, fz, nilS, packR, List.take_nil, List.take_length, List.length_map, List.length_append, cond_true, cond_false, Nat.ble_eq, ble_self, List.map_append] <;> rfl)
    ·
     have hl3 := cF hl3 h5
     refine awp_skip1 ?_
     refine bq_n ?_
     refine seqW_i ?_
     refine awp_nr1 [0,3,5] (fun _ => rfl) fun tz => ?_
     refine awp_reg1 fun KK hKK => ?_
     refine xw_id ?_
     try simp only [go_sem, Nat.reduceEqDiff, reduceIte, Nat.reduceAdd, Nat.reduceMul, Nat.reduceSub, Nat.reduceLT, Nat.reduceLeDiff, fx21_0, fx21_1, fx21_2]
     refine hKK _ ?_; clear hKK KK
     refine lq_n ?_
     exact ⟨n2, IntKind.wrap .i64 (d20 + 1), rfl, hl3, (Wk.canonD [] [] [some 0] rfl trivial rfl (tmOU 0 tmO0 rfl List.not_mem_nil (by simp only [upd_get, ↓iop_and, Nat.reduceEqDiff, reduceIte, if_true, if_false] <;> rfl) (TmL.clean (e_A6vu_clean _))) (tmAllU 5 (tmAllU 3 (tmAllU 0 tmAll0 (Tm.clean (Clean.imm (c_A6vu _)))) (Tm.ptr rfl)) (Tm.v _)))⟩
   ·
    have hl3 := cF hl3 h4
    refine awp_exit ?_
    refine lq_e ?_
    refine bq_e ?_
    refine sq_n ?_
    obtain rfl := someInj hl3
    exact ⟨_, rfl, (Wk.canonD [] [] [] rfl trivial rfl tmO0 tmAll0)⟩
 ·
  rintro d18 rfl
  have h0 := Ex.k_go h0
  clear hi1
  unfold hotspotref29_in_S0
  refine awp_nr [] (fun _ => rfl) fun tz => ?_
  refine awp_regW fun KK hKK => ?_
  refine xw_id ?_
  try simp only [go_sem, Nat.reduceEqDiff, reduceIte, Nat.reduceAdd, Nat.reduceMul, Nat.reduceSub, Nat.reduceLT, Nat.reduceLeDiff]
  refine hKK _ _ (Wk.refl _ _ _) ?_; clear hKK KK
  refine awp_ret1 ?_
  obtain rfl := someInj h0
  refine endW_i ?_
  refine end_ret0 rs39 (rfl) ?_
  try simp only [go_sem, Nat.reduceEqDiff, reduceIte, Nat.reduceAdd, Nat.reduceMul, Nat.reduceSub, Nat.reduceLT, Nat.reduceLeDiff, fz, nilS, packR, List.take_nil, List.take_length, List.length_map, List.length_append, cond_true, cond_false, Nat.ble_eq, ble_self]
  all_goals first | rfl | (simp only [go_sem, Nat.reduceEqDiff, reduceIte, Nat.reduceAdd, Nat.reduceMul, Nat.reduceSub, Nat.reduceLT, Nat.reduceLeDiff, fz, nilS, packR, List.take_nil, List.take_length, List.length_map, List.length_append, cond_true, cond_false, Nat.ble_eq, ble_self, List.map_append] <;> rfl)

end Go.AX.Z.TW

/-! (TWW hotspotref29 CheckDoor) -/

set_option linter.unusedSimpArgs false
set_option linter.unusedVariables false
set_option maxHeartbeats 4000000
set_option maxRecDepth 20000
namespace Go.AX.Z.TW
open Go.AX Go.Proofs
attribute [local irreducible] awp xw xop xcall gsp ob xd xdop xcallD seqQ loopQ blkQ endQ

def hotspotref29_CheckDoor_S0 (d15 : Unit) : AS :=
 { objs := (fun _ => .dead), next := 0, tmps := (fun _ => .unk) }

def hotspotref29_CheckDoor_S1 (a0 : AuthDoor) (d17 : Int) : AS :=
 { objs := (upd (fun _ => .dead) 0 (.live (e_AuthDoor a0 (.imm (List.flatMap e_A6vu a0.Open) a0.Open.length)))), next := 1, tmps := (upd (upd (fun _ => .unk) 1 (.ptr 0 0)) 3 (vi d17)) }

theorem hotspotref29_CheckDoor_p (a0 : AuthDoor) {r : Int} (h0 : hotspotref29_CheckDoor a0 = some r) : SndP K 17 [(.agg (E_AuthDoor a0))] (vi r) := by
 refine SndP.of_walkW hC (Clean.v _) (clean_cons (Clean.agg (E_AuthDoor_clean _)) clean_nil) (show K.P.funcs[17]? = some Try.f17 from Try.func17) rfl rfl (by decide +kernel) (Nat.le_of_ble_eq_true rfl) ?_
 unfold hotspotref29_CheckDoor at h0
 refine awp_nr [0] (fun _ => rfl) fun tz => ?_
 refine awp_regW fun KK hKK => ?_
 refine xw_id ?_
 try simp only [go_sem, Nat.reduceEqDiff, reduceIte, Nat.reduceAdd, Nat.reduceMul, Nat.reduceSub, Nat.reduceLT, Nat.reduceLeDiff]
 refine hKK _ _ (Wk.refl _ _ _) ?_; clear hKK KK
 refine awp_assoc ?_
 refine awp_nr [1] (fun _ => rfl) fun tz => ?_
 refine awp_regW fun KK hKK => ?_
 refine xw_id ?_
 try simp only [go_sem, Nat.reduceEqDiff, reduceIte, Nat.reduceAdd, Nat.reduceMul, Nat.reduceSub, Nat.reduceLT, Nat.reduceLeDiff, Int.reduceToNat, Int.reduceBEq, Int.reduceBNe, Int.reduceLT, Int.reduceLE, Int.reduceAdd, Int.reduceSub, Int.reduceMul]
 refine hKK _ _ (Wk.refl _ _ _) ?_; clear hKK KK
 refine awp_cond (b := (decide (16 < (a0.Open.length : Int)))) rfl (fun h1 => ?_) (fun h1 => ?_)
 ·
  have h0 := cT h0 h1
  refine awp_assoc ?_
  refine awp_nr [] (fun _ => rfl) fun tz => ?_
  refine awp_regW fun KK hKK => ?_
  refine xw_id ?_
  try simp only [go_sem, Nat.reduceEqDiff, reduceIte, Nat.reduceAdd, Nat.reduceMul, Nat.reduceSub, Nat.reduceLT, Nat.reduceLeDiff]
  refine hKK _ _ (Wk.refl _ _ _) ?_; clear hKK KK
  refine awp_ret ?_
  obtain rfl := someInj h0
  refine endW_i ?_
  refine end_ret0 rs17 (rfl) ?_
  try simp only [go_sem, Nat.reduceEqDiff, reduceIte, Nat.reduceAdd, Nat.reduceMul, Nat.reduceSub, Nat.reduceLT, Nat.reduceLeDiff, fz, nilS, packR, List.take_nil, List.take_length, List.length_map, List.length_append, cond_true, cond_false, Nat.ble_eq, ble_self]
  all_goals first | rfl | (simp only [go_sem, Nat.reduceEqDiff, reduceIte, Nat.reduceAdd, Nat.reduceMul, Nat.reduceSub, Nat.reduceLT, Nat.reduceLeDiff, fz, nilS, packR, List.take_nil, List.take_length, List.length_map, List.length_append, cond_true, cond_false, Nat.ble_eq, ble_self, List.map_append] <;> rfl)
 ·
  have h0 := cF h0 h1
  refine awp_skip ?_
  refine awp_assoc ?_
  refine awp_nr [1] (fun _ => rfl) fun tz => ?_
  refine awp_regW fun KK hKK => ?_
  refine xw_id ?_
  try simp only [go_sem, Nat.reduceEqDiff, reduceIte, Nat.reduceAdd, Nat.reduceMul, Nat.reduceSub, Nat.reduceLT, Nat.reduceLeDiff]
  refine hKK _ _ (Wk.refl _ _ _) ?_; clear hKK KK
  obtain ⟨o16, hi2, h0⟩ := bnd h0
  refine awp_cut (fun d15 : Unit => o16 = Ex.go d15) (fun d15 : Unit => hotspotref29_CheckDoor_S0 d15) ?_ ?_
  ·
   refine awp_block1 ?_
   refine awp_loopS (fun n (d17 : Int) => hotspotref29_CheckDoor_L2 a0 n d17 = some o16) (fun d17 : Int => hotspotref29_CheckDoor_S1 a0 d17) big 0 (Wk.canonD [] [] [some 0] rfl trivial rfl (tmOU 0 tmO0 rfl List.not_mem_nil (by simp only [upd_get, ↓iop_and, Nat.reduceEqDiff, reduceIte, if_true, if_false] <;> rfl) (e_AuthDoor_tmx (by rfl) (Tm.clean (Clean.imm (c_A6vu _))))) (tmAllU 3 (tmAllU 1 tmAll0 (Tm.ptr rfl)) (Tm.v _))) hi2 ?_
   clear hi2
   rintro n d17 hl4
   rcases n with _ | n3
   ·
    (rw [hotspotref29_CheckDoor_L2] at hl4; cases hl4)
   ·
    rw [hotspotref29_CheckDoor_L2] at hl4
    unfold hotspotref29_CheckDoor_S1
    refine awp_assoc ?_
    refine awp_nr [1,3] (fun _ => rfl) fun tz => ?_
    refine awp_regW fun KK hKK => ?_
    refine xw_id ?_
    try simp only [go_sem, Nat.reduceEqDiff, reduceIte, Nat.reduceAdd, Nat.reduceMul, Nat.reduceSub, Nat.reduceLT, Nat.reduceLeDiff, Int.reduceToNat, Int.reduceBEq, Int.reduceBNe, Int.reduceLT, Int.reduceLE, Int.reduceAdd, Int.reduceSub, Int.reduceMul]
    refine hKK _ _ (Wk.refl _ _ _) ?_; clear hKK KK
    refine awp_cond (b := (decide (d17 < (a0.Open.length : Int)))) rfl (fun h5 => ?_) (fun h5 => ?_)
    ·
     have hl4 := cT hl4 h5
     refine awp_skip ?_
     refine awp_blockW ?_
     refine awp_nr [1,3] (fun _ => rfl) fun tz => ?_
     refine awp_regW fun KK hKK => ?_
     refine xw_id ?_
     obtain ⟨x18, bx18, hl4⟩ := bnd hl4
     have bx18 := chk_some bx18
     simp only [Bool.and_eq_true, decide_eq_true_eq] at bx18
     obtain ⟨gx18_0, gx18_1⟩ := bx18
     have g6 : AV.imm (List.flatMap e_A6vu (List.take ((d17).toNat) a0.Open)) (d17).toNat = AV.imm (List.flatMap e_A6vu (List.take ((d17).toNat) a0.Open)) (List.take ((d17).toNat) a0.Open).length := by congr 1; simp only [List.length_take]; omega
     obtain ⟨x19, bx19, hl4⟩ := bnd hl4
     obtain ⟨fx19_0, fx19_1, fx19_2, fx19_3⟩ := idx_some bx19
     obtain ⟨x20, bx20, hl4⟩ := bnd hl4
     try simp only [go_sem, Nat.reduceEqDiff, reduceIte, Nat.reduceAdd, Nat.reduceMul, Nat.reduceSub, Nat.reduceLT, Nat.reduceLeDiff, Int.reduceToNat, Int.reduceBEq, Int.reduceBNe, Int.reduceLT, Int.reduceLE, Int.reduceAdd, Int.reduceSub, Int.reduceMul, gx18_0, gx18_1, g6, Int.sub_zero, fx19_0, fx19_1, fx19_2]
     refine xcall_p (hotspotref29_in_p (List.take ((d17).toNat) a0.Open) x19 bx20) ?_; try dsimp only
     try refine xw_id ?_
     try simp only [go_sem, Nat.reduceEqDiff, reduceIte, Nat.reduceAdd, Nat.reduceMul, Nat.reduceSub, Nat.reduceLT, Nat.reduceLeDiff, Int.reduceToNat, Int.reduceBEq, Int.reduceBNe, Int.reduceLT, Int.reduceLE, Int.reduceAdd, Int.reduceSub, Int.reduceMul, gx18_0, gx18_1, g6, Int.sub_zero, fx19_0, fx19_1, fx19_2]
     refine hKK _ _ (Wk.refl _ _ _) ?_; clear hKK KK
     refine awp_cond1 (b := (decide (0 ≤ x20))) rfl (fun h7 => ?_) (fun h7 => ?_)
     ·
      have hl4 := cT hl4 h7
      refine awp_nr [] (fun _ => rfl) fun tz => ?_
      refine awp_regW fun KK hKK => ?_
      refine xw_id ?_
      try simp only [go_sem, Nat.reduceEqDiff, reduceIte, Nat.reduceAdd, Nat.reduceMul, Nat.reduceSub, Nat.reduceLT, Nat.reduceLeDiff, fx19_0, fx19_1, fx19_2]
      refine hKK _ _ (Wk.refl _ _ _) ?_; clear hKK KK
      refine awp_ret1 ?_
      refine bq_r ?_
      refine sq_r ?_
      refine lq_r ?_
      refine bq_r ?_
      refine sq_r ?_
      obtain rfl := someInj hl4
      obtain rfl := Ex.k_ret h0
      refine endW_i ?_
      refine end_ret0 rs17 (rfl) ?_
      try simp only [go_sem, Nat.reduceEqDiff, reduceIte, Nat.reduceAdd, Nat.reduceMul, Nat.reduceSub, Nat.reduceLT, Nat.reduceLeDiff, fz, nilS, packR, List.take_nil, List.take_length, List.length_map, List.length_append, cond_true, cond_false, Nat.ble_eq, ble_self]
      all_goals first | rfl | (simp only [go_sem, Nat.reduceEqDiff, reduceIte, Nat.reduceAdd, Nat.reduceMul, Nat.reduceSub, Nat.reduceLT, Nat.reduceLeDiff, fz, nilS, packR, List.take_nil, List.take_length, List.length_map, List.length_append, cond_true, cond_false, Nat.ble_eq, ble_self, List.map_append] <;> rfl)
     ·
      have hl4 := cF hl4 h7
      refine awp_skip1 ?_
      refine bq_n ?_
      refine seqW_i ?_
      refine awp_nr1 [1,3] (fun _ => rfl) fun tz => ?_
      refine awp_reg1 fun KK hKK => ?_
      refine xw_id ?_
      try simp only [go_sem, Nat.reduceEqDiff, reduceIte, Nat.reduceAdd, Nat.reduceMul, Nat.reduceSub, Nat.reduceLT, Nat.reduceLeDiff, fx19_0, fx19_1, fx19_2]
      refine hKK _ ?_; clear hKK KK
      refine lq_n ?_
      exact ⟨n3, IntKind.wrap .i64 (d17 + 1), rfl, hl4, (Wk.canonD [] [] [some 0] rfl trivial rfl (tmOU 0 tmO0 rfl List.not_mem_nil (by simp only [upd_get, ↓iop_and, Nat.reduceEqDiff, reduceIte, if_true, if_false] <;> rfl) (e_AuthDoor_tmx (by rfl) (Tm.clean (Clean.imm (c_A6vu _))))) (tmAllU 3 (tmAllU 1 tmAll0 (Tm.ptr rfl)) (Tm.v _)))⟩
    ·
     have hl4 := cF hl4 h5
     refine awp_exit ?_
     refine lq_e ?_
     refine bq_e ?_
     refine sq_n ?_
     obtain rfl := someInj hl4
     exact ⟨_, rfl, (Wk.canonD [] [] [] rfl trivial rfl tmO0 tmAll0)⟩
  ·
   rintro d15 rfl
   have h0 := Ex.k_go h0
   clear hi2
   unfold hotspotref29_CheckDoor_S0
   refine awp_nr [] (fun _ => rfl) fun tz => ?_
   refine awp_regW fun KK hKK => ?_
   refine xw_id ?_
   try simp only [go_sem, Nat.reduceEqDiff, reduceIte, Nat.reduceAdd, Nat.reduceMul, Nat.reduceSub, Nat.reduceLT, Nat.reduceLeDiff]
   refine hKK _ _ (Wk.refl _ _ _) ?_; clear hKK KK
   refine awp_ret1 ?_
   obtain rfl := someInj h0
   refine endW_i ?_
   refine end_ret0 rs17 (rfl) ?_
   try simp only [go_sem, Nat.reduceEqDiff, reduceIte, Nat.reduceAdd, Nat.reduceMul, Nat.reduceSub, Nat.reduceLT, Nat.reduceLeDiff, fz, nilS, packR, List.take_nil, List.take_length, List.length_map, List.length_append, cond_true, cond_false, Nat.ble_eq, ble_self]
   all_goals first | rfl | (simp only [go_sem, Nat.reduceEqDiff, reduceIte, Nat.reduceAdd, Nat.reduceMul, Nat.reduceSub, Nat.reduceLT, Nat.reduceLeDiff, fz, nilS, packR, List.take_nil, List.take_length, List.length_map, List.length_append, cond_true, cond_false, Nat.ble_eq, ble_self, List.map_append] <;> rfl)

end Go.AX.Z.TW

/-! (TWW hotspotref29 Number) -/

set_option linter.unusedSimpArgs false
set_option linter.unusedVariables false
set_option maxHeartbeats 4000000
set_option maxRecDepth 20000
namespace Go.AX.Z.TW
open Go.AX Go.Proofs
attribute [local irreducible] awp xw xop xcall gsp ob xd xdop xcallD seqQ loopQ blkQ endQ

def hotspotref29_Number_S0 (d31 : Int) : AS :=
 { objs := (fun _ => .dead), next := 0, tmps := (upd (fun _ => .unk) 3 (vq d31)) }

def hotspotref29_Number_S1 (a0 : (List Int)) (d32 : (Int × Int)) : AS :=
 { objs := (fun _ => .dead), next := 0, tmps := (upd (upd (upd (fun _ => .unk) 0 (.imm (List.map vu a0) a0.length)) 3 (vq d32.1)) 4 (vi d32.2)) }

theorem hotspotref29_Number_p (a0 : (List Int)) {r : Int} (h0 : hotspotref29_Number a0 = some r) : SndP K 40 [(S_vu a0)] (vq r) := by
 refine SndP.of_walkW hC (Clean.v _) (clean_cons (S_vu_clean _) clean_nil) (show K.P.funcs[40]? = some Try.f40 from Try.func40) rfl rfl (by decide +kernel) (Nat.le_of_ble_eq_true rfl) ?_
 unfold hotspotref29_Number at h0
 refine awp_nr [0] (fun _ => rfl) fun tz => ?_
 refine awp_regW fun KK hKK => ?_
 refine xw_id ?_
 try simp only [go_sem, Nat.reduceEqDiff, reduceIte, Nat.reduceAdd, Nat.reduceMul, Nat.reduceSub, Nat.reduceLT, Nat.reduceLeDiff]
 refine hKK _ _ (Wk.refl _ _ _) ?_; clear hKK KK
 refine awp_nr [0] (fun _ => rfl) fun tz => ?_
 refine awp_regW fun KK hKK => ?_
 refine xw_id ?_
 try simp only [go_sem, Nat.reduceEqDiff, reduceIte, Nat.reduceAdd, Nat.reduceMul, Nat.reduceSub, Nat.reduceLT, Nat.reduceLeDiff]
 refine hKK _ _ (Wk.refl _ _ _) ?_; clear hKK KK
 refine awp_assoc ?_
 refine awp_nr [0,3] (fun _ => rfl) fun tz => ?_
 refine awp_regW fun KK hKK => ?_
 refine xw_id ?_
 try simp only [go_sem, Nat.reduceEqDiff, reduceIte, Nat.reduceAdd, Nat.reduceMul, Nat.reduceSub, Nat.reduceLT, Nat.reduceLeDiff]
 refine hKK _ _ (Wk.refl _ _ _) ?_; clear hKK KK
 obtain ⟨d31, hi1, h0⟩ := bnd h0
 refine awp_cut (fun z => d31 = z) (fun d31 : Int => hotspotref29_Number_S0 d31) ?_ ?_
 ·
  refine awp_block1 ?_
  refine awp_loopS (fun n (d32 : (Int × Int)) => hotspotref29_Number_L2 a0 n d32 = some d31) (fun d32 : (Int × Int) => hotspotref29_Number_S1 a0 d32) big (0, 7) (Wk.canonD [] [] [] rfl trivial rfl tmO0 (tmAllU 4 (tmAllU 3 (tmAllU 0 tmAll0 (Tm.clean (Clean.imm (vu_clean _)))) (Tm.v _)) (Tm.v _))) hi1 ?_
  clear hi1
  rintro n d32 hl3
  rcases n with _ | n2
  ·
   (rw [hotspotref29_Number_L2] at hl3; cases hl3)
  ·
   rw [hotspotref29_Number_L2] at hl3
   unfold hotspotref29_Number_S1
   refine awp_assoc ?_
   refine awp_nr [0,3,4] (fun _ => rfl) fun tz => ?_
   refine awp_regW fun KK hKK => ?_
   refine xw_id ?_
   try simp only [go_sem, Nat.reduceEqDiff, reduceIte, Nat.reduceAdd, Nat.reduceMul, Nat.reduceSub, Nat.reduceLT, Nat.reduceLeDiff]
   refine hKK _ _ (Wk.refl _ _ _) ?_; clear hKK KK
   refine awp_cond (b := (decide (0 ≤ d32.2))) rfl (fun h4 => ?_) (fun h4 => ?_)
   ·
    have hl3 := cT hl3 h4
    refine awp_skip ?_
    refine awp_blockW ?_
    refine awp_nr1 [0,3,4] (fun _ => rfl) fun tz => ?_
    refine awp_reg1 fun KK hKK => ?_
    refine xw_id ?_
    obtain ⟨x33, bx33, hl3⟩ := bnd hl3
    obtain ⟨fx33_0, fx33_1, fx33_2, fx33_3⟩ := idx_some bx33
    try simp only [go_sem, Nat.reduceEqDiff, reduceIte, Nat.reduceAdd, Nat.reduceMul, Nat.reduceSub, Nat.reduceLT, Nat.reduceLeDiff, fx33_0, fx33_1, fx33_2]
    refine hKK _ ?_; clear hKK KK
    refine bq_n ?_
    refine seqW_i ?_
    refine awp_nr1 [0,3,4] (fun _ => rfl) fun tz => ?_
    refine awp_reg1 fun KK hKK => ?_
    refine xw_id ?_
    try simp only [go_sem, Nat.reduceEqDiff, reduceIte, Nat.reduceAdd, Nat.reduceMul, Nat.reduceSub, Nat.reduceLT, Nat.reduceLeDiff, fx33_0, fx33_1, fx33_2]
    refine hKK _ ?_; clear hKK KK
    refine lq_n ?_
    exact ⟨n2, (IntKind.wrap .u64 ((IntKind.wrap .u64 (256 * d32.1)) + (IntKind.wrap .u64 x33)), IntKind.wrap .i64 (d32.2 - 1)), rfl, hl3, (Wk.canonD [] [] [] rfl trivial rfl tmO0 (tmAllU 4 (tmAllU 3 (tmAllU 0 tmAll0 (Tm.clean (Clean.imm (vu_clean _)))) (Tm.v _)) (Tm.v _)))⟩
   ·
    have hl3 := cF hl3 h4
    refine awp_exit ?_
    refine lq_e ?_
    refine bq_e ?_
    refine sq_n ?_
    obtain rfl := someInj hl3
    exact ⟨_, rfl, (Wk.canonD [] [] [] rfl trivial rfl tmO0 (tmAllU 3 tmAll0 (Tm.v _)))⟩
 ·
  rintro _ rfl
  clear hi1
  unfold hotspotref29_Number_S0
  refine awp_nr [3] (fun _ => rfl) fun tz => ?_
  refine awp_regW fun KK hKK => ?_
  refine xw_id ?_
  try simp only [go_sem, Nat.reduceEqDiff, reduceIte, Nat.reduceAdd, Nat.reduceMul, Nat.reduceSub, Nat.reduceLT, Nat.reduceLeDiff]
  refine hKK _ _ (Wk.refl _ _ _) ?_; clear hKK KK
  refine awp_ret1 ?_
  obtain rfl := someInj h0
  refine endW_i ?_
  refine end_ret0 rs40 (rfl) ?_
  try simp only [go_sem, Nat.reduceEqDiff, reduceIte, Nat.reduceAdd, Nat.reduceMul, Nat.reduceSub, Nat.reduceLT, Nat.reduceLeDiff, fz, nilS, packR, List.take_nil, List.take_length, List.length_map, List.length_append, cond_true, cond_false, Nat.ble_eq, ble_self]
  all_goals first | rfl | (simp only [go_sem, Nat.reduceEqDiff, reduceIte, Nat.reduceAdd, Nat.reduceMul, Nat.reduceSub, Nat.reduceLT, Nat.reduceLeDiff, fz, nilS, packR, List.take_nil, List.take_length, List.length_map, List.length_append, cond_true, cond_false, Nat.ble_eq, ble_self, List.map_append] <;> rfl)

end Go.AX.Z.TW
