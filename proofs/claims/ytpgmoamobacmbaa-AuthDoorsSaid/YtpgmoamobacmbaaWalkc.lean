/- A part of the proof: walks through the functions that the statement reaches. -/
import Derived.Test.YtpgmoamobacmbaaWalkb
set_option linter.unusedVariables false
set_option linter.unusedSimpArgs false

/-! (TWW auth Leave) -/

set_option linter.unusedSimpArgs false
set_option linter.unusedVariables false
set_option maxHeartbeats 4000000
set_option maxRecDepth 20000
namespace Go.AX.Z.TW
open Go.AX Go.Proofs
attribute [local irreducible] awp xw xop xcall gsp ob xd xdop xcallD seqQ loopQ blkQ endQ

def auth_Leave_S0 (a0 : AuthDoor) (a1 : A6vu) (x45 : Int) : AS :=
 { objs := (upd (upd (upd (fun _ => .dead) 0 (.live (e_AuthDoor a0 (.imm (List.flatMap e_A6vu a0.Open) a0.Open.length)))) 1 (.live (e_A6vu a1))) 2 (.live (e_AuthDoor AuthDoor.z vnil))), next := 3, tmps := (upd (upd (upd (upd (fun _ => .unk) 2 (.ptr 0 0)) 3 (.ptr 1 0)) 4 (.ptr 2 0)) 6 (vi x45)) }

theorem auth_Leave_r (a0 : AuthDoor) (a1 : A6vu) {r : (AuthDoor × Int)} (h0 : auth_Leave a0 a1 = some r) : SndR K 12 [(.agg (E_AuthDoor a0)), (.agg (e_A6vu a1))] (fun q => (.tup [(.agg (e_AuthDoor r.1 (.ref (q 0) 0 r.1.Open.length 6))), (vi r.2)])) [(List.flatMap e_A6vu r.1.Open)] := by
 refine SndR.of_walkW hC (show K.P.funcs[12]? = some Try.f12 from Try.func12) rfl rfl (by decide +kernel) (Nat.le_of_ble_eq_true rfl) ?_
 unfold auth_Leave at h0
 refine awp_nr [0,1] (fun _ => rfl) fun tz => ?_
 refine awp_regW fun KK hKK => ?_
 refine xw_id ?_
 try simp only [go_sem, Nat.reduceEqDiff, reduceIte, Nat.reduceAdd, Nat.reduceMul, Nat.reduceSub, Nat.reduceLT, Nat.reduceLeDiff]
 refine hKK _ _ (Wk.refl _ _ _) ?_; clear hKK KK
 refine awp_assoc ?_
 refine awp_nr [2,3,4] (fun _ => rfl) fun tz => ?_
 refine awp_regW fun KK hKK => ?_
 refine xw_id ?_
 obtain ⟨x45, bx45, h0⟩ := bnd h0
 try simp only [go_sem, Nat.reduceEqDiff, reduceIte, Nat.reduceAdd, Nat.reduceMul, Nat.reduceSub, Nat.reduceLT, Nat.reduceLeDiff]
 refine xcall_p (auth_CheckDoor_p a0 bx45) ?_; try dsimp only
 try refine xw_id ?_
 try simp only [go_sem, Nat.reduceEqDiff, reduceIte, Nat.reduceAdd, Nat.reduceMul, Nat.reduceSub, Nat.reduceLT, Nat.reduceLeDiff]
 refine hKK _ (auth_Leave_S0 a0 a1 x45) (Wk.canonD [] [] [some 0, some 1, some 2] rfl trivial rfl (tmOU 2 (tmOU 1 (tmOU 0 tmO0 rfl List.not_mem_nil (by simp only [upd_get, ↓iop_and, Nat.reduceEqDiff, reduceIte, if_true, if_false] <;> rfl) (e_AuthDoor_tmx (by rfl) (Tm.clean (Clean.imm (c_A6vu _))))) rfl List.not_mem_nil (by simp only [upd_get, ↓iop_and, Nat.reduceEqDiff, reduceIte, if_true, if_false] <;> rfl) (TmL.clean (e_A6vu_clean _))) rfl List.not_mem_nil (by simp only [upd_get, ↓iop_and, Nat.reduceEqDiff, reduceIte, if_true, if_false] <;> rfl) (e_AuthDoor_tmx (by rfl) (Tm.v _))) (tmAllU 6 (tmAllU 4 (tmAllU 3 (tmAllU 2 tmAll0 (Tm.ptr rfl)) (Tm.ptr rfl)) (Tm.ptr rfl)) (Tm.v _))) ?_; clear hKK KK
 unfold auth_Leave_S0
 refine awp_assoc ?_
 refine awp_nr [2,3,4,6] (fun _ => rfl) fun tz => ?_
 refine awp_regW fun KK hKK => ?_
 refine xw_id ?_
 try simp only [go_sem, Nat.reduceEqDiff, reduceIte, Nat.reduceAdd, Nat.reduceMul, Nat.reduceSub, Nat.reduceLT, Nat.reduceLeDiff]
 refine hKK _ _ (Wk.refl _ _ _) ?_; clear hKK KK
 refine awp_cond (b := (x45 != 0)) rfl (fun h1 => ?_) (fun h1 => ?_)
 ·
  have h0 := cT h0 h1
  refine awp_assoc ?_
  refine awp_nr [4,6] (fun _ => rfl) fun tz => ?_
  refine awp_regW fun KK hKK => ?_
  refine xw_id ?_
  try simp only [go_sem, Nat.reduceEqDiff, reduceIte, Nat.reduceAdd, Nat.reduceMul, Nat.reduceSub, Nat.reduceLT, Nat.reduceLeDiff]
  refine hKK _ _ (Wk.refl _ _ _) ?_; clear hKK KK
  refine awp_ret ?_
  obtain rfl := someInj h0
  refine endW_i ?_
  refine end_ret0 rs12 (by simp only [go_sem, resV, resAll, resOf, packR, Nat.reduceEqDiff, reduceIte, Nat.reduceAdd, Nat.reduceMul, Nat.reduceSub, Nat.reduceLT, Nat.reduceLeDiff]; rfl) ?_
  refine Res.mk [] [none] rfl (resON resO0) (Tm.tup (TmL.cons (Tm.agg (e_AuthDoor_tmx (by rfl) (Tm.thaw _ _ _))) (TmL.cons (Tm.v _) TmL.nil)))
 ·
  have h0 := cF h0 h1
  refine awp_skip ?_
  refine awp_nr [2,3,4] (fun _ => rfl) fun tz => ?_
  refine awp_regW fun KK hKK => ?_
  refine xw_id ?_
  obtain ⟨x46, bx46, h0⟩ := bnd h0
  try simp only [go_sem, Nat.reduceEqDiff, reduceIte, Nat.reduceAdd, Nat.reduceMul, Nat.reduceSub, Nat.reduceLT, Nat.reduceLeDiff]
  refine xcall_p (slices_Index_api_Addr_api_Addr_p a0.Open a1 bx46) ?_; try dsimp only
  try refine xw_id ?_
  try simp only [go_sem, Nat.reduceEqDiff, reduceIte, Nat.reduceAdd, Nat.reduceMul, Nat.reduceSub, Nat.reduceLT, Nat.reduceLeDiff]
  refine hKK _ _ (Wk.refl _ _ _) ?_; clear hKK KK
  refine awp_assoc ?_
  refine awp_nr [2,4,7] (fun _ => rfl) fun tz => ?_
  refine awp_regW fun KK hKK => ?_
  refine xw_id ?_
  try simp only [go_sem, Nat.reduceEqDiff, reduceIte, Nat.reduceAdd, Nat.reduceMul, Nat.reduceSub, Nat.reduceLT, Nat.reduceLeDiff]
  refine hKK _ _ (Wk.refl _ _ _) ?_; clear hKK KK
  refine awp_cond (b := (decide (x46 < 0))) rfl (fun h2 => ?_) (fun h2 => ?_)
  ·
   have h0 := cT h0 h2
   refine awp_assoc ?_
   refine awp_nr [4] (fun _ => rfl) fun tz => ?_
   refine awp_regW fun KK hKK => ?_
   refine xw_id ?_
   try simp only [go_sem, Nat.reduceEqDiff, reduceIte, Nat.reduceAdd, Nat.reduceMul, Nat.reduceSub, Nat.reduceLT, Nat.reduceLeDiff]
   refine hKK _ _ (Wk.refl _ _ _) ?_; clear hKK KK
   refine awp_ret ?_
   obtain rfl := someInj h0
   refine endW_i ?_
   refine end_ret0 rs12 (by simp only [go_sem, resV, resAll, resOf, packR, Nat.reduceEqDiff, reduceIte, Nat.reduceAdd, Nat.reduceMul, Nat.reduceSub, Nat.reduceLT, Nat.reduceLeDiff]; rfl) ?_
   refine Res.mk [] [none] rfl (resON resO0) (Tm.tup (TmL.cons (Tm.agg (e_AuthDoor_tmx (by rfl) (Tm.thaw _ _ _))) (TmL.cons (Tm.v _) TmL.nil)))
  ·
   have h0 := cF h0 h2
   refine awp_skip ?_
   refine awp_nr [2,4,7] (fun _ => rfl) fun tz => ?_
   refine awp_regW fun KK hKK => ?_
   refine xw_id ?_
   obtain ⟨x47, bx47, h0⟩ := bnd h0
   try simp only [go_sem, Nat.reduceEqDiff, reduceIte, Nat.reduceAdd, Nat.reduceMul, Nat.reduceSub, Nat.reduceLT, Nat.reduceLeDiff]
   refine xcall_M (slices_Clone_api_Addr_api_Addr_m a0.Open bx47) ?_; try dsimp only
   try refine xw_id ?_
   obtain ⟨x48, bx48, h0⟩ := bnd h0
   try simp only [go_sem, Nat.reduceEqDiff, reduceIte, Nat.reduceAdd, Nat.reduceMul, Nat.reduceSub, Nat.reduceLT, Nat.reduceLeDiff]
   refine xcall_O [21] (slices_Delete_api_Addr_api_Addr_io x46 (IntKind.wrap .i64 (x46 + 1)) x47 bx48) (by decide) (by decide) ⟨(by first | rfl | (simp only [go_sem, Nat.reduceEqDiff, reduceIte, Nat.reduceAdd, Nat.reduceMul, Nat.reduceSub, Nat.reduceLT, Nat.reduceLeDiff]; done) | (simp only [go_sem, Nat.reduceEqDiff, reduceIte, Nat.reduceAdd, Nat.reduceMul, Nat.reduceSub, Nat.reduceLT, Nat.reduceLeDiff]; rfl)), trivial⟩ (by first | rfl | (simp only [go_sem, Nat.reduceEqDiff, reduceIte, Nat.reduceAdd, Nat.reduceMul, Nat.reduceSub, Nat.reduceLT, Nat.reduceLeDiff]; done) | (simp only [go_sem, Nat.reduceEqDiff, reduceIte, Nat.reduceAdd, Nat.reduceMul, Nat.reduceSub, Nat.reduceLT, Nat.reduceLeDiff]; rfl)) ?_; try dsimp only
   try refine xw_id ?_
   try simp only [go_sem, Nat.reduceEqDiff, reduceIte, Nat.reduceAdd, Nat.reduceMul, Nat.reduceSub, Nat.reduceLT, Nat.reduceLeDiff, List.length_cons, List.length_nil]
   refine hKK _ _ (Wk.refl _ _ _) ?_; clear hKK KK
   refine awp_nr [2,4] (fun _ => rfl) fun tz => ?_
   refine awp_regW fun KK hKK => ?_
   refine xw_id ?_
   try simp only [go_sem, Nat.reduceEqDiff, reduceIte, Nat.reduceAdd, Nat.reduceMul, Nat.reduceSub, Nat.reduceLT, Nat.reduceLeDiff]
   refine hKK _ _ (Wk.refl _ _ _) ?_; clear hKK KK
   refine awp_ret1 ?_
   obtain rfl := someInj h0
   refine endW_i ?_
   refine end_ret0 rs12 (by simp only [go_sem, resV, resAll, resOf, packR, Nat.reduceEqDiff, reduceIte, Nat.reduceAdd, Nat.reduceMul, Nat.reduceSub, Nat.reduceLT, Nat.reduceLeDiff]; rfl) ?_
   refine Res.mk [] [some 21] rfl (resOU List.not_mem_nil (by simp only [upd_get, ↓iop_and, Nat.reduceEqDiff, reduceIte, if_true, if_false] <;> rfl) (TmL.of_eq (by first | rfl | (simp only [List.flatMap_append, List.flatMap_cons, List.flatMap_nil, List.map_append, List.map_cons, List.map_nil, List.append_nil, List.nil_append]; done) | (simp only [List.flatMap_append, List.flatMap_cons, List.flatMap_nil, List.map_append, List.map_cons, List.map_nil, List.append_nil, List.nil_append]; rfl)) (c_A6vu _)) resO0) (Tm.tup (TmL.cons (Tm.agg (e_AuthDoor_tmx (by rfl) (Tm.refL rfl ?_))) (TmL.cons (Tm.v _) TmL.nil)))
   all_goals (first | rfl | (simp only [List.length_take]; omega) | (simp only [List.length_append, List.length_cons, List.length_nil, List.length_modify, List.length_set, Nat.zero_add]; done) | (simp only [List.length_append, List.length_take, List.length_drop, List.length_cons, List.length_nil, List.length_modify, List.length_set, Nat.zero_add]; omega) | (simp only [List.length_append, List.length_take, List.length_drop, List.length_cons, List.length_nil, List.length_modify, List.length_set, Nat.zero_add]; done) | omega)

theorem auth_Leave_m (a0 : AuthDoor) (a1 : A6vu) {r : (AuthDoor × Int)} (h0 : auth_Leave a0 a1 = some r) : SndM K 12 [(.agg (E_AuthDoor a0)), (.agg (e_A6vu a1))] (fun q => (.tup [(.agg (e_AuthDoor r.1 (.ref (q 0) 0 r.1.Open.length 6))), (vi r.2)])) [(List.flatMap e_A6vu r.1.Open)] :=
 fun hs => Snd.of_newM (RenM.tup (RenML.cons (RenM.agg (e_AuthDoor_ren _ (RenM.ref 0 0 _ _))) (RenML.cons (RenM.const (Clean.v _)) RenML.nil))) (rows_all_cons (c_A6vu _) rows_all_nil) (clean_cons (Clean.agg (E_AuthDoor_clean _)) (clean_cons (Clean.agg (e_A6vu_clean _)) clean_nil)) (auth_Leave_r a0 a1 h0) hs

theorem auth_Leave_e (a0 : AuthDoor) (a1 : A6vu) {r : (AuthDoor × Int)} (h0 : auth_Leave a0 a1 = some r) (fr : Nat) (hs : HS) : SndE K 12 [(.agg (E_AuthDoor a0)), (.agg (e_A6vu a1))] hs fr ⟨(fun q : Nat → Nat => (.tup [(.agg (e_AuthDoor r.1 (.ref (q 0) 0 r.1.Open.length 6))), (vi r.2)])) fun _ => fr, .new (List.flatMap e_A6vu r.1.Open)⟩ :=
 SndE.of_res (RenM.tup (RenML.cons (RenM.agg (e_AuthDoor_ren _ (RenM.ref 0 0 _ _))) (RenML.cons (RenM.const (Clean.v _)) RenML.nil))) (c_A6vu _) (clean_cons (Clean.agg (E_AuthDoor_clean _)) (clean_cons (Clean.agg (e_A6vu_clean _)) clean_nil)) (fun a b h => by simp only [h]) (auth_Leave_r a0 a1 h0) hs fr

theorem auth_Leave_p (a0 : AuthDoor) (a1 : A6vu) {r : (AuthDoor × Int)} (h0 : auth_Leave a0 a1 = some r) : SndP K 12 [(.agg (E_AuthDoor a0)), (.agg (e_A6vu a1))] (.tup [(.agg (E_AuthDoor r.1)), (vi r.2)]) :=
 SndM.pure (auth_Leave_m a0 a1 h0) (Clean.tup (clean_cons (Clean.agg (E_AuthDoor_clean _)) (clean_cons (Clean.v _) clean_nil))) (clean_cons (Clean.agg (E_AuthDoor_clean _)) (clean_cons (Clean.agg (e_A6vu_clean _)) clean_nil)) (by simp only [go_sem, newL_n, newL_c, upd_get, fz, nilS, cond_true, cond_false, List.drop_zero, List.take_length, List.length_map, ble_self, Nat.reduceEqDiff, reduceIte, Nat.reduceAdd, Nat.reduceMul, Nat.reduceSub, Nat.reduceLT, Nat.reduceLeDiff] <;> rfl)

end Go.AX.Z.TW

/-! (TWW hotspotref29 Leave) -/

set_option linter.unusedSimpArgs false
set_option linter.unusedVariables false
set_option maxHeartbeats 4000000
set_option maxRecDepth 20000
namespace Go.AX.Z.TW
open Go.AX Go.Proofs
attribute [local irreducible] awp xw xop xcall gsp ob xd xdop xcallD seqQ loopQ blkQ endQ

def hotspotref29_Leave_S0 (a0 : AuthDoor) (a1 : A6vu) (x50 : Int) : AS :=
 { objs := (upd (upd (upd (fun _ => .dead) 0 (.live (e_AuthDoor a0 (.imm (List.flatMap e_A6vu a0.Open) a0.Open.length)))) 1 (.live (e_A6vu a1))) 2 (.live (e_AuthDoor AuthDoor.z vnil))), next := 3, tmps := (upd (upd (upd (upd (fun _ => .unk) 2 (.ptr 0 0)) 3 (.ptr 1 0)) 4 (.ptr 2 0)) 9 (vb (x50 != 0))) }

theorem hotspotref29_Leave_r (a0 : AuthDoor) (a1 : A6vu) {r : (AuthDoor × Int)} (h0 : hotspotref29_Leave a0 a1 = some r) : SndR K 13 [(.agg (E_AuthDoor a0)), (.agg (e_A6vu a1))] (fun q => (.tup [(.agg (e_AuthDoor r.1 (.ref (q 0) 0 r.1.Open.length 6))), (vi r.2)])) [(List.flatMap e_A6vu r.1.Open)] := by
 refine SndR.of_walkW hC (show K.P.funcs[13]? = some Try.f13 from Try.func13) rfl rfl (by decide +kernel) (Nat.le_of_ble_eq_true rfl) ?_
 unfold hotspotref29_Leave at h0
 refine awp_nr [0,1] (fun _ => rfl) fun tz => ?_
 refine awp_regW fun KK hKK => ?_
 refine xw_id ?_
 try simp only [go_sem, Nat.reduceEqDiff, reduceIte, Nat.reduceAdd, Nat.reduceMul, Nat.reduceSub, Nat.reduceLT, Nat.reduceLeDiff]
 refine hKK _ _ (Wk.refl _ _ _) ?_; clear hKK KK
 refine awp_assoc ?_
 refine awp_nr [2,3,4] (fun _ => rfl) fun tz => ?_
 refine awp_regW fun KK hKK => ?_
 refine xw_id ?_
 obtain ⟨x50, bx50, h0⟩ := bnd h0
 try simp only [go_sem, Nat.reduceEqDiff, reduceIte, Nat.reduceAdd, Nat.reduceMul, Nat.reduceSub, Nat.reduceLT, Nat.reduceLeDiff]
 refine xcall_p (hotspotref29_CheckDoor_p a0 bx50) ?_; try dsimp only
 try refine xw_id ?_
 try simp only [go_sem, Nat.reduceEqDiff, reduceIte, Nat.reduceAdd, Nat.reduceMul, Nat.reduceSub, Nat.reduceLT, Nat.reduceLeDiff]
 refine hKK _ (hotspotref29_Leave_S0 a0 a1 x50) (Wk.canonD [] [] [some 0, some 1, some 2] rfl trivial rfl (tmOU 2 (tmOU 1 (tmOU 0 tmO0 rfl List.not_mem_nil (by simp only [upd_get, ↓iop_and, Nat.reduceEqDiff, reduceIte, if_true, if_false] <;> rfl) (e_AuthDoor_tmx (by rfl) (Tm.clean (Clean.imm (c_A6vu _))))) rfl List.not_mem_nil (by simp only [upd_get, ↓iop_and, Nat.reduceEqDiff, reduceIte, if_true, if_false] <;> rfl) (TmL.clean (e_A6vu_clean _))) rfl List.not_mem_nil (by simp only [upd_get, ↓iop_and, Nat.reduceEqDiff, reduceIte, if_true, if_false] <;> rfl) (e_AuthDoor_tmx (by rfl) (Tm.v _))) (tmAllU 9 (tmAllU 4 (tmAllU 3 (tmAllU 2 tmAll0 (Tm.ptr rfl)) (Tm.ptr rfl)) (Tm.ptr rfl)) (Tm.v _))) ?_; clear hKK KK
 unfold hotspotref29_Leave_S0
 refine awp_cond (b := (x50 != 0)) rfl (fun h1 => ?_) (fun h1 => ?_)
 ·
  have h0 := cT h0 h1
  refine awp_assoc ?_
  refine awp_nr [4] (fun _ => rfl) fun tz => ?_
  refine awp_regW fun KK hKK => ?_
  refine xw_id ?_
  try simp only [go_sem, Nat.reduceEqDiff, reduceIte, Nat.reduceAdd, Nat.reduceMul, Nat.reduceSub, Nat.reduceLT, Nat.reduceLeDiff]
  refine hKK _ _ (Wk.refl _ _ _) ?_; clear hKK KK
  refine awp_ret ?_
  obtain rfl := someInj h0
  refine endW_i ?_
  refine end_ret0 rs13 (by simp only [go_sem, resV, resAll, resOf, packR, Nat.reduceEqDiff, reduceIte, Nat.reduceAdd, Nat.reduceMul, Nat.reduceSub, Nat.reduceLT, Nat.reduceLeDiff]; rfl) ?_
  refine Res.mk [] [none] rfl (resON resO0) (Tm.tup (TmL.cons (Tm.agg (e_AuthDoor_tmx (by rfl) (Tm.thaw _ _ _))) (TmL.cons (Tm.v _) TmL.nil)))
 ·
  have h0 := cF h0 h1
  refine awp_skip ?_
  refine awp_nr [2,3,4] (fun _ => rfl) fun tz => ?_
  refine awp_regW fun KK hKK => ?_
  refine xw_id ?_
  obtain ⟨x51, bx51, h0⟩ := bnd h0
  try simp only [go_sem, Nat.reduceEqDiff, reduceIte, Nat.reduceAdd, Nat.reduceMul, Nat.reduceSub, Nat.reduceLT, Nat.reduceLeDiff]
  refine xcall_p (hotspotref29_in_p a0.Open a1 bx51) ?_; try dsimp only
  try refine xw_id ?_
  try simp only [go_sem, Nat.reduceEqDiff, reduceIte, Nat.reduceAdd, Nat.reduceMul, Nat.reduceSub, Nat.reduceLT, Nat.reduceLeDiff]
  refine hKK _ _ (Wk.refl _ _ _) ?_; clear hKK KK
  refine awp_assoc ?_
  refine awp_nr [2,4,6] (fun _ => rfl) fun tz => ?_
  refine awp_regW fun KK hKK => ?_
  refine xw_id ?_
  try simp only [go_sem, Nat.reduceEqDiff, reduceIte, Nat.reduceAdd, Nat.reduceMul, Nat.reduceSub, Nat.reduceLT, Nat.reduceLeDiff]
  refine hKK _ _ (Wk.refl _ _ _) ?_; clear hKK KK
  refine awp_cond (b := (decide (x51 < 0))) rfl (fun h2 => ?_) (fun h2 => ?_)
  ·
   have h0 := cT h0 h2
   refine awp_assoc ?_
   refine awp_nr [4] (fun _ => rfl) fun tz => ?_
   refine awp_regW fun KK hKK => ?_
   refine xw_id ?_
   try simp only [go_sem, Nat.reduceEqDiff, reduceIte, Nat.reduceAdd, Nat.reduceMul, Nat.reduceSub, Nat.reduceLT, Nat.reduceLeDiff]
   refine hKK _ _ (Wk.refl _ _ _) ?_; clear hKK KK
   refine awp_ret ?_
   obtain rfl := someInj h0
   refine endW_i ?_
   refine end_ret0 rs13 (by simp only [go_sem, resV, resAll, resOf, packR, Nat.reduceEqDiff, reduceIte, Nat.reduceAdd, Nat.reduceMul, Nat.reduceSub, Nat.reduceLT, Nat.reduceLeDiff]; rfl) ?_
   refine Res.mk [] [none] rfl (resON resO0) (Tm.tup (TmL.cons (Tm.agg (e_AuthDoor_tmx (by rfl) (Tm.thaw _ _ _))) (TmL.cons (Tm.v _) TmL.nil)))
  ·
   have h0 := cF h0 h2
   refine awp_skip ?_
   refine awp_nr [2,4,6] (fun _ => rfl) fun tz => ?_
   refine awp_regDW fun KK hKK all hall => ?_
   refine xd_id ?_
   try simp only [List.toList_toArray, List.map_cons, List.map_nil, List.size_toArray, List.length_cons, List.length_nil, Nat.zero_add]
   try simp only [Nat.reduceAdd]
   obtain ⟨x52, bx52, h0⟩ := bnd h0
   have bx52 := chk_some bx52
   simp only [Bool.and_eq_true, decide_eq_true_eq] at bx52
   obtain ⟨gx52_0, gx52_1⟩ := bx52
   have g3 : AV.imm (List.flatMap e_A6vu (List.take ((x51).toNat) a0.Open)) (x51).toNat = AV.imm (List.flatMap e_A6vu (List.take ((x51).toNat) a0.Open)) (List.take ((x51).toNat) a0.Open).length := by congr 1; simp only [List.length_take]; omega
   obtain ⟨x53, bx53, h0⟩ := bnd h0
   have bx53 := chk_some bx53
   simp only [Bool.and_eq_true, decide_eq_true_eq] at bx53
   have gx53_0 := bx53
   obtain ⟨x54, bx54, h0⟩ := bnd h0
   have bx54 := chk_some bx54
   simp only [Bool.and_eq_true, decide_eq_true_eq] at bx54
   obtain ⟨gx54_0, gx54_1⟩ := bx54
   have g4 : ((a0.Open.length : Int) - (IntKind.wrap .i64 (x51 + 1))).toNat = (List.drop ((IntKind.wrap .i64 (x51 + 1)).toNat) a0.Open).length := by simp only [List.length_take, List.length_drop]; omega
   try simp only [Int.sub_zero] at g4
   obtain ⟨x55, bx55, h0⟩ := bnd h0
   have bx55 := chk_some bx55
   simp only [Bool.and_eq_true, decide_eq_true_eq] at bx55
   have gx55_0 := bx55
   simp only [go_sem, Nat.reduceEqDiff, reduceIte, Nat.reduceMul, Nat.reduceSub, Nat.reduceLT, Nat.reduceLeDiff, Int.reduceToNat, Int.reduceBEq, Int.reduceBNe, Int.reduceLT, Int.reduceLE, Int.reduceAdd, Int.reduceSub, Int.reduceMul, gx52_0, gx52_1, g3, Int.sub_zero, gx53_0, gx54_0, gx54_1, g4, Int.sub_zero, gx55_0]
   try simp only [Nat.reduceAdd]
   try simp only [go_sem, Nat.reduceEqDiff, reduceIte, Nat.reduceMul, Nat.reduceSub, Nat.reduceLT, Nat.reduceLeDiff, Int.reduceToNat, Int.reduceBEq, Int.reduceBNe, Int.reduceLT, Int.reduceLE, Int.reduceAdd, Int.reduceSub, Int.reduceMul, gx52_0, gx52_1, g3, Int.sub_zero, gx53_0, gx54_0, gx54_1, g4, Int.sub_zero, gx55_0]
   try simp only [Nat.reduceAdd]
   try simp only [go_sem, Nat.reduceEqDiff, reduceIte, Nat.reduceMul, Nat.reduceSub, Nat.reduceLT, Nat.reduceLeDiff, Int.reduceToNat, Int.reduceBEq, Int.reduceBNe, Int.reduceLT, Int.reduceLE, Int.reduceAdd, Int.reduceSub, Int.reduceMul, gx52_0, gx52_1, g3, Int.sub_zero, gx53_0, gx54_0, gx54_1, g4, Int.sub_zero, gx55_0]
   refine And.intro ?_ (hKK _ _ (Wk.refl _ _ _) ?_)
   ·
    subst hall
    clear hKK KK
    first | decide +kernel | (simp [printsOk, apartP, clash, meet]; done) | (simp [printsOk, apartP, clash, meet]; decide +kernel) | (simp [printsOk, apartP, clash, meet]; repeat (first | exact Or.inr (by decide +kernel) | (refine And.intro (Or.inr (by decide +kernel)) ?_)))
   ·
    clear hKK KK hall all
    refine awp_nr [2,4] (fun _ => rfl) fun tz => ?_
    refine awp_regW fun KK hKK => ?_
    refine xw_id ?_
    try simp only [go_sem, Nat.reduceEqDiff, reduceIte, Nat.reduceAdd, Nat.reduceMul, Nat.reduceSub, Nat.reduceLT, Nat.reduceLeDiff]
    refine hKK _ _ (Wk.refl _ _ _) ?_; clear hKK KK
    refine awp_ret1 ?_
    obtain rfl := someInj h0
    refine endW_i ?_
    refine end_ret0 rs13 (by simp only [go_sem, resV, resAll, resOf, packR, Nat.reduceEqDiff, reduceIte, Nat.reduceAdd, Nat.reduceMul, Nat.reduceSub, Nat.reduceLT, Nat.reduceLeDiff]; rfl) ?_
    refine Res.mk [] [some 21] rfl (resOU List.not_mem_nil (by simp only [upd_get, ↓iop_and, Nat.reduceEqDiff, reduceIte, if_true, if_false] <;> rfl) (TmL.of_eq (by first | rfl | (simp only [List.flatMap_append, List.flatMap_cons, List.flatMap_nil, List.map_append, List.map_cons, List.map_nil, List.append_nil, List.nil_append]; done) | (simp only [List.flatMap_append, List.flatMap_cons, List.flatMap_nil, List.map_append, List.map_cons, List.map_nil, List.append_nil, List.nil_append]; rfl)) (c_A6vu _)) resO0) (Tm.tup (TmL.cons (Tm.agg (e_AuthDoor_tmx (by rfl) (Tm.refL rfl ?_))) (TmL.cons (Tm.v _) TmL.nil)))
    all_goals (first | rfl | (simp only [List.length_take]; omega) | (simp only [List.length_append, List.length_cons, List.length_nil, List.length_modify, List.length_set, Nat.zero_add]; done) | (simp only [List.length_append, List.length_take, List.length_drop, List.length_cons, List.length_nil, List.length_modify, List.length_set, Nat.zero_add]; omega) | (simp only [List.length_append, List.length_take, List.length_drop, List.length_cons, List.length_nil, List.length_modify, List.length_set, Nat.zero_add]; done) | omega)

theorem hotspotref29_Leave_m (a0 : AuthDoor) (a1 : A6vu) {r : (AuthDoor × Int)} (h0 : hotspotref29_Leave a0 a1 = some r) : SndM K 13 [(.agg (E_AuthDoor a0)), (.agg (e_A6vu a1))] (fun q => (.tup [(.agg (e_AuthDoor r.1 (.ref (q 0) 0 r.1.Open.length 6))), (vi r.2)])) [(List.flatMap e_A6vu r.1.Open)] :=
 fun hs => Snd.of_newM (RenM.tup (RenML.cons (RenM.agg (e_AuthDoor_ren _ (RenM.ref 0 0 _ _))) (RenML.cons (RenM.const (Clean.v _)) RenML.nil))) (rows_all_cons (c_A6vu _) rows_all_nil) (clean_cons (Clean.agg (E_AuthDoor_clean _)) (clean_cons (Clean.agg (e_A6vu_clean _)) clean_nil)) (hotspotref29_Leave_r a0 a1 h0) hs

theorem hotspotref29_Leave_e (a0 : AuthDoor) (a1 : A6vu) {r : (AuthDoor × Int)} (h0 : hotspotref29_Leave a0 a1 = some r) (fr : Nat) (hs : HS) : SndE K 13 [(.agg (E_AuthDoor a0)), (.agg (e_A6vu a1))] hs fr ⟨(fun q : Nat → Nat => (.tup [(.agg (e_AuthDoor r.1 (.ref (q 0) 0 r.1.Open.length 6))), (vi r.2)])) fun _ => fr, .new (List.flatMap e_A6vu r.1.Open)⟩ :=
 SndE.of_res (RenM.tup (RenML.cons (RenM.agg (e_AuthDoor_ren _ (RenM.ref 0 0 _ _))) (RenML.cons (RenM.const (Clean.v _)) RenML.nil))) (c_A6vu _) (clean_cons (Clean.agg (E_AuthDoor_clean _)) (clean_cons (Clean.agg (e_A6vu_clean _)) clean_nil)) (fun a b h => by simp only [h]) (hotspotref29_Leave_r a0 a1 h0) hs fr

theorem hotspotref29_Leave_p (a0 : AuthDoor) (a1 : A6vu) {r : (AuthDoor × Int)} (h0 : hotspotref29_Leave a0 a1 = some r) : SndP K 13 [(.agg (E_AuthDoor a0)), (.agg (e_A6vu a1))] (.tup [(.agg (E_AuthDoor r.1)), (vi r.2)]) :=
 SndM.pure (hotspotref29_Leave_m a0 a1 h0) (Clean.tup (clean_cons (Clean.agg (E_AuthDoor_clean _)) (clean_cons (Clean.v _) clean_nil))) (clean_cons (Clean.agg (E_AuthDoor_clean _)) (clean_cons (Clean.agg (e_A6vu_clean _)) clean_nil)) (by simp only [go_sem, newL_n, newL_c, upd_get, fz, nilS, cond_true, cond_false, List.drop_zero, List.take_length, List.length_map, ble_self, Nat.reduceEqDiff, reduceIte, Nat.reduceAdd, Nat.reduceMul, Nat.reduceSub, Nat.reduceLT, Nat.reduceLeDiff] <;> rfl)

end Go.AX.Z.TW

/-! (TWW auth Answer) -/

set_option linter.unusedSimpArgs false
set_option linter.unusedVariables false
set_option maxHeartbeats 4000000
set_option maxRecDepth 20000
namespace Go.AX.Z.TW
open Go.AX Go.Proofs
attribute [local irreducible] awp xw xop xcall gsp ob xd xdop xcallD seqQ loopQ blkQ endQ


theorem auth_Answer_r (a0 : (List Int)) {r : ((List Int) × Int)} (h0 : auth_Answer a0 = some r) : SndR K 14 [(S_vu a0)] (fun q => (.tup [(.ref (q 0) 0 r.1.length 1), (vi r.2)])) [(List.map vu r.1)] := by
 refine SndR.of_walkW hC (show K.P.funcs[14]? = some Try.f14 from Try.func14) rfl rfl (by decide +kernel) (Nat.le_of_ble_eq_true rfl) ?_
 unfold auth_Answer at h0
 refine awp_nr [0] (fun _ => rfl) fun tz => ?_
 refine awp_regW fun KK hKK => ?_
 refine xw_id ?_
 try simp only [go_sem, Nat.reduceEqDiff, reduceIte, Nat.reduceAdd, Nat.reduceMul, Nat.reduceSub, Nat.reduceLT, Nat.reduceLeDiff]
 refine hKK _ _ (Wk.refl _ _ _) ?_; clear hKK KK
 refine awp_blockW ?_
 refine awp_nr [0] (fun _ => rfl) fun tz => ?_
 refine awp_regW fun KK hKK => ?_
 refine xw_id ?_
 try simp only [go_sem, Nat.reduceEqDiff, reduceIte, Nat.reduceAdd, Nat.reduceMul, Nat.reduceSub, Nat.reduceLT, Nat.reduceLeDiff, Int.reduceToNat, Int.reduceBEq, Int.reduceBNe, Int.reduceLT, Int.reduceLE, Int.reduceAdd, Int.reduceSub, Int.reduceMul]
 refine hKK _ _ (Wk.refl _ _ _) ?_; clear hKK KK
 refine awp_cond1 (b := ((a0.length : Int) == 0)) rfl (fun h1 => ?_) (fun h1 => ?_)
 ·
  have h0 := cT h0 h1
  refine awp_nr [] (fun _ => rfl) fun tz => ?_
  refine awp_regW fun KK hKK => ?_
  refine xw_id ?_
  try simp only [go_sem, Nat.reduceEqDiff, reduceIte, Nat.reduceAdd, Nat.reduceMul, Nat.reduceSub, Nat.reduceLT, Nat.reduceLeDiff]
  refine hKK _ _ (Wk.refl _ _ _) ?_; clear hKK KK
  refine awp_ret1 ?_
  refine bq_r ?_
  refine sq_r ?_
  obtain rfl := someInj h0
  refine endW_i ?_
  refine end_ret0 rs14 (rfl) ?_
  refine Res.mk [] [none] rfl (resON resO0) (Tm.tup (TmL.cons (Tm.thaw _ _ _) (TmL.cons (Tm.v _) TmL.nil)))
 ·
  have h0 := cF h0 h1
  refine awp_nr [0] (fun _ => rfl) fun tz => ?_
  refine awp_regW fun KK hKK => ?_
  refine xw_id ?_
  refine xw_stop 4 (by (try simp only [go_sem]); rfl) (by (try simp only [go_sem]); rfl) (by rfl) fun K1 hK1 => ?_
  refine xw_id ?_
  try simp only [go_sem, Nat.reduceEqDiff, reduceIte, Nat.reduceAdd, Nat.reduceMul, Nat.reduceSub, Nat.reduceLT, Nat.reduceLeDiff, Int.reduceToNat, Int.reduceBEq, Int.reduceBNe, Int.reduceLT, Int.reduceLE, Int.reduceAdd, Int.reduceSub, Int.reduceMul]
  refine hK1 _ ?_; clear hK1 K1
  obtain ⟨x62, hvh2, h0⟩ := bnd h0
  refine xw_cut 5 [(17, (vb x62))] (by (try simp only [go_sem]); rfl) (by (try simp only [go_sem]); rfl) (by rfl) (fun K1 hK1 => ?_) fun tz => ?_
  ·
   refine xw_id ?_
   rcases Bool.eq_false_or_eq_true (decide (1 < (a0.length : Int))) with h2 | h2
   ·
    have hvh2 := cT hvh2 h2
    try simp only [go_sem, Nat.reduceEqDiff, reduceIte, Nat.reduceAdd, Nat.reduceMul, Nat.reduceSub, Nat.reduceLT, Nat.reduceLeDiff, Int.reduceToNat, Int.reduceBEq, Int.reduceBNe, Int.reduceLT, Int.reduceLE, Int.reduceAdd, Int.reduceSub, Int.reduceMul, h2]
    obtain rfl := someInj hvh2
    exact hK1 _ ⟨rfl, (by first | rfl | (rw [h2]; rfl) | (simp only [h2, Bool.true_and, Bool.false_and, Bool.true_or, Bool.false_or, cond_true, cond_false]; done)), trivial⟩
   ·
    have hvh2 := cF hvh2 h2
    obtain ⟨x61, bx61, hvh2⟩ := bnd hvh2
    obtain ⟨fx61_0, fx61_1, fx61_2, fx61_3⟩ := idx_some bx61
    simp only [Int.reduceToNat] at fx61_2 fx61_3
    try simp only [go_sem, Nat.reduceEqDiff, reduceIte, Nat.reduceAdd, Nat.reduceMul, Nat.reduceSub, Nat.reduceLT, Nat.reduceLeDiff, Int.reduceToNat, Int.reduceBEq, Int.reduceBNe, Int.reduceLT, Int.reduceLE, Int.reduceAdd, Int.reduceSub, Int.reduceMul, h2, fx61_0, fx61_1, fx61_2]
    obtain rfl := someInj hvh2
    exact hK1 _ ⟨rfl, (by first | rfl | (rw [h2]; rfl) | (simp only [h2, Bool.true_and, Bool.false_and, Bool.true_or, Bool.false_or, cond_true, cond_false]; done)), trivial⟩
  ·
   refine xw_id ?_
   try simp only [go_sem, Nat.reduceEqDiff, reduceIte, Nat.reduceAdd, Nat.reduceMul, Nat.reduceSub, Nat.reduceLT, Nat.reduceLeDiff, Int.reduceToNat, Int.reduceBEq, Int.reduceBNe, Int.reduceLT, Int.reduceLE, Int.reduceAdd, Int.reduceSub, Int.reduceMul]
   refine hKK _ _ (Wk.refl _ _ _) ?_; clear hKK KK
   refine awp_cond1 (b := x62) rfl (fun h3 => ?_) (fun h3 => ?_)
   ·
    have h0 := cT h0 h3
    refine awp_nr [] (fun _ => rfl) fun tz => ?_
    refine awp_regW fun KK hKK => ?_
    refine xw_id ?_
    try simp only [go_sem, Nat.reduceEqDiff, reduceIte, Nat.reduceAdd, Nat.reduceMul, Nat.reduceSub, Nat.reduceLT, Nat.reduceLeDiff]
    refine hKK _ _ (Wk.refl _ _ _) ?_; clear hKK KK
    refine awp_ret1 ?_
    refine bq_r ?_
    refine sq_r ?_
    obtain rfl := someInj h0
    refine endW_i ?_
    refine end_ret0 rs14 (rfl) ?_
    refine Res.mk [] [none] rfl (resON resO0) (Tm.tup (TmL.cons (Tm.thaw _ _ _) (TmL.cons (Tm.v _) TmL.nil)))
   ·
    have h0 := cF h0 h3
    refine awp_skip1 ?_
    refine bq_n ?_
    refine seqW_i ?_
    refine awp_nr [] (fun _ => rfl) fun tz => ?_
    refine awp_regW fun KK hKK => ?_
    refine xw_id ?_
    try simp only [go_sem, Nat.reduceEqDiff, reduceIte, Nat.reduceAdd, Nat.reduceMul, Nat.reduceSub, Nat.reduceLT, Nat.reduceLeDiff]
    refine hKK _ _ (Wk.refl _ _ _) ?_; clear hKK KK
    refine awp_ret1 ?_
    obtain rfl := someInj h0
    refine endW_i ?_
    refine end_ret0 rs14 (rfl) ?_
    refine Res.mk [] [some 16] rfl (resOU List.not_mem_nil (by simp only [upd_get, ↓iop_and, Nat.reduceEqDiff, reduceIte, if_true, if_false] <;> rfl) (TmL.of_eq (by first | rfl | (simp only [List.flatMap_append, List.flatMap_cons, List.flatMap_nil, List.map_append, List.map_cons, List.map_nil, List.append_nil, List.nil_append]; done) | (simp only [List.flatMap_append, List.flatMap_cons, List.flatMap_nil, List.map_append, List.map_cons, List.map_nil, List.append_nil, List.nil_append]; rfl)) (vu_clean _)) resO0) (Tm.tup (TmL.cons (Tm.refL rfl ?_) (TmL.cons (Tm.v _) TmL.nil)))
    all_goals (first | rfl | (simp only [List.length_take]; omega) | (simp only [List.length_append, List.length_cons, List.length_nil, List.length_modify, List.length_set, Nat.zero_add]; done) | (simp only [List.length_append, List.length_take, List.length_drop, List.length_cons, List.length_nil, List.length_modify, List.length_set, Nat.zero_add]; omega) | (simp only [List.length_append, List.length_take, List.length_drop, List.length_cons, List.length_nil, List.length_modify, List.length_set, Nat.zero_add]; done) | omega)

theorem auth_Answer_m (a0 : (List Int)) {r : ((List Int) × Int)} (h0 : auth_Answer a0 = some r) : SndM K 14 [(S_vu a0)] (fun q => (.tup [(.ref (q 0) 0 r.1.length 1), (vi r.2)])) [(List.map vu r.1)] :=
 fun hs => Snd.of_newM (RenM.tup (RenML.cons (RenM.ref 0 0 _ _) (RenML.cons (RenM.const (Clean.v _)) RenML.nil))) (rows_all_cons (vu_clean _) rows_all_nil) (clean_cons (S_vu_clean _) clean_nil) (auth_Answer_r a0 h0) hs

theorem auth_Answer_e (a0 : (List Int)) {r : ((List Int) × Int)} (h0 : auth_Answer a0 = some r) (fr : Nat) (hs : HS) : SndE K 14 [(S_vu a0)] hs fr ⟨(fun q : Nat → Nat => (.tup [(.ref (q 0) 0 r.1.length 1), (vi r.2)])) fun _ => fr, .new (List.map vu r.1)⟩ :=
 SndE.of_res (RenM.tup (RenML.cons (RenM.ref 0 0 _ _) (RenML.cons (RenM.const (Clean.v _)) RenML.nil))) (vu_clean _) (clean_cons (S_vu_clean _) clean_nil) (fun a b h => by simp only [h]) (auth_Answer_r a0 h0) hs fr

theorem auth_Answer_p (a0 : (List Int)) {r : ((List Int) × Int)} (h0 : auth_Answer a0 = some r) : SndP K 14 [(S_vu a0)] (.tup [(S_vu r.1), (vi r.2)]) :=
 SndM.pure (auth_Answer_m a0 h0) (Clean.tup (clean_cons (S_vu_clean _) (clean_cons (Clean.v _) clean_nil))) (clean_cons (S_vu_clean _) clean_nil) (by simp only [go_sem, newL_n, newL_c, upd_get, fz, nilS, cond_true, cond_false, List.drop_zero, List.take_length, List.length_map, ble_self, Nat.reduceEqDiff, reduceIte, Nat.reduceAdd, Nat.reduceMul, Nat.reduceSub, Nat.reduceLT, Nat.reduceLeDiff] <;> rfl)

end Go.AX.Z.TW

/-! (TWW hotspotref29 Answer) -/

set_option linter.unusedSimpArgs false
set_option linter.unusedVariables false
set_option maxHeartbeats 4000000
set_option maxRecDepth 20000
namespace Go.AX.Z.TW
open Go.AX Go.Proofs
attribute [local irreducible] awp xw xop xcall gsp ob xd xdop xcallD seqQ loopQ blkQ endQ


theorem hotspotref29_Answer_r (a0 : (List Int)) {r : ((List Int) × Int)} (h0 : hotspotref29_Answer a0 = some r) : SndR K 15 [(S_vu a0)] (fun q => (.tup [(.ref (q 0) 0 r.1.length 1), (vi r.2)])) [(List.map vu r.1)] := by
 refine SndR.of_walkW hC (show K.P.funcs[15]? = some Try.f15 from Try.func15) rfl rfl (by decide +kernel) (Nat.le_of_ble_eq_true rfl) ?_
 unfold hotspotref29_Answer at h0
 refine awp_nr [0] (fun _ => rfl) fun tz => ?_
 refine awp_regW fun KK hKK => ?_
 refine xw_id ?_
 try simp only [go_sem, Nat.reduceEqDiff, reduceIte, Nat.reduceAdd, Nat.reduceMul, Nat.reduceSub, Nat.reduceLT, Nat.reduceLeDiff]
 refine hKK _ _ (Wk.refl _ _ _) ?_; clear hKK KK
 refine awp_assoc ?_
 refine awp_nr [0] (fun _ => rfl) fun tz => ?_
 refine awp_regW fun KK hKK => ?_
 refine xw_id ?_
 try simp only [go_sem, Nat.reduceEqDiff, reduceIte, Nat.reduceAdd, Nat.reduceMul, Nat.reduceSub, Nat.reduceLT, Nat.reduceLeDiff, Int.reduceToNat, Int.reduceBEq, Int.reduceBNe, Int.reduceLT, Int.reduceLE, Int.reduceAdd, Int.reduceSub, Int.reduceMul]
 refine hKK _ _ (Wk.refl _ _ _) ?_; clear hKK KK
 refine awp_cond (b := ((a0.length : Int) == 0)) rfl (fun h1 => ?_) (fun h1 => ?_)
 ·
  have h0 := cT h0 h1
  refine awp_assoc ?_
  refine awp_nr [] (fun _ => rfl) fun tz => ?_
  refine awp_regW fun KK hKK => ?_
  refine xw_id ?_
  try simp only [go_sem, Nat.reduceEqDiff, reduceIte, Nat.reduceAdd, Nat.reduceMul, Nat.reduceSub, Nat.reduceLT, Nat.reduceLeDiff]
  refine hKK _ _ (Wk.refl _ _ _) ?_; clear hKK KK
  refine awp_ret ?_
  obtain rfl := someInj h0
  refine endW_i ?_
  refine end_ret0 rs15 (rfl) ?_
  refine Res.mk [] [none] rfl (resON resO0) (Tm.tup (TmL.cons (Tm.thaw _ _ _) (TmL.cons (Tm.v _) TmL.nil)))
 ·
  have h0 := cF h0 h1
  refine awp_skip ?_
  refine awp_assoc ?_
  refine awp_nr [0] (fun _ => rfl) fun tz => ?_
  refine awp_regW fun KK hKK => ?_
  refine xw_id ?_
  refine xw_stop 4 (by (try simp only [go_sem]); rfl) (by (try simp only [go_sem]); rfl) (by rfl) fun K1 hK1 => ?_
  refine xw_id ?_
  try simp only [go_sem, Nat.reduceEqDiff, reduceIte, Nat.reduceAdd, Nat.reduceMul, Nat.reduceSub, Nat.reduceLT, Nat.reduceLeDiff, Int.reduceToNat, Int.reduceBEq, Int.reduceBNe, Int.reduceLT, Int.reduceLE, Int.reduceAdd, Int.reduceSub, Int.reduceMul]
  refine hK1 _ ?_; clear hK1 K1
  obtain ⟨x65, hvh2, h0⟩ := bnd h0
  refine xw_cut 5 [(15, (vb x65))] (by (try simp only [go_sem]); rfl) (by (try simp only [go_sem]); rfl) (by rfl) (fun K1 hK1 => ?_) fun tz => ?_
  ·
   refine xw_id ?_
   rcases Bool.eq_false_or_eq_true ((a0.length : Int) != 1) with h2 | h2
   ·
    have hvh2 := cT hvh2 h2
    try simp only [go_sem, Nat.reduceEqDiff, reduceIte, Nat.reduceAdd, Nat.reduceMul, Nat.reduceSub, Nat.reduceLT, Nat.reduceLeDiff, Int.reduceToNat, Int.reduceBEq, Int.reduceBNe, Int.reduceLT, Int.reduceLE, Int.reduceAdd, Int.reduceSub, Int.reduceMul, h2]
    obtain rfl := someInj hvh2
    exact hK1 _ ⟨rfl, (by first | rfl | (rw [h2]; rfl) | (simp only [h2, Bool.true_and, Bool.false_and, Bool.true_or, Bool.false_or, cond_true, cond_false]; done)), trivial⟩
   ·
    have hvh2 := cF hvh2 h2
    obtain ⟨x64, bx64, hvh2⟩ := bnd hvh2
    obtain ⟨fx64_0, fx64_1, fx64_2, fx64_3⟩ := idx_some bx64
    simp only [Int.reduceToNat] at fx64_2 fx64_3
    try simp only [go_sem, Nat.reduceEqDiff, reduceIte, Nat.reduceAdd, Nat.reduceMul, Nat.reduceSub, Nat.reduceLT, Nat.reduceLeDiff, Int.reduceToNat, Int.reduceBEq, Int.reduceBNe, Int.reduceLT, Int.reduceLE, Int.reduceAdd, Int.reduceSub, Int.reduceMul, h2, fx64_0, fx64_1, fx64_2]
    obtain rfl := someInj hvh2
    exact hK1 _ ⟨rfl, (by first | rfl | (rw [h2]; rfl) | (simp only [h2, Bool.true_and, Bool.false_and, Bool.true_or, Bool.false_or, cond_true, cond_false]; done)), trivial⟩
  ·
   refine xw_id ?_
   try simp only [go_sem, Nat.reduceEqDiff, reduceIte, Nat.reduceAdd, Nat.reduceMul, Nat.reduceSub, Nat.reduceLT, Nat.reduceLeDiff, Int.reduceToNat, Int.reduceBEq, Int.reduceBNe, Int.reduceLT, Int.reduceLE, Int.reduceAdd, Int.reduceSub, Int.reduceMul]
   refine hKK _ _ (Wk.refl _ _ _) ?_; clear hKK KK
   refine awp_cond (b := x65) rfl (fun h3 => ?_) (fun h3 => ?_)
   ·
    have h0 := cT h0 h3
    refine awp_assoc ?_
    refine awp_nr [] (fun _ => rfl) fun tz => ?_
    refine awp_regW fun KK hKK => ?_
    refine xw_id ?_
    try simp only [go_sem, Nat.reduceEqDiff, reduceIte, Nat.reduceAdd, Nat.reduceMul, Nat.reduceSub, Nat.reduceLT, Nat.reduceLeDiff]
    refine hKK _ _ (Wk.refl _ _ _) ?_; clear hKK KK
    refine awp_ret ?_
    obtain rfl := someInj h0
    refine endW_i ?_
    refine end_ret0 rs15 (rfl) ?_
    refine Res.mk [] [none] rfl (resON resO0) (Tm.tup (TmL.cons (Tm.thaw _ _ _) (TmL.cons (Tm.v _) TmL.nil)))
   ·
    have h0 := cF h0 h3
    refine awp_skip ?_
    refine awp_nr [] (fun _ => rfl) fun tz => ?_
    refine awp_regW fun KK hKK => ?_
    refine xw_id ?_
    try simp only [go_sem, Nat.reduceEqDiff, reduceIte, Nat.reduceAdd, Nat.reduceMul, Nat.reduceSub, Nat.reduceLT, Nat.reduceLeDiff]
    refine hKK _ _ (Wk.refl _ _ _) ?_; clear hKK KK
    refine awp_ret1 ?_
    obtain rfl := someInj h0
    refine endW_i ?_
    refine end_ret0 rs15 (rfl) ?_
    refine Res.mk [] [some 14] rfl (resOU List.not_mem_nil (by simp only [upd_get, ↓iop_and, Nat.reduceEqDiff, reduceIte, if_true, if_false] <;> rfl) (TmL.of_eq (by first | rfl | (simp only [List.flatMap_append, List.flatMap_cons, List.flatMap_nil, List.map_append, List.map_cons, List.map_nil, List.append_nil, List.nil_append]; done) | (simp only [List.flatMap_append, List.flatMap_cons, List.flatMap_nil, List.map_append, List.map_cons, List.map_nil, List.append_nil, List.nil_append]; rfl)) (vu_clean _)) resO0) (Tm.tup (TmL.cons (Tm.refL rfl ?_) (TmL.cons (Tm.v _) TmL.nil)))
    all_goals (first | rfl | (simp only [List.length_take]; omega) | (simp only [List.length_append, List.length_cons, List.length_nil, List.length_modify, List.length_set, Nat.zero_add]; done) | (simp only [List.length_append, List.length_take, List.length_drop, List.length_cons, List.length_nil, List.length_modify, List.length_set, Nat.zero_add]; omega) | (simp only [List.length_append, List.length_take, List.length_drop, List.length_cons, List.length_nil, List.length_modify, List.length_set, Nat.zero_add]; done) | omega)

theorem hotspotref29_Answer_m (a0 : (List Int)) {r : ((List Int) × Int)} (h0 : hotspotref29_Answer a0 = some r) : SndM K 15 [(S_vu a0)] (fun q => (.tup [(.ref (q 0) 0 r.1.length 1), (vi r.2)])) [(List.map vu r.1)] :=
 fun hs => Snd.of_newM (RenM.tup (RenML.cons (RenM.ref 0 0 _ _) (RenML.cons (RenM.const (Clean.v _)) RenML.nil))) (rows_all_cons (vu_clean _) rows_all_nil) (clean_cons (S_vu_clean _) clean_nil) (hotspotref29_Answer_r a0 h0) hs

theorem hotspotref29_Answer_e (a0 : (List Int)) {r : ((List Int) × Int)} (h0 : hotspotref29_Answer a0 = some r) (fr : Nat) (hs : HS) : SndE K 15 [(S_vu a0)] hs fr ⟨(fun q : Nat → Nat => (.tup [(.ref (q 0) 0 r.1.length 1), (vi r.2)])) fun _ => fr, .new (List.map vu r.1)⟩ :=
 SndE.of_res (RenM.tup (RenML.cons (RenM.ref 0 0 _ _) (RenML.cons (RenM.const (Clean.v _)) RenML.nil))) (vu_clean _) (clean_cons (S_vu_clean _) clean_nil) (fun a b h => by simp only [h]) (hotspotref29_Answer_r a0 h0) hs fr

theorem hotspotref29_Answer_p (a0 : (List Int)) {r : ((List Int) × Int)} (h0 : hotspotref29_Answer a0 = some r) : SndP K 15 [(S_vu a0)] (.tup [(S_vu r.1), (vi r.2)]) :=
 SndM.pure (hotspotref29_Answer_m a0 h0) (Clean.tup (clean_cons (S_vu_clean _) (clean_cons (Clean.v _) clean_nil))) (clean_cons (S_vu_clean _) clean_nil) (by simp only [go_sem, newL_n, newL_c, upd_get, fz, nilS, cond_true, cond_false, List.drop_zero, List.take_length, List.length_map, ble_self, Nat.reduceEqDiff, reduceIte, Nat.reduceAdd, Nat.reduceMul, Nat.reduceSub, Nat.reduceLT, Nat.reduceLeDiff] <;> rfl)

end Go.AX.Z.TW

/-! (TWW hotspotlaw29 AuthDoors) -/

set_option linter.unusedSimpArgs false
set_option linter.unusedVariables false
set_option maxHeartbeats 4000000
set_option maxRecDepth 20000
namespace Go.AX.Z.TW
open Go.AX Go.Proofs
attribute [local irreducible] awp xw xop xcall gsp ob xd xdop xcallD seqQ loopQ blkQ endQ

def hotspotlaw29_AuthDoors_S0 (a0 : AuthDoor) (a1 : A6vu) (a2 : (List Int)) : AS :=
 { objs := (upd (upd (upd (upd (fun _ => .dead) 0 (.live (e_AuthDoor a0 (.imm (List.flatMap e_A6vu a0.Open) a0.Open.length)))) 1 (.live (e_A6vu a1))) 2 (.live (e_AuthDoor { AuthDoor.z with Secret := a0.Secret } (.ref 3 0 a0.Open.length 6)))) 3 (.live (List.flatMap e_A6vu a0.Open))), next := 4, tmps := (upd (upd (upd (upd (fun _ => .unk) 2 (.imm (List.map vu a2) a2.length)) 3 (.ptr 0 0)) 4 (.ptr 1 0)) 7 (.ptr 2 0)) }

def hotspotlaw29_AuthDoors_S1 (a0 : AuthDoor) (a1 : A6vu) (x2 : (AuthDoor × (List Int) × Int)) (x3 : (AuthDoor × (List Int) × Int)) (a2 : (List Int)) : AS :=
 { objs := (upd (upd (upd (upd (upd (upd (upd (upd (fun _ => .dead) 0 (.live (e_AuthDoor a0 (.imm (List.flatMap e_A6vu a0.Open) a0.Open.length)))) 1 (.live (e_A6vu a1))) 2 (.live (e_AuthDoor { AuthDoor.z with Secret := a0.Secret } (.ref 3 0 a0.Open.length 6)))) 3 (.live (List.flatMap e_A6vu a0.Open))) 4 (.live (e_AuthDoor x2.1 (.ref 5 0 x2.1.Open.length 6)))) 5 (.live (List.flatMap e_A6vu x2.1.Open))) 6 (.live (List.map vu x2.2.1))) 7 (.live (e_AuthDoor x3.1 (.imm (List.flatMap e_A6vu x3.1.Open) x3.1.Open.length)))), next := 8, tmps := (upd (upd (upd (upd (upd (upd (upd (upd (upd (upd (fun _ => .unk) 2 (.imm (List.map vu a2) a2.length)) 3 (.ptr 0 0)) 4 (.ptr 1 0)) 7 (.ptr 2 0)) 8 (.ptr 4 0)) 9 (.ref 6 0 x2.2.1.length 1)) 10 (vi x2.2.2)) 11 (.ptr 7 0)) 12 (.imm (List.map vu x3.2.1) x3.2.1.length)) 13 (vi x3.2.2)) }

def hotspotlaw29_AuthDoors_S2 (a0 : AuthDoor) (a1 : A6vu) (x2 : (AuthDoor × (List Int) × Int)) (x3 : (AuthDoor × (List Int) × Int)) (a2 : (List Int)) (d7 : (List A6vu)) : AS :=
 { objs := (upd (upd (upd (upd (upd (upd (upd (fun _ => .dead) 0 (.live (e_AuthDoor a0 (.imm (List.flatMap e_A6vu a0.Open) a0.Open.length)))) 1 (.live (e_A6vu a1))) 2 (.live (e_AuthDoor { AuthDoor.z with Secret := a0.Secret } (.ref 3 0 a0.Open.length 6)))) 3 (.live (List.flatMap e_A6vu a0.Open))) 4 (.live (e_AuthDoor x2.1 (.ref 5 0 ((d7).length) 6)))) 5 (.live (List.flatMap e_A6vu d7))) 6 (.live (e_AuthDoor x3.1 (.imm (List.flatMap e_A6vu x3.1.Open) x3.1.Open.length)))), next := 7, tmps := (upd (upd (upd (upd (upd (upd (fun _ => .unk) 2 (.imm (List.map vu a2) a2.length)) 3 (.ptr 0 0)) 4 (.ptr 1 0)) 7 (.ptr 2 0)) 8 (.ptr 4 0)) 11 (.ptr 6 0)) }

def hotspotlaw29_AuthDoors_S3 (a0 : AuthDoor) (a1 : A6vu) (x2 : (AuthDoor × (List Int) × Int)) (x3 : (AuthDoor × (List Int) × Int)) (a2 : (List Int)) (d8 : (List A6vu × Int)) : AS :=
 { objs := (upd (upd (upd (upd (upd (upd (upd (fun _ => .dead) 0 (.live (e_AuthDoor a0 (.imm (List.flatMap e_A6vu a0.Open) a0.Open.length)))) 1 (.live (e_A6vu a1))) 2 (.live (e_AuthDoor { AuthDoor.z with Secret := a0.Secret } (.ref 3 0 a0.Open.length 6)))) 3 (.live (List.flatMap e_A6vu a0.Open))) 4 (.live (e_AuthDoor x2.1 (.ref 5 0 ((d8.1).length) 6)))) 5 (.live (List.flatMap e_A6vu d8.1))) 6 (.live (e_AuthDoor x3.1 (.imm (List.flatMap e_A6vu x3.1.Open) x3.1.Open.length)))), next := 7, tmps := (upd (upd (upd (upd (upd (upd (upd (fun _ => .unk) 2 (.imm (List.map vu a2) a2.length)) 3 (.ptr 0 0)) 4 (.ptr 1 0)) 7 (.ptr 2 0)) 8 (.ptr 4 0)) 11 (.ptr 6 0)) 14 (vi d8.2)) }

def hotspotlaw29_AuthDoors_S5 (a0 : AuthDoor) (a1 : A6vu) (x10 : (AuthDoor × Int)) (x11 : (AuthDoor × Int)) (a2 : (List Int)) : AS :=
 { objs := (upd (upd (upd (upd (upd (upd (upd (upd (fun _ => .dead) 0 (.live (e_AuthDoor a0 (.imm (List.flatMap e_A6vu a0.Open) a0.Open.length)))) 1 (.live (e_A6vu a1))) 2 (.live (e_AuthDoor { AuthDoor.z with Secret := a0.Secret } (.ref 3 0 a0.Open.length 6)))) 3 (.live (List.flatMap e_A6vu a0.Open))) 4 (.live (e_AuthDoor x10.1 (.ref 5 0 x10.1.Open.length 6)))) 5 (.live (List.flatMap e_A6vu x10.1.Open))) 6 (.live (e_AuthDoor x11.1 (.ref 7 0 x11.1.Open.length 6)))) 7 (.live (List.flatMap e_A6vu x11.1.Open))), next := 8, tmps := (upd (upd (upd (upd (upd (upd (upd (upd (fun _ => .unk) 2 (.imm (List.map vu a2) a2.length)) 3 (.ptr 0 0)) 4 (.ptr 1 0)) 7 (.ptr 2 0)) 8 (.ptr 4 0)) 10 (vi x10.2)) 11 (.ptr 6 0)) 13 (vi x11.2)) }

def hotspotlaw29_AuthDoors_S6 (a0 : AuthDoor) (a1 : A6vu) (a2 : (List Int)) (d13 : Unit) : AS :=
 { objs := (upd (upd (upd (upd (fun _ => .dead) 0 (.live (e_AuthDoor a0 (.imm (List.flatMap e_A6vu a0.Open) a0.Open.length)))) 1 (.live (e_A6vu a1))) 2 (.live (e_AuthDoor { AuthDoor.z with Secret := a0.Secret } (.ref 3 0 a0.Open.length 6)))) 3 (.live (List.flatMap e_A6vu a0.Open))), next := 4, tmps := (upd (upd (upd (upd (fun _ => .unk) 2 (.imm (List.map vu a2) a2.length)) 3 (.ptr 0 0)) 4 (.ptr 1 0)) 7 (.ptr 2 0)) }

def hotspotlaw29_AuthDoors_S7 (a0 : AuthDoor) (a1 : A6vu) (x10 : (AuthDoor × Int)) (a2 : (List Int)) (d14 : (List A6vu × Int)) : AS :=
 { objs := (upd (upd (upd (upd (upd (upd (fun _ => .dead) 0 (.live (e_AuthDoor a0 (.imm (List.flatMap e_A6vu a0.Open) a0.Open.length)))) 1 (.live (e_A6vu a1))) 2 (.live (e_AuthDoor { AuthDoor.z with Secret := a0.Secret } (.ref 3 0 a0.Open.length 6)))) 3 (.live (List.flatMap e_A6vu a0.Open))) 4 (.live (e_AuthDoor x10.1 (.ref 5 0 ((d14.1).length) 6)))) 5 (.live (List.flatMap e_A6vu d14.1))), next := 6, tmps := (upd (upd (upd (upd (upd (upd (fun _ => .unk) 2 (.imm (List.map vu a2) a2.length)) 3 (.ptr 0 0)) 4 (.ptr 1 0)) 7 (.ptr 2 0)) 8 (.ptr 4 0)) 15 (vi d14.2)) }

theorem hotspotlaw29_AuthDoors_p (a0 : AuthDoor) (a1 : A6vu) (a2 : (List Int)) {r : Bool} (h0 : hotspotlaw29_AuthDoors a0 a1 a2 = some r) : SndP K 3 [(.agg (E_AuthDoor a0)), (.agg (e_A6vu a1)), (S_vu a2)] (vb r) := by
 refine SndP.of_walkW hC (Clean.v _) (clean_cons (Clean.agg (E_AuthDoor_clean _)) (clean_cons (Clean.agg (e_A6vu_clean _)) (clean_cons (S_vu_clean _) clean_nil))) (show K.P.funcs[3]? = some Try.f3 from Try.func3) rfl rfl (by decide +kernel) (Nat.le_of_ble_eq_true rfl) ?_
 unfold hotspotlaw29_AuthDoors at h0
 refine awp_nr [0,1,2] (fun _ => rfl) fun tz => ?_
 refine awp_regW fun KK hKK => ?_
 refine xw_id ?_
 try simp only [go_sem, Nat.reduceEqDiff, reduceIte, Nat.reduceAdd, Nat.reduceMul, Nat.reduceSub, Nat.reduceLT, Nat.reduceLeDiff]
 refine hKK _ _ (Wk.refl _ _ _) ?_; clear hKK KK
 refine awp_assoc ?_
 refine awp_nr [2,3,4] (fun _ => rfl) fun tz => ?_
 refine awp_regW fun KK hKK => ?_
 refine xw_id ?_
 refine xw_stop 5 (by (try simp only [go_sem]); rfl) (by (try simp only [go_sem]); rfl) (by rfl) fun K1 hK1 => ?_
 refine xw_id ?_
 try simp only [go_sem, Nat.reduceEqDiff, reduceIte, Nat.reduceAdd, Nat.reduceMul, Nat.reduceSub, Nat.reduceLT, Nat.reduceLeDiff, Int.reduceToNat, Int.reduceBEq, Int.reduceBNe, Int.reduceLT, Int.reduceLE, Int.reduceAdd, Int.reduceSub, Int.reduceMul]
 refine hK1 _ ?_; clear hK1 K1
 refine xw_cut 4 [(2, (.imm (List.map vu a2) a2.length)), (3, (.ptr 0 0)), (4, (.ptr 1 0)), (28, (vb ((decide (30 < (a0.Open.length : Int))) || (decide (60 < (a2.length : Int))))))] (by (try simp only [go_sem]); rfl) (by (try simp only [go_sem]); rfl) (by rfl) (fun K1 hK1 => ?_) fun tz => ?_
 ·
  refine xw_id ?_
  rcases Bool.eq_false_or_eq_true (decide (30 < (a0.Open.length : Int))) with h1 | h1
  ·
   try simp only [go_sem, Nat.reduceEqDiff, reduceIte, Nat.reduceAdd, Nat.reduceMul, Nat.reduceSub, Nat.reduceLT, Nat.reduceLeDiff, Int.reduceToNat, Int.reduceBEq, Int.reduceBNe, Int.reduceLT, Int.reduceLE, Int.reduceAdd, Int.reduceSub, Int.reduceMul, h1]
   exact hK1 _ ⟨rfl, rfl, rfl, rfl, (by first | rfl | (rw [h1]; rfl) | (simp only [h1, Bool.true_and, Bool.false_and, Bool.true_or, Bool.false_or, cond_true, cond_false]; done)), trivial⟩
  ·
   try simp only [go_sem, Nat.reduceEqDiff, reduceIte, Nat.reduceAdd, Nat.reduceMul, Nat.reduceSub, Nat.reduceLT, Nat.reduceLeDiff, Int.reduceToNat, Int.reduceBEq, Int.reduceBNe, Int.reduceLT, Int.reduceLE, Int.reduceAdd, Int.reduceSub, Int.reduceMul, h1]
   exact hK1 _ ⟨rfl, rfl, rfl, rfl, (by first | rfl | (rw [h1]; rfl) | (simp only [h1, Bool.true_and, Bool.false_and, Bool.true_or, Bool.false_or, cond_true, cond_false]; done)), trivial⟩
 ·
  refine xw_id ?_
  try simp only [go_sem, Nat.reduceEqDiff, reduceIte, Nat.reduceAdd, Nat.reduceMul, Nat.reduceSub, Nat.reduceLT, Nat.reduceLeDiff, Int.reduceToNat, Int.reduceBEq, Int.reduceBNe, Int.reduceLT, Int.reduceLE, Int.reduceAdd, Int.reduceSub, Int.reduceMul]
  refine hKK _ _ (Wk.refl _ _ _) ?_; clear hKK KK
  refine awp_cond (b := ((decide (30 < (a0.Open.length : Int))) || (decide (60 < (a2.length : Int))))) rfl (fun h2 => ?_) (fun h2 => ?_)
  ·
   have h0 := cT h0 h2
   refine awp_assoc ?_
   refine awp_nr [] (fun _ => rfl) fun tz => ?_
   refine awp_regW fun KK hKK => ?_
   refine xw_id ?_
   try simp only [go_sem, Nat.reduceEqDiff, reduceIte, Nat.reduceAdd, Nat.reduceMul, Nat.reduceSub, Nat.reduceLT, Nat.reduceLeDiff]
   refine hKK _ _ (Wk.refl _ _ _) ?_; clear hKK KK
   refine awp_ret ?_
   obtain rfl := someInj h0
   refine endW_i ?_
   refine end_ret0 rs3 (rfl) ?_
   try simp only [go_sem, Nat.reduceEqDiff, reduceIte, Nat.reduceAdd, Nat.reduceMul, Nat.reduceSub, Nat.reduceLT, Nat.reduceLeDiff, fz, nilS, packR, List.take_nil, List.take_length, List.length_map, List.length_append, cond_true, cond_false, Nat.ble_eq, ble_self]
   all_goals first | rfl | (simp only [go_sem, Nat.reduceEqDiff, reduceIte, Nat.reduceAdd, Nat.reduceMul, Nat.reduceSub, Nat.reduceLT, Nat.reduceLeDiff, fz, nilS, packR, List.take_nil, List.take_length, List.length_map, List.length_append, cond_true, cond_false, Nat.ble_eq, ble_self, List.map_append] <;> rfl)
  ·
   have h0 := cF h0 h2
   refine awp_skip ?_
   refine awp_nr [2,3,4] (fun _ => rfl) fun tz => ?_
   refine awp_regDW fun KK hKK all hall => ?_
   refine xd_id ?_
   try simp only [List.toList_toArray, List.map_cons, List.map_nil, List.size_toArray, List.length_cons, List.length_nil, Nat.zero_add]
   try simp only [Nat.reduceAdd]
   obtain ⟨x1, bx1, h0⟩ := bnd h0
   have bx1 := chk_some bx1
   simp only [Bool.and_eq_true, decide_eq_true_eq] at bx1
   have gx1_0 := bx1
   simp only [go_sem, Nat.reduceEqDiff, reduceIte, Nat.reduceMul, Nat.reduceSub, Nat.reduceLT, Nat.reduceLeDiff, Int.reduceToNat, Int.reduceBEq, Int.reduceBNe, Int.reduceLT, Int.reduceLE, Int.reduceAdd, Int.reduceSub, Int.reduceMul, gx1_0]
   try simp only [Nat.reduceAdd]
   try simp only [go_sem, Nat.reduceEqDiff, reduceIte, Nat.reduceMul, Nat.reduceSub, Nat.reduceLT, Nat.reduceLeDiff, Int.reduceToNat, Int.reduceBEq, Int.reduceBNe, Int.reduceLT, Int.reduceLE, Int.reduceAdd, Int.reduceSub, Int.reduceMul, gx1_0]
   try simp only [Nat.reduceAdd]
   try simp only [go_sem, Nat.reduceEqDiff, reduceIte, Nat.reduceMul, Nat.reduceSub, Nat.reduceLT, Nat.reduceLeDiff, Int.reduceToNat, Int.reduceBEq, Int.reduceBNe, Int.reduceLT, Int.reduceLE, Int.reduceAdd, Int.reduceSub, Int.reduceMul, gx1_0]
   refine And.intro ?_ (hKK _ (hotspotlaw29_AuthDoors_S0 a0 a1 a2) (by refine Wk.canonD [] [] [some 0, some 1, some 19, some 17] rfl trivial rfl (tmOU 3 (tmOU 2 (tmOU 1 (tmOU 0 tmO0 rfl List.not_mem_nil (by simp only [upd_get, ↓iop_and, Nat.reduceEqDiff, reduceIte, if_true, if_false] <;> rfl) (e_AuthDoor_tmx (by rfl) (Tm.clean (Clean.imm (c_A6vu _))))) rfl List.not_mem_nil (by simp only [upd_get, ↓iop_and, Nat.reduceEqDiff, reduceIte, if_true, if_false] <;> rfl) (TmL.clean (e_A6vu_clean _))) rfl List.not_mem_nil (by simp only [upd_get, ↓iop_and, Nat.reduceEqDiff, reduceIte, if_true, if_false] <;> rfl) (e_AuthDoor_tmx (by rfl) (Tm.refL rfl ?_))) rfl List.not_mem_nil (by simp only [upd_get, ↓iop_and, Nat.reduceEqDiff, reduceIte, if_true, if_false] <;> rfl) (TmL.of_eq (by first | rfl | (simp only [List.flatMap_append, List.flatMap_cons, List.flatMap_nil, List.map_append, List.map_cons, List.map_nil, List.append_nil, List.nil_append]; done) | (simp only [List.flatMap_append, List.flatMap_cons, List.flatMap_nil, List.map_append, List.map_cons, List.map_nil, List.append_nil, List.nil_append]; rfl)) (c_A6vu _))) (tmAllU 7 (tmAllU 4 (tmAllU 3 (tmAllU 2 tmAll0 (Tm.clean (Clean.imm (vu_clean _)))) (Tm.ptr rfl)) (Tm.ptr rfl)) (Tm.ptr rfl)); all_goals (first | rfl | (simp only [List.length_take]; omega) | (simp only [List.length_append, List.length_cons, List.length_nil, List.length_modify, List.length_set, Nat.zero_add]; done) | (simp only [List.length_append, List.length_take, List.length_drop, List.length_cons, List.length_nil, List.length_modify, List.length_set, Nat.zero_add]; omega) | (simp only [List.length_append, List.length_take, List.length_drop, List.length_cons, List.length_nil, List.length_modify, List.length_set, Nat.zero_add]; done) | omega)) ?_)
   ·
    subst hall
    clear hKK KK
    first | decide +kernel | (simp [printsOk, apartP, clash, meet]; done) | (simp [printsOk, apartP, clash, meet]; decide +kernel) | (simp [printsOk, apartP, clash, meet]; repeat (first | exact Or.inr (by decide +kernel) | (refine And.intro (Or.inr (by decide +kernel)) ?_)))
   ·
    clear hKK KK hall all
    unfold hotspotlaw29_AuthDoors_S0
    refine awp_nr [2,3,4,7] (fun _ => rfl) fun tz => ?_
    refine awp_regW fun KK hKK => ?_
    refine xw_id ?_
    obtain ⟨x2, bx2, h0⟩ := bnd h0
    try simp only [go_sem, Nat.reduceEqDiff, reduceIte, Nat.reduceAdd, Nat.reduceMul, Nat.reduceSub, Nat.reduceLT, Nat.reduceLeDiff]
    refine xcall_ML (by first | (simp only [go_sem, fz, nilS, cond_true, cond_false, Nat.reduceEqDiff, reduceIte, Nat.reduceAdd, Nat.reduceMul, Nat.reduceSub, Nat.reduceLT, Nat.reduceLeDiff]; done) | (simp only [go_sem, fz, nilS, cond_true, cond_false, Nat.reduceEqDiff, reduceIte, Nat.reduceAdd, Nat.reduceMul, Nat.reduceSub, Nat.reduceLT, Nat.reduceLeDiff]; rfl) | (simp only [go_sem, fz, List.length_set, ble_self, take_set, cond_true, cond_false, Nat.reduceEqDiff, reduceIte, Nat.reduceAdd, Nat.reduceMul, Nat.reduceSub, Nat.reduceLT, Nat.reduceLeDiff]; done) | (simp only [go_sem, fz, List.length_set, ble_self, take_set, cond_true, cond_false, Nat.reduceEqDiff, reduceIte, Nat.reduceAdd, Nat.reduceMul, Nat.reduceSub, Nat.reduceLT, Nat.reduceLeDiff]; rfl)) (auth_Admit_m { AuthDoor.z with Open := a0.Open, Secret := a0.Secret } a1 a2 bx2) (fun _ => by repeat' (first | exact NoV.v _ | exact NoV.ref _ _ _ _ | exact NoV.onil | refine NoV.ocons ?_ ?_ | exact NoV.nil | refine NoV.tup ?_ | refine NoV.agg ?_ | refine NoV.rows (fun _ => ?_) _ | refine NoV.maps (fun _ => ?_) _ | refine NoV.cons ?_ ?_)) (by repeat' (first | exact NoV.v _ | exact NoV.ref _ _ _ _ | exact NoV.onil | refine NoV.ocons ?_ ?_ | exact NoV.nil | refine NoV.tup ?_ | refine NoV.agg ?_ | refine NoV.rows (fun _ => ?_) _ | refine NoV.maps (fun _ => ?_) _ | refine NoV.cons ?_ ?_)) ?_; try dsimp only
    try refine xw_id ?_
    try simp only [go_sem, Nat.reduceEqDiff, reduceIte, Nat.reduceAdd, Nat.reduceMul, Nat.reduceSub, Nat.reduceLT, Nat.reduceLeDiff]
    refine hKK _ _ (Wk.refl _ _ _) ?_; clear hKK KK
    refine awp_nr [2,3,4,7,8,9,10] (fun _ => rfl) fun tz => ?_
    refine awp_regW fun KK hKK => ?_
    refine xw_id ?_
    obtain ⟨x3, bx3, h0⟩ := bnd h0
    try simp only [go_sem, Nat.reduceEqDiff, reduceIte, Nat.reduceAdd, Nat.reduceMul, Nat.reduceSub, Nat.reduceLT, Nat.reduceLeDiff]
    refine xcall_p (hotspotref29_Admit_p a0 a1 a2 bx3) ?_; try dsimp only
    try refine xw_id ?_
    try simp only [go_sem, Nat.reduceEqDiff, reduceIte, Nat.reduceAdd, Nat.reduceMul, Nat.reduceSub, Nat.reduceLT, Nat.reduceLeDiff]
    refine hKK _ (hotspotlaw29_AuthDoors_S1 a0 a1 x2 x3 a2) (by refine Wk.canonD [] [] [some 0, some 1, some 2, some 3, some 12, some 16, some 17, some 26] rfl trivial rfl (tmOU 7 (tmOU 6 (tmOU 5 (tmOU 4 (tmOU 3 (tmOU 2 (tmOU 1 (tmOU 0 tmO0 rfl List.not_mem_nil (by simp only [upd_get, ↓iop_and, Nat.reduceEqDiff, reduceIte, if_true, if_false] <;> rfl) (e_AuthDoor_tmx (by rfl) (Tm.clean (Clean.imm (c_A6vu _))))) rfl List.not_mem_nil (by simp only [upd_get, ↓iop_and, Nat.reduceEqDiff, reduceIte, if_true, if_false] <;> rfl) (TmL.clean (e_A6vu_clean _))) rfl List.not_mem_nil (by simp only [upd_get, ↓iop_and, Nat.reduceEqDiff, reduceIte, if_true, if_false] <;> rfl) (e_AuthDoor_tmx (by rfl) (Tm.refL rfl ?_))) rfl List.not_mem_nil (by simp only [upd_get, ↓iop_and, Nat.reduceEqDiff, reduceIte, if_true, if_false] <;> rfl) (TmL.of_eq (by first | rfl | (simp only [List.flatMap_append, List.flatMap_cons, List.flatMap_nil, List.map_append, List.map_cons, List.map_nil, List.append_nil, List.nil_append]; done) | (simp only [List.flatMap_append, List.flatMap_cons, List.flatMap_nil, List.map_append, List.map_cons, List.map_nil, List.append_nil, List.nil_append]; rfl)) (c_A6vu _))) rfl List.not_mem_nil (by simp only [upd_get, ↓iop_and, Nat.reduceEqDiff, reduceIte, if_true, if_false] <;> rfl) (e_AuthDoor_tmx (by rfl) (Tm.refL rfl ?_))) rfl List.not_mem_nil (by simp only [upd_get, ↓iop_and, Nat.reduceEqDiff, reduceIte, if_true, if_false] <;> rfl) (TmL.of_eq (by first | rfl | (simp only [List.flatMap_append, List.flatMap_cons, List.flatMap_nil, List.map_append, List.map_cons, List.map_nil, List.append_nil, List.nil_append]; done) | (simp only [List.flatMap_append, List.flatMap_cons, List.flatMap_nil, List.map_append, List.map_cons, List.map_nil, List.append_nil, List.nil_append]; rfl)) (c_A6vu _))) rfl List.not_mem_nil (by simp only [upd_get, ↓iop_and, Nat.reduceEqDiff, reduceIte, if_true, if_false] <;> rfl) (TmL.of_eq (by first | rfl | (simp only [List.flatMap_append, List.flatMap_cons, List.flatMap_nil, List.map_append, List.map_cons, List.map_nil, List.append_nil, List.nil_append]; done) | (simp only [List.flatMap_append, List.flatMap_cons, List.flatMap_nil, List.map_append, List.map_cons, List.map_nil, List.append_nil, List.nil_append]; rfl)) (vu_clean _))) rfl List.not_mem_nil (by simp only [upd_get, ↓iop_and, Nat.reduceEqDiff, reduceIte, if_true, if_false] <;> rfl) (e_AuthDoor_tmx (by rfl) (Tm.clean (Clean.imm (c_A6vu _))))) (tmAllU 13 (tmAllU 12 (tmAllU 11 (tmAllU 10 (tmAllU 9 (tmAllU 8 (tmAllU 7 (tmAllU 4 (tmAllU 3 (tmAllU 2 tmAll0 (Tm.clean (Clean.imm (vu_clean _)))) (Tm.ptr rfl)) (Tm.ptr rfl)) (Tm.ptr rfl)) (Tm.ptr rfl)) (Tm.refL rfl ?_)) (Tm.v _)) (Tm.ptr rfl)) (Tm.clean (Clean.imm (vu_clean _)))) (Tm.v _)); all_goals (first | rfl | (simp only [List.length_take]; omega) | (simp only [List.length_append, List.length_cons, List.length_nil, List.length_modify, List.length_set, Nat.zero_add]; done) | (simp only [List.length_append, List.length_take, List.length_drop, List.length_cons, List.length_nil, List.length_modify, List.length_set, Nat.zero_add]; omega) | (simp only [List.length_append, List.length_take, List.length_drop, List.length_cons, List.length_nil, List.length_modify, List.length_set, Nat.zero_add]; done) | omega)) ?_; clear hKK KK
    unfold hotspotlaw29_AuthDoors_S1
    refine awp_assoc ?_
    refine awp_nr [2,3,4,7,8,9,10,11,12,13] (fun _ => rfl) fun tz => ?_
    refine awp_regW fun KK hKK => ?_
    refine xw_id ?_
    obtain ⟨x4, bx4, h0⟩ := bnd h0
    try simp only [go_sem, Nat.reduceEqDiff, reduceIte, Nat.reduceAdd, Nat.reduceMul, Nat.reduceSub, Nat.reduceLT, Nat.reduceLeDiff]
    refine xcall_L (by first | (simp only [go_sem, fz, Nat.reduceEqDiff, reduceIte, Nat.reduceAdd, Nat.reduceMul, Nat.reduceSub, Nat.reduceLT, Nat.reduceLeDiff]; done) | (simp only [go_sem, fz, Nat.reduceEqDiff, reduceIte, Nat.reduceAdd, Nat.reduceMul, Nat.reduceSub, Nat.reduceLT, Nat.reduceLeDiff]; rfl) | (simp only [go_sem, fz, List.length_set, ble_self, take_set, cond_true, cond_false, Nat.reduceEqDiff, reduceIte, Nat.reduceAdd, Nat.reduceMul, Nat.reduceSub, Nat.reduceLT, Nat.reduceLeDiff]; done) | (simp only [go_sem, fz, List.length_set, ble_self, take_set, cond_true, cond_false, Nat.reduceEqDiff, reduceIte, Nat.reduceAdd, Nat.reduceMul, Nat.reduceSub, Nat.reduceLT, Nat.reduceLeDiff]; rfl)) (hotspotref29_SameDoor_p x2.1 x3.1 bx4) (Bare.v _) ?_; try dsimp only
    try refine xw_id ?_
    refine xw_stop 2 (by (try simp only [go_sem]); rfl) (by (try simp only [go_sem]); rfl) (by rfl) fun K1 hK1 => ?_
    refine xw_id ?_
    try simp only [go_sem, Nat.reduceEqDiff, reduceIte, Nat.reduceAdd, Nat.reduceMul, Nat.reduceSub, Nat.reduceLT, Nat.reduceLeDiff]
    refine hK1 _ ?_; clear hK1 K1
    obtain ⟨x6, hvh3, h0⟩ := bnd h0
    refine xw_cut 5 [(2, (.imm (List.map vu a2) a2.length)), (3, (.ptr 0 0)), (4, (.ptr 1 0)), (7, (.ptr 2 0)), (8, (.ptr 4 0)), (10, (vi x2.2.2)), (11, (.ptr 7 0)), (13, (vi x3.2.2)), (61, (vb x6))] (by (try simp only [go_sem]); rfl) (by (try simp only [go_sem]); rfl) (by rfl) (fun K1 hK1 => ?_) fun tz => ?_
    ·
     refine xw_id ?_
     rcases Bool.eq_false_or_eq_true (!x4) with h3 | h3
     ·
      have hvh3 := cT hvh3 h3
      try simp only [go_sem, Nat.reduceEqDiff, reduceIte, Nat.reduceAdd, Nat.reduceMul, Nat.reduceSub, Nat.reduceLT, Nat.reduceLeDiff, h3]
      obtain rfl := someInj hvh3
      exact hK1 _ ⟨rfl, rfl, rfl, rfl, rfl, rfl, rfl, rfl, rfl, (by first | rfl | (rw [h3]; rfl) | (simp only [h3, Bool.true_and, Bool.false_and, Bool.true_or, Bool.false_or, cond_true, cond_false]; done)), trivial⟩
     ·
      have hvh3 := cF hvh3 h3
      obtain ⟨x5, bx5, hvh3⟩ := bnd hvh3
      try simp only [go_sem, Nat.reduceEqDiff, reduceIte, Nat.reduceAdd, Nat.reduceMul, Nat.reduceSub, Nat.reduceLT, Nat.reduceLeDiff, h3]
      refine xcall_L (by first | (simp only [go_sem, fz, Nat.reduceEqDiff, reduceIte, Nat.reduceAdd, Nat.reduceMul, Nat.reduceSub, Nat.reduceLT, Nat.reduceLeDiff, h3]; done) | (simp only [go_sem, fz, Nat.reduceEqDiff, reduceIte, Nat.reduceAdd, Nat.reduceMul, Nat.reduceSub, Nat.reduceLT, Nat.reduceLeDiff, h3]; rfl) | (simp only [go_sem, fz, List.length_set, ble_self, take_set, cond_true, cond_false, Nat.reduceEqDiff, reduceIte, Nat.reduceAdd, Nat.reduceMul, Nat.reduceSub, Nat.reduceLT, Nat.reduceLeDiff, h3]; done) | (simp only [go_sem, fz, List.length_set, ble_self, take_set, cond_true, cond_false, Nat.reduceEqDiff, reduceIte, Nat.reduceAdd, Nat.reduceMul, Nat.reduceSub, Nat.reduceLT, Nat.reduceLeDiff, h3]; rfl)) (hotspotref22_Same_p x2.2.1 x3.2.1 bx5) (Bare.v _) ?_; try dsimp only
      try refine xw_id ?_
      try simp only [go_sem, Nat.reduceEqDiff, reduceIte, Nat.reduceAdd, Nat.reduceMul, Nat.reduceSub, Nat.reduceLT, Nat.reduceLeDiff, h3]
      obtain rfl := someInj hvh3
      exact hK1 _ ⟨rfl, rfl, rfl, rfl, rfl, rfl, rfl, rfl, rfl, (by first | rfl | (rw [h3]; rfl) | (simp only [h3, Bool.true_and, Bool.false_and, Bool.true_or, Bool.false_or, cond_true, cond_false]; done)), trivial⟩
    ·
     refine xw_id ?_
     refine xw_stop 1 (by (try simp only [go_sem]); rfl) (by (try simp only [go_sem]); rfl) (by rfl) fun K1 hK1 => ?_
     refine xw_id ?_
     try simp only [go_sem, Nat.reduceEqDiff, reduceIte, Nat.reduceAdd, Nat.reduceMul, Nat.reduceSub, Nat.reduceLT, Nat.reduceLeDiff]
     refine hK1 _ ?_; clear hK1 K1
     refine xw_cut 4 [(2, (.imm (List.map vu a2) a2.length)), (3, (.ptr 0 0)), (4, (.ptr 1 0)), (7, (.ptr 2 0)), (8, (.ptr 4 0)), (11, (.ptr 7 0)), (66, (vb (x6 || (x2.2.2 != x3.2.2))))] (by (try simp only [go_sem]); rfl) (by (try simp only [go_sem]); rfl) (by rfl) (fun K1 hK1 => ?_) fun tz => ?_
     ·
      refine xw_id ?_
      rcases Bool.eq_false_or_eq_true x6 with h4 | h4
      ·
       try simp only [go_sem, Nat.reduceEqDiff, reduceIte, Nat.reduceAdd, Nat.reduceMul, Nat.reduceSub, Nat.reduceLT, Nat.reduceLeDiff, h4]
       exact hK1 _ ⟨rfl, rfl, rfl, rfl, rfl, rfl, rfl, (by first | rfl | (rw [h4]; rfl) | (simp only [h4, Bool.true_and, Bool.false_and, Bool.true_or, Bool.false_or, cond_true, cond_false]; done)), trivial⟩
      ·
       try simp only [go_sem, Nat.reduceEqDiff, reduceIte, Nat.reduceAdd, Nat.reduceMul, Nat.reduceSub, Nat.reduceLT, Nat.reduceLeDiff, h4]
       exact hK1 _ ⟨rfl, rfl, rfl, rfl, rfl, rfl, rfl, (by first | rfl | (rw [h4]; rfl) | (simp only [h4, Bool.true_and, Bool.false_and, Bool.true_or, Bool.false_or, cond_true, cond_false]; done)), trivial⟩
     ·
      refine xw_id ?_
      try simp only [go_sem, Nat.reduceEqDiff, reduceIte, Nat.reduceAdd, Nat.reduceMul, Nat.reduceSub, Nat.reduceLT, Nat.reduceLeDiff]
      refine hKK _ _ (Wk.refl _ _ _) ?_; clear hKK KK
      refine awp_cond (b := (x6 || (x2.2.2 != x3.2.2))) rfl (fun h5 => ?_) (fun h5 => ?_)
      ·
       have h0 := cT h0 h5
       refine awp_assoc ?_
       refine awp_nr [] (fun _ => rfl) fun tz => ?_
       refine awp_regW fun KK hKK => ?_
       refine xw_id ?_
       try simp only [go_sem, Nat.reduceEqDiff, reduceIte, Nat.reduceAdd, Nat.reduceMul, Nat.reduceSub, Nat.reduceLT, Nat.reduceLeDiff]
       refine hKK _ _ (Wk.refl _ _ _) ?_; clear hKK KK
       refine awp_ret ?_
       obtain rfl := someInj h0
       refine endW_i ?_
       refine end_ret0 rs3 (rfl) ?_
       try simp only [go_sem, Nat.reduceEqDiff, reduceIte, Nat.reduceAdd, Nat.reduceMul, Nat.reduceSub, Nat.reduceLT, Nat.reduceLeDiff, fz, nilS, packR, List.take_nil, List.take_length, List.length_map, List.length_append, cond_true, cond_false, Nat.ble_eq, ble_self]
       all_goals first | rfl | (simp only [go_sem, Nat.reduceEqDiff, reduceIte, Nat.reduceAdd, Nat.reduceMul, Nat.reduceSub, Nat.reduceLT, Nat.reduceLeDiff, fz, nilS, packR, List.take_nil, List.take_length, List.length_map, List.length_append, cond_true, cond_false, Nat.ble_eq, ble_self, List.map_append] <;> rfl)
      ·
       have h0 := cF h0 h5
       refine awp_skip ?_
       refine awp_assoc ?_
       refine awp_nr [2,3,4,7,8,11] (fun _ => rfl) fun tz => ?_
       refine awp_regW fun KK hKK => ?_
       refine xw_id ?_
       try simp only [go_sem, Nat.reduceEqDiff, reduceIte, Nat.reduceAdd, Nat.reduceMul, Nat.reduceSub, Nat.reduceLT, Nat.reduceLeDiff]
       refine hKK _ _ (Wk.refl _ _ _) ?_; clear hKK KK
       obtain ⟨d7, hi6, h0⟩ := bnd h0
       refine awp_cut (fun z => d7 = z) (fun d7 : (List A6vu) => hotspotlaw29_AuthDoors_S2 a0 a1 x2 x3 a2 d7) ?_ ?_
       ·
        refine awp_block1 ?_
        refine awp_loopS (fun n (d8 : (List A6vu × Int)) => hotspotlaw29_AuthDoors_L4 a0 n d8 = some d7) (fun d8 : (List A6vu × Int) => hotspotlaw29_AuthDoors_S3 a0 a1 x2 x3 a2 d8) big (x2.1.Open, 0) (by refine Wk.canonD [] [] [some 0, some 1, some 2, some 3, some 4, some 5, some 7] rfl trivial rfl (tmOU 6 (tmOU 5 (tmOU 4 (tmOU 3 (tmOU 2 (tmOU 1 (tmOU 0 tmO0 rfl List.not_mem_nil (by simp only [upd_get, ↓iop_and, Nat.reduceEqDiff, reduceIte, if_true, if_false] <;> rfl) (e_AuthDoor_tmx (by rfl) (Tm.clean (Clean.imm (c_A6vu _))))) rfl List.not_mem_nil (by simp only [upd_get, ↓iop_and, Nat.reduceEqDiff, reduceIte, if_true, if_false] <;> rfl) (TmL.clean (e_A6vu_clean _))) rfl List.not_mem_nil (by simp only [upd_get, ↓iop_and, Nat.reduceEqDiff, reduceIte, if_true, if_false] <;> rfl) (e_AuthDoor_tmx (by rfl) (Tm.refL rfl ?_))) rfl List.not_mem_nil (by simp only [upd_get, ↓iop_and, Nat.reduceEqDiff, reduceIte, if_true, if_false] <;> rfl) (TmL.of_eq (by first | rfl | (simp only [List.flatMap_append, List.flatMap_cons, List.flatMap_nil, List.map_append, List.map_cons, List.map_nil, List.append_nil, List.nil_append]; done) | (simp only [List.flatMap_append, List.flatMap_cons, List.flatMap_nil, List.map_append, List.map_cons, List.map_nil, List.append_nil, List.nil_append]; rfl)) (c_A6vu _))) rfl List.not_mem_nil (by simp only [upd_get, ↓iop_and, Nat.reduceEqDiff, reduceIte, if_true, if_false] <;> rfl) (e_AuthDoor_tmx (by rfl) (Tm.refL rfl ?_))) rfl List.not_mem_nil (by simp only [upd_get, ↓iop_and, Nat.reduceEqDiff, reduceIte, if_true, if_false] <;> rfl) (TmL.of_eq (by first | rfl | (simp only [List.flatMap_append, List.flatMap_cons, List.flatMap_nil, List.map_append, List.map_cons, List.map_nil, List.append_nil, List.nil_append]; done) | (simp only [List.flatMap_append, List.flatMap_cons, List.flatMap_nil, List.map_append, List.map_cons, List.map_nil, List.append_nil, List.nil_append]; rfl)) (c_A6vu _))) rfl List.not_mem_nil (by simp only [upd_get, ↓iop_and, Nat.reduceEqDiff, reduceIte, if_true, if_false] <;> rfl) (e_AuthDoor_tmx (by rfl) (Tm.clean (Clean.imm (c_A6vu _))))) (tmAllU 14 (tmAllU 11 (tmAllU 8 (tmAllU 7 (tmAllU 4 (tmAllU 3 (tmAllU 2 tmAll0 (Tm.clean (Clean.imm (vu_clean _)))) (Tm.ptr rfl)) (Tm.ptr rfl)) (Tm.ptr rfl)) (Tm.ptr rfl)) (Tm.ptr rfl)) (Tm.v _)); all_goals (first | rfl | (simp only [List.length_take]; omega) | (simp only [List.length_append, List.length_cons, List.length_nil, List.length_modify, List.length_set, Nat.zero_add]; done) | (simp only [List.length_append, List.length_take, List.length_drop, List.length_cons, List.length_nil, List.length_modify, List.length_set, Nat.zero_add]; omega) | (simp only [List.length_append, List.length_take, List.length_drop, List.length_cons, List.length_nil, List.length_modify, List.length_set, Nat.zero_add]; done) | omega)) hi6 ?_
        clear hi6
        rintro n d8 hl8
        rcases n with _ | n7
        ·
         (rw [hotspotlaw29_AuthDoors_L4] at hl8; cases hl8)
        ·
         rw [hotspotlaw29_AuthDoors_L4] at hl8
         unfold hotspotlaw29_AuthDoors_S3
         refine awp_assoc ?_
         refine awp_nr [2,3,4,7,8,11,14] (fun _ => rfl) fun tz => ?_
         refine awp_regW fun KK hKK => ?_
         refine xw_id ?_
         try simp only [go_sem, Nat.reduceEqDiff, reduceIte, Nat.reduceAdd, Nat.reduceMul, Nat.reduceSub, Nat.reduceLT, Nat.reduceLeDiff, Int.reduceToNat, Int.reduceBEq, Int.reduceBNe, Int.reduceLT, Int.reduceLE, Int.reduceAdd, Int.reduceSub, Int.reduceMul]
         refine hKK _ _ (Wk.refl _ _ _) ?_; clear hKK KK
         refine awp_cond (b := (decide (d8.2 < (((d8.1).length : Nat) : Int)))) rfl (fun h9 => ?_) (fun h9 => ?_)
         ·
          have hl8 := cT hl8 h9
          refine awp_skip ?_
          refine awp_blockW ?_
          refine awp_nr1 [2,3,4,7,8,11,14] (fun _ => rfl) fun tz => ?_
          refine awp_regD1 fun KK hKK all hall => ?_
          refine xd_id ?_
          try simp only [List.toList_toArray, List.map_cons, List.map_nil, List.size_toArray, List.length_cons, List.length_nil, Nat.zero_add]
          try simp only [Nat.reduceAdd]
          obtain ⟨x9, bx9, hl8⟩ := bnd hl8
          obtain ⟨fx9_0, fx9_1, fx9_2, fx9_3⟩ := idx_some bx9
          have fx9_5 : ((d8.2 : Int) < (((d8.1).length : Nat) : Int)) = True := by first | exact fx9_1 | (simp [List.length_modify, List.length_set]; omega)
          have gs10 : ((d8.2).toNat * 6 + 1 ≤ d8.1.length * 6) = True := eq_true (by (try simp only [List.length_modify, List.length_set]); omega)
          have gm11 : (d8.1.modify ((d8.2).toNat) fun y => { y with a0 := IntKind.wrap .u8 (x9.a0 + 1) })[(d8.2).toNat]? = some ({ x9 with a0 := IntKind.wrap .u8 (x9.a0 + 1) }) := getMod _ fx9_2
          simp only [go_sem, Nat.reduceEqDiff, reduceIte, Nat.reduceMul, Nat.reduceSub, Nat.reduceLT, Nat.reduceLeDiff, Int.reduceToNat, Int.reduceBEq, Int.reduceBNe, Int.reduceLT, Int.reduceLE, Int.reduceAdd, Int.reduceSub, Int.reduceMul, fx9_0, fx9_1, fx9_2, fx9_5, gs10, gm11]
          try simp only [Nat.reduceAdd]
          try simp only [go_sem, Nat.reduceEqDiff, reduceIte, Nat.reduceMul, Nat.reduceSub, Nat.reduceLT, Nat.reduceLeDiff, Int.reduceToNat, Int.reduceBEq, Int.reduceBNe, Int.reduceLT, Int.reduceLE, Int.reduceAdd, Int.reduceSub, Int.reduceMul, fx9_0, fx9_1, fx9_2, fx9_5, gs10, gm11]
          try simp only [Nat.reduceAdd]
          try simp only [go_sem, Nat.reduceEqDiff, reduceIte, Nat.reduceMul, Nat.reduceSub, Nat.reduceLT, Nat.reduceLeDiff, Int.reduceToNat, Int.reduceBEq, Int.reduceBNe, Int.reduceLT, Int.reduceLE, Int.reduceAdd, Int.reduceSub, Int.reduceMul, fx9_0, fx9_1, fx9_2, fx9_5, gs10, gm11]
          refine And.intro ?_ (hKK _ ?_)
          ·
           subst hall
           clear hKK KK
           first | decide +kernel | (simp [printsOk, apartP, clash, meet]; done) | (simp [printsOk, apartP, clash, meet]; decide +kernel) | (simp [printsOk, apartP, clash, meet]; repeat (first | exact Or.inr (by decide +kernel) | (refine And.intro (Or.inr (by decide +kernel)) ?_)))
          ·
           clear hKK KK hall all
           refine bq_n ?_
           refine seqW_i ?_
           refine awp_nr1 [2,3,4,7,8,11,14] (fun _ => rfl) fun tz => ?_
           refine awp_reg1 fun KK hKK => ?_
           refine xw_id ?_
           try simp only [go_sem, Nat.reduceEqDiff, reduceIte, Nat.reduceAdd, Nat.reduceMul, Nat.reduceSub, Nat.reduceLT, Nat.reduceLeDiff, fx9_0, fx9_1, fx9_2, fx9_5, gm11]
           refine hKK _ ?_; clear hKK KK
           refine lq_n ?_
           exact ⟨n7, ((d8.1.modify ((d8.2).toNat) fun y => { y with a0 := IntKind.wrap .u8 (x9.a0 + 1) }), IntKind.wrap .i64 (d8.2 + 1)), rfl, hl8, (by refine Wk.canonD [] [] [some 0, some 1, some 2, some 3, some 4, some 5, some 6] rfl trivial rfl (tmOU 6 (tmOU 5 (tmOU 4 (tmOU 3 (tmOU 2 (tmOU 1 (tmOU 0 tmO0 rfl List.not_mem_nil (by simp only [upd_get, ↓iop_and, Nat.reduceEqDiff, reduceIte, if_true, if_false] <;> rfl) (e_AuthDoor_tmx (by rfl) (Tm.clean (Clean.imm (c_A6vu _))))) rfl List.not_mem_nil (by simp only [upd_get, ↓iop_and, Nat.reduceEqDiff, reduceIte, if_true, if_false] <;> rfl) (TmL.clean (e_A6vu_clean _))) rfl List.not_mem_nil (by simp only [upd_get, ↓iop_and, Nat.reduceEqDiff, reduceIte, if_true, if_false] <;> rfl) (e_AuthDoor_tmx (by rfl) (Tm.refL rfl ?_))) rfl List.not_mem_nil (by simp only [upd_get, ↓iop_and, Nat.reduceEqDiff, reduceIte, if_true, if_false] <;> rfl) (TmL.of_eq (by first | rfl | (simp only [List.flatMap_append, List.flatMap_cons, List.flatMap_nil, List.map_append, List.map_cons, List.map_nil, List.append_nil, List.nil_append]; done) | (simp only [List.flatMap_append, List.flatMap_cons, List.flatMap_nil, List.map_append, List.map_cons, List.map_nil, List.append_nil, List.nil_append]; rfl)) (c_A6vu _))) rfl List.not_mem_nil (by simp only [upd_get, ↓iop_and, Nat.reduceEqDiff, reduceIte, if_true, if_false] <;> rfl) (e_AuthDoor_tmx (by rfl) (Tm.refL rfl ?_))) rfl List.not_mem_nil (by simp only [upd_get, ↓iop_and, Nat.reduceEqDiff, reduceIte, if_true, if_false] <;> rfl) (TmL.of_eq (by first | rfl | (simp only [List.flatMap_append, List.flatMap_cons, List.flatMap_nil, List.map_append, List.map_cons, List.map_nil, List.append_nil, List.nil_append]; done) | (simp only [List.flatMap_append, List.flatMap_cons, List.flatMap_nil, List.map_append, List.map_cons, List.map_nil, List.append_nil, List.nil_append]; rfl)) (c_A6vu _))) rfl List.not_mem_nil (by simp only [upd_get, ↓iop_and, Nat.reduceEqDiff, reduceIte, if_true, if_false] <;> rfl) (e_AuthDoor_tmx (by rfl) (Tm.clean (Clean.imm (c_A6vu _))))) (tmAllU 14 (tmAllU 11 (tmAllU 8 (tmAllU 7 (tmAllU 4 (tmAllU 3 (tmAllU 2 tmAll0 (Tm.clean (Clean.imm (vu_clean _)))) (Tm.ptr rfl)) (Tm.ptr rfl)) (Tm.ptr rfl)) (Tm.ptr rfl)) (Tm.ptr rfl)) (Tm.v _)); all_goals (first | rfl | (simp only [List.length_take]; omega) | (simp only [List.length_append, List.length_cons, List.length_nil, List.length_modify, List.length_set, Nat.zero_add]; done) | (simp only [List.length_append, List.length_take, List.length_drop, List.length_cons, List.length_nil, List.length_modify, List.length_set, Nat.zero_add]; omega) | (simp only [List.length_append, List.length_take, List.length_drop, List.length_cons, List.length_nil, List.length_modify, List.length_set, Nat.zero_add]; done) | omega))⟩
         ·
          have hl8 := cF hl8 h9
          refine awp_exit ?_
          refine lq_e ?_
          refine bq_e ?_
          refine sq_n ?_
          obtain rfl := someInj hl8
          exact ⟨_, rfl, (by refine Wk.canonD [] [] [some 0, some 1, some 2, some 3, some 4, some 5, some 6] rfl trivial rfl (tmOU 6 (tmOU 5 (tmOU 4 (tmOU 3 (tmOU 2 (tmOU 1 (tmOU 0 tmO0 rfl List.not_mem_nil (by simp only [upd_get, ↓iop_and, Nat.reduceEqDiff, reduceIte, if_true, if_false] <;> rfl) (e_AuthDoor_tmx (by rfl) (Tm.clean (Clean.imm (c_A6vu _))))) rfl List.not_mem_nil (by simp only [upd_get, ↓iop_and, Nat.reduceEqDiff, reduceIte, if_true, if_false] <;> rfl) (TmL.clean (e_A6vu_clean _))) rfl List.not_mem_nil (by simp only [upd_get, ↓iop_and, Nat.reduceEqDiff, reduceIte, if_true, if_false] <;> rfl) (e_AuthDoor_tmx (by rfl) (Tm.refL rfl ?_))) rfl List.not_mem_nil (by simp only [upd_get, ↓iop_and, Nat.reduceEqDiff, reduceIte, if_true, if_false] <;> rfl) (TmL.of_eq (by first | rfl | (simp only [List.flatMap_append, List.flatMap_cons, List.flatMap_nil, List.map_append, List.map_cons, List.map_nil, List.append_nil, List.nil_append]; done) | (simp only [List.flatMap_append, List.flatMap_cons, List.flatMap_nil, List.map_append, List.map_cons, List.map_nil, List.append_nil, List.nil_append]; rfl)) (c_A6vu _))) rfl List.not_mem_nil (by simp only [upd_get, ↓iop_and, Nat.reduceEqDiff, reduceIte, if_true, if_false] <;> rfl) (e_AuthDoor_tmx (by rfl) (Tm.refL rfl ?_))) rfl List.not_mem_nil (by simp only [upd_get, ↓iop_and, Nat.reduceEqDiff, reduceIte, if_true, if_false] <;> rfl) (TmL.of_eq (by first | rfl | (simp only [List.flatMap_append, List.flatMap_cons, List.flatMap_nil, List.map_append, List.map_cons, List.map_nil, List.append_nil, List.nil_append]; done) | (simp only [List.flatMap_append, List.flatMap_cons, List.flatMap_nil, List.map_append, List.map_cons, List.map_nil, List.append_nil, List.nil_append]; rfl)) (c_A6vu _))) rfl List.not_mem_nil (by simp only [upd_get, ↓iop_and, Nat.reduceEqDiff, reduceIte, if_true, if_false] <;> rfl) (e_AuthDoor_tmx (by rfl) (Tm.clean (Clean.imm (c_A6vu _))))) (tmAllU 11 (tmAllU 8 (tmAllU 7 (tmAllU 4 (tmAllU 3 (tmAllU 2 tmAll0 (Tm.clean (Clean.imm (vu_clean _)))) (Tm.ptr rfl)) (Tm.ptr rfl)) (Tm.ptr rfl)) (Tm.ptr rfl)) (Tm.ptr rfl)); all_goals (first | rfl | (simp only [List.length_take]; omega) | (simp only [List.length_append, List.length_cons, List.length_nil, List.length_modify, List.length_set, Nat.zero_add]; done) | (simp only [List.length_append, List.length_take, List.length_drop, List.length_cons, List.length_nil, List.length_modify, List.length_set, Nat.zero_add]; omega) | (simp only [List.length_append, List.length_take, List.length_drop, List.length_cons, List.length_nil, List.length_modify, List.length_set, Nat.zero_add]; done) | omega))⟩
       ·
        rintro _ rfl
        clear hi6
        unfold hotspotlaw29_AuthDoors_S2
        refine awp_nr [2,3,4,7,8,11] (fun _ => rfl) fun tz => ?_
        refine awp_regW fun KK hKK => ?_
        refine xw_id ?_
        obtain ⟨x10, bx10, h0⟩ := bnd h0
        try simp only [go_sem, Nat.reduceEqDiff, reduceIte, Nat.reduceAdd, Nat.reduceMul, Nat.reduceSub, Nat.reduceLT, Nat.reduceLeDiff]
        refine xcall_ML (by first | (simp only [go_sem, fz, nilS, cond_true, cond_false, Nat.reduceEqDiff, reduceIte, Nat.reduceAdd, Nat.reduceMul, Nat.reduceSub, Nat.reduceLT, Nat.reduceLeDiff]; done) | (simp only [go_sem, fz, nilS, cond_true, cond_false, Nat.reduceEqDiff, reduceIte, Nat.reduceAdd, Nat.reduceMul, Nat.reduceSub, Nat.reduceLT, Nat.reduceLeDiff]; rfl) | (simp only [go_sem, fz, List.length_set, ble_self, take_set, cond_true, cond_false, Nat.reduceEqDiff, reduceIte, Nat.reduceAdd, Nat.reduceMul, Nat.reduceSub, Nat.reduceLT, Nat.reduceLeDiff]; done) | (simp only [go_sem, fz, List.length_set, ble_self, take_set, cond_true, cond_false, Nat.reduceEqDiff, reduceIte, Nat.reduceAdd, Nat.reduceMul, Nat.reduceSub, Nat.reduceLT, Nat.reduceLeDiff]; rfl)) (auth_Leave_m { AuthDoor.z with Open := a0.Open, Secret := a0.Secret } a1 bx10) (fun _ => by repeat' (first | exact NoV.v _ | exact NoV.ref _ _ _ _ | exact NoV.onil | refine NoV.ocons ?_ ?_ | exact NoV.nil | refine NoV.tup ?_ | refine NoV.agg ?_ | refine NoV.rows (fun _ => ?_) _ | refine NoV.maps (fun _ => ?_) _ | refine NoV.cons ?_ ?_)) (by repeat' (first | exact NoV.v _ | exact NoV.ref _ _ _ _ | exact NoV.onil | refine NoV.ocons ?_ ?_ | exact NoV.nil | refine NoV.tup ?_ | refine NoV.agg ?_ | refine NoV.rows (fun _ => ?_) _ | refine NoV.maps (fun _ => ?_) _ | refine NoV.cons ?_ ?_)) ?_; try dsimp only
        try refine xw_id ?_
        try simp only [go_sem, Nat.reduceEqDiff, reduceIte, Nat.reduceAdd, Nat.reduceMul, Nat.reduceSub, Nat.reduceLT, Nat.reduceLeDiff]
        refine hKK _ _ (Wk.refl _ _ _) ?_; clear hKK KK
        refine awp_nr [2,3,4,7,8,10,11] (fun _ => rfl) fun tz => ?_
        refine awp_regW fun KK hKK => ?_
        refine xw_id ?_
        obtain ⟨x11, bx11, h0⟩ := bnd h0
        try simp only [go_sem, Nat.reduceEqDiff, reduceIte, Nat.reduceAdd, Nat.reduceMul, Nat.reduceSub, Nat.reduceLT, Nat.reduceLeDiff]
        refine xcall_M (hotspotref29_Leave_m a0 a1 bx11) ?_; try dsimp only
        try refine xw_id ?_
        try simp only [go_sem, Nat.reduceEqDiff, reduceIte, Nat.reduceAdd, Nat.reduceMul, Nat.reduceSub, Nat.reduceLT, Nat.reduceLeDiff]
        refine hKK _ (hotspotlaw29_AuthDoors_S5 a0 a1 x10 x11 a2) (by refine Wk.canonD [] [] [some 0, some 1, some 2, some 3, some 4, some 15, some 6, some 24] rfl trivial rfl (tmOU 7 (tmOU 6 (tmOU 5 (tmOU 4 (tmOU 3 (tmOU 2 (tmOU 1 (tmOU 0 tmO0 rfl List.not_mem_nil (by simp only [upd_get, ↓iop_and, Nat.reduceEqDiff, reduceIte, if_true, if_false] <;> rfl) (e_AuthDoor_tmx (by rfl) (Tm.clean (Clean.imm (c_A6vu _))))) rfl List.not_mem_nil (by simp only [upd_get, ↓iop_and, Nat.reduceEqDiff, reduceIte, if_true, if_false] <;> rfl) (TmL.clean (e_A6vu_clean _))) rfl List.not_mem_nil (by simp only [upd_get, ↓iop_and, Nat.reduceEqDiff, reduceIte, if_true, if_false] <;> rfl) (e_AuthDoor_tmx (by rfl) (Tm.refL rfl ?_))) rfl List.not_mem_nil (by simp only [upd_get, ↓iop_and, Nat.reduceEqDiff, reduceIte, if_true, if_false] <;> rfl) (TmL.of_eq (by first | rfl | (simp only [List.flatMap_append, List.flatMap_cons, List.flatMap_nil, List.map_append, List.map_cons, List.map_nil, List.append_nil, List.nil_append]; done) | (simp only [List.flatMap_append, List.flatMap_cons, List.flatMap_nil, List.map_append, List.map_cons, List.map_nil, List.append_nil, List.nil_append]; rfl)) (c_A6vu _))) rfl List.not_mem_nil (by simp only [upd_get, ↓iop_and, Nat.reduceEqDiff, reduceIte, if_true, if_false] <;> rfl) (e_AuthDoor_tmx (by rfl) (Tm.refL rfl ?_))) rfl List.not_mem_nil (by simp only [upd_get, ↓iop_and, Nat.reduceEqDiff, reduceIte, if_true, if_false] <;> rfl) (TmL.of_eq (by first | rfl | (simp only [List.flatMap_append, List.flatMap_cons, List.flatMap_nil, List.map_append, List.map_cons, List.map_nil, List.append_nil, List.nil_append]; done) | (simp only [List.flatMap_append, List.flatMap_cons, List.flatMap_nil, List.map_append, List.map_cons, List.map_nil, List.append_nil, List.nil_append]; rfl)) (c_A6vu _))) rfl List.not_mem_nil (by simp only [upd_get, ↓iop_and, Nat.reduceEqDiff, reduceIte, if_true, if_false] <;> rfl) (e_AuthDoor_tmx (by rfl) (Tm.refL rfl ?_))) rfl List.not_mem_nil (by simp only [upd_get, ↓iop_and, Nat.reduceEqDiff, reduceIte, if_true, if_false] <;> rfl) (TmL.of_eq (by first | rfl | (simp only [List.flatMap_append, List.flatMap_cons, List.flatMap_nil, List.map_append, List.map_cons, List.map_nil, List.append_nil, List.nil_append]; done) | (simp only [List.flatMap_append, List.flatMap_cons, List.flatMap_nil, List.map_append, List.map_cons, List.map_nil, List.append_nil, List.nil_append]; rfl)) (c_A6vu _))) (tmAllU 13 (tmAllU 11 (tmAllU 10 (tmAllU 8 (tmAllU 7 (tmAllU 4 (tmAllU 3 (tmAllU 2 tmAll0 (Tm.clean (Clean.imm (vu_clean _)))) (Tm.ptr rfl)) (Tm.ptr rfl)) (Tm.ptr rfl)) (Tm.ptr rfl)) (Tm.v _)) (Tm.ptr rfl)) (Tm.v _)); all_goals (first | rfl | (simp only [List.length_take]; omega) | (simp only [List.length_append, List.length_cons, List.length_nil, List.length_modify, List.length_set, Nat.zero_add]; done) | (simp only [List.length_append, List.length_take, List.length_drop, List.length_cons, List.length_nil, List.length_modify, List.length_set, Nat.zero_add]; omega) | (simp only [List.length_append, List.length_take, List.length_drop, List.length_cons, List.length_nil, List.length_modify, List.length_set, Nat.zero_add]; done) | omega)) ?_; clear hKK KK
        unfold hotspotlaw29_AuthDoors_S5
        refine awp_assoc ?_
        refine awp_nr [2,3,4,7,8,10,11,13] (fun _ => rfl) fun tz => ?_
        refine awp_regW fun KK hKK => ?_
        refine xw_id ?_
        obtain ⟨x12, bx12, h0⟩ := bnd h0
        try simp only [go_sem, Nat.reduceEqDiff, reduceIte, Nat.reduceAdd, Nat.reduceMul, Nat.reduceSub, Nat.reduceLT, Nat.reduceLeDiff]
        refine xcall_L (by first | (simp only [go_sem, fz, Nat.reduceEqDiff, reduceIte, Nat.reduceAdd, Nat.reduceMul, Nat.reduceSub, Nat.reduceLT, Nat.reduceLeDiff]; done) | (simp only [go_sem, fz, Nat.reduceEqDiff, reduceIte, Nat.reduceAdd, Nat.reduceMul, Nat.reduceSub, Nat.reduceLT, Nat.reduceLeDiff]; rfl) | (simp only [go_sem, fz, List.length_set, ble_self, take_set, cond_true, cond_false, Nat.reduceEqDiff, reduceIte, Nat.reduceAdd, Nat.reduceMul, Nat.reduceSub, Nat.reduceLT, Nat.reduceLeDiff]; done) | (simp only [go_sem, fz, List.length_set, ble_self, take_set, cond_true, cond_false, Nat.reduceEqDiff, reduceIte, Nat.reduceAdd, Nat.reduceMul, Nat.reduceSub, Nat.reduceLT, Nat.reduceLeDiff]; rfl)) (hotspotref29_SameDoor_p x10.1 x11.1 bx12) (Bare.v _) ?_; try dsimp only
        try refine xw_id ?_
        refine xw_stop 2 (by (try simp only [go_sem]); rfl) (by (try simp only [go_sem]); rfl) (by rfl) fun K1 hK1 => ?_
        refine xw_id ?_
        try simp only [go_sem, Nat.reduceEqDiff, reduceIte, Nat.reduceAdd, Nat.reduceMul, Nat.reduceSub, Nat.reduceLT, Nat.reduceLeDiff]
        refine hK1 _ ?_; clear hK1 K1
        refine xw_cut 4 [(2, (.imm (List.map vu a2) a2.length)), (3, (.ptr 0 0)), (4, (.ptr 1 0)), (7, (.ptr 2 0)), (8, (.ptr 4 0)), (103, (vb ((!x12) || (x10.2 != x11.2))))] (by (try simp only [go_sem]); rfl) (by (try simp only [go_sem]); rfl) (by rfl) (fun K1 hK1 => ?_) fun tz => ?_
        ·
         refine xw_id ?_
         rcases Bool.eq_false_or_eq_true (!x12) with h12 | h12
         ·
          try simp only [go_sem, Nat.reduceEqDiff, reduceIte, Nat.reduceAdd, Nat.reduceMul, Nat.reduceSub, Nat.reduceLT, Nat.reduceLeDiff, h12]
          exact hK1 _ ⟨rfl, rfl, rfl, rfl, rfl, rfl, (by first | rfl | (rw [h12]; rfl) | (simp only [h12, Bool.true_and, Bool.false_and, Bool.true_or, Bool.false_or, cond_true, cond_false]; done)), trivial⟩
         ·
          try simp only [go_sem, Nat.reduceEqDiff, reduceIte, Nat.reduceAdd, Nat.reduceMul, Nat.reduceSub, Nat.reduceLT, Nat.reduceLeDiff, h12]
          exact hK1 _ ⟨rfl, rfl, rfl, rfl, rfl, rfl, (by first | rfl | (rw [h12]; rfl) | (simp only [h12, Bool.true_and, Bool.false_and, Bool.true_or, Bool.false_or, cond_true, cond_false]; done)), trivial⟩
        ·
         refine xw_id ?_
         try simp only [go_sem, Nat.reduceEqDiff, reduceIte, Nat.reduceAdd, Nat.reduceMul, Nat.reduceSub, Nat.reduceLT, Nat.reduceLeDiff]
         refine hKK _ _ (Wk.refl _ _ _) ?_; clear hKK KK
         refine awp_cond (b := ((!x12) || (x10.2 != x11.2))) rfl (fun h13 => ?_) (fun h13 => ?_)
         ·
          have h0 := cT h0 h13
          refine awp_assoc ?_
          refine awp_nr [] (fun _ => rfl) fun tz => ?_
          refine awp_regW fun KK hKK => ?_
          refine xw_id ?_
          try simp only [go_sem, Nat.reduceEqDiff, reduceIte, Nat.reduceAdd, Nat.reduceMul, Nat.reduceSub, Nat.reduceLT, Nat.reduceLeDiff]
          refine hKK _ _ (Wk.refl _ _ _) ?_; clear hKK KK
          refine awp_ret ?_
          obtain rfl := someInj h0
          refine endW_i ?_
          refine end_ret0 rs3 (rfl) ?_
          try simp only [go_sem, Nat.reduceEqDiff, reduceIte, Nat.reduceAdd, Nat.reduceMul, Nat.reduceSub, Nat.reduceLT, Nat.reduceLeDiff, fz, nilS, packR, List.take_nil, List.take_length, List.length_map, List.length_append, cond_true, cond_false, Nat.ble_eq, ble_self]
          all_goals first | rfl | (simp only [go_sem, Nat.reduceEqDiff, reduceIte, Nat.reduceAdd, Nat.reduceMul, Nat.reduceSub, Nat.reduceLT, Nat.reduceLeDiff, fz, nilS, packR, List.take_nil, List.take_length, List.length_map, List.length_append, cond_true, cond_false, Nat.ble_eq, ble_self, List.map_append] <;> rfl)
         ·
          have h0 := cF h0 h13
          refine awp_skip ?_
          refine awp_assoc ?_
          refine awp_nr [2,3,4,7,8] (fun _ => rfl) fun tz => ?_
          refine awp_regW fun KK hKK => ?_
          refine xw_id ?_
          try simp only [go_sem, Nat.reduceEqDiff, reduceIte, Nat.reduceAdd, Nat.reduceMul, Nat.reduceSub, Nat.reduceLT, Nat.reduceLeDiff]
          refine hKK _ _ (Wk.refl _ _ _) ?_; clear hKK KK
          obtain ⟨d13, hi14, h0⟩ := bnd h0
          refine awp_cut (fun z => d13 = z) (fun d13 : Unit => hotspotlaw29_AuthDoors_S6 a0 a1 a2 d13) ?_ ?_
          ·
           refine awp_block1 ?_
           refine awp_loopS (fun n (d14 : (List A6vu × Int)) => hotspotlaw29_AuthDoors_L8 a0 n d14 = some d13) (fun d14 : (List A6vu × Int) => hotspotlaw29_AuthDoors_S7 a0 a1 x10 a2 d14) big (x10.1.Open, 0) (by refine Wk.canonD [] [] [some 0, some 1, some 2, some 3, some 4, some 5] rfl trivial rfl (tmOU 5 (tmOU 4 (tmOU 3 (tmOU 2 (tmOU 1 (tmOU 0 tmO0 rfl List.not_mem_nil (by simp only [upd_get, ↓iop_and, Nat.reduceEqDiff, reduceIte, if_true, if_false] <;> rfl) (e_AuthDoor_tmx (by rfl) (Tm.clean (Clean.imm (c_A6vu _))))) rfl List.not_mem_nil (by simp only [upd_get, ↓iop_and, Nat.reduceEqDiff, reduceIte, if_true, if_false] <;> rfl) (TmL.clean (e_A6vu_clean _))) rfl List.not_mem_nil (by simp only [upd_get, ↓iop_and, Nat.reduceEqDiff, reduceIte, if_true, if_false] <;> rfl) (e_AuthDoor_tmx (by rfl) (Tm.refL rfl ?_))) rfl List.not_mem_nil (by simp only [upd_get, ↓iop_and, Nat.reduceEqDiff, reduceIte, if_true, if_false] <;> rfl) (TmL.of_eq (by first | rfl | (simp only [List.flatMap_append, List.flatMap_cons, List.flatMap_nil, List.map_append, List.map_cons, List.map_nil, List.append_nil, List.nil_append]; done) | (simp only [List.flatMap_append, List.flatMap_cons, List.flatMap_nil, List.map_append, List.map_cons, List.map_nil, List.append_nil, List.nil_append]; rfl)) (c_A6vu _))) rfl List.not_mem_nil (by simp only [upd_get, ↓iop_and, Nat.reduceEqDiff, reduceIte, if_true, if_false] <;> rfl) (e_AuthDoor_tmx (by rfl) (Tm.refL rfl ?_))) rfl List.not_mem_nil (by simp only [upd_get, ↓iop_and, Nat.reduceEqDiff, reduceIte, if_true, if_false] <;> rfl) (TmL.of_eq (by first | rfl | (simp only [List.flatMap_append, List.flatMap_cons, List.flatMap_nil, List.map_append, List.map_cons, List.map_nil, List.append_nil, List.nil_append]; done) | (simp only [List.flatMap_append, List.flatMap_cons, List.flatMap_nil, List.map_append, List.map_cons, List.map_nil, List.append_nil, List.nil_append]; rfl)) (c_A6vu _))) (tmAllU 15 (tmAllU 8 (tmAllU 7 (tmAllU 4 (tmAllU 3 (tmAllU 2 tmAll0 (Tm.clean (Clean.imm (vu_clean _)))) (Tm.ptr rfl)) (Tm.ptr rfl)) (Tm.ptr rfl)) (Tm.ptr rfl)) (Tm.v _)); all_goals (first | rfl | (simp only [List.length_take]; omega) | (simp only [List.length_append, List.length_cons, List.length_nil, List.length_modify, List.length_set, Nat.zero_add]; done) | (simp only [List.length_append, List.length_take, List.length_drop, List.length_cons, List.length_nil, List.length_modify, List.length_set, Nat.zero_add]; omega) | (simp only [List.length_append, List.length_take, List.length_drop, List.length_cons, List.length_nil, List.length_modify, List.length_set, Nat.zero_add]; done) | omega)) hi14 ?_
           clear hi14
           rintro n d14 hl16
           rcases n with _ | n15
           ·
            (rw [hotspotlaw29_AuthDoors_L8] at hl16; cases hl16)
           ·
            rw [hotspotlaw29_AuthDoors_L8] at hl16
            unfold hotspotlaw29_AuthDoors_S7
            refine awp_assoc ?_
            refine awp_nr [2,3,4,7,8,15] (fun _ => rfl) fun tz => ?_
            refine awp_regW fun KK hKK => ?_
            refine xw_id ?_
            try simp only [go_sem, Nat.reduceEqDiff, reduceIte, Nat.reduceAdd, Nat.reduceMul, Nat.reduceSub, Nat.reduceLT, Nat.reduceLeDiff, Int.reduceToNat, Int.reduceBEq, Int.reduceBNe, Int.reduceLT, Int.reduceLE, Int.reduceAdd, Int.reduceSub, Int.reduceMul]
            refine hKK _ _ (Wk.refl _ _ _) ?_; clear hKK KK
            refine awp_cond (b := (decide (d14.2 < (((d14.1).length : Nat) : Int)))) rfl (fun h17 => ?_) (fun h17 => ?_)
            ·
             have hl16 := cT hl16 h17
             refine awp_skip ?_
             refine awp_blockW ?_
             refine awp_nr1 [2,3,4,7,8,15] (fun _ => rfl) fun tz => ?_
             refine awp_regD1 fun KK hKK all hall => ?_
             refine xd_id ?_
             try simp only [List.toList_toArray, List.map_cons, List.map_nil, List.size_toArray, List.length_cons, List.length_nil, Nat.zero_add]
             try simp only [Nat.reduceAdd]
             obtain ⟨x15, bx15, hl16⟩ := bnd hl16
             obtain ⟨fx15_0, fx15_1, fx15_2, fx15_3⟩ := idx_some bx15
             have fx15_5 : ((d14.2 : Int) < (((d14.1).length : Nat) : Int)) = True := by first | exact fx15_1 | (simp [List.length_modify, List.length_set]; omega)
             have gs18 : ((d14.2).toNat * 6 + 1 ≤ d14.1.length * 6) = True := eq_true (by (try simp only [List.length_modify, List.length_set]); omega)
             have gm19 : (d14.1.modify ((d14.2).toNat) fun y => { y with a0 := IntKind.wrap .u8 (x15.a0 + 1) })[(d14.2).toNat]? = some ({ x15 with a0 := IntKind.wrap .u8 (x15.a0 + 1) }) := getMod _ fx15_2
             simp only [go_sem, Nat.reduceEqDiff, reduceIte, Nat.reduceMul, Nat.reduceSub, Nat.reduceLT, Nat.reduceLeDiff, Int.reduceToNat, Int.reduceBEq, Int.reduceBNe, Int.reduceLT, Int.reduceLE, Int.reduceAdd, Int.reduceSub, Int.reduceMul, fx15_0, fx15_1, fx15_2, fx15_5, gs18, gm19]
             try simp only [Nat.reduceAdd]
             try simp only [go_sem, Nat.reduceEqDiff, reduceIte, Nat.reduceMul, Nat.reduceSub, Nat.reduceLT, Nat.reduceLeDiff, Int.reduceToNat, Int.reduceBEq, Int.reduceBNe, Int.reduceLT, Int.reduceLE, Int.reduceAdd, Int.reduceSub, Int.reduceMul, fx15_0, fx15_1, fx15_2, fx15_5, gs18, gm19]
             try simp only [Nat.reduceAdd]
             try simp only [go_sem, Nat.reduceEqDiff, reduceIte, Nat.reduceMul, Nat.reduceSub, Nat.reduceLT, Nat.reduceLeDiff, Int.reduceToNat, Int.reduceBEq, Int.reduceBNe, Int.reduceLT, Int.reduceLE, Int.reduceAdd, Int.reduceSub, Int.reduceMul, fx15_0, fx15_1, fx15_2, fx15_5, gs18, gm19]
             refine And.intro ?_ (hKK _ ?_)
             ·
              subst hall
              clear hKK KK
              first | decide +kernel | (simp [printsOk, apartP, clash, meet]; done) | (simp [printsOk, apartP, clash, meet]; decide +kernel) | (simp [printsOk, apartP, clash, meet]; repeat (first | exact Or.inr (by decide +kernel) | (refine And.intro (Or.inr (by decide +kernel)) ?_)))
             ·
              clear hKK KK hall all
              refine bq_n ?_
              refine seqW_i ?_
              refine awp_nr1 [2,3,4,7,8,15] (fun _ => rfl) fun tz => ?_
              refine awp_reg1 fun KK hKK => ?_
              refine xw_id ?_
              try simp only [go_sem, Nat.reduceEqDiff, reduceIte, Nat.reduceAdd, Nat.reduceMul, Nat.reduceSub, Nat.reduceLT, Nat.reduceLeDiff, fx15_0, fx15_1, fx15_2, fx15_5, gm19]
              refine hKK _ ?_; clear hKK KK
              refine lq_n ?_
              exact ⟨n15, ((d14.1.modify ((d14.2).toNat) fun y => { y with a0 := IntKind.wrap .u8 (x15.a0 + 1) }), IntKind.wrap .i64 (d14.2 + 1)), rfl, hl16, (by refine Wk.canonD [] [] [some 0, some 1, some 2, some 3, some 4, some 5] rfl trivial rfl (tmOU 5 (tmOU 4 (tmOU 3 (tmOU 2 (tmOU 1 (tmOU 0 tmO0 rfl List.not_mem_nil (by simp only [upd_get, ↓iop_and, Nat.reduceEqDiff, reduceIte, if_true, if_false] <;> rfl) (e_AuthDoor_tmx (by rfl) (Tm.clean (Clean.imm (c_A6vu _))))) rfl List.not_mem_nil (by simp only [upd_get, ↓iop_and, Nat.reduceEqDiff, reduceIte, if_true, if_false] <;> rfl) (TmL.clean (e_A6vu_clean _))) rfl List.not_mem_nil (by simp only [upd_get, ↓iop_and, Nat.reduceEqDiff, reduceIte, if_true, if_false] <;> rfl) (e_AuthDoor_tmx (by rfl) (Tm.refL rfl ?_))) rfl List.not_mem_nil (by simp only [upd_get, ↓iop_and, Nat.reduceEqDiff, reduceIte, if_true, if_false] <;> rfl) (TmL.of_eq (by first | rfl | (simp only [List.flatMap_append, List.flatMap_cons, List.flatMap_nil, List.map_append, List.map_cons, List.map_nil, List.append_nil, List.nil_append]; done) | (simp only [List.flatMap_append, List.flatMap_cons, List.flatMap_nil, List.map_append, List.map_cons, List.map_nil, List.append_nil, List.nil_append]; rfl)) (c_A6vu _))) rfl List.not_mem_nil (by simp only [upd_get, ↓iop_and, Nat.reduceEqDiff, reduceIte, if_true, if_false] <;> rfl) (e_AuthDoor_tmx (by rfl) (Tm.refL rfl ?_))) rfl List.not_mem_nil (by simp only [upd_get, ↓iop_and, Nat.reduceEqDiff, reduceIte, if_true, if_false] <;> rfl) (TmL.of_eq (by first | rfl | (simp only [List.flatMap_append, List.flatMap_cons, List.flatMap_nil, List.map_append, List.map_cons, List.map_nil, List.append_nil, List.nil_append]; done) | (simp only [List.flatMap_append, List.flatMap_cons, List.flatMap_nil, List.map_append, List.map_cons, List.map_nil, List.append_nil, List.nil_append]; rfl)) (c_A6vu _))) (tmAllU 15 (tmAllU 8 (tmAllU 7 (tmAllU 4 (tmAllU 3 (tmAllU 2 tmAll0 (Tm.clean (Clean.imm (vu_clean _)))) (Tm.ptr rfl)) (Tm.ptr rfl)) (Tm.ptr rfl)) (Tm.ptr rfl)) (Tm.v _)); all_goals (first | rfl | (simp only [List.length_take]; omega) | (simp only [List.length_append, List.length_cons, List.length_nil, List.length_modify, List.length_set, Nat.zero_add]; done) | (simp only [List.length_append, List.length_take, List.length_drop, List.length_cons, List.length_nil, List.length_modify, List.length_set, Nat.zero_add]; omega) | (simp only [List.length_append, List.length_take, List.length_drop, List.length_cons, List.length_nil, List.length_modify, List.length_set, Nat.zero_add]; done) | omega))⟩
            ·
             have hl16 := cF hl16 h17
             refine awp_exit ?_
             refine lq_e ?_
             refine bq_e ?_
             refine sq_n ?_
             obtain rfl := someInj hl16
             exact ⟨_, rfl, (by refine Wk.canonD [] [] [some 0, some 1, some 2, some 3] rfl trivial rfl (tmOU 3 (tmOU 2 (tmOU 1 (tmOU 0 tmO0 rfl List.not_mem_nil (by simp only [upd_get, ↓iop_and, Nat.reduceEqDiff, reduceIte, if_true, if_false] <;> rfl) (e_AuthDoor_tmx (by rfl) (Tm.clean (Clean.imm (c_A6vu _))))) rfl List.not_mem_nil (by simp only [upd_get, ↓iop_and, Nat.reduceEqDiff, reduceIte, if_true, if_false] <;> rfl) (TmL.clean (e_A6vu_clean _))) rfl List.not_mem_nil (by simp only [upd_get, ↓iop_and, Nat.reduceEqDiff, reduceIte, if_true, if_false] <;> rfl) (e_AuthDoor_tmx (by rfl) (Tm.refL rfl ?_))) rfl List.not_mem_nil (by simp only [upd_get, ↓iop_and, Nat.reduceEqDiff, reduceIte, if_true, if_false] <;> rfl) (TmL.of_eq (by first | rfl | (simp only [List.flatMap_append, List.flatMap_cons, List.flatMap_nil, List.map_append, List.map_cons, List.map_nil, List.append_nil, List.nil_append]; done) | (simp only [List.flatMap_append, List.flatMap_cons, List.flatMap_nil, List.map_append, List.map_cons, List.map_nil, List.append_nil, List.nil_append]; rfl)) (c_A6vu _))) (tmAllU 7 (tmAllU 4 (tmAllU 3 (tmAllU 2 tmAll0 (Tm.clean (Clean.imm (vu_clean _)))) (Tm.ptr rfl)) (Tm.ptr rfl)) (Tm.ptr rfl)); all_goals (first | rfl | (simp only [List.length_take]; omega) | (simp only [List.length_append, List.length_cons, List.length_nil, List.length_modify, List.length_set, Nat.zero_add]; done) | (simp only [List.length_append, List.length_take, List.length_drop, List.length_cons, List.length_nil, List.length_modify, List.length_set, Nat.zero_add]; omega) | (simp only [List.length_append, List.length_take, List.length_drop, List.length_cons, List.length_nil, List.length_modify, List.length_set, Nat.zero_add]; done) | omega))⟩
          ·
           rintro _ rfl
           clear hi14
           unfold hotspotlaw29_AuthDoors_S6
           refine awp_nr [2,3,4,7] (fun _ => rfl) fun tz => ?_
           refine awp_regW fun KK hKK => ?_
           refine xw_id ?_
           obtain ⟨x16, bx16, h0⟩ := bnd h0
           try simp only [go_sem, Nat.reduceEqDiff, reduceIte, Nat.reduceAdd, Nat.reduceMul, Nat.reduceSub, Nat.reduceLT, Nat.reduceLeDiff]
           refine xcall_p (auth_Answer_p a2 bx16) ?_; try dsimp only
           try refine xw_id ?_
           try simp only [go_sem, Nat.reduceEqDiff, reduceIte, Nat.reduceAdd, Nat.reduceMul, Nat.reduceSub, Nat.reduceLT, Nat.reduceLeDiff]
           refine hKK _ _ (Wk.refl _ _ _) ?_; clear hKK KK
           refine awp_nr [2,3,4,7,16,17] (fun _ => rfl) fun tz => ?_
           refine awp_regW fun KK hKK => ?_
           refine xw_id ?_
           obtain ⟨x17, bx17, h0⟩ := bnd h0
           try simp only [go_sem, Nat.reduceEqDiff, reduceIte, Nat.reduceAdd, Nat.reduceMul, Nat.reduceSub, Nat.reduceLT, Nat.reduceLeDiff]
           refine xcall_p (hotspotref29_Answer_p a2 bx17) ?_; try dsimp only
           try refine xw_id ?_
           try simp only [go_sem, Nat.reduceEqDiff, reduceIte, Nat.reduceAdd, Nat.reduceMul, Nat.reduceSub, Nat.reduceLT, Nat.reduceLeDiff]
           refine hKK _ _ (Wk.refl _ _ _) ?_; clear hKK KK
           refine awp_nr [3,4,7,16,17,18,19] (fun _ => rfl) fun tz => ?_
           refine awp_regW fun KK hKK => ?_
           refine xw_id ?_
           obtain ⟨x18, bx18, h0⟩ := bnd h0
           try simp only [go_sem, Nat.reduceEqDiff, reduceIte, Nat.reduceAdd, Nat.reduceMul, Nat.reduceSub, Nat.reduceLT, Nat.reduceLeDiff]
           refine xcall_p (hotspotref22_Same_p x16.1 x17.1 bx18) ?_; try dsimp only
           try refine xw_id ?_
           refine xw_stop 1 (by (try simp only [go_sem]); rfl) (by (try simp only [go_sem]); rfl) (by rfl) fun K1 hK1 => ?_
           refine xw_id ?_
           try simp only [go_sem, Nat.reduceEqDiff, reduceIte, Nat.reduceAdd, Nat.reduceMul, Nat.reduceSub, Nat.reduceLT, Nat.reduceLeDiff]
           refine hK1 _ ?_; clear hK1 K1
           refine xw_cut 4 [(3, (.ptr 0 0)), (4, (.ptr 1 0)), (7, (.ptr 2 0)), (137, (vb (x18 && (x16.2 == x17.2))))] (by (try simp only [go_sem]); rfl) (by (try simp only [go_sem]); rfl) (by rfl) (fun K1 hK1 => ?_) fun tz => ?_
           ·
            refine xw_id ?_
            rcases Bool.eq_false_or_eq_true x18 with h20 | h20
            ·
             try simp only [go_sem, Nat.reduceEqDiff, reduceIte, Nat.reduceAdd, Nat.reduceMul, Nat.reduceSub, Nat.reduceLT, Nat.reduceLeDiff, h20]
             exact hK1 _ ⟨rfl, rfl, rfl, rfl, (by first | rfl | (rw [h20]; rfl) | (simp only [h20, Bool.true_and, Bool.false_and, Bool.true_or, Bool.false_or, cond_true, cond_false]; done)), trivial⟩
            ·
             try simp only [go_sem, Nat.reduceEqDiff, reduceIte, Nat.reduceAdd, Nat.reduceMul, Nat.reduceSub, Nat.reduceLT, Nat.reduceLeDiff, h20]
             exact hK1 _ ⟨rfl, rfl, rfl, rfl, (by first | rfl | (rw [h20]; rfl) | (simp only [h20, Bool.true_and, Bool.false_and, Bool.true_or, Bool.false_or, cond_true, cond_false]; done)), trivial⟩
           ·
            refine xw_id ?_
            refine xw_stop 1 (by (try simp only [go_sem]); rfl) (by (try simp only [go_sem]); rfl) (by rfl) fun K1 hK1 => ?_
            refine xw_id ?_
            try simp only [go_sem, Nat.reduceEqDiff, reduceIte, Nat.reduceAdd, Nat.reduceMul, Nat.reduceSub, Nat.reduceLT, Nat.reduceLeDiff]
            refine hK1 _ ?_; clear hK1 K1
            obtain ⟨x21, hvh21, h0⟩ := bnd h0
            refine xw_cut 6 [(3, (.ptr 0 0)), (4, (.ptr 1 0)), (7, (.ptr 2 0)), (144, (vb x21))] (by (try simp only [go_sem]); rfl) (by (try simp only [go_sem]); rfl) (by rfl) (fun K1 hK1 => ?_) fun tz => ?_
            ·
             refine xw_id ?_
             rcases Bool.eq_false_or_eq_true (x18 && (x16.2 == x17.2)) with h21 | h21
             ·
              have hvh21 := cT hvh21 h21
              have h21_0 : (x18) = true := by simp only [Bool.and_eq_true] at h21; exact h21.1
              have h21_1 : (x16.2 == x17.2) = true := by simp only [Bool.and_eq_true] at h21; exact h21.2
              obtain ⟨x19, bx19, hvh21⟩ := bnd hvh21
              try simp only [go_sem, Nat.reduceEqDiff, reduceIte, Nat.reduceAdd, Nat.reduceMul, Nat.reduceSub, Nat.reduceLT, Nat.reduceLeDiff, h21, h21_0, h21_1]
              refine xcall_L (by first | (simp only [go_sem, fz, Nat.reduceEqDiff, reduceIte, Nat.reduceAdd, Nat.reduceMul, Nat.reduceSub, Nat.reduceLT, Nat.reduceLeDiff, h21, h21_0, h21_1]; done) | (simp only [go_sem, fz, Nat.reduceEqDiff, reduceIte, Nat.reduceAdd, Nat.reduceMul, Nat.reduceSub, Nat.reduceLT, Nat.reduceLeDiff, h21, h21_0, h21_1]; rfl) | (simp only [go_sem, fz, List.length_set, ble_self, take_set, cond_true, cond_false, Nat.reduceEqDiff, reduceIte, Nat.reduceAdd, Nat.reduceMul, Nat.reduceSub, Nat.reduceLT, Nat.reduceLeDiff, h21, h21_0, h21_1]; done) | (simp only [go_sem, fz, List.length_set, ble_self, take_set, cond_true, cond_false, Nat.reduceEqDiff, reduceIte, Nat.reduceAdd, Nat.reduceMul, Nat.reduceSub, Nat.reduceLT, Nat.reduceLeDiff, h21, h21_0, h21_1]; rfl)) (auth_CheckDoor_p { AuthDoor.z with Open := a0.Open, Secret := a0.Secret } bx19) (Bare.v _) ?_; try dsimp only
              try refine xw_id ?_
              obtain ⟨x20, bx20, hvh21⟩ := bnd hvh21
              try simp only [go_sem, Nat.reduceEqDiff, reduceIte, Nat.reduceAdd, Nat.reduceMul, Nat.reduceSub, Nat.reduceLT, Nat.reduceLeDiff, h21, h21_0, h21_1]
              refine xcall_p (hotspotref29_CheckDoor_p a0 bx20) ?_; try dsimp only
              try refine xw_id ?_
              try simp only [go_sem, Nat.reduceEqDiff, reduceIte, Nat.reduceAdd, Nat.reduceMul, Nat.reduceSub, Nat.reduceLT, Nat.reduceLeDiff, h21, h21_0, h21_1]
              obtain rfl := someInj hvh21
              exact hK1 _ ⟨rfl, (by first | rfl | (rw [h21_0]; rfl) | (rw [h21_1]; rfl)), (by first | rfl | (rw [h21_0]; rfl) | (rw [h21_1]; rfl)), (by first | rfl | (rw [h21_0]; rfl) | (rw [h21_1]; rfl)), (by first | rfl | (rw [h21]; rfl) | (simp only [h21, Bool.true_and, Bool.false_and, Bool.true_or, Bool.false_or, cond_true, cond_false]; done)), trivial⟩
             ·
              have hvh21 := cF hvh21 h21
              try simp only [go_sem, Nat.reduceEqDiff, reduceIte, Nat.reduceAdd, Nat.reduceMul, Nat.reduceSub, Nat.reduceLT, Nat.reduceLeDiff, h21]
              obtain rfl := someInj hvh21
              exact hK1 _ ⟨rfl, rfl, rfl, rfl, (by first | rfl | (rw [h21]; rfl) | (simp only [h21, Bool.true_and, Bool.false_and, Bool.true_or, Bool.false_or, cond_true, cond_false]; done)), trivial⟩
            ·
             refine xw_id ?_
             refine xw_stop 1 (by (try simp only [go_sem]); rfl) (by (try simp only [go_sem]); rfl) (by rfl) fun K1 hK1 => ?_
             refine xw_id ?_
             try simp only [go_sem, Nat.reduceEqDiff, reduceIte, Nat.reduceAdd, Nat.reduceMul, Nat.reduceSub, Nat.reduceLT, Nat.reduceLeDiff]
             refine hK1 _ ?_; clear hK1 K1
             obtain ⟨x24, hvh22, h0⟩ := bnd h0
             refine xw_cut 8 [(3, (.ptr 0 0)), (7, (.ptr 2 0)), (153, (vb x24))] (by (try simp only [go_sem]); rfl) (by (try simp only [go_sem]); rfl) (by rfl) (fun K1 hK1 => ?_) fun tz => ?_
             ·
              refine xw_id ?_
              rcases Bool.eq_false_or_eq_true x21 with h22 | h22
              ·
               have hvh22 := cT hvh22 h22
               obtain ⟨x22, bx22, hvh22⟩ := bnd hvh22
               try simp only [go_sem, Nat.reduceEqDiff, reduceIte, Nat.reduceAdd, Nat.reduceMul, Nat.reduceSub, Nat.reduceLT, Nat.reduceLeDiff, h22]
               refine xcall_L (by first | (simp only [go_sem, fz, Nat.reduceEqDiff, reduceIte, Nat.reduceAdd, Nat.reduceMul, Nat.reduceSub, Nat.reduceLT, Nat.reduceLeDiff, h22]; done) | (simp only [go_sem, fz, Nat.reduceEqDiff, reduceIte, Nat.reduceAdd, Nat.reduceMul, Nat.reduceSub, Nat.reduceLT, Nat.reduceLeDiff, h22]; rfl) | (simp only [go_sem, fz, List.length_set, ble_self, take_set, cond_true, cond_false, Nat.reduceEqDiff, reduceIte, Nat.reduceAdd, Nat.reduceMul, Nat.reduceSub, Nat.reduceLT, Nat.reduceLeDiff, h22]; done) | (simp only [go_sem, fz, List.length_set, ble_self, take_set, cond_true, cond_false, Nat.reduceEqDiff, reduceIte, Nat.reduceAdd, Nat.reduceMul, Nat.reduceSub, Nat.reduceLT, Nat.reduceLeDiff, h22]; rfl)) (auth_Token_p { AuthDoor.z with Open := a0.Open, Secret := a0.Secret } a1 bx22) (Bare.v _) ?_; try dsimp only
               try refine xw_id ?_
               obtain ⟨x23, bx23, hvh22⟩ := bnd hvh22
               try simp only [go_sem, Nat.reduceEqDiff, reduceIte, Nat.reduceAdd, Nat.reduceMul, Nat.reduceSub, Nat.reduceLT, Nat.reduceLeDiff, h22]
               refine xcall_p (hotspotref29_Token_p a0 a1 bx23) ?_; try dsimp only
               try refine xw_id ?_
               try simp only [go_sem, Nat.reduceEqDiff, reduceIte, Nat.reduceAdd, Nat.reduceMul, Nat.reduceSub, Nat.reduceLT, Nat.reduceLeDiff, h22]
               obtain rfl := someInj hvh22
               exact hK1 _ ⟨rfl, rfl, rfl, (by first | rfl | (rw [h22]; rfl) | (simp only [h22, Bool.true_and, Bool.false_and, Bool.true_or, Bool.false_or, cond_true, cond_false]; done)), trivial⟩
              ·
               have hvh22 := cF hvh22 h22
               try simp only [go_sem, Nat.reduceEqDiff, reduceIte, Nat.reduceAdd, Nat.reduceMul, Nat.reduceSub, Nat.reduceLT, Nat.reduceLeDiff, h22]
               obtain rfl := someInj hvh22
               exact hK1 _ ⟨rfl, rfl, rfl, (by first | rfl | (rw [h22]; rfl) | (simp only [h22, Bool.true_and, Bool.false_and, Bool.true_or, Bool.false_or, cond_true, cond_false]; done)), trivial⟩
             ·
              refine xw_id ?_
              refine xw_stop 1 (by (try simp only [go_sem]); rfl) (by (try simp only [go_sem]); rfl) (by rfl) fun K1 hK1 => ?_
              refine xw_id ?_
              try simp only [go_sem, Nat.reduceEqDiff, reduceIte, Nat.reduceAdd, Nat.reduceMul, Nat.reduceSub, Nat.reduceLT, Nat.reduceLeDiff]
              refine hK1 _ ?_; clear hK1 K1
              obtain ⟨x26, hvh23, h0⟩ := bnd h0
              refine xw_cut 4 [(158, (vb x26))] (by (try simp only [go_sem]); rfl) (by (try simp only [go_sem]); rfl) (by rfl) (fun K1 hK1 => ?_) fun tz => ?_
              ·
               refine xw_id ?_
               rcases Bool.eq_false_or_eq_true x24 with h23 | h23
               ·
                have hvh23 := cT hvh23 h23
                obtain ⟨x25, bx25, hvh23⟩ := bnd hvh23
                try simp only [go_sem, Nat.reduceEqDiff, reduceIte, Nat.reduceAdd, Nat.reduceMul, Nat.reduceSub, Nat.reduceLT, Nat.reduceLeDiff, h23]
                refine xcall_L (by first | (simp only [go_sem, fz, Nat.reduceEqDiff, reduceIte, Nat.reduceAdd, Nat.reduceMul, Nat.reduceSub, Nat.reduceLT, Nat.reduceLeDiff, h23]; done) | (simp only [go_sem, fz, Nat.reduceEqDiff, reduceIte, Nat.reduceAdd, Nat.reduceMul, Nat.reduceSub, Nat.reduceLT, Nat.reduceLeDiff, h23]; rfl) | (simp only [go_sem, fz, List.length_set, ble_self, take_set, cond_true, cond_false, Nat.reduceEqDiff, reduceIte, Nat.reduceAdd, Nat.reduceMul, Nat.reduceSub, Nat.reduceLT, Nat.reduceLeDiff, h23]; done) | (simp only [go_sem, fz, List.length_set, ble_self, take_set, cond_true, cond_false, Nat.reduceEqDiff, reduceIte, Nat.reduceAdd, Nat.reduceMul, Nat.reduceSub, Nat.reduceLT, Nat.reduceLeDiff, h23]; rfl)) (hotspotref29_SameDoor_p { AuthDoor.z with Open := a0.Open, Secret := a0.Secret } a0 bx25) (Bare.v _) ?_; try dsimp only
                try refine xw_id ?_
                try simp only [go_sem, Nat.reduceEqDiff, reduceIte, Nat.reduceAdd, Nat.reduceMul, Nat.reduceSub, Nat.reduceLT, Nat.reduceLeDiff, h23]
                obtain rfl := someInj hvh23
                exact hK1 _ ⟨rfl, (by first | rfl | (rw [h23]; rfl) | (simp only [h23, Bool.true_and, Bool.false_and, Bool.true_or, Bool.false_or, cond_true, cond_false]; done)), trivial⟩
               ·
                have hvh23 := cF hvh23 h23
                try simp only [go_sem, Nat.reduceEqDiff, reduceIte, Nat.reduceAdd, Nat.reduceMul, Nat.reduceSub, Nat.reduceLT, Nat.reduceLeDiff, h23]
                obtain rfl := someInj hvh23
                exact hK1 _ ⟨rfl, (by first | rfl | (rw [h23]; rfl) | (simp only [h23, Bool.true_and, Bool.false_and, Bool.true_or, Bool.false_or, cond_true, cond_false]; done)), trivial⟩
              ·
               refine xw_id ?_
               try simp only [go_sem, Nat.reduceEqDiff, reduceIte, Nat.reduceAdd, Nat.reduceMul, Nat.reduceSub, Nat.reduceLT, Nat.reduceLeDiff]
               refine hKK _ _ (Wk.refl _ _ _) ?_; clear hKK KK
               refine awp_ret1 ?_
               obtain rfl := someInj h0
               refine endW_i ?_
               refine end_ret0 rs3 (rfl) ?_
               try simp only [go_sem, Nat.reduceEqDiff, reduceIte, Nat.reduceAdd, Nat.reduceMul, Nat.reduceSub, Nat.reduceLT, Nat.reduceLeDiff, fz, nilS, packR, List.take_nil, List.take_length, List.length_map, List.length_append, cond_true, cond_false, Nat.ble_eq, ble_self]
               all_goals first | rfl | (simp only [go_sem, Nat.reduceEqDiff, reduceIte, Nat.reduceAdd, Nat.reduceMul, Nat.reduceSub, Nat.reduceLT, Nat.reduceLeDiff, fz, nilS, packR, List.take_nil, List.take_length, List.length_map, List.length_append, cond_true, cond_false, Nat.ble_eq, ble_self, List.map_append] <;> rfl)

end Go.AX.Z.TW
