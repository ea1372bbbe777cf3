/- A part of the proof: walks through the functions that the statement reaches. -/
import Derived.Test.YtpgmoamobacmbaaPrea
set_option linter.unusedVariables false
set_option linter.unusedSimpArgs false

/-! (TXW hotspotlaw29 one) -/

set_option linter.unusedSimpArgs false
set_option linter.unusedVariables false
set_option maxHeartbeats 4000000
set_option maxRecDepth 20000
namespace Go.AX.Z.TX
open Go.AX Go.Proofs
attribute [local irreducible] awp xw xop xcall gsp ob xd xdop xcallD seqQ loopQ blkQ endQ


theorem hotspotlaw29_one_p {r : A6vu} (h0 : hotspotlaw29_one = some r) : SndP K 27 [] (.agg (e_A6vu r)) := by
 refine SndP.of_walkW hC (Clean.agg (e_A6vu_clean _)) clean_nil (show K.P.funcs[27]? = some Try.f27 from Try.func27) rfl rfl (by decide +kernel) (Nat.le_of_ble_eq_true rfl) ?_
 unfold hotspotlaw29_one at h0
 refine awp_nr [] (fun _ => rfl) fun tz => ?_
 refine awp_regW fun KK hKK => ?_
 refine xw_id ?_
 try simp only [go_sem, Nat.reduceEqDiff, reduceIte, Nat.reduceAdd, Nat.reduceMul, Nat.reduceSub, Nat.reduceLT, Nat.reduceLeDiff]
 refine hKK _ _ (Wk.refl _ _ _) ?_; clear hKK KK
 refine awp_nr [0] (fun _ => rfl) fun tz => ?_
 refine awp_regW fun KK hKK => ?_
 refine xw_id ?_
 try simp only [go_sem, Nat.reduceEqDiff, reduceIte, Nat.reduceAdd, Nat.reduceMul, Nat.reduceSub, Nat.reduceLT, Nat.reduceLeDiff]
 refine hKK _ _ (Wk.refl _ _ _) ?_; clear hKK KK
 refine awp_ret1 ?_
 obtain rfl := someInj h0
 refine endW_i ?_
 refine end_ret0 rs27 (by simp only [go_sem, resV, resAll, resOf, packR, Nat.reduceEqDiff, reduceIte, Nat.reduceAdd, Nat.reduceMul, Nat.reduceSub, Nat.reduceLT, Nat.reduceLeDiff]; rfl) ?_
 try simp only [go_sem, Nat.reduceEqDiff, reduceIte, Nat.reduceAdd, Nat.reduceMul, Nat.reduceSub, Nat.reduceLT, Nat.reduceLeDiff, fz, nilS, packR, List.take_nil, List.take_length, List.length_map, List.length_append, cond_true, cond_false, Nat.ble_eq, ble_self]
 all_goals first | rfl | (simp only [go_sem, Nat.reduceEqDiff, reduceIte, Nat.reduceAdd, Nat.reduceMul, Nat.reduceSub, Nat.reduceLT, Nat.reduceLeDiff, fz, nilS, packR, List.take_nil, List.take_length, List.length_map, List.length_append, cond_true, cond_false, Nat.ble_eq, ble_self, List.map_append] <;> rfl)

end Go.AX.Z.TX

/-! (TXW hotspotlaw29 two) -/

set_option linter.unusedSimpArgs false
set_option linter.unusedVariables false
set_option maxHeartbeats 4000000
set_option maxRecDepth 20000
namespace Go.AX.Z.TX
open Go.AX Go.Proofs
attribute [local irreducible] awp xw xop xcall gsp ob xd xdop xcallD seqQ loopQ blkQ endQ


theorem hotspotlaw29_two_p {r : A6vu} (h0 : hotspotlaw29_two = some r) : SndP K 28 [] (.agg (e_A6vu r)) := by
 refine SndP.of_walkW hC (Clean.agg (e_A6vu_clean _)) clean_nil (show K.P.funcs[28]? = some Try.f28 from Try.func28) rfl rfl (by decide +kernel) (Nat.le_of_ble_eq_true rfl) ?_
 unfold hotspotlaw29_two at h0
 refine awp_nr [] (fun _ => rfl) fun tz => ?_
 refine awp_regW fun KK hKK => ?_
 refine xw_id ?_
 try simp only [go_sem, Nat.reduceEqDiff, reduceIte, Nat.reduceAdd, Nat.reduceMul, Nat.reduceSub, Nat.reduceLT, Nat.reduceLeDiff]
 refine hKK _ _ (Wk.refl _ _ _) ?_; clear hKK KK
 refine awp_nr [0] (fun _ => rfl) fun tz => ?_
 refine awp_regW fun KK hKK => ?_
 refine xw_id ?_
 try simp only [go_sem, Nat.reduceEqDiff, reduceIte, Nat.reduceAdd, Nat.reduceMul, Nat.reduceSub, Nat.reduceLT, Nat.reduceLeDiff]
 refine hKK _ _ (Wk.refl _ _ _) ?_; clear hKK KK
 refine awp_ret1 ?_
 obtain rfl := someInj h0
 refine endW_i ?_
 refine end_ret0 rs28 (by simp only [go_sem, resV, resAll, resOf, packR, Nat.reduceEqDiff, reduceIte, Nat.reduceAdd, Nat.reduceMul, Nat.reduceSub, Nat.reduceLT, Nat.reduceLeDiff]; rfl) ?_
 try simp only [go_sem, Nat.reduceEqDiff, reduceIte, Nat.reduceAdd, Nat.reduceMul, Nat.reduceSub, Nat.reduceLT, Nat.reduceLeDiff, fz, nilS, packR, List.take_nil, List.take_length, List.length_map, List.length_append, cond_true, cond_false, Nat.ble_eq, ble_self]
 all_goals first | rfl | (simp only [go_sem, Nat.reduceEqDiff, reduceIte, Nat.reduceAdd, Nat.reduceMul, Nat.reduceSub, Nat.reduceLT, Nat.reduceLeDiff, fz, nilS, packR, List.take_nil, List.take_length, List.length_map, List.length_append, cond_true, cond_false, Nat.ble_eq, ble_self, List.map_append] <;> rfl)

end Go.AX.Z.TX

/-! (TXW bytealg Compare) -/

set_option linter.unusedSimpArgs false
set_option linter.unusedVariables false
set_option maxHeartbeats 4000000
set_option maxRecDepth 20000
namespace Go.AX.Z.TX
open Go.AX Go.Proofs
attribute [local irreducible] awp xw xop xcall gsp ob xd xdop xcallD seqQ loopQ blkQ endQ

theorem bytealg_Compare_p (a0 : List Int) (a1 : List Int) {r : Int} (h0 : bytealg_Compare a0 a1 = some r) : SndP K 79 [(S_vu a0), (S_vu a1)] (vi r) := by
 cases h0
 exact cmp_p (show K.P.funcs[79]? = some Try.f79 from Try.func79) rfl rfl rfl rfl a0 a1

end Go.AX.Z.TX

/-! (TXW bytes Compare) -/

set_option linter.unusedSimpArgs false
set_option linter.unusedVariables false
set_option maxHeartbeats 4000000
set_option maxRecDepth 20000
namespace Go.AX.Z.TX
open Go.AX Go.Proofs
attribute [local irreducible] awp xw xop xcall gsp ob xd xdop xcallD seqQ loopQ blkQ endQ


theorem bytes_Compare_p (a0 : (List Int)) (a1 : (List Int)) {r : Int} (h0 : bytes_Compare a0 a1 = some r) : SndP K 70 [(S_vu a0), (S_vu a1)] (vi r) := by
 refine SndP.of_walkW hC (Clean.v _) (clean_cons (S_vu_clean _) (clean_cons (S_vu_clean _) clean_nil)) (show K.P.funcs[70]? = some Try.f70 from Try.func70) rfl rfl (by decide +kernel) (Nat.le_of_ble_eq_true rfl) ?_
 unfold bytes_Compare at h0
 refine awp_nr [0,1] (fun _ => rfl) fun tz => ?_
 refine awp_regW fun KK hKK => ?_
 refine xw_id ?_
 try simp only [go_sem, Nat.reduceEqDiff, reduceIte, Nat.reduceAdd, Nat.reduceMul, Nat.reduceSub, Nat.reduceLT, Nat.reduceLeDiff]
 refine hKK _ _ (Wk.refl _ _ _) ?_; clear hKK KK
 refine awp_nr [0,1] (fun _ => rfl) fun tz => ?_
 refine awp_regW fun KK hKK => ?_
 refine xw_id ?_
 obtain ⟨x3, bx3, h0⟩ := bnd h0
 try simp only [go_sem, Nat.reduceEqDiff, reduceIte, Nat.reduceAdd, Nat.reduceMul, Nat.reduceSub, Nat.reduceLT, Nat.reduceLeDiff]
 refine xcall_p (bytealg_Compare_p a0 a1 bx3) ?_; try dsimp only
 try refine xw_id ?_
 try simp only [go_sem, Nat.reduceEqDiff, reduceIte, Nat.reduceAdd, Nat.reduceMul, Nat.reduceSub, Nat.reduceLT, Nat.reduceLeDiff]
 refine hKK _ _ (Wk.refl _ _ _) ?_; clear hKK KK
 refine awp_ret1 ?_
 obtain rfl := someInj h0
 refine endW_i ?_
 refine end_ret0 rs70 (rfl) ?_
 try simp only [go_sem, Nat.reduceEqDiff, reduceIte, Nat.reduceAdd, Nat.reduceMul, Nat.reduceSub, Nat.reduceLT, Nat.reduceLeDiff, fz, nilS, packR, List.take_nil, List.take_length, List.length_map, List.length_append, cond_true, cond_false, Nat.ble_eq, ble_self]
 all_goals first | rfl | (simp only [go_sem, Nat.reduceEqDiff, reduceIte, Nat.reduceAdd, Nat.reduceMul, Nat.reduceSub, Nat.reduceLT, Nat.reduceLeDiff, fz, nilS, packR, List.take_nil, List.take_length, List.length_map, List.length_append, cond_true, cond_false, Nat.ble_eq, ble_self, List.map_append] <;> rfl)

end Go.AX.Z.TX

/-! (TXW address Compare) -/

set_option linter.unusedSimpArgs false
set_option linter.unusedVariables false
set_option maxHeartbeats 4000000
set_option maxRecDepth 20000
namespace Go.AX.Z.TX
open Go.AX Go.Proofs
attribute [local irreducible] awp xw xop xcall gsp ob xd xdop xcallD seqQ loopQ blkQ endQ


theorem address_Compare_p (a0 : A6vu) (a1 : A6vu) {r : Int} (h0 : address_Compare a0 a1 = some r) : SndP K 54 [(.agg (e_A6vu a0)), (.agg (e_A6vu a1))] (vi r) := by
 refine SndP.of_walkW hC (Clean.v _) (clean_cons (Clean.agg (e_A6vu_clean _)) (clean_cons (Clean.agg (e_A6vu_clean _)) clean_nil)) (show K.P.funcs[54]? = some Try.f54 from Try.func54) rfl rfl (by decide +kernel) (Nat.le_of_ble_eq_true rfl) ?_
 unfold address_Compare at h0
 refine awp_nr [0,1] (fun _ => rfl) fun tz => ?_
 refine awp_regW fun KK hKK => ?_
 refine xw_id ?_
 try simp only [go_sem, Nat.reduceEqDiff, reduceIte, Nat.reduceAdd, Nat.reduceMul, Nat.reduceSub, Nat.reduceLT, Nat.reduceLeDiff]
 refine hKK _ _ (Wk.refl _ _ _) ?_; clear hKK KK
 refine awp_nr [2,3] (fun _ => rfl) fun tz => ?_
 refine awp_regW fun KK hKK => ?_
 refine xw_id ?_
 obtain ⟨x3, bx3, h0⟩ := bnd h0
 try simp only [go_sem, Nat.reduceEqDiff, reduceIte, Nat.reduceAdd, Nat.reduceMul, Nat.reduceSub, Nat.reduceLT, Nat.reduceLeDiff, Int.reduceToNat, Int.reduceBEq, Int.reduceBNe, Int.reduceLT, Int.reduceLE, Int.reduceAdd, Int.reduceSub, Int.reduceMul, Int.sub_zero, Int.sub_zero]
 refine xcall_L (by first | (simp only [go_sem, fz, Nat.reduceEqDiff, reduceIte, Nat.reduceAdd, Nat.reduceMul, Nat.reduceSub, Nat.reduceLT, Nat.reduceLeDiff, Int.sub_zero, Int.sub_zero]; done) | (simp only [go_sem, fz, Nat.reduceEqDiff, reduceIte, Nat.reduceAdd, Nat.reduceMul, Nat.reduceSub, Nat.reduceLT, Nat.reduceLeDiff, Int.sub_zero, Int.sub_zero]; rfl) | (simp only [go_sem, fz, List.length_set, ble_self, take_set, cond_true, cond_false, Nat.reduceEqDiff, reduceIte, Nat.reduceAdd, Nat.reduceMul, Nat.reduceSub, Nat.reduceLT, Nat.reduceLeDiff, Int.sub_zero, Int.sub_zero]; done) | (simp only [go_sem, fz, List.length_set, ble_self, take_set, cond_true, cond_false, Nat.reduceEqDiff, reduceIte, Nat.reduceAdd, Nat.reduceMul, Nat.reduceSub, Nat.reduceLT, Nat.reduceLeDiff, Int.sub_zero, Int.sub_zero]; rfl)) (bytes_Compare_p [a0.a0, a0.a1, a0.a2, a0.a3, a0.a4, a0.a5] [a1.a0, a1.a1, a1.a2, a1.a3, a1.a4, a1.a5] bx3) (Bare.v _) ?_; try dsimp only
 try refine xw_id ?_
 try simp only [go_sem, Nat.reduceEqDiff, reduceIte, Nat.reduceAdd, Nat.reduceMul, Nat.reduceSub, Nat.reduceLT, Nat.reduceLeDiff, Int.reduceToNat, Int.reduceBEq, Int.reduceBNe, Int.reduceLT, Int.reduceLE, Int.reduceAdd, Int.reduceSub, Int.reduceMul, Int.sub_zero, Int.sub_zero]
 refine hKK _ _ (Wk.refl _ _ _) ?_; clear hKK KK
 refine awp_ret1 ?_
 obtain rfl := someInj h0
 refine endW_i ?_
 refine end_ret0 rs54 (rfl) ?_
 try simp only [go_sem, Nat.reduceEqDiff, reduceIte, Nat.reduceAdd, Nat.reduceMul, Nat.reduceSub, Nat.reduceLT, Nat.reduceLeDiff, fz, nilS, packR, List.take_nil, List.take_length, List.length_map, List.length_append, cond_true, cond_false, Nat.ble_eq, ble_self]
 all_goals first | rfl | (simp only [go_sem, Nat.reduceEqDiff, reduceIte, Nat.reduceAdd, Nat.reduceMul, Nat.reduceSub, Nat.reduceLT, Nat.reduceLeDiff, fz, nilS, packR, List.take_nil, List.take_length, List.length_map, List.length_append, cond_true, cond_false, Nat.ble_eq, ble_self, List.map_append] <;> rfl)

end Go.AX.Z.TX

/-! (TXW slices Grow byte byte) -/

set_option linter.unusedSimpArgs false
set_option linter.unusedVariables false
set_option maxHeartbeats 4000000
set_option maxRecDepth 20000
namespace Go.AX.Z.TX
open Go.AX Go.Proofs
attribute [local irreducible] awp xw xop xcall gsp ob xd xdop xcallD seqQ loopQ blkQ endQ

def slices_Grow_byte_byte_S0 (a0 : Int) (d9 : Unit) : AS :=
 { objs := (fun _ => .dead), next := 0, tmps := (upd (upd (fun _ => .unk) 0 vnil) 1 (vi a0)) }

theorem slices_Grow_byte_byte_r (a0 : Int) {r : (List Int)} (h0 : slices_Grow_byte_byte a0 = some r) : SndR K 71 [vnil, (vi a0)] (fun q => (.ref (q 0) 0 r.length 1)) [(List.map vu r)] := by
 refine SndR.of_walkW hC (show K.P.funcs[71]? = some Try.f71 from Try.func71) rfl rfl (by decide +kernel) (Nat.le_of_ble_eq_true rfl) ?_
 unfold slices_Grow_byte_byte at h0
 refine awp_nr [0,1] (fun _ => rfl) fun tz => ?_
 refine awp_regW fun KK hKK => ?_
 refine xw_id ?_
 try simp only [go_sem, Nat.reduceEqDiff, reduceIte, Nat.reduceAdd, Nat.reduceMul, Nat.reduceSub, Nat.reduceLT, Nat.reduceLeDiff]
 refine hKK _ _ (Wk.refl _ _ _) ?_; clear hKK KK
 refine awp_assoc ?_
 refine awp_nr [0,1] (fun _ => rfl) fun tz => ?_
 refine awp_regW fun KK hKK => ?_
 refine xw_id ?_
 try simp only [go_sem, Nat.reduceEqDiff, reduceIte, Nat.reduceAdd, Nat.reduceMul, Nat.reduceSub, Nat.reduceLT, Nat.reduceLeDiff]
 refine hKK _ _ (Wk.refl _ _ _) ?_; clear hKK KK
 obtain ⟨d9, hi1, h0⟩ := bnd h0
 refine awp_cut (fun z => d9 = z) (fun d9 : Unit => slices_Grow_byte_byte_S0 a0 d9) ?_ ?_
 ·
  refine awp_cond1 (b := (decide (a0 < 0))) rfl (fun h2 => ?_) (fun h2 => ?_)
  ·
   have hi1 := cT hi1 h2
   refine awp_nr1 [0,1] (fun _ => rfl) fun tz => ?_
   refine awp_reg1 fun KK hKK => ?_
   refine xw_id ?_
   cases hi1
  ·
   have hi1 := cF hi1 h2
   refine awp_skip1 ?_
   refine sq_n ?_
   obtain rfl := someInj hi1
   exact ⟨_, rfl, (Wk.canonD [] [] [] rfl trivial rfl tmO0 (tmAllU 1 (tmAllU 0 tmAll0 (Tm.v _)) (Tm.v _)))⟩
 ·
  rintro _ rfl
  clear hi1
  unfold slices_Grow_byte_byte_S0
  refine awp_assoc ?_
  refine awp_nr [0,1] (fun _ => rfl) fun tz => ?_
  refine awp_regW fun KK hKK => ?_
  refine xw_id ?_
  try simp only [go_sem, Nat.reduceEqDiff, reduceIte, Nat.reduceAdd, Nat.reduceMul, Nat.reduceSub, Nat.reduceLT, Nat.reduceLeDiff, Int.reduceToNat, Int.reduceBEq, Int.reduceBNe, Int.reduceLT, Int.reduceLE, Int.reduceAdd, Int.reduceSub, Int.reduceMul, capE]
  refine hKK _ _ (Wk.refl _ _ _) ?_; clear hKK KK
  refine awp_assoc ?_
  refine awp_nr [0,1] (fun _ => rfl) fun tz => ?_
  refine awp_regW fun KK hKK => ?_
  refine xw_id ?_
  try simp only [go_sem, Nat.reduceEqDiff, reduceIte, Nat.reduceAdd, Nat.reduceMul, Nat.reduceSub, Nat.reduceLT, Nat.reduceLeDiff]
  refine hKK _ _ (Wk.refl _ _ _) ?_; clear hKK KK
  refine awp_cond (b := (decide (0 < (IntKind.wrap .i64 (a0 - (IntKind.wrap .i64 0)))))) rfl (fun h3 => ?_) (fun h3 => ?_)
  ·
   have h0 := cT h0 h3
   refine awp_nr [0,1] (fun _ => rfl) fun tz => ?_
   refine awp_regW fun KK hKK => ?_
   refine xw_id ?_
   obtain ⟨x10, bx10, h0⟩ := bnd h0
   have bx10 := chk_some bx10
   simp only [Bool.and_eq_true, decide_eq_true_eq] at bx10
   obtain ⟨gx10_0, gx10_1⟩ := bx10
   have gs4 : rep (IntKind.wrap .i64 (a0 - (IntKind.wrap .i64 0))).toNat [vu 0] = List.map vu (List.replicate (IntKind.wrap .i64 (a0 - (IntKind.wrap .i64 0))).toNat 0) := rep_map vu 0 _
   have gs4n : ((IntKind.wrap .i64 (a0 - (IntKind.wrap .i64 0))) < 9223372036854775808) = True := eq_true (by omega)
   have gs5 : ((0 : Int) ≤ (((IntKind.wrap .i64 (a0 - (IntKind.wrap .i64 0))).toNat : Nat) : Int)) = True := eq_true (by omega)
   try simp only [go_sem, Nat.reduceEqDiff, reduceIte, Nat.reduceAdd, Nat.reduceMul, Nat.reduceSub, Nat.reduceLT, Nat.reduceLeDiff, Int.reduceToNat, Int.reduceBEq, Int.reduceBNe, Int.reduceLT, Int.reduceLE, Int.reduceAdd, Int.reduceSub, Int.reduceMul, capE, and_self, gx10_0, gx10_1, gs4, gs4n, appzE, Int.cast_ofNat_Int, Int.mul_one, Int.natCast_one, gs5]
   refine hKK _ _ (Wk.refl _ _ _) ?_; clear hKK KK
   refine awp_nr [0] (fun _ => rfl) fun tz => ?_
   refine awp_regW fun KK hKK => ?_
   refine xw_id ?_
   try simp only [go_sem, Nat.reduceEqDiff, reduceIte, Nat.reduceAdd, Nat.reduceMul, Nat.reduceSub, Nat.reduceLT, Nat.reduceLeDiff]
   have ht : List.map vu (List.replicate (IntKind.wrap .i64 (a0 - (IntKind.wrap .i64 0))).toNat 0) = List.map vu (List.take 0 (List.replicate (IntKind.wrap .i64 (a0 - (IntKind.wrap .i64 0))).toNat 0)) ++ List.map vu (List.drop 0 (List.replicate (IntKind.wrap .i64 (a0 - (IntKind.wrap .i64 0))).toNat 0)) := by rw [← List.map_append, List.take_append_drop]
   refine hKK _ _ (Wk.trim 15 ?_ ht) ?_
   ·
    simp only [upd_get, Nat.reduceEqDiff, reduceIte, if_true, if_false] <;> rfl
   clear hKK KK ht
   refine awp_ret1 ?_
   obtain rfl := someInj h0
   refine endW_i ?_
   refine end_ret0 rs71 (rfl) ?_
   refine Res.mk [] [some 15] rfl (resOU List.not_mem_nil (by simp only [upd_get, Nat.reduceEqDiff, reduceIte, if_true, if_false] <;> rfl) (TmL.of_eq (by first | rfl | (simp only [List.flatMap_append, List.flatMap_cons, List.flatMap_nil, List.map_append, List.map_cons, List.map_nil, List.append_nil, List.nil_append]; done) | (simp only [List.flatMap_append, List.flatMap_cons, List.flatMap_nil, List.map_append, List.map_cons, List.map_nil, List.append_nil, List.nil_append]; rfl)) (vu_clean _)) resO0) (Tm.refL rfl ?_)
   all_goals (first | rfl | (simp only [List.length_take]; omega) | (simp only [List.length_append, List.length_cons, List.length_nil, List.length_modify, List.length_set, Nat.zero_add]; done) | (simp only [List.length_append, List.length_take, List.length_drop, List.length_cons, List.length_nil, List.length_modify, List.length_set, Nat.zero_add]; omega) | (simp only [List.length_append, List.length_take, List.length_drop, List.length_cons, List.length_nil, List.length_modify, List.length_set, Nat.zero_add]; done) | omega)
  ·
   have h0 := cF h0 h3
   refine awp_skip ?_
   refine awp_nr [0] (fun _ => rfl) fun tz => ?_
   refine awp_regW fun KK hKK => ?_
   refine xw_id ?_
   try simp only [go_sem, Nat.reduceEqDiff, reduceIte, Nat.reduceAdd, Nat.reduceMul, Nat.reduceSub, Nat.reduceLT, Nat.reduceLeDiff]
   refine hKK _ _ (Wk.refl _ _ _) ?_; clear hKK KK
   refine awp_ret1 ?_
   obtain rfl := someInj h0
   refine endW_i ?_
   refine end_ret0 rs71 (rfl) ?_
   refine Res.mk [] [none] rfl (resON resO0) (Tm.thaw _ _ _)

theorem slices_Grow_byte_byte_m (a0 : Int) {r : (List Int)} (h0 : slices_Grow_byte_byte a0 = some r) : SndM K 71 [vnil, (vi a0)] (fun q => (.ref (q 0) 0 r.length 1)) [(List.map vu r)] :=
 fun hs => Snd.of_newM (RenM.ref 0 0 _ _) (rows_all_cons (vu_clean _) rows_all_nil) (clean_cons (Clean.v _) (clean_cons (Clean.v _) clean_nil)) (slices_Grow_byte_byte_r a0 h0) hs

theorem slices_Grow_byte_byte_e (a0 : Int) {r : (List Int)} (h0 : slices_Grow_byte_byte a0 = some r) (fr : Nat) (hs : HS) : SndE K 71 [vnil, (vi a0)] hs fr ⟨(fun q : Nat → Nat => (.ref (q 0) 0 r.length 1)) fun _ => fr, .new (List.map vu r)⟩ :=
 SndE.of_res (RenM.ref 0 0 _ _) (vu_clean _) (clean_cons (Clean.v _) (clean_cons (Clean.v _) clean_nil)) (fun a b h => by simp only [h]) (slices_Grow_byte_byte_r a0 h0) hs fr

theorem slices_Grow_byte_byte_p (a0 : Int) {r : (List Int)} (h0 : slices_Grow_byte_byte a0 = some r) : SndP K 71 [vnil, (vi a0)] (S_vu r) :=
 SndM.pure (slices_Grow_byte_byte_m a0 h0) (S_vu_clean _) (clean_cons (Clean.v _) (clean_cons (Clean.v _) clean_nil)) (by simp only [go_sem, newL_n, newL_c, upd_get, fz, nilS, cond_true, cond_false, List.drop_zero, List.take_length, List.length_map, ble_self, Nat.reduceEqDiff, reduceIte, Nat.reduceAdd, Nat.reduceMul, Nat.reduceSub, Nat.reduceLT, Nat.reduceLeDiff] <;> rfl)

end Go.AX.Z.TX

/-! (TXW slices Concat byte byte) -/

set_option linter.unusedSimpArgs false
set_option linter.unusedVariables false
set_option maxHeartbeats 4000000
set_option maxRecDepth 20000
namespace Go.AX.Z.TX
open Go.AX Go.Proofs
attribute [local irreducible] awp xw xop xcall gsp ob xd xdop xcallD seqQ loopQ blkQ endQ

def slices_Concat_byte_byte_S0 (a0 : (List (List Int))) (d6 : Int) : AS :=
 { objs := (fun _ => .dead), next := 0, tmps := (upd (upd (fun _ => .unk) 0 (.imm (List.map S_vu a0) a0.length)) 3 (vi d6)) }

def slices_Concat_byte_byte_S1 (a0 : (List (List Int))) (d7 : (Int × Int)) : AS :=
 { objs := (fun _ => .dead), next := 0, tmps := (upd (upd (upd (upd (upd (fun _ => .unk) 0 (.imm (List.map S_vu a0) a0.length)) 3 (vi d7.1)) 9 (.imm (List.map S_vu a0) a0.length)) 10 (vi (a0.length : Int))) 11 (vi d7.2)) }

def slices_Concat_byte_byte_S3 (d10 : (List Int)) : AS :=
 { objs := (upd (fun _ => .dead) 0 (.live (List.map vu d10))), next := 1, tmps := (upd (fun _ => .unk) 6 (.ref 0 0 ((d10).length) 1)) }

def slices_Concat_byte_byte_S4 (a0 : (List (List Int))) (d11 : (List Int × Int)) : AS :=
 { objs := (upd (fun _ => .dead) 0 (.live (List.map vu d11.1))), next := 1, tmps := (upd (upd (upd (upd (fun _ => .unk) 6 (.ref 0 0 ((d11.1).length) 1)) 25 (.imm (List.map S_vu a0) a0.length)) 26 (vi (a0.length : Int))) 27 (vi d11.2)) }

theorem slices_Concat_byte_byte_r (a0 : (List (List Int))) {r : (List Int)} (h0 : slices_Concat_byte_byte a0 = some r) : SndR K 55 [(S_S_vu a0)] (fun q => (.ref (q 0) 0 r.length 1)) [(List.map vu r)] := by
 refine SndR.of_walkW hC (show K.P.funcs[55]? = some Try.f55 from Try.func55) rfl rfl (by decide +kernel) (Nat.le_of_ble_eq_true rfl) ?_
 unfold slices_Concat_byte_byte at h0
 refine awp_nr [0] (fun _ => rfl) fun tz => ?_
 refine awp_regW fun KK hKK => ?_
 refine xw_id ?_
 try simp only [go_sem, Nat.reduceEqDiff, reduceIte, Nat.reduceAdd, Nat.reduceMul, Nat.reduceSub, Nat.reduceLT, Nat.reduceLeDiff]
 refine hKK _ _ (Wk.refl _ _ _) ?_; clear hKK KK
 refine awp_nr [0] (fun _ => rfl) fun tz => ?_
 refine awp_regW fun KK hKK => ?_
 refine xw_id ?_
 try simp only [go_sem, Nat.reduceEqDiff, reduceIte, Nat.reduceAdd, Nat.reduceMul, Nat.reduceSub, Nat.reduceLT, Nat.reduceLeDiff]
 refine hKK _ _ (Wk.refl _ _ _) ?_; clear hKK KK
 refine awp_assoc ?_
 refine awp_nr [0,3] (fun _ => rfl) fun tz => ?_
 refine awp_regW fun KK hKK => ?_
 refine xw_id ?_
 try simp only [go_sem, Nat.reduceEqDiff, reduceIte, Nat.reduceAdd, Nat.reduceMul, Nat.reduceSub, Nat.reduceLT, Nat.reduceLeDiff, Int.reduceToNat, Int.reduceBEq, Int.reduceBNe, Int.reduceLT, Int.reduceLE, Int.reduceAdd, Int.reduceSub, Int.reduceMul]
 refine hKK _ _ (Wk.refl _ _ _) ?_; clear hKK KK
 obtain ⟨d6, hi1, h0⟩ := bnd h0
 refine awp_cut (fun z => d6 = z) (fun d6 : Int => slices_Concat_byte_byte_S0 a0 d6) ?_ ?_
 ·
  refine awp_block1 ?_
  refine awp_loopS (fun n (d7 : (Int × Int)) => slices_Concat_byte_byte_L2 a0 n d7 = some d6) (fun d7 : (Int × Int) => slices_Concat_byte_byte_S1 a0 d7) big (0, 0) (Wk.canonD [] [] [] rfl trivial rfl tmO0 (tmAllU 11 (tmAllU 10 (tmAllU 9 (tmAllU 3 (tmAllU 0 tmAll0 (Tm.clean (Clean.imm (cS_vu _)))) (Tm.v _)) (Tm.clean (Clean.imm (cS_vu _)))) (Tm.v _)) (Tm.v _))) hi1 ?_
  clear hi1
  rintro n d7 hl3
  rcases n with _ | n2
  ·
   (rw [slices_Concat_byte_byte_L2] at hl3; cases hl3)
  ·
   rw [slices_Concat_byte_byte_L2] at hl3
   unfold slices_Concat_byte_byte_S1
   refine awp_nr [0,3,9,10,11] (fun _ => rfl) fun tz => ?_
   refine awp_regW fun KK hKK => ?_
   refine xw_id ?_
   try simp only [go_sem, Nat.reduceEqDiff, reduceIte, Nat.reduceAdd, Nat.reduceMul, Nat.reduceSub, Nat.reduceLT, Nat.reduceLeDiff]
   refine hKK _ _ (Wk.refl _ _ _) ?_; clear hKK KK
   refine awp_cond (b := (decide (d7.2 < (a0.length : Int)))) rfl (fun h4 => ?_) (fun h4 => ?_)
   ·
    have hl3 := cT hl3 h4
    refine awp_skip ?_
    refine awp_blockW ?_
    refine awp_nr [0,3,9,10,11] (fun _ => rfl) fun tz => ?_
    refine awp_regW fun KK hKK => ?_
    refine xw_id ?_
    obtain ⟨x8, bx8, hl3⟩ := bnd hl3
    obtain ⟨fx8_0, fx8_1, fx8_2, fx8_3⟩ := idx_some bx8
    have fx8_9 : (List.map S_vu a0)[(d7.2).toNat]? = some (S_vu x8) := by rw [List.getElem?_map, fx8_2]; rfl
    try simp only [go_sem, Nat.reduceEqDiff, reduceIte, Nat.reduceAdd, Nat.reduceMul, Nat.reduceSub, Nat.reduceLT, Nat.reduceLeDiff, fx8_0, fx8_1, fx8_2, fx8_9]
    refine hKK _ _ (Wk.refl _ _ _) ?_; clear hKK KK
    refine awp_nr [0,3,5,9,10,11] (fun _ => rfl) fun tz => ?_
    refine awp_regW fun KK hKK => ?_
    refine xw_id ?_
    try simp only [go_sem, Nat.reduceEqDiff, reduceIte, Nat.reduceAdd, Nat.reduceMul, Nat.reduceSub, Nat.reduceLT, Nat.reduceLeDiff, Int.reduceToNat, Int.reduceBEq, Int.reduceBNe, Int.reduceLT, Int.reduceLE, Int.reduceAdd, Int.reduceSub, Int.reduceMul, fx8_0, fx8_1, fx8_2, fx8_9]
    refine hKK _ _ (Wk.refl _ _ _) ?_; clear hKK KK
    refine awp_nr [0,3,9,10,11] (fun _ => rfl) fun tz => ?_
    refine awp_regW fun KK hKK => ?_
    refine xw_id ?_
    try simp only [go_sem, Nat.reduceEqDiff, reduceIte, Nat.reduceAdd, Nat.reduceMul, Nat.reduceSub, Nat.reduceLT, Nat.reduceLeDiff, fx8_0, fx8_1, fx8_2, fx8_9]
    refine hKK _ _ (Wk.refl _ _ _) ?_; clear hKK KK
    refine awp_cond1 (b := (decide ((IntKind.wrap .i64 (d7.1 + (x8.length : Int))) < 0))) rfl (fun h5 => ?_) (fun h5 => ?_)
    ·
     have hl3 := cT hl3 h5
     refine awp_nr1 [0,3,9,10,11] (fun _ => rfl) fun tz => ?_
     refine awp_reg1 fun KK hKK => ?_
     refine xw_id ?_
     cases hl3
    ·
     have hl3 := cF hl3 h5
     refine awp_skip1 ?_
     refine bq_n ?_
     refine seqW_i ?_
     refine awp_nr1 [0,3,9,10,11] (fun _ => rfl) fun tz => ?_
     refine awp_reg1 fun KK hKK => ?_
     refine xw_id ?_
     try simp only [go_sem, Nat.reduceEqDiff, reduceIte, Nat.reduceAdd, Nat.reduceMul, Nat.reduceSub, Nat.reduceLT, Nat.reduceLeDiff, fx8_0, fx8_1, fx8_2, fx8_9]
     refine hKK _ ?_; clear hKK KK
     refine lq_n ?_
     exact ⟨n2, (IntKind.wrap .i64 (d7.1 + (x8.length : Int)), IntKind.wrap .i64 (d7.2 + 1)), rfl, hl3, (Wk.canonD [] [] [] rfl trivial rfl tmO0 (tmAllU 11 (tmAllU 10 (tmAllU 9 (tmAllU 3 (tmAllU 0 tmAll0 (Tm.clean (Clean.imm (cS_vu _)))) (Tm.v _)) (Tm.clean (Clean.imm (cS_vu _)))) (Tm.v _)) (Tm.v _)))⟩
   ·
    have hl3 := cF hl3 h4
    refine awp_exit ?_
    refine lq_e ?_
    refine bq_e ?_
    refine sq_n ?_
    obtain rfl := someInj hl3
    exact ⟨_, rfl, (Wk.canonD [] [] [] rfl trivial rfl tmO0 (tmAllU 3 (tmAllU 0 tmAll0 (Tm.clean (Clean.imm (cS_vu _)))) (Tm.v _)))⟩
 ·
  rintro _ rfl
  clear hi1
  unfold slices_Concat_byte_byte_S0
  refine awp_nr [0,3] (fun _ => rfl) fun tz => ?_
  refine awp_regW fun KK hKK => ?_
  refine xw_id ?_
  obtain ⟨x9, bx9, h0⟩ := bnd h0
  try simp only [go_sem, Nat.reduceEqDiff, reduceIte, Nat.reduceAdd, Nat.reduceMul, Nat.reduceSub, Nat.reduceLT, Nat.reduceLeDiff]
  refine xcall_M (slices_Grow_byte_byte_m d6 bx9) ?_; try dsimp only
  try refine xw_id ?_
  try simp only [go_sem, Nat.reduceEqDiff, reduceIte, Nat.reduceAdd, Nat.reduceMul, Nat.reduceSub, Nat.reduceLT, Nat.reduceLeDiff]
  refine hKK _ _ (Wk.refl _ _ _) ?_; clear hKK KK
  refine awp_assoc ?_
  refine awp_nr [0,6] (fun _ => rfl) fun tz => ?_
  refine awp_regW fun KK hKK => ?_
  refine xw_id ?_
  try simp only [go_sem, Nat.reduceEqDiff, reduceIte, Nat.reduceAdd, Nat.reduceMul, Nat.reduceSub, Nat.reduceLT, Nat.reduceLeDiff, Int.reduceToNat, Int.reduceBEq, Int.reduceBNe, Int.reduceLT, Int.reduceLE, Int.reduceAdd, Int.reduceSub, Int.reduceMul]
  refine hKK _ _ (Wk.refl _ _ _) ?_; clear hKK KK
  obtain ⟨d10, hi6, h0⟩ := bnd h0
  refine awp_cut (fun z => d10 = z) (fun d10 : (List Int) => slices_Concat_byte_byte_S3 d10) ?_ ?_
  ·
   refine awp_block1 ?_
   refine awp_loopS (fun n (d11 : (List Int × Int)) => slices_Concat_byte_byte_L5 a0 n d11 = some d10) (fun d11 : (List Int × Int) => slices_Concat_byte_byte_S4 a0 d11) big (x9, 0) (by refine Wk.canonD [] [] [some 3] rfl trivial rfl (tmOU 0 tmO0 rfl List.not_mem_nil (by simp only [upd_get, Nat.reduceEqDiff, reduceIte, if_true, if_false] <;> rfl) (TmL.of_eq (by first | rfl | (simp only [List.flatMap_append, List.flatMap_cons, List.flatMap_nil, List.map_append, List.map_cons, List.map_nil, List.append_nil, List.nil_append]; done) | (simp only [List.flatMap_append, List.flatMap_cons, List.flatMap_nil, List.map_append, List.map_cons, List.map_nil, List.append_nil, List.nil_append]; rfl)) (vu_clean _))) (tmAllU 27 (tmAllU 26 (tmAllU 25 (tmAllU 6 tmAll0 (Tm.refL rfl ?_)) (Tm.clean (Clean.imm (cS_vu _)))) (Tm.v _)) (Tm.v _)); all_goals (first | rfl | (simp only [List.length_take]; omega) | (simp only [List.length_append, List.length_cons, List.length_nil, List.length_modify, List.length_set, Nat.zero_add]; done) | (simp only [List.length_append, List.length_take, List.length_drop, List.length_cons, List.length_nil, List.length_modify, List.length_set, Nat.zero_add]; omega) | (simp only [List.length_append, List.length_take, List.length_drop, List.length_cons, List.length_nil, List.length_modify, List.length_set, Nat.zero_add]; done) | omega)) hi6 ?_
   clear hi6
   rintro n d11 hl8
   rcases n with _ | n7
   ·
    (rw [slices_Concat_byte_byte_L5] at hl8; cases hl8)
   ·
    rw [slices_Concat_byte_byte_L5] at hl8
    unfold slices_Concat_byte_byte_S4
    refine awp_nr [6,25,26,27] (fun _ => rfl) fun tz => ?_
    refine awp_regW fun KK hKK => ?_
    refine xw_id ?_
    try simp only [go_sem, Nat.reduceEqDiff, reduceIte, Nat.reduceAdd, Nat.reduceMul, Nat.reduceSub, Nat.reduceLT, Nat.reduceLeDiff]
    refine hKK _ _ (Wk.refl _ _ _) ?_; clear hKK KK
    refine awp_cond (b := (decide (d11.2 < (a0.length : Int)))) rfl (fun h9 => ?_) (fun h9 => ?_)
    ·
     have hl8 := cT hl8 h9
     refine awp_skip ?_
     refine awp_blockW ?_
     refine awp_nr [6,25,26,27] (fun _ => rfl) fun tz => ?_
     refine awp_regW fun KK hKK => ?_
     refine xw_id ?_
     obtain ⟨x12, bx12, hl8⟩ := bnd hl8
     obtain ⟨fx12_0, fx12_1, fx12_2, fx12_3⟩ := idx_some bx12
     have fx12_9 : (List.map S_vu a0)[(d11.2).toNat]? = some (S_vu x12) := by rw [List.getElem?_map, fx12_2]; rfl
     try simp only [go_sem, Nat.reduceEqDiff, reduceIte, Nat.reduceAdd, Nat.reduceMul, Nat.reduceSub, Nat.reduceLT, Nat.reduceLeDiff, fx12_0, fx12_1, fx12_2, fx12_9]
     refine hKK _ _ (Wk.refl _ _ _) ?_; clear hKK KK
     refine awp_nr1 [6,8,25,26,27] (fun _ => rfl) fun tz => ?_
     refine awp_reg1 fun KK hKK => ?_
     refine xw_id ?_
     obtain ⟨x13, bx13, hl8⟩ := bnd hl8
     have bx13 := chk_some bx13
     simp only [Bool.and_eq_true, decide_eq_true_eq] at bx13
     have gx13_0 := bx13
     try simp only [go_sem, Nat.reduceEqDiff, reduceIte, Nat.reduceAdd, Nat.reduceMul, Nat.reduceSub, Nat.reduceLT, Nat.reduceLeDiff, Int.reduceToNat, Int.reduceBEq, Int.reduceBNe, Int.reduceLT, Int.reduceLE, Int.reduceAdd, Int.reduceSub, Int.reduceMul, fx12_0, fx12_1, fx12_2, fx12_9, gx13_0]
     refine hKK _ ?_; clear hKK KK
     refine bq_n ?_
     refine seqW_i ?_
     refine awp_nr1 [6,25,26,27] (fun _ => rfl) fun tz => ?_
     refine awp_reg1 fun KK hKK => ?_
     refine xw_id ?_
     try simp only [go_sem, Nat.reduceEqDiff, reduceIte, Nat.reduceAdd, Nat.reduceMul, Nat.reduceSub, Nat.reduceLT, Nat.reduceLeDiff, fx12_0, fx12_1, fx12_2, fx12_9]
     refine hKK _ ?_; clear hKK KK
     refine lq_n ?_
     exact ⟨n7, ((d11.1 ++ x12), IntKind.wrap .i64 (d11.2 + 1)), rfl, hl8, (by refine Wk.canonD [] [] [some 7] rfl trivial rfl (tmOU 0 tmO0 rfl List.not_mem_nil (by simp only [upd_get, Nat.reduceEqDiff, reduceIte, if_true, if_false] <;> rfl) (TmL.of_eq (by first | rfl | (simp only [List.flatMap_append, List.flatMap_cons, List.flatMap_nil, List.map_append, List.map_cons, List.map_nil, List.append_nil, List.nil_append]; done) | (simp only [List.flatMap_append, List.flatMap_cons, List.flatMap_nil, List.map_append, List.map_cons, List.map_nil, List.append_nil, List.nil_append]; rfl)) (vu_clean _))) (tmAllU 27 (tmAllU 26 (tmAllU 25 (tmAllU 6 tmAll0 (Tm.refL rfl ?_)) (Tm.clean (Clean.imm (cS_vu _)))) (Tm.v _)) (Tm.v _)); all_goals (first | rfl | (simp only [List.length_take]; omega) | (simp only [List.length_append, List.length_cons, List.length_nil, List.length_modify, List.length_set, Nat.zero_add]; done) | (simp only [List.length_append, List.length_take, List.length_drop, List.length_cons, List.length_nil, List.length_modify, List.length_set, Nat.zero_add]; omega) | (simp only [List.length_append, List.length_take, List.length_drop, List.length_cons, List.length_nil, List.length_modify, List.length_set, Nat.zero_add]; done) | omega))⟩
    ·
     have hl8 := cF hl8 h9
     refine awp_exit ?_
     refine lq_e ?_
     refine bq_e ?_
     refine sq_n ?_
     obtain rfl := someInj hl8
     exact ⟨_, rfl, (by refine Wk.canonD [] [] [some 0] rfl trivial rfl (tmOU 0 tmO0 rfl List.not_mem_nil (by simp only [upd_get, Nat.reduceEqDiff, reduceIte, if_true, if_false] <;> rfl) (TmL.of_eq (by first | rfl | (simp only [List.flatMap_append, List.flatMap_cons, List.flatMap_nil, List.map_append, List.map_cons, List.map_nil, List.append_nil, List.nil_append]; done) | (simp only [List.flatMap_append, List.flatMap_cons, List.flatMap_nil, List.map_append, List.map_cons, List.map_nil, List.append_nil, List.nil_append]; rfl)) (vu_clean _))) (tmAllU 6 tmAll0 (Tm.refL rfl ?_)); all_goals (first | rfl | (simp only [List.length_take]; omega) | (simp only [List.length_append, List.length_cons, List.length_nil, List.length_modify, List.length_set, Nat.zero_add]; done) | (simp only [List.length_append, List.length_take, List.length_drop, List.length_cons, List.length_nil, List.length_modify, List.length_set, Nat.zero_add]; omega) | (simp only [List.length_append, List.length_take, List.length_drop, List.length_cons, List.length_nil, List.length_modify, List.length_set, Nat.zero_add]; done) | omega))⟩
  ·
   rintro _ rfl
   clear hi6
   unfold slices_Concat_byte_byte_S3
   refine awp_nr [6] (fun _ => rfl) fun tz => ?_
   refine awp_regW fun KK hKK => ?_
   refine xw_id ?_
   try simp only [go_sem, Nat.reduceEqDiff, reduceIte, Nat.reduceAdd, Nat.reduceMul, Nat.reduceSub, Nat.reduceLT, Nat.reduceLeDiff]
   refine hKK _ _ (Wk.refl _ _ _) ?_; clear hKK KK
   refine awp_ret1 ?_
   obtain rfl := someInj h0
   refine endW_i ?_
   refine end_ret0 rs55 (rfl) ?_
   refine Res.mk [] [some 0] rfl (resOU List.not_mem_nil (by simp only [upd_get, Nat.reduceEqDiff, reduceIte, if_true, if_false] <;> rfl) (TmL.of_eq (by first | rfl | (simp only [List.flatMap_append, List.flatMap_cons, List.flatMap_nil, List.map_append, List.map_cons, List.map_nil, List.append_nil, List.nil_append]; done) | (simp only [List.flatMap_append, List.flatMap_cons, List.flatMap_nil, List.map_append, List.map_cons, List.map_nil, List.append_nil, List.nil_append]; rfl)) (vu_clean _)) resO0) (Tm.refL rfl ?_)
   all_goals (first | rfl | (simp only [List.length_take]; omega) | (simp only [List.length_append, List.length_cons, List.length_nil, List.length_modify, List.length_set, Nat.zero_add]; done) | (simp only [List.length_append, List.length_take, List.length_drop, List.length_cons, List.length_nil, List.length_modify, List.length_set, Nat.zero_add]; omega) | (simp only [List.length_append, List.length_take, List.length_drop, List.length_cons, List.length_nil, List.length_modify, List.length_set, Nat.zero_add]; done) | omega)

theorem slices_Concat_byte_byte_m (a0 : (List (List Int))) {r : (List Int)} (h0 : slices_Concat_byte_byte a0 = some r) : SndM K 55 [(S_S_vu a0)] (fun q => (.ref (q 0) 0 r.length 1)) [(List.map vu r)] :=
 fun hs => Snd.of_newM (RenM.ref 0 0 _ _) (rows_all_cons (vu_clean _) rows_all_nil) (clean_cons (S_S_vu_clean _) clean_nil) (slices_Concat_byte_byte_r a0 h0) hs

theorem slices_Concat_byte_byte_e (a0 : (List (List Int))) {r : (List Int)} (h0 : slices_Concat_byte_byte a0 = some r) (fr : Nat) (hs : HS) : SndE K 55 [(S_S_vu a0)] hs fr ⟨(fun q : Nat → Nat => (.ref (q 0) 0 r.length 1)) fun _ => fr, .new (List.map vu r)⟩ :=
 SndE.of_res (RenM.ref 0 0 _ _) (vu_clean _) (clean_cons (S_S_vu_clean _) clean_nil) (fun a b h => by simp only [h]) (slices_Concat_byte_byte_r a0 h0) hs fr

theorem slices_Concat_byte_byte_p (a0 : (List (List Int))) {r : (List Int)} (h0 : slices_Concat_byte_byte a0 = some r) : SndP K 55 [(S_S_vu a0)] (S_vu r) :=
 SndM.pure (slices_Concat_byte_byte_m a0 h0) (S_vu_clean _) (clean_cons (S_S_vu_clean _) clean_nil) (by simp only [go_sem, newL_n, newL_c, upd_get, fz, nilS, cond_true, cond_false, List.drop_zero, List.take_length, List.length_map, ble_self, Nat.reduceEqDiff, reduceIte, Nat.reduceAdd, Nat.reduceMul, Nat.reduceSub, Nat.reduceLT, Nat.reduceLeDiff] <;> rfl)

end Go.AX.Z.TX

/-! (TXW derive two) -/

set_option linter.unusedSimpArgs false
set_option linter.unusedVariables false
set_option maxHeartbeats 4000000
set_option maxRecDepth 20000
namespace Go.AX.Z.TX
open Go.AX Go.Proofs
attribute [local irreducible] awp xw xop xcall gsp ob xd xdop xcallD seqQ loopQ blkQ endQ


theorem derive_two_r (a0 : Int) {r : (List Int)} (h0 : derive_two a0 = some r) : SndR K 75 [(vi a0)] (fun q => (.ref (q 0) 0 r.length 1)) [(List.map vu r)] := by
 refine SndR.of_walkW hC (show K.P.funcs[75]? = some Try.f75 from Try.func75) rfl rfl (by decide +kernel) (Nat.le_of_ble_eq_true rfl) ?_
 unfold derive_two at h0
 refine awp_nr [0] (fun _ => rfl) fun tz => ?_
 refine awp_regW fun KK hKK => ?_
 refine xw_id ?_
 try simp only [go_sem, Nat.reduceEqDiff, reduceIte, Nat.reduceAdd, Nat.reduceMul, Nat.reduceSub, Nat.reduceLT, Nat.reduceLeDiff]
 refine hKK _ _ (Wk.refl _ _ _) ?_; clear hKK KK
 refine awp_nr [0] (fun _ => rfl) fun tz => ?_
 refine awp_regW fun KK hKK => ?_
 refine xw_id ?_
 try simp only [go_sem, Nat.reduceEqDiff, reduceIte, Nat.reduceAdd, Nat.reduceMul, Nat.reduceSub, Nat.reduceLT, Nat.reduceLeDiff, Int.reduceToNat, Int.reduceBEq, Int.reduceBNe, Int.reduceLT, Int.reduceLE, Int.reduceAdd, Int.reduceSub, Int.reduceMul]
 refine hKK _ _ (Wk.refl _ _ _) ?_; clear hKK KK
 refine awp_ret1 ?_
 obtain rfl := someInj h0
 refine endW_i ?_
 refine end_ret0 rs75 (rfl) ?_
 refine Res.mk [] [some 6] rfl (resOU List.not_mem_nil (by simp only [upd_get, Nat.reduceEqDiff, reduceIte, if_true, if_false] <;> rfl) (TmL.of_eq (by first | rfl | (simp only [List.flatMap_append, List.flatMap_cons, List.flatMap_nil, List.map_append, List.map_cons, List.map_nil, List.append_nil, List.nil_append]; done) | (simp only [List.flatMap_append, List.flatMap_cons, List.flatMap_nil, List.map_append, List.map_cons, List.map_nil, List.append_nil, List.nil_append]; rfl)) (vu_clean _)) resO0) (Tm.refL rfl ?_)
 all_goals (first | rfl | (simp only [List.length_take]; omega) | (simp only [List.length_append, List.length_cons, List.length_nil, List.length_modify, List.length_set, Nat.zero_add]; done) | (simp only [List.length_append, List.length_take, List.length_drop, List.length_cons, List.length_nil, List.length_modify, List.length_set, Nat.zero_add]; omega) | (simp only [List.length_append, List.length_take, List.length_drop, List.length_cons, List.length_nil, List.length_modify, List.length_set, Nat.zero_add]; done) | omega)

theorem derive_two_m (a0 : Int) {r : (List Int)} (h0 : derive_two a0 = some r) : SndM K 75 [(vi a0)] (fun q => (.ref (q 0) 0 r.length 1)) [(List.map vu r)] :=
 fun hs => Snd.of_newM (RenM.ref 0 0 _ _) (rows_all_cons (vu_clean _) rows_all_nil) (clean_cons (Clean.v _) clean_nil) (derive_two_r a0 h0) hs

theorem derive_two_e (a0 : Int) {r : (List Int)} (h0 : derive_two a0 = some r) (fr : Nat) (hs : HS) : SndE K 75 [(vi a0)] hs fr ⟨(fun q : Nat → Nat => (.ref (q 0) 0 r.length 1)) fun _ => fr, .new (List.map vu r)⟩ :=
 SndE.of_res (RenM.ref 0 0 _ _) (vu_clean _) (clean_cons (Clean.v _) clean_nil) (fun a b h => by simp only [h]) (derive_two_r a0 h0) hs fr

theorem derive_two_p (a0 : Int) {r : (List Int)} (h0 : derive_two a0 = some r) : SndP K 75 [(vi a0)] (S_vu r) :=
 SndM.pure (derive_two_m a0 h0) (S_vu_clean _) (clean_cons (Clean.v _) clean_nil) (by simp only [go_sem, newL_n, newL_c, upd_get, fz, nilS, cond_true, cond_false, List.drop_zero, List.take_length, List.length_map, ble_self, Nat.reduceEqDiff, reduceIte, Nat.reduceAdd, Nat.reduceMul, Nat.reduceSub, Nat.reduceLT, Nat.reduceLeDiff] <;> rfl)

end Go.AX.Z.TX

/-! (TXW derive join) -/

set_option linter.unusedSimpArgs false
set_option linter.unusedVariables false
set_option maxHeartbeats 4000000
set_option maxRecDepth 20000
namespace Go.AX.Z.TX
open Go.AX Go.Proofs
attribute [local irreducible] awp xw xop xcall gsp ob xd xdop xcallD seqQ loopQ blkQ endQ

def derive_join_S0 (d18 : (List Int)) : AS :=
 { objs := (upd (fun _ => .dead) 0 (.live (List.map vu d18))), next := 1, tmps := (upd (fun _ => .unk) 2 (.ref 0 0 ((d18).length) 1)) }

def derive_join_S1 (a0 : (List (List Int))) (d19 : (List Int × Int)) : AS :=
 { objs := (upd (fun _ => .dead) 0 (.live (List.map vu d19.1))), next := 1, tmps := (upd (upd (upd (upd (fun _ => .unk) 2 (.ref 0 0 ((d19.1).length) 1)) 5 (.imm (List.map S_vu a0) a0.length)) 6 (vi (a0.length : Int))) 7 (vi d19.2)) }

theorem derive_join_r (a0 : (List (List Int))) {r : (List Int)} (h0 : derive_join a0 = some r) : SndR K 74 [(S_S_vu a0)] (fun q => (.ref (q 0) 0 r.length 1)) [(List.map vu r)] := by
 refine SndR.of_walkW hC (show K.P.funcs[74]? = some Try.f74 from Try.func74) rfl rfl (by decide +kernel) (Nat.le_of_ble_eq_true rfl) ?_
 unfold derive_join at h0
 refine awp_nr [0] (fun _ => rfl) fun tz => ?_
 refine awp_regW fun KK hKK => ?_
 refine xw_id ?_
 try simp only [go_sem, Nat.reduceEqDiff, reduceIte, Nat.reduceAdd, Nat.reduceMul, Nat.reduceSub, Nat.reduceLT, Nat.reduceLeDiff]
 refine hKK _ _ (Wk.refl _ _ _) ?_; clear hKK KK
 refine awp_assoc ?_
 refine awp_nr [0,2] (fun _ => rfl) fun tz => ?_
 refine awp_regW fun KK hKK => ?_
 refine xw_id ?_
 try simp only [go_sem, Nat.reduceEqDiff, reduceIte, Nat.reduceAdd, Nat.reduceMul, Nat.reduceSub, Nat.reduceLT, Nat.reduceLeDiff, Int.reduceToNat, Int.reduceBEq, Int.reduceBNe, Int.reduceLT, Int.reduceLE, Int.reduceAdd, Int.reduceSub, Int.reduceMul]
 refine hKK _ _ (Wk.refl _ _ _) ?_; clear hKK KK
 obtain ⟨d18, hi1, h0⟩ := bnd h0
 refine awp_cut (fun z => d18 = z) (fun d18 : (List Int) => derive_join_S0 d18) ?_ ?_
 ·
  refine awp_block1 ?_
  refine awp_loopS (fun n (d19 : (List Int × Int)) => derive_join_L2 a0 n d19 = some d18) (fun d19 : (List Int × Int) => derive_join_S1 a0 d19) big ([], 0) (Wk.canonD [] [] [none] rfl trivial rfl (tmON 0 tmO0 rfl) (tmAllU 7 (tmAllU 6 (tmAllU 5 (tmAllU 2 tmAll0 (Tm.thaw _ _ _)) (Tm.clean (Clean.imm (cS_vu _)))) (Tm.v _)) (Tm.v _))) hi1 ?_
  clear hi1
  rintro n d19 hl3
  rcases n with _ | n2
  ·
   (rw [derive_join_L2] at hl3; cases hl3)
  ·
   rw [derive_join_L2] at hl3
   unfold derive_join_S1
   refine awp_nr [2,5,6,7] (fun _ => rfl) fun tz => ?_
   refine awp_regW fun KK hKK => ?_
   refine xw_id ?_
   try simp only [go_sem, Nat.reduceEqDiff, reduceIte, Nat.reduceAdd, Nat.reduceMul, Nat.reduceSub, Nat.reduceLT, Nat.reduceLeDiff]
   refine hKK _ _ (Wk.refl _ _ _) ?_; clear hKK KK
   refine awp_cond (b := (decide (d19.2 < (a0.length : Int)))) rfl (fun h4 => ?_) (fun h4 => ?_)
   ·
    have hl3 := cT hl3 h4
    refine awp_skip ?_
    refine awp_blockW ?_
    refine awp_nr [2,5,6,7] (fun _ => rfl) fun tz => ?_
    refine awp_regW fun KK hKK => ?_
    refine xw_id ?_
    obtain ⟨x20, bx20, hl3⟩ := bnd hl3
    obtain ⟨fx20_0, fx20_1, fx20_2, fx20_3⟩ := idx_some bx20
    have fx20_9 : (List.map S_vu a0)[(d19.2).toNat]? = some (S_vu x20) := by rw [List.getElem?_map, fx20_2]; rfl
    try simp only [go_sem, Nat.reduceEqDiff, reduceIte, Nat.reduceAdd, Nat.reduceMul, Nat.reduceSub, Nat.reduceLT, Nat.reduceLeDiff, fx20_0, fx20_1, fx20_2, fx20_9]
    refine hKK _ _ (Wk.refl _ _ _) ?_; clear hKK KK
    refine awp_nr1 [2,4,5,6,7] (fun _ => rfl) fun tz => ?_
    refine awp_reg1 fun KK hKK => ?_
    refine xw_id ?_
    obtain ⟨x21, bx21, hl3⟩ := bnd hl3
    have bx21 := chk_some bx21
    simp only [Bool.and_eq_true, decide_eq_true_eq] at bx21
    have gx21_0 := bx21
    try simp only [go_sem, Nat.reduceEqDiff, reduceIte, Nat.reduceAdd, Nat.reduceMul, Nat.reduceSub, Nat.reduceLT, Nat.reduceLeDiff, Int.reduceToNat, Int.reduceBEq, Int.reduceBNe, Int.reduceLT, Int.reduceLE, Int.reduceAdd, Int.reduceSub, Int.reduceMul, fx20_0, fx20_1, fx20_2, fx20_9, gx21_0]
    refine hKK _ ?_; clear hKK KK
    refine bq_n ?_
    refine seqW_i ?_
    refine awp_nr1 [2,5,6,7] (fun _ => rfl) fun tz => ?_
    refine awp_reg1 fun KK hKK => ?_
    refine xw_id ?_
    try simp only [go_sem, Nat.reduceEqDiff, reduceIte, Nat.reduceAdd, Nat.reduceMul, Nat.reduceSub, Nat.reduceLT, Nat.reduceLeDiff, fx20_0, fx20_1, fx20_2, fx20_9]
    refine hKK _ ?_; clear hKK KK
    refine lq_n ?_
    exact ⟨n2, ((d19.1 ++ x20), IntKind.wrap .i64 (d19.2 + 1)), rfl, hl3, (by refine Wk.canonD [] [] [some 7] rfl trivial rfl (tmOU 0 tmO0 rfl List.not_mem_nil (by simp only [upd_get, Nat.reduceEqDiff, reduceIte, if_true, if_false] <;> rfl) (TmL.of_eq (by first | rfl | (simp only [List.flatMap_append, List.flatMap_cons, List.flatMap_nil, List.map_append, List.map_cons, List.map_nil, List.append_nil, List.nil_append]; done) | (simp only [List.flatMap_append, List.flatMap_cons, List.flatMap_nil, List.map_append, List.map_cons, List.map_nil, List.append_nil, List.nil_append]; rfl)) (vu_clean _))) (tmAllU 7 (tmAllU 6 (tmAllU 5 (tmAllU 2 tmAll0 (Tm.refL rfl ?_)) (Tm.clean (Clean.imm (cS_vu _)))) (Tm.v _)) (Tm.v _)); all_goals (first | rfl | (simp only [List.length_take]; omega) | (simp only [List.length_append, List.length_cons, List.length_nil, List.length_modify, List.length_set, Nat.zero_add]; done) | (simp only [List.length_append, List.length_take, List.length_drop, List.length_cons, List.length_nil, List.length_modify, List.length_set, Nat.zero_add]; omega) | (simp only [List.length_append, List.length_take, List.length_drop, List.length_cons, List.length_nil, List.length_modify, List.length_set, Nat.zero_add]; done) | omega))⟩
   ·
    have hl3 := cF hl3 h4
    refine awp_exit ?_
    refine lq_e ?_
    refine bq_e ?_
    refine sq_n ?_
    obtain rfl := someInj hl3
    exact ⟨_, rfl, (by refine Wk.canonD [] [] [some 0] rfl trivial rfl (tmOU 0 tmO0 rfl List.not_mem_nil (by simp only [upd_get, Nat.reduceEqDiff, reduceIte, if_true, if_false] <;> rfl) (TmL.of_eq (by first | rfl | (simp only [List.flatMap_append, List.flatMap_cons, List.flatMap_nil, List.map_append, List.map_cons, List.map_nil, List.append_nil, List.nil_append]; done) | (simp only [List.flatMap_append, List.flatMap_cons, List.flatMap_nil, List.map_append, List.map_cons, List.map_nil, List.append_nil, List.nil_append]; rfl)) (vu_clean _))) (tmAllU 2 tmAll0 (Tm.refL rfl ?_)); all_goals (first | rfl | (simp only [List.length_take]; omega) | (simp only [List.length_append, List.length_cons, List.length_nil, List.length_modify, List.length_set, Nat.zero_add]; done) | (simp only [List.length_append, List.length_take, List.length_drop, List.length_cons, List.length_nil, List.length_modify, List.length_set, Nat.zero_add]; omega) | (simp only [List.length_append, List.length_take, List.length_drop, List.length_cons, List.length_nil, List.length_modify, List.length_set, Nat.zero_add]; done) | omega))⟩
 ·
  rintro _ rfl
  clear hi1
  unfold derive_join_S0
  refine awp_nr [2] (fun _ => rfl) fun tz => ?_
  refine awp_regW fun KK hKK => ?_
  refine xw_id ?_
  try simp only [go_sem, Nat.reduceEqDiff, reduceIte, Nat.reduceAdd, Nat.reduceMul, Nat.reduceSub, Nat.reduceLT, Nat.reduceLeDiff]
  refine hKK _ _ (Wk.refl _ _ _) ?_; clear hKK KK
  refine awp_ret1 ?_
  obtain rfl := someInj h0
  refine endW_i ?_
  refine end_ret0 rs74 (rfl) ?_
  refine Res.mk [] [some 0] rfl (resOU List.not_mem_nil (by simp only [upd_get, Nat.reduceEqDiff, reduceIte, if_true, if_false] <;> rfl) (TmL.of_eq (by first | rfl | (simp only [List.flatMap_append, List.flatMap_cons, List.flatMap_nil, List.map_append, List.map_cons, List.map_nil, List.append_nil, List.nil_append]; done) | (simp only [List.flatMap_append, List.flatMap_cons, List.flatMap_nil, List.map_append, List.map_cons, List.map_nil, List.append_nil, List.nil_append]; rfl)) (vu_clean _)) resO0) (Tm.refL rfl ?_)
  all_goals (first | rfl | (simp only [List.length_take]; omega) | (simp only [List.length_append, List.length_cons, List.length_nil, List.length_modify, List.length_set, Nat.zero_add]; done) | (simp only [List.length_append, List.length_take, List.length_drop, List.length_cons, List.length_nil, List.length_modify, List.length_set, Nat.zero_add]; omega) | (simp only [List.length_append, List.length_take, List.length_drop, List.length_cons, List.length_nil, List.length_modify, List.length_set, Nat.zero_add]; done) | omega)

theorem derive_join_m (a0 : (List (List Int))) {r : (List Int)} (h0 : derive_join a0 = some r) : SndM K 74 [(S_S_vu a0)] (fun q => (.ref (q 0) 0 r.length 1)) [(List.map vu r)] :=
 fun hs => Snd.of_newM (RenM.ref 0 0 _ _) (rows_all_cons (vu_clean _) rows_all_nil) (clean_cons (S_S_vu_clean _) clean_nil) (derive_join_r a0 h0) hs

theorem derive_join_e (a0 : (List (List Int))) {r : (List Int)} (h0 : derive_join a0 = some r) (fr : Nat) (hs : HS) : SndE K 74 [(S_S_vu a0)] hs fr ⟨(fun q : Nat → Nat => (.ref (q 0) 0 r.length 1)) fun _ => fr, .new (List.map vu r)⟩ :=
 SndE.of_res (RenM.ref 0 0 _ _) (vu_clean _) (clean_cons (S_S_vu_clean _) clean_nil) (fun a b h => by simp only [h]) (derive_join_r a0 h0) hs fr

theorem derive_join_p (a0 : (List (List Int))) {r : (List Int)} (h0 : derive_join a0 = some r) : SndP K 74 [(S_S_vu a0)] (S_vu r) :=
 SndM.pure (derive_join_m a0 h0) (S_vu_clean _) (clean_cons (S_S_vu_clean _) clean_nil) (by simp only [go_sem, newL_n, newL_c, upd_get, fz, nilS, cond_true, cond_false, List.drop_zero, List.take_length, List.length_map, ble_self, Nat.reduceEqDiff, reduceIte, Nat.reduceAdd, Nat.reduceMul, Nat.reduceSub, Nat.reduceLT, Nat.reduceLeDiff] <;> rfl)

end Go.AX.Z.TX

/-! (TXW derive Input) -/

set_option linter.unusedSimpArgs false
set_option linter.unusedVariables false
set_option maxHeartbeats 4000000
set_option maxRecDepth 20000
namespace Go.AX.Z.TX
open Go.AX Go.Proofs
attribute [local irreducible] awp xw xop xcall gsp ob xd xdop xcallD seqQ loopQ blkQ endQ

def derive_Input_S0 (x18 : (List Int)) : AS :=
 { objs := (upd (fun _ => .dead) 0 (.live (List.map vu x18))), next := 1, tmps := (upd (fun _ => .unk) 6 (.ref 0 0 x18.length 1)) }

theorem derive_Input_r (a0 : (List Int)) (a1 : Int) {r : (List Int)} (h0 : derive_Input a0 a1 = some r) : SndR K 65 [(.v (.string ⟨#[112, 97, 115, 115, 119, 111, 114, 100]⟩)), (S_vu a0), (vi a1)] (fun q => (.ref (q 0) 0 r.length 1)) [(List.map vu r)] := by
 refine SndR.of_walkW hC (show K.P.funcs[65]? = some Try.f65 from Try.func65) rfl rfl (by decide +kernel) (Nat.le_of_ble_eq_true rfl) ?_
 unfold derive_Input at h0
 refine awp_nr [0,1,2] (fun _ => rfl) fun tz => ?_
 refine awp_regW fun KK hKK => ?_
 refine xw_id ?_
 try simp only [go_sem, Nat.reduceEqDiff, reduceIte, Nat.reduceAdd, Nat.reduceMul, Nat.reduceSub, Nat.reduceLT, Nat.reduceLeDiff]
 refine hKK _ _ (Wk.refl _ _ _) ?_; clear hKK KK
 refine awp_nr [0,1,2] (fun _ => rfl) fun tz => ?_
 refine awp_regW fun KK hKK => ?_
 refine xw_id ?_
 have gs1 : (⟨#[112, 97, 115, 115, 119, 111, 114, 100]⟩ : ByteArray).size = 8 := by rfl
 have gs2 : sbE K.P 9 29 (.v (.string ⟨#[112, 97, 115, 115, 119, 111, 114, 100]⟩)) = some (.imm (List.map vu [112, 97, 115, 115, 119, 111, 114, 100]) 8) := by kernel_rfl
 obtain ⟨x16, bx16, h0⟩ := bnd h0
 try simp only [go_sem, Nat.reduceEqDiff, reduceIte, Nat.reduceAdd, Nat.reduceMul, Nat.reduceSub, Nat.reduceLT, Nat.reduceLeDiff, Int.reduceToNat, Int.reduceBEq, Int.reduceBNe, Int.reduceLT, Int.reduceLE, Int.reduceAdd, Int.reduceSub, Int.reduceMul, gs1, gs2]
 refine xcall_M (derive_two_m (a0.length : Int) bx16) ?_; try dsimp only
 try refine xw_id ?_
 obtain ⟨x17, bx17, h0⟩ := bnd h0
 try simp only [go_sem, Nat.reduceEqDiff, reduceIte, Nat.reduceAdd, Nat.reduceMul, Nat.reduceSub, Nat.reduceLT, Nat.reduceLeDiff, Int.reduceToNat, Int.reduceBEq, Int.reduceBNe, Int.reduceLT, Int.reduceLE, Int.reduceAdd, Int.reduceSub, Int.reduceMul, gs1, gs2]
 refine xcall_M (derive_two_m a1 bx17) ?_; try dsimp only
 try refine xw_id ?_
 obtain ⟨x18, bx18, h0⟩ := bnd h0
 try simp only [go_sem, Nat.reduceEqDiff, reduceIte, Nat.reduceAdd, Nat.reduceMul, Nat.reduceSub, Nat.reduceLT, Nat.reduceLeDiff, Int.reduceToNat, Int.reduceBEq, Int.reduceBNe, Int.reduceLT, Int.reduceLE, Int.reduceAdd, Int.reduceSub, Int.reduceMul, gs1, gs2]
 refine xcall_ML (by first | (simp only [go_sem, fz, nilS, cond_true, cond_false, Nat.reduceEqDiff, reduceIte, Nat.reduceAdd, Nat.reduceMul, Nat.reduceSub, Nat.reduceLT, Nat.reduceLeDiff, gs1, gs2]; done) | (simp only [go_sem, fz, nilS, cond_true, cond_false, Nat.reduceEqDiff, reduceIte, Nat.reduceAdd, Nat.reduceMul, Nat.reduceSub, Nat.reduceLT, Nat.reduceLeDiff, gs1, gs2]; rfl) | (simp only [go_sem, fz, List.length_set, ble_self, take_set, cond_true, cond_false, Nat.reduceEqDiff, reduceIte, Nat.reduceAdd, Nat.reduceMul, Nat.reduceSub, Nat.reduceLT, Nat.reduceLeDiff, gs1, gs2]; done) | (simp only [go_sem, fz, List.length_set, ble_self, take_set, cond_true, cond_false, Nat.reduceEqDiff, reduceIte, Nat.reduceAdd, Nat.reduceMul, Nat.reduceSub, Nat.reduceLT, Nat.reduceLeDiff, gs1, gs2]; rfl)) (derive_join_m [[IntKind.wrap .u8 8], [112, 97, 115, 115, 119, 111, 114, 100], x16, a0, x17] bx18) (fun _ => by repeat' (first | exact NoV.v _ | exact NoV.ref _ _ _ _ | exact NoV.onil | refine NoV.ocons ?_ ?_ | exact NoV.nil | refine NoV.tup ?_ | refine NoV.agg ?_ | refine NoV.rows (fun _ => ?_) _ | refine NoV.maps (fun _ => ?_) _ | refine NoV.cons ?_ ?_)) (by repeat' (first | exact NoV.v _ | exact NoV.ref _ _ _ _ | exact NoV.onil | refine NoV.ocons ?_ ?_ | exact NoV.nil | refine NoV.tup ?_ | refine NoV.agg ?_ | refine NoV.rows (fun _ => ?_) _ | refine NoV.maps (fun _ => ?_) _ | refine NoV.cons ?_ ?_)) ?_; try dsimp only
 try refine xw_id ?_
 try simp only [go_sem, Nat.reduceEqDiff, reduceIte, Nat.reduceAdd, Nat.reduceMul, Nat.reduceSub, Nat.reduceLT, Nat.reduceLeDiff, Int.reduceToNat, Int.reduceBEq, Int.reduceBNe, Int.reduceLT, Int.reduceLE, Int.reduceAdd, Int.reduceSub, Int.reduceMul, gs1, gs2]
 refine hKK _ (derive_Input_S0 x18) (by refine Wk.canonD [] [] [some 18] rfl trivial rfl (tmOU 0 tmO0 rfl List.not_mem_nil (by simp only [upd_get, Nat.reduceEqDiff, reduceIte, if_true, if_false] <;> rfl) (TmL.of_eq (by first | rfl | (simp only [List.flatMap_append, List.flatMap_cons, List.flatMap_nil, List.map_append, List.map_cons, List.map_nil, List.append_nil, List.nil_append]; done) | (simp only [List.flatMap_append, List.flatMap_cons, List.flatMap_nil, List.map_append, List.map_cons, List.map_nil, List.append_nil, List.nil_append]; rfl)) (vu_clean _))) (tmAllU 6 tmAll0 (Tm.refL rfl ?_)); all_goals (first | rfl | (simp only [List.length_take]; omega) | (simp only [List.length_append, List.length_cons, List.length_nil, List.length_modify, List.length_set, Nat.zero_add]; done) | (simp only [List.length_append, List.length_take, List.length_drop, List.length_cons, List.length_nil, List.length_modify, List.length_set, Nat.zero_add]; omega) | (simp only [List.length_append, List.length_take, List.length_drop, List.length_cons, List.length_nil, List.length_modify, List.length_set, Nat.zero_add]; done) | omega)) ?_; clear hKK KK
 unfold derive_Input_S0
 refine awp_ret1 ?_
 obtain rfl := someInj h0
 refine endW_i ?_
 refine end_ret0 rs65 (rfl) ?_
 refine Res.mk [] [some 0] rfl (resOU List.not_mem_nil (by simp only [upd_get, Nat.reduceEqDiff, reduceIte, if_true, if_false] <;> rfl) (TmL.of_eq (by first | rfl | (simp only [List.flatMap_append, List.flatMap_cons, List.flatMap_nil, List.map_append, List.map_cons, List.map_nil, List.append_nil, List.nil_append]; done) | (simp only [List.flatMap_append, List.flatMap_cons, List.flatMap_nil, List.map_append, List.map_cons, List.map_nil, List.append_nil, List.nil_append]; rfl)) (vu_clean _)) resO0) (Tm.refL rfl ?_)
 all_goals (first | rfl | (simp only [List.length_take]; omega) | (simp only [List.length_append, List.length_cons, List.length_nil, List.length_modify, List.length_set, Nat.zero_add]; done) | (simp only [List.length_append, List.length_take, List.length_drop, List.length_cons, List.length_nil, List.length_modify, List.length_set, Nat.zero_add]; omega) | (simp only [List.length_append, List.length_take, List.length_drop, List.length_cons, List.length_nil, List.length_modify, List.length_set, Nat.zero_add]; done) | omega)

theorem derive_Input_m (a0 : (List Int)) (a1 : Int) {r : (List Int)} (h0 : derive_Input a0 a1 = some r) : SndM K 65 [(.v (.string ⟨#[112, 97, 115, 115, 119, 111, 114, 100]⟩)), (S_vu a0), (vi a1)] (fun q => (.ref (q 0) 0 r.length 1)) [(List.map vu r)] :=
 fun hs => Snd.of_newM (RenM.ref 0 0 _ _) (rows_all_cons (vu_clean _) rows_all_nil) (clean_cons (Clean.v _) (clean_cons (S_vu_clean _) (clean_cons (Clean.v _) clean_nil))) (derive_Input_r a0 a1 h0) hs

theorem derive_Input_e (a0 : (List Int)) (a1 : Int) {r : (List Int)} (h0 : derive_Input a0 a1 = some r) (fr : Nat) (hs : HS) : SndE K 65 [(.v (.string ⟨#[112, 97, 115, 115, 119, 111, 114, 100]⟩)), (S_vu a0), (vi a1)] hs fr ⟨(fun q : Nat → Nat => (.ref (q 0) 0 r.length 1)) fun _ => fr, .new (List.map vu r)⟩ :=
 SndE.of_res (RenM.ref 0 0 _ _) (vu_clean _) (clean_cons (Clean.v _) (clean_cons (S_vu_clean _) (clean_cons (Clean.v _) clean_nil))) (fun a b h => by simp only [h]) (derive_Input_r a0 a1 h0) hs fr

theorem derive_Input_p (a0 : (List Int)) (a1 : Int) {r : (List Int)} (h0 : derive_Input a0 a1 = some r) : SndP K 65 [(.v (.string ⟨#[112, 97, 115, 115, 119, 111, 114, 100]⟩)), (S_vu a0), (vi a1)] (S_vu r) :=
 SndM.pure (derive_Input_m a0 a1 h0) (S_vu_clean _) (clean_cons (Clean.v _) (clean_cons (S_vu_clean _) (clean_cons (Clean.v _) clean_nil))) (by simp only [go_sem, newL_n, newL_c, upd_get, fz, nilS, cond_true, cond_false, List.drop_zero, List.take_length, List.length_map, ble_self, Nat.reduceEqDiff, reduceIte, Nat.reduceAdd, Nat.reduceMul, Nat.reduceSub, Nat.reduceLT, Nat.reduceLeDiff] <;> rfl)

end Go.AX.Z.TX

/-! (TXW cipher Words) -/

set_option linter.unusedSimpArgs false
set_option linter.unusedVariables false
set_option maxHeartbeats 4000000
set_option maxRecDepth 20000
namespace Go.AX.Z.TX
open Go.AX Go.Proofs
attribute [local irreducible] awp xw xop xcall gsp ob xd xdop xcallD seqQ loopQ blkQ endQ

def cipher_Words_S0 (d24 : A4vw) : AS :=
 { objs := (upd (fun _ => .dead) 0 (.live (e_A4vw d24))), next := 1, tmps := (upd (fun _ => .unk) 2 (.ptr 0 0)) }

def cipher_Words_S1 (a0 : A16vu) (d25 : (A4vw × Int)) : AS :=
 { objs := (upd (fun _ => .dead) 0 (.live (e_A4vw d25.1))), next := 1, tmps := (upd (upd (upd (fun _ => .unk) 2 (.ptr 0 0)) 5 (.agg (e_A16vu a0))) 6 (vi d25.2)) }

theorem cipher_Words_p (a0 : A16vu) {r : A4vw} (h0 : cipher_Words a0 = some r) : SndP K 82 [(.agg (e_A16vu a0))] (.agg (e_A4vw r)) := by
 refine SndP.of_walkW hC (Clean.agg (e_A4vw_clean _)) (clean_cons (Clean.agg (e_A16vu_clean _)) clean_nil) (show K.P.funcs[82]? = some Try.f82 from Try.func82) rfl rfl (by decide +kernel) (Nat.le_of_ble_eq_true rfl) ?_
 unfold cipher_Words at h0
 refine awp_nr [0] (fun _ => rfl) fun tz => ?_
 refine awp_regW fun KK hKK => ?_
 refine xw_id ?_
 try simp only [go_sem, ↓iop_and, ↓iop_or, ↓iop_xor, ↓iop_andn, Nat.reduceEqDiff, reduceIte, Nat.reduceAdd, Nat.reduceMul, Nat.reduceSub, Nat.reduceLT, Nat.reduceLeDiff]
 refine hKK _ _ (Wk.refl _ _ _) ?_; clear hKK KK
 refine awp_assoc ?_
 refine awp_nr [1,2] (fun _ => rfl) fun tz => ?_
 refine awp_regW fun KK hKK => ?_
 refine xw_id ?_
 try simp only [go_sem, ↓iop_and, ↓iop_or, ↓iop_xor, ↓iop_andn, Nat.reduceEqDiff, reduceIte, Nat.reduceAdd, Nat.reduceMul, Nat.reduceSub, Nat.reduceLT, Nat.reduceLeDiff]
 refine hKK _ _ (Wk.refl _ _ _) ?_; clear hKK KK
 obtain ⟨d24, hi1, h0⟩ := bnd h0
 refine awp_cut (fun z => d24 = z) (fun d24 : A4vw => cipher_Words_S0 d24) ?_ ?_
 ·
  refine awp_block1 ?_
  refine awp_loopS (fun n (d25 : (A4vw × Int)) => cipher_Words_L2 a0 n d25 = some d24) (fun d25 : (A4vw × Int) => cipher_Words_S1 a0 d25) big (A4vw.z, 0) (Wk.canonD [] [] [some 1] rfl trivial rfl (tmOU 0 tmO0 rfl List.not_mem_nil (by simp only [upd_get, Nat.reduceEqDiff, reduceIte, if_true, if_false] <;> rfl) (TmL.clean (e_A4vw_clean _))) (tmAllU 6 (tmAllU 5 (tmAllU 2 tmAll0 (Tm.ptr rfl)) (Tm.clean (Clean.agg (e_A16vu_clean _)))) (Tm.v _))) hi1 ?_
  clear hi1
  rintro n d25 hl3
  rcases n with _ | n2
  ·
   (rw [cipher_Words_L2] at hl3; cases hl3)
  ·
   rw [cipher_Words_L2] at hl3
   unfold cipher_Words_S1
   refine awp_nr [2,5,6] (fun _ => rfl) fun tz => ?_
   refine awp_regW fun KK hKK => ?_
   refine xw_id ?_
   try simp only [go_sem, ↓iop_and, ↓iop_or, ↓iop_xor, ↓iop_andn, Nat.reduceEqDiff, reduceIte, Nat.reduceAdd, Nat.reduceMul, Nat.reduceSub, Nat.reduceLT, Nat.reduceLeDiff]
   refine hKK _ _ (Wk.refl _ _ _) ?_; clear hKK KK
   refine awp_cond (b := (decide (d25.2 < 16))) rfl (fun h4 => ?_) (fun h4 => ?_)
   ·
    have hl3 := cT hl3 h4
    refine awp_skip ?_
    refine awp_blockW ?_
    refine awp_nr [2,5,6] (fun _ => rfl) fun tz => ?_
    refine awp_regW fun KK hKK => ?_
    refine xw_id ?_
    obtain ⟨x26, bx26, hl3⟩ := bnd hl3
    obtain ⟨fx26_0, fx26_1, fx26_2, fx26_3⟩ := idxA_some bx26
    have fx26_6 : (e_A16vu a0)[(d25.2).toNat]? = some (vu x26) := by show (List.map vu [a0.a0, a0.a1, a0.a2, a0.a3, a0.a4, a0.a5, a0.a6, a0.a7, a0.a8, a0.a9, a0.a10, a0.a11, a0.a12, a0.a13, a0.a14, a0.a15])[(d25.2).toNat]? = _; rw [List.getElem?_map, fx26_2]; rfl
    try simp only [go_sem, ↓iop_and, ↓iop_or, ↓iop_xor, ↓iop_andn, Nat.reduceEqDiff, reduceIte, Nat.reduceAdd, Nat.reduceMul, Nat.reduceSub, Nat.reduceLT, Nat.reduceLeDiff, Int.reduceToNat, Int.reduceBEq, Int.reduceBNe, Int.reduceLT, Int.reduceLE, Int.reduceAdd, Int.reduceSub, Int.reduceMul, fx26_0, fx26_1, fx26_6]
    refine hKK _ _ (Wk.refl _ _ _) ?_; clear hKK KK
    refine awp_nr1 [2,3,4,5,6] (fun _ => rfl) fun tz => ?_
    refine awp_regD1 fun KK hKK all hall => ?_
    refine xd_id ?_
    try simp only [List.toList_toArray, List.map_cons, List.map_nil, List.size_toArray, List.length_cons, List.length_nil, Nat.zero_add]
    try simp only [Nat.reduceAdd]
    obtain ⟨x27, bx27, hl3⟩ := bnd hl3
    obtain ⟨fx27_0, fx27_1, fx27_2, fx27_3⟩ := idxA_some bx27
    have fx27_6 : (e_A4vw d25.1)[(IntKind.wrap .i64 ((d25.2).tdiv 4)).toNat]? = some (vw x27) := by show (List.map vw [d25.1.a0, d25.1.a1, d25.1.a2, d25.1.a3])[(IntKind.wrap .i64 ((d25.2).tdiv 4)).toNat]? = _; rw [List.getElem?_map, fx27_2]; rfl
    obtain ⟨x28, bx28, hl3⟩ := bnd hl3
    have bx28 := chk_some bx28
    simp only [Bool.and_eq_true, decide_eq_true_eq] at bx28
    have gx28_0 := bx28
    have gs5b : (IntKind.wrap .i64 ((d25.2).tdiv 4)).toNat < 4 := by have h0 := of_eq_true fx27_0; have h1 := of_eq_true fx27_1; omega
    have gs5 : (e_A4vw d25.1).set ((IntKind.wrap .i64 ((d25.2).tdiv 4)).toNat) (vw (bor .u32 x27 (IntKind.wrap .u32 ((IntKind.wrap .u32 x26) * 2 ^ (min ((IntKind.wrap .i64 (((d25.2).tmod 4) * 8))).toNat 32))))) = e_A4vw (d25.1.setA ((IntKind.wrap .i64 ((d25.2).tdiv 4)).toNat) (bor .u32 x27 (IntKind.wrap .u32 ((IntKind.wrap .u32 x26) * 2 ^ (min ((IntKind.wrap .i64 (((d25.2).tmod 4) * 8))).toNat 32))))) := e_A4vw_setA _ _ gs5b
    have gs5l : ((IntKind.wrap .i64 ((d25.2).tdiv 4)).toNat + 1 ≤ 4) = True := eq_true (by omega)
    iterate 3 ((try simp only [go_sem, ↓iop_and, ↓iop_or, ↓iop_xor, ↓iop_andn, Nat.reduceEqDiff, reduceIte, Nat.reduceMul, Nat.reduceSub, Nat.reduceLT, Nat.reduceLeDiff, Int.reduceToNat, Int.reduceBEq, Int.reduceBNe, Int.reduceLT, Int.reduceLE, Int.reduceAdd, Int.reduceSub, Int.reduceMul, fx26_0, fx26_1, fx26_6, Int.reduceEq, fx27_0, fx27_1, fx27_6, gx28_0, gs5, gs5l]); try simp only [Nat.reduceAdd])
    refine And.intro ?_ (hKK _ ?_)
    ·
     subst hall
     clear hKK KK
     first | decide +kernel | (simp [printsOk, apartP, clash, meet]; try (first | done | decide +kernel | (repeat (first | exact Or.inr (by decide +kernel) | (refine And.intro (Or.inr (by decide +kernel)) ?_)))))
    ·
     clear hKK KK hall all
     refine bq_n ?_
     refine seqW_i ?_
     refine awp_nr1 [2,5,6] (fun _ => rfl) fun tz => ?_
     refine awp_reg1 fun KK hKK => ?_
     refine xw_id ?_
     try simp only [go_sem, ↓iop_and, ↓iop_or, ↓iop_xor, ↓iop_andn, Nat.reduceEqDiff, reduceIte, Nat.reduceAdd, Nat.reduceMul, Nat.reduceSub, Nat.reduceLT, Nat.reduceLeDiff, fx26_0, fx26_1, fx26_6, fx27_0, fx27_1, fx27_6]
     refine hKK _ ?_; clear hKK KK
     refine lq_n ?_
     exact ⟨n2, ((d25.1.setA ((IntKind.wrap .i64 ((d25.2).tdiv 4)).toNat) (bor .u32 x27 (IntKind.wrap .u32 ((IntKind.wrap .u32 x26) * 2 ^ (min ((IntKind.wrap .i64 (((d25.2).tmod 4) * 8))).toNat 32))))), IntKind.wrap .i64 (d25.2 + 1)), rfl, hl3, (Wk.canonD [] [] [some 0] rfl trivial rfl (tmOU 0 tmO0 rfl List.not_mem_nil (by simp only [upd_get, Nat.reduceEqDiff, reduceIte, if_true, if_false] <;> rfl) (TmL.clean (e_A4vw_clean _))) (tmAllU 6 (tmAllU 5 (tmAllU 2 tmAll0 (Tm.ptr rfl)) (Tm.clean (Clean.agg (e_A16vu_clean _)))) (Tm.v _)))⟩
   ·
    have hl3 := cF hl3 h4
    refine awp_exit ?_
    refine lq_e ?_
    refine bq_e ?_
    refine sq_n ?_
    obtain rfl := someInj hl3
    exact ⟨_, rfl, (Wk.canonD [] [] [some 0] rfl trivial rfl (tmOU 0 tmO0 rfl List.not_mem_nil (by simp only [upd_get, Nat.reduceEqDiff, reduceIte, if_true, if_false] <;> rfl) (TmL.clean (e_A4vw_clean _))) (tmAllU 2 tmAll0 (Tm.ptr rfl)))⟩
 ·
  rintro _ rfl
  clear hi1
  unfold cipher_Words_S0
  refine awp_nr [2] (fun _ => rfl) fun tz => ?_
  refine awp_regW fun KK hKK => ?_
  refine xw_id ?_
  try simp only [go_sem, ↓iop_and, ↓iop_or, ↓iop_xor, ↓iop_andn, Nat.reduceEqDiff, reduceIte, Nat.reduceAdd, Nat.reduceMul, Nat.reduceSub, Nat.reduceLT, Nat.reduceLeDiff]
  refine hKK _ _ (Wk.refl _ _ _) ?_; clear hKK KK
  refine awp_ret1 ?_
  obtain rfl := someInj h0
  refine endW_i ?_
  refine end_ret0 rs82 (by simp only [go_sem, resV, resAll, resOf, packR, ↓iop_and, ↓iop_or, ↓iop_xor, ↓iop_andn, Nat.reduceEqDiff, reduceIte, Nat.reduceAdd, Nat.reduceMul, Nat.reduceSub, Nat.reduceLT, Nat.reduceLeDiff]; rfl) ?_
  try simp only [go_sem, ↓iop_and, ↓iop_or, ↓iop_xor, ↓iop_andn, Nat.reduceEqDiff, reduceIte, Nat.reduceAdd, Nat.reduceMul, Nat.reduceSub, Nat.reduceLT, Nat.reduceLeDiff, fz, nilS, packR, List.take_nil, List.take_length, List.length_map, List.length_append, cond_true, cond_false, Nat.ble_eq, ble_self]
  all_goals first | rfl | (simp only [go_sem, ↓iop_and, ↓iop_or, ↓iop_xor, ↓iop_andn, Nat.reduceEqDiff, reduceIte, Nat.reduceAdd, Nat.reduceMul, Nat.reduceSub, Nat.reduceLT, Nat.reduceLeDiff, fz, nilS, packR, List.take_nil, List.take_length, List.length_map, List.length_append, cond_true, cond_false, Nat.ble_eq, ble_self, List.map_append] <;> rfl)

end Go.AX.Z.TX

/-! (TXW math bits RotateLeft32) -/

set_option linter.unusedSimpArgs false
set_option linter.unusedVariables false
set_option maxHeartbeats 4000000
set_option maxRecDepth 20000
namespace Go.AX.Z.TX
open Go.AX Go.Proofs
attribute [local irreducible] awp xw xop xcall gsp ob xd xdop xcallD seqQ loopQ blkQ endQ


theorem math_bits_RotateLeft32_p (a0 : Int) (a1 : Int) {r : Int} (h0 : math_bits_RotateLeft32 a0 a1 = some r) : SndP K 90 [(vw a0), (vi a1)] (vw r) := by
 refine SndP.of_walkW hC (Clean.v _) (clean_cons (Clean.v _) (clean_cons (Clean.v _) clean_nil)) (show K.P.funcs[90]? = some Try.f90 from Try.func90) rfl rfl (by decide +kernel) (Nat.le_of_ble_eq_true rfl) ?_
 unfold math_bits_RotateLeft32 at h0
 refine awp_nr [0,1] (fun _ => rfl) fun tz => ?_
 refine awp_regW fun KK hKK => ?_
 refine xw_id ?_
 try simp only [go_sem, ↓iop_and, ↓iop_or, ↓iop_xor, ↓iop_andn, Nat.reduceEqDiff, reduceIte, Nat.reduceAdd, Nat.reduceMul, Nat.reduceSub, Nat.reduceLT, Nat.reduceLeDiff]
 refine hKK _ _ (Wk.refl _ _ _) ?_; clear hKK KK
 refine awp_nr [0,1] (fun _ => rfl) fun tz => ?_
 refine awp_regW fun KK hKK => ?_
 refine xw_id ?_
 try simp only [go_sem, ↓iop_and, ↓iop_or, ↓iop_xor, ↓iop_andn, Nat.reduceEqDiff, reduceIte, Nat.reduceAdd, Nat.reduceMul, Nat.reduceSub, Nat.reduceLT, Nat.reduceLeDiff]
 refine hKK _ _ (Wk.refl _ _ _) ?_; clear hKK KK
 refine awp_nr [0,5] (fun _ => rfl) fun tz => ?_
 refine awp_regW fun KK hKK => ?_
 refine xw_id ?_
 obtain ⟨x33, bx33, h0⟩ := bnd h0
 have bx33 := chk_some bx33
 simp only [Bool.and_eq_true, decide_eq_true_eq] at bx33
 have gx33_0 := bx33
 obtain ⟨x34, bx34, h0⟩ := bnd h0
 have bx34 := chk_some bx34
 simp only [Bool.and_eq_true, decide_eq_true_eq] at bx34
 have gx34_0 := bx34
 try simp only [go_sem, ↓iop_and, ↓iop_or, ↓iop_xor, ↓iop_andn, Nat.reduceEqDiff, reduceIte, Nat.reduceAdd, Nat.reduceMul, Nat.reduceSub, Nat.reduceLT, Nat.reduceLeDiff, gx33_0, gx34_0]
 refine hKK _ _ (Wk.refl _ _ _) ?_; clear hKK KK
 refine awp_ret1 ?_
 obtain rfl := someInj h0
 refine endW_i ?_
 refine end_ret0 rs90 (rfl) ?_
 try simp only [go_sem, ↓iop_and, ↓iop_or, ↓iop_xor, ↓iop_andn, Nat.reduceEqDiff, reduceIte, Nat.reduceAdd, Nat.reduceMul, Nat.reduceSub, Nat.reduceLT, Nat.reduceLeDiff, fz, nilS, packR, List.take_nil, List.take_length, List.length_map, List.length_append, cond_true, cond_false, Nat.ble_eq, ble_self]
 all_goals first | rfl | (simp only [go_sem, ↓iop_and, ↓iop_or, ↓iop_xor, ↓iop_andn, Nat.reduceEqDiff, reduceIte, Nat.reduceAdd, Nat.reduceMul, Nat.reduceSub, Nat.reduceLT, Nat.reduceLeDiff, fz, nilS, packR, List.take_nil, List.take_length, List.length_map, List.length_append, cond_true, cond_false, Nat.ble_eq, ble_self, List.map_append] <;> rfl)

end Go.AX.Z.TX

/-! (TXW cipher Schedule) -/

set_option linter.unusedSimpArgs false
set_option linter.unusedVariables false
set_option maxHeartbeats 4000000
set_option maxRecDepth 20000
namespace Go.AX.Z.TX
open Go.AX Go.Proofs
attribute [local irreducible] awp xw xop xcall gsp ob xd xdop xcallD seqQ loopQ blkQ endQ

def cipher_Schedule_S0 (x24 : A4vw) : AS :=
 { objs := (upd (upd (fun _ => .dead) 0 (.live (e_A36vw A36vw.z))) 1 (.live (e_A4vw x24))), next := 2, tmps := (upd (upd (fun _ => .unk) 2 (.ptr 0 0)) 3 (.ptr 1 0)) }

def cipher_Schedule_S1 (d25 : A36vw) : AS :=
 { objs := (upd (fun _ => .dead) 0 (.live (e_A36vw d25))), next := 1, tmps := (upd (fun _ => .unk) 2 (.ptr 0 0)) }

def cipher_Schedule_S2 (d26 : (A36vw × Int)) : AS :=
 { objs := (upd (fun _ => .dead) 0 (.live (e_A36vw d26.1))), next := 1, tmps := (upd (upd (fun _ => .unk) 2 (.ptr 0 0)) 4 (vi d26.2)) }

theorem cipher_Schedule_p (a0 : A16vu) {r : A36vw} (h0 : cipher_Schedule a0 = some r) : SndP K 80 [(.agg (e_A16vu a0))] (.agg (e_A36vw r)) := by
 refine SndP.of_walkW hC (Clean.agg (e_A36vw_clean _)) (clean_cons (Clean.agg (e_A16vu_clean _)) clean_nil) (show K.P.funcs[80]? = some Try.f80 from Try.func80) rfl rfl (by decide +kernel) (Nat.le_of_ble_eq_true rfl) ?_
 unfold cipher_Schedule at h0
 refine awp_nr [0] (fun _ => rfl) fun tz => ?_
 refine awp_regW fun KK hKK => ?_
 refine xw_id ?_
 try simp only [go_sem, ↓iop_and, ↓iop_or, ↓iop_xor, ↓iop_andn, Nat.reduceEqDiff, reduceIte, Nat.reduceAdd, Nat.reduceMul, Nat.reduceSub, Nat.reduceLT, Nat.reduceLeDiff]
 refine hKK _ _ (Wk.refl _ _ _) ?_; clear hKK KK
 refine awp_nr [1,2] (fun _ => rfl) fun tz => ?_
 refine awp_regW fun KK hKK => ?_
 refine xw_id ?_
 obtain ⟨x24, bx24, h0⟩ := bnd h0
 try simp only [go_sem, ↓iop_and, ↓iop_or, ↓iop_xor, ↓iop_andn, Nat.reduceEqDiff, reduceIte, Nat.reduceAdd, Nat.reduceMul, Nat.reduceSub, Nat.reduceLT, Nat.reduceLeDiff]
 refine xcall_p (cipher_Words_p a0 bx24) ?_; try dsimp only
 try refine xw_id ?_
 try simp only [go_sem, ↓iop_and, ↓iop_or, ↓iop_xor, ↓iop_andn, Nat.reduceEqDiff, reduceIte, Nat.reduceAdd, Nat.reduceMul, Nat.reduceSub, Nat.reduceLT, Nat.reduceLeDiff]
 refine hKK _ (cipher_Schedule_S0 x24) (Wk.canonD [] [] [some 1, some 4] rfl trivial rfl (tmOU 1 (tmOU 0 tmO0 rfl List.not_mem_nil (by simp only [upd_get, Nat.reduceEqDiff, reduceIte, if_true, if_false] <;> rfl) (TmL.clean (e_A36vw_clean _))) rfl List.not_mem_nil (by simp only [upd_get, Nat.reduceEqDiff, reduceIte, if_true, if_false] <;> rfl) (TmL.clean (e_A4vw_clean _))) (tmAllU 3 (tmAllU 2 tmAll0 (Tm.ptr rfl)) (Tm.ptr rfl))) ?_; clear hKK KK
 unfold cipher_Schedule_S0
 refine awp_nr [2,3] (fun _ => rfl) fun tz => ?_
 refine awp_regDW fun KK hKK all hall => ?_
 refine xd_id ?_
 try simp only [List.toList_toArray, List.map_cons, List.map_nil, List.size_toArray, List.length_cons, List.length_nil, Nat.zero_add]
 try simp only [Nat.reduceAdd]
 have gs1 : putAt (e_A36vw A36vw.z) 0 (e_A4vw x24) = e_A36vw { A36vw.z with a0 := x24.a0, a1 := x24.a1, a2 := x24.a2, a3 := x24.a3 } := by rfl
 have gs1m : min 4 36 = 4 := by rfl
 iterate 3 ((try simp only [go_sem, ↓iop_and, ↓iop_or, ↓iop_xor, ↓iop_andn, Nat.reduceEqDiff, reduceIte, Nat.reduceMul, Nat.reduceSub, Nat.reduceLT, Nat.reduceLeDiff, Int.reduceToNat, Int.reduceBEq, Int.reduceBNe, Int.reduceLT, Int.reduceLE, Int.reduceAdd, Int.reduceSub, Int.reduceMul, Int.sub_zero, Int.sub_zero, gs1, gs1m]); try simp only [Nat.reduceAdd])
 refine And.intro ?_ (hKK _ _ (Wk.refl _ _ _) ?_)
 ·
  subst hall
  clear hKK KK
  first | decide +kernel | (simp [printsOk, apartP, clash, meet]; try (first | done | decide +kernel | (repeat (first | exact Or.inr (by decide +kernel) | (refine And.intro (Or.inr (by decide +kernel)) ?_)))))
 ·
  clear hKK KK hall all
  refine awp_assoc ?_
  refine awp_nr [2] (fun _ => rfl) fun tz => ?_
  refine awp_regW fun KK hKK => ?_
  refine xw_id ?_
  try simp only [go_sem, ↓iop_and, ↓iop_or, ↓iop_xor, ↓iop_andn, Nat.reduceEqDiff, reduceIte, Nat.reduceAdd, Nat.reduceMul, Nat.reduceSub, Nat.reduceLT, Nat.reduceLeDiff]
  refine hKK _ _ (Wk.refl _ _ _) ?_; clear hKK KK
  obtain ⟨d25, hi2, h0⟩ := bnd h0
  refine awp_cut (fun z => d25 = z) (fun d25 : A36vw => cipher_Schedule_S1 d25) ?_ ?_
  ·
   refine awp_block1 ?_
   refine awp_loopS (fun n (d26 : (A36vw × Int)) => cipher_Schedule_L3 a0 n d26 = some d25) (fun d26 : (A36vw × Int) => cipher_Schedule_S2 d26) big ({ A36vw.z with a0 := x24.a0, a1 := x24.a1, a2 := x24.a2, a3 := x24.a3 }, 4) (Wk.canonD [] [] [some 0] rfl trivial rfl (tmOU 0 tmO0 rfl List.not_mem_nil (by simp only [upd_get, Nat.reduceEqDiff, reduceIte, if_true, if_false] <;> rfl) (TmL.clean (e_A36vw_clean _))) (tmAllU 4 (tmAllU 2 tmAll0 (Tm.ptr rfl)) (Tm.v _))) hi2 ?_
   clear hi2
   rintro n d26 hl4
   rcases n with _ | n3
   ·
    (rw [cipher_Schedule_L3] at hl4; cases hl4)
   ·
    rw [cipher_Schedule_L3] at hl4
    unfold cipher_Schedule_S2
    refine awp_assoc ?_
    refine awp_nr [2,4] (fun _ => rfl) fun tz => ?_
    refine awp_regW fun KK hKK => ?_
    refine xw_id ?_
    try simp only [go_sem, ↓iop_and, ↓iop_or, ↓iop_xor, ↓iop_andn, Nat.reduceEqDiff, reduceIte, Nat.reduceAdd, Nat.reduceMul, Nat.reduceSub, Nat.reduceLT, Nat.reduceLeDiff]
    refine hKK _ _ (Wk.refl _ _ _) ?_; clear hKK KK
    refine awp_cond (b := (decide (d26.2 < 36))) rfl (fun h5 => ?_) (fun h5 => ?_)
    ·
     have hl4 := cT hl4 h5
     refine awp_skip ?_
     refine awp_blockW ?_
     refine awp_nr1 [2,4] (fun _ => rfl) fun tz => ?_
     refine awp_regD1 fun KK hKK all hall => ?_
     refine xd_id ?_
     try simp only [List.toList_toArray, List.map_cons, List.map_nil, List.size_toArray, List.length_cons, List.length_nil, Nat.zero_add]
     try simp only [Nat.reduceAdd]
     obtain ⟨x27, bx27, hl4⟩ := bnd hl4
     obtain ⟨fx27_0, fx27_1, fx27_2, fx27_3⟩ := idxA_some bx27
     have fx27_6 : (e_A36vw d26.1)[(IntKind.wrap .i64 (d26.2 - 4)).toNat]? = some (vw x27) := by show (List.map vw [d26.1.a0, d26.1.a1, d26.1.a2, d26.1.a3, d26.1.a4, d26.1.a5, d26.1.a6, d26.1.a7, d26.1.a8, d26.1.a9, d26.1.a10, d26.1.a11, d26.1.a12, d26.1.a13, d26.1.a14, d26.1.a15, d26.1.a16, d26.1.a17, d26.1.a18, d26.1.a19, d26.1.a20, d26.1.a21, d26.1.a22, d26.1.a23, d26.1.a24, d26.1.a25, d26.1.a26, d26.1.a27, d26.1.a28, d26.1.a29, d26.1.a30, d26.1.a31, d26.1.a32, d26.1.a33, d26.1.a34, d26.1.a35])[(IntKind.wrap .i64 (d26.2 - 4)).toNat]? = _; rw [List.getElem?_map, fx27_2]; rfl
     obtain ⟨x28, bx28, hl4⟩ := bnd hl4
     obtain ⟨fx28_0, fx28_1, fx28_2, fx28_3⟩ := idxA_some bx28
     have fx28_6 : (e_A36vw d26.1)[(IntKind.wrap .i64 (d26.2 - 1)).toNat]? = some (vw x28) := by show (List.map vw [d26.1.a0, d26.1.a1, d26.1.a2, d26.1.a3, d26.1.a4, d26.1.a5, d26.1.a6, d26.1.a7, d26.1.a8, d26.1.a9, d26.1.a10, d26.1.a11, d26.1.a12, d26.1.a13, d26.1.a14, d26.1.a15, d26.1.a16, d26.1.a17, d26.1.a18, d26.1.a19, d26.1.a20, d26.1.a21, d26.1.a22, d26.1.a23, d26.1.a24, d26.1.a25, d26.1.a26, d26.1.a27, d26.1.a28, d26.1.a29, d26.1.a30, d26.1.a31, d26.1.a32, d26.1.a33, d26.1.a34, d26.1.a35])[(IntKind.wrap .i64 (d26.2 - 1)).toNat]? = _; rw [List.getElem?_map, fx28_2]; rfl
     obtain ⟨x29, bx29, hl4⟩ := bnd hl4
     iterate 3 ((try simp only [go_sem, ↓iop_and, ↓iop_or, ↓iop_xor, ↓iop_andn, Nat.reduceEqDiff, reduceIte, Nat.reduceMul, Nat.reduceSub, Nat.reduceLT, Nat.reduceLeDiff, Int.reduceToNat, Int.reduceBEq, Int.reduceBNe, Int.reduceLT, Int.reduceLE, Int.reduceAdd, Int.reduceSub, Int.reduceMul, fx27_0, fx27_1, fx27_6, fx28_0, fx28_1, fx28_6]); try simp only [Nat.reduceAdd])
     refine xcallD_p (math_bits_RotateLeft32_p x28 7 bx29) ?_; try dsimp only
     try refine xd_id ?_
     obtain ⟨x30, bx30, hl4⟩ := bnd hl4
     obtain ⟨fx30_0, fx30_1, fx30_2, fx30_3⟩ := idxA_some bx30
     have fx30_6 : (e_A36vw d26.1)[(d26.2).toNat]? = some (vw x30) := by show (List.map vw [d26.1.a0, d26.1.a1, d26.1.a2, d26.1.a3, d26.1.a4, d26.1.a5, d26.1.a6, d26.1.a7, d26.1.a8, d26.1.a9, d26.1.a10, d26.1.a11, d26.1.a12, d26.1.a13, d26.1.a14, d26.1.a15, d26.1.a16, d26.1.a17, d26.1.a18, d26.1.a19, d26.1.a20, d26.1.a21, d26.1.a22, d26.1.a23, d26.1.a24, d26.1.a25, d26.1.a26, d26.1.a27, d26.1.a28, d26.1.a29, d26.1.a30, d26.1.a31, d26.1.a32, d26.1.a33, d26.1.a34, d26.1.a35])[(d26.2).toNat]? = _; rw [List.getElem?_map, fx30_2]; rfl
     have gs6b : (d26.2).toNat < 36 := by have h0 := of_eq_true fx30_0; have h1 := of_eq_true fx30_1; omega
     have gs6 : (e_A36vw d26.1).set ((d26.2).toNat) (vw (IntKind.wrap .u32 (x27 + (bxor .u32 x29 (IntKind.wrap .u32 ((IntKind.wrap .u32 ((IntKind.wrap .u32 d26.2) * 2050759141)) + 525043411)))))) = e_A36vw (d26.1.setA ((d26.2).toNat) (IntKind.wrap .u32 (x27 + (bxor .u32 x29 (IntKind.wrap .u32 ((IntKind.wrap .u32 ((IntKind.wrap .u32 d26.2) * 2050759141)) + 525043411)))))) := e_A36vw_setA _ _ gs6b
     have gs6l : ((d26.2).toNat + 1 ≤ 36) = True := eq_true (by omega)
     iterate 3 ((try simp only [go_sem, ↓iop_and, ↓iop_or, ↓iop_xor, ↓iop_andn, Nat.reduceEqDiff, reduceIte, Nat.reduceMul, Nat.reduceSub, Nat.reduceLT, Nat.reduceLeDiff, Int.reduceToNat, Int.reduceBEq, Int.reduceBNe, Int.reduceLT, Int.reduceLE, Int.reduceAdd, Int.reduceSub, Int.reduceMul, fx27_0, fx27_1, fx27_6, fx28_0, fx28_1, fx28_6, fx30_0, fx30_1, fx30_6, gs6, gs6l]); try simp only [Nat.reduceAdd])
     refine And.intro ?_ (hKK _ ?_)
     ·
      subst hall
      clear hKK KK
      first | decide +kernel | (simp [printsOk, apartP, clash, meet]; try (first | done | decide +kernel | (repeat (first | exact Or.inr (by decide +kernel) | (refine And.intro (Or.inr (by decide +kernel)) ?_)))))
     ·
      clear hKK KK hall all
      refine bq_n ?_
      refine seqW_i ?_
      refine awp_nr1 [2,4] (fun _ => rfl) fun tz => ?_
      refine awp_reg1 fun KK hKK => ?_
      refine xw_id ?_
      try simp only [go_sem, ↓iop_and, ↓iop_or, ↓iop_xor, ↓iop_andn, Nat.reduceEqDiff, reduceIte, Nat.reduceAdd, Nat.reduceMul, Nat.reduceSub, Nat.reduceLT, Nat.reduceLeDiff, fx27_0, fx27_1, fx27_6, fx28_0, fx28_1, fx28_6, fx30_0, fx30_1, fx30_6]
      refine hKK _ ?_; clear hKK KK
      refine lq_n ?_
      exact ⟨n3, ((d26.1.setA ((d26.2).toNat) (IntKind.wrap .u32 (x27 + (bxor .u32 x29 (IntKind.wrap .u32 ((IntKind.wrap .u32 ((IntKind.wrap .u32 d26.2) * 2050759141)) + 525043411)))))), IntKind.wrap .i64 (d26.2 + 1)), rfl, hl4, (Wk.canonD [] [] [some 0] rfl trivial rfl (tmOU 0 tmO0 rfl List.not_mem_nil (by simp only [upd_get, Nat.reduceEqDiff, reduceIte, if_true, if_false] <;> rfl) (TmL.clean (e_A36vw_clean _))) (tmAllU 4 (tmAllU 2 tmAll0 (Tm.ptr rfl)) (Tm.v _)))⟩
    ·
     have hl4 := cF hl4 h5
     refine awp_exit ?_
     refine lq_e ?_
     refine bq_e ?_
     refine sq_n ?_
     obtain rfl := someInj hl4
     exact ⟨_, rfl, (Wk.canonD [] [] [some 0] rfl trivial rfl (tmOU 0 tmO0 rfl List.not_mem_nil (by simp only [upd_get, Nat.reduceEqDiff, reduceIte, if_true, if_false] <;> rfl) (TmL.clean (e_A36vw_clean _))) (tmAllU 2 tmAll0 (Tm.ptr rfl)))⟩
  ·
   rintro _ rfl
   clear hi2
   unfold cipher_Schedule_S1
   refine awp_nr [2] (fun _ => rfl) fun tz => ?_
   refine awp_regW fun KK hKK => ?_
   refine xw_id ?_
   try simp only [go_sem, ↓iop_and, ↓iop_or, ↓iop_xor, ↓iop_andn, Nat.reduceEqDiff, reduceIte, Nat.reduceAdd, Nat.reduceMul, Nat.reduceSub, Nat.reduceLT, Nat.reduceLeDiff]
   refine hKK _ _ (Wk.refl _ _ _) ?_; clear hKK KK
   refine awp_ret1 ?_
   obtain rfl := someInj h0
   refine endW_i ?_
   refine end_ret0 rs80 (by simp only [go_sem, resV, resAll, resOf, packR, ↓iop_and, ↓iop_or, ↓iop_xor, ↓iop_andn, Nat.reduceEqDiff, reduceIte, Nat.reduceAdd, Nat.reduceMul, Nat.reduceSub, Nat.reduceLT, Nat.reduceLeDiff]; rfl) ?_
   try simp only [go_sem, ↓iop_and, ↓iop_or, ↓iop_xor, ↓iop_andn, Nat.reduceEqDiff, reduceIte, Nat.reduceAdd, Nat.reduceMul, Nat.reduceSub, Nat.reduceLT, Nat.reduceLeDiff, fz, nilS, packR, List.take_nil, List.take_length, List.length_map, List.length_append, cond_true, cond_false, Nat.ble_eq, ble_self]
   all_goals first | rfl | (simp only [go_sem, ↓iop_and, ↓iop_or, ↓iop_xor, ↓iop_andn, Nat.reduceEqDiff, reduceIte, Nat.reduceAdd, Nat.reduceMul, Nat.reduceSub, Nat.reduceLT, Nat.reduceLeDiff, fz, nilS, packR, List.take_nil, List.take_length, List.length_map, List.length_append, cond_true, cond_false, Nat.ble_eq, ble_self, List.map_append] <;> rfl)

end Go.AX.Z.TX

/-! (TXW cipher mask) -/

set_option linter.unusedSimpArgs false
set_option linter.unusedVariables false
set_option maxHeartbeats 4000000
set_option maxRecDepth 20000
namespace Go.AX.Z.TX
open Go.AX Go.Proofs
attribute [local irreducible] awp xw xop xcall gsp ob xd xdop xcallD seqQ loopQ blkQ endQ

def cipher_mask_S0 (d33 : A4vw) : AS :=
 { objs := (upd (upd (fun _ => .dead) 0 (.live (e_A4vw d33))) 1 (.live (e_A4vw A4vw.z))), next := 2, tmps := (upd (upd (fun _ => .unk) 2 (.ptr 0 0)) 4 (.ptr 1 0)) }

def cipher_mask_S1 (a1 : A36vw) (d34 : (A4vw × Int)) : AS :=
 { objs := (upd (upd (upd (fun _ => .dead) 0 (.live (e_A4vw d34.1))) 1 (.live (e_A36vw a1))) 2 (.live (e_A4vw A4vw.z))), next := 3, tmps := (upd (upd (upd (upd (fun _ => .unk) 2 (.ptr 0 0)) 3 (.ptr 1 0)) 4 (.ptr 2 0)) 6 (vi d34.2)) }

theorem cipher_mask_p (a0 : A4vw) (a1 : A36vw) {r : A4vw} (h0 : cipher_mask a0 a1 = some r) : SndP K 81 [(.agg (e_A4vw a0)), (.agg (e_A36vw a1))] (.agg (e_A4vw r)) := by
 refine SndP.of_walkW hC (Clean.agg (e_A4vw_clean _)) (clean_cons (Clean.agg (e_A4vw_clean _)) (clean_cons (Clean.agg (e_A36vw_clean _)) clean_nil)) (show K.P.funcs[81]? = some Try.f81 from Try.func81) rfl rfl (by decide +kernel) (Nat.le_of_ble_eq_true rfl) ?_
 unfold cipher_mask at h0
 refine awp_nr [0,1] (fun _ => rfl) fun tz => ?_
 refine awp_regW fun KK hKK => ?_
 refine xw_id ?_
 try simp only [go_sem, ↓iop_and, ↓iop_or, ↓iop_xor, ↓iop_andn, Nat.reduceEqDiff, reduceIte, Nat.reduceAdd, Nat.reduceMul, Nat.reduceSub, Nat.reduceLT, Nat.reduceLeDiff]
 refine hKK _ _ (Wk.refl _ _ _) ?_; clear hKK KK
 refine awp_assoc ?_
 refine awp_nr [2,3,4] (fun _ => rfl) fun tz => ?_
 refine awp_regW fun KK hKK => ?_
 refine xw_id ?_
 try simp only [go_sem, ↓iop_and, ↓iop_or, ↓iop_xor, ↓iop_andn, Nat.reduceEqDiff, reduceIte, Nat.reduceAdd, Nat.reduceMul, Nat.reduceSub, Nat.reduceLT, Nat.reduceLeDiff]
 refine hKK _ _ (Wk.refl _ _ _) ?_; clear hKK KK
 obtain ⟨d33, hi1, h0⟩ := bnd h0
 refine awp_cut (fun z => d33 = z) (fun d33 : A4vw => cipher_mask_S0 d33) ?_ ?_
 ·
  refine awp_block1 ?_
  refine awp_loopS (fun n (d34 : (A4vw × Int)) => cipher_mask_L2 a0 a1 n d34 = some d33) (fun d34 : (A4vw × Int) => cipher_mask_S1 a1 d34) big (a0, 0) (Wk.canonD [] [] [some 0, some 1, some 2] rfl trivial rfl (tmOU 2 (tmOU 1 (tmOU 0 tmO0 rfl List.not_mem_nil (by simp only [upd_get, Nat.reduceEqDiff, reduceIte, if_true, if_false] <;> rfl) (TmL.clean (e_A4vw_clean _))) rfl List.not_mem_nil (by simp only [upd_get, Nat.reduceEqDiff, reduceIte, if_true, if_false] <;> rfl) (TmL.clean (e_A36vw_clean _))) rfl List.not_mem_nil (by simp only [upd_get, Nat.reduceEqDiff, reduceIte, if_true, if_false] <;> rfl) (TmL.clean (e_A4vw_clean _))) (tmAllU 6 (tmAllU 4 (tmAllU 3 (tmAllU 2 tmAll0 (Tm.ptr rfl)) (Tm.ptr rfl)) (Tm.ptr rfl)) (Tm.v _))) hi1 ?_
  clear hi1
  rintro n d34 hl3
  rcases n with _ | n2
  ·
   (rw [cipher_mask_L2] at hl3; cases hl3)
  ·
   rw [cipher_mask_L2] at hl3
   unfold cipher_mask_S1
   refine awp_nr [2,3,4,6] (fun _ => rfl) fun tz => ?_
   refine awp_regW fun KK hKK => ?_
   refine xw_id ?_
   try simp only [go_sem, ↓iop_and, ↓iop_or, ↓iop_xor, ↓iop_andn, Nat.reduceEqDiff, reduceIte, Nat.reduceAdd, Nat.reduceMul, Nat.reduceSub, Nat.reduceLT, Nat.reduceLeDiff]
   refine hKK _ _ (Wk.refl _ _ _) ?_; clear hKK KK
   refine awp_cond (b := (decide (d34.2 < 4))) rfl (fun h4 => ?_) (fun h4 => ?_)
   ·
    have hl3 := cT hl3 h4
    refine awp_skip ?_
    refine awp_blockW ?_
    refine awp_nr [2,3,4,6] (fun _ => rfl) fun tz => ?_
    refine awp_regW fun KK hKK => ?_
    refine xw_id ?_
    try simp only [go_sem, ↓iop_and, ↓iop_or, ↓iop_xor, ↓iop_andn, Nat.reduceEqDiff, reduceIte, Nat.reduceAdd, Nat.reduceMul, Nat.reduceSub, Nat.reduceLT, Nat.reduceLeDiff]
    refine hKK _ _ (Wk.refl _ _ _) ?_; clear hKK KK
    refine awp_nr1 [2,3,4,5,6] (fun _ => rfl) fun tz => ?_
    refine awp_regD1 fun KK hKK all hall => ?_
    refine xd_id ?_
    try simp only [List.toList_toArray, List.map_cons, List.map_nil, List.size_toArray, List.length_cons, List.length_nil, Nat.zero_add]
    try simp only [Nat.reduceAdd]
    obtain ⟨x35, bx35, hl3⟩ := bnd hl3
    obtain ⟨fx35_0, fx35_1, fx35_2, fx35_3⟩ := idxA_some bx35
    have fx35_6 : (e_A4vw d34.1)[(d34.2).toNat]? = some (vw x35) := by show (List.map vw [d34.1.a0, d34.1.a1, d34.1.a2, d34.1.a3])[(d34.2).toNat]? = _; rw [List.getElem?_map, fx35_2]; rfl
    obtain ⟨x36, bx36, hl3⟩ := bnd hl3
    obtain ⟨fx36_0, fx36_1, fx36_2, fx36_3⟩ := idxA_some bx36
    have fx36_6 : (e_A36vw a1)[(d34.2).toNat]? = some (vw x36) := by show (List.map vw [a1.a0, a1.a1, a1.a2, a1.a3, a1.a4, a1.a5, a1.a6, a1.a7, a1.a8, a1.a9, a1.a10, a1.a11, a1.a12, a1.a13, a1.a14, a1.a15, a1.a16, a1.a17, a1.a18, a1.a19, a1.a20, a1.a21, a1.a22, a1.a23, a1.a24, a1.a25, a1.a26, a1.a27, a1.a28, a1.a29, a1.a30, a1.a31, a1.a32, a1.a33, a1.a34, a1.a35])[(d34.2).toNat]? = _; rw [List.getElem?_map, fx36_2]; rfl
    have gs5b : (d34.2).toNat < 4 := by have h0 := of_eq_true fx35_0; have h1 := of_eq_true fx35_1; omega
    have gs5 : (e_A4vw d34.1).set ((d34.2).toNat) (vw (bxor .u32 x35 x36)) = e_A4vw (d34.1.setA ((d34.2).toNat) (bxor .u32 x35 x36)) := e_A4vw_setA _ _ gs5b
    have gs5l : ((d34.2).toNat + 1 ≤ 4) = True := eq_true (by omega)
    iterate 3 ((try simp only [go_sem, ↓iop_and, ↓iop_or, ↓iop_xor, ↓iop_andn, Nat.reduceEqDiff, reduceIte, Nat.reduceMul, Nat.reduceSub, Nat.reduceLT, Nat.reduceLeDiff, Int.reduceToNat, Int.reduceBEq, Int.reduceBNe, Int.reduceLT, Int.reduceLE, Int.reduceAdd, Int.reduceSub, Int.reduceMul, fx35_0, fx35_1, fx35_6, fx36_0, fx36_1, fx36_6, gs5, gs5l]); try simp only [Nat.reduceAdd])
    refine And.intro ?_ (hKK _ ?_)
    ·
     subst hall
     clear hKK KK
     first | decide +kernel | (simp [printsOk, apartP, clash, meet]; try (first | done | decide +kernel | (repeat (first | exact Or.inr (by decide +kernel) | (refine And.intro (Or.inr (by decide +kernel)) ?_)))))
    ·
     clear hKK KK hall all
     refine bq_n ?_
     refine seqW_i ?_
     refine awp_nr1 [2,3,4,6] (fun _ => rfl) fun tz => ?_
     refine awp_reg1 fun KK hKK => ?_
     refine xw_id ?_
     try simp only [go_sem, ↓iop_and, ↓iop_or, ↓iop_xor, ↓iop_andn, Nat.reduceEqDiff, reduceIte, Nat.reduceAdd, Nat.reduceMul, Nat.reduceSub, Nat.reduceLT, Nat.reduceLeDiff, fx35_0, fx35_1, fx35_6, fx36_0, fx36_1, fx36_6]
     refine hKK _ ?_; clear hKK KK
     refine lq_n ?_
     exact ⟨n2, ((d34.1.setA ((d34.2).toNat) (bxor .u32 x35 x36)), IntKind.wrap .i64 (d34.2 + 1)), rfl, hl3, (Wk.canonD [] [] [some 0, some 1, some 2] rfl trivial rfl (tmOU 2 (tmOU 1 (tmOU 0 tmO0 rfl List.not_mem_nil (by simp only [upd_get, Nat.reduceEqDiff, reduceIte, if_true, if_false] <;> rfl) (TmL.clean (e_A4vw_clean _))) rfl List.not_mem_nil (by simp only [upd_get, Nat.reduceEqDiff, reduceIte, if_true, if_false] <;> rfl) (TmL.clean (e_A36vw_clean _))) rfl List.not_mem_nil (by simp only [upd_get, Nat.reduceEqDiff, reduceIte, if_true, if_false] <;> rfl) (TmL.clean (e_A4vw_clean _))) (tmAllU 6 (tmAllU 4 (tmAllU 3 (tmAllU 2 tmAll0 (Tm.ptr rfl)) (Tm.ptr rfl)) (Tm.ptr rfl)) (Tm.v _)))⟩
   ·
    have hl3 := cF hl3 h4
    refine awp_exit ?_
    refine lq_e ?_
    refine bq_e ?_
    refine sq_n ?_
    obtain rfl := someInj hl3
    exact ⟨_, rfl, (Wk.canonD [] [] [some 0, some 2] rfl trivial rfl (tmOU 1 (tmOU 0 tmO0 rfl List.not_mem_nil (by simp only [upd_get, Nat.reduceEqDiff, reduceIte, if_true, if_false] <;> rfl) (TmL.clean (e_A4vw_clean _))) rfl List.not_mem_nil (by simp only [upd_get, Nat.reduceEqDiff, reduceIte, if_true, if_false] <;> rfl) (TmL.clean (e_A4vw_clean _))) (tmAllU 4 (tmAllU 2 tmAll0 (Tm.ptr rfl)) (Tm.ptr rfl)))⟩
 ·
  rintro _ rfl
  clear hi1
  unfold cipher_mask_S0
  refine awp_nr [2,4] (fun _ => rfl) fun tz => ?_
  refine awp_regW fun KK hKK => ?_
  refine xw_id ?_
  try simp only [go_sem, ↓iop_and, ↓iop_or, ↓iop_xor, ↓iop_andn, Nat.reduceEqDiff, reduceIte, Nat.reduceAdd, Nat.reduceMul, Nat.reduceSub, Nat.reduceLT, Nat.reduceLeDiff]
  refine hKK _ _ (Wk.refl _ _ _) ?_; clear hKK KK
  refine awp_ret1 ?_
  obtain rfl := someInj h0
  refine endW_i ?_
  refine end_ret0 rs81 (by simp only [go_sem, resV, resAll, resOf, packR, ↓iop_and, ↓iop_or, ↓iop_xor, ↓iop_andn, Nat.reduceEqDiff, reduceIte, Nat.reduceAdd, Nat.reduceMul, Nat.reduceSub, Nat.reduceLT, Nat.reduceLeDiff]; rfl) ?_
  try simp only [go_sem, ↓iop_and, ↓iop_or, ↓iop_xor, ↓iop_andn, Nat.reduceEqDiff, reduceIte, Nat.reduceAdd, Nat.reduceMul, Nat.reduceSub, Nat.reduceLT, Nat.reduceLeDiff, fz, nilS, packR, List.take_nil, List.take_length, List.length_map, List.length_append, cond_true, cond_false, Nat.ble_eq, ble_self]
  all_goals first | rfl | (simp only [go_sem, ↓iop_and, ↓iop_or, ↓iop_xor, ↓iop_andn, Nat.reduceEqDiff, reduceIte, Nat.reduceAdd, Nat.reduceMul, Nat.reduceSub, Nat.reduceLT, Nat.reduceLeDiff, fz, nilS, packR, List.take_nil, List.take_length, List.length_map, List.length_append, cond_true, cond_false, Nat.ble_eq, ble_self, List.map_append] <;> rfl)

end Go.AX.Z.TX

/-! (TXW cipher Round) -/

set_option linter.unusedSimpArgs false
set_option linter.unusedVariables false
set_option maxHeartbeats 4000000
set_option maxRecDepth 20000
namespace Go.AX.Z.TX
open Go.AX Go.Proofs
attribute [local irreducible] awp xw xop xcall gsp ob xd xdop xcallD seqQ loopQ blkQ endQ

def cipher_Round_S0 (a0 : A4vw) (x41 : Int) (a1 : Int) (a2 : Int) : AS :=
 { objs := (upd (upd (fun _ => .dead) 0 (.live (e_A4vw { a0 with a0 := IntKind.wrap .u32 (a0.a0 + (bxor .u32 x41 a1)) }))) 1 (.live (e_A4vw A4vw.z))), next := 2, tmps := (upd (upd (upd (upd (fun _ => .unk) 1 (vw a1)) 2 (vw a2)) 3 (.ptr 0 0)) 6 (.ptr 1 0)) }

def cipher_Round_S1 (a0 : A4vw) (x41 : Int) (a1 : Int) (x43 : Int) (a2 : Int) (x42 : Int) : AS :=
 { objs := (upd (upd (fun _ => .dead) 0 (.live (e_A4vw { a0 with a0 := IntKind.wrap .u32 (a0.a0 + (bxor .u32 x41 a1)), a1 := bxor .u32 a0.a1 x43, a2 := IntKind.wrap .u32 (a0.a2 + (bxor .u32 x42 a2)) }))) 1 (.live (e_A4vw A4vw.z))), next := 2, tmps := (upd (upd (upd (fun _ => .unk) 2 (vw a2)) 3 (.ptr 0 0)) 6 (.ptr 1 0)) }

theorem cipher_Round_p (a0 : A4vw) (a1 : Int) (a2 : Int) {r : A4vw} (h0 : cipher_Round a0 a1 a2 = some r) : SndP K 83 [(.agg (e_A4vw a0)), (vw a1), (vw a2)] (.agg (e_A4vw r)) := by
 refine SndP.of_walkW hC (Clean.agg (e_A4vw_clean _)) (clean_cons (Clean.agg (e_A4vw_clean _)) (clean_cons (Clean.v _) (clean_cons (Clean.v _) clean_nil))) (show K.P.funcs[83]? = some Try.f83 from Try.func83) rfl rfl (by decide +kernel) (Nat.le_of_ble_eq_true rfl) ?_
 unfold cipher_Round at h0
 refine awp_nr [0,1,2] (fun _ => rfl) fun tz => ?_
 refine awp_regW fun KK hKK => ?_
 refine xw_id ?_
 try simp only [go_sem, ↓iop_and, ↓iop_or, ↓iop_xor, ↓iop_andn, Nat.reduceEqDiff, reduceIte, Nat.reduceAdd, Nat.reduceMul, Nat.reduceSub, Nat.reduceLT, Nat.reduceLeDiff]
 refine hKK _ _ (Wk.refl _ _ _) ?_; clear hKK KK
 refine awp_nr [1,2,3,6] (fun _ => rfl) fun tz => ?_
 refine awp_regDW fun KK hKK all hall => ?_
 refine xd_id ?_
 try simp only [List.toList_toArray, List.map_cons, List.map_nil, List.size_toArray, List.length_cons, List.length_nil, Nat.zero_add]
 try simp only [Nat.reduceAdd]
 obtain ⟨x41, bx41, h0⟩ := bnd h0
 iterate 3 ((try simp only [go_sem, ↓iop_and, ↓iop_or, ↓iop_xor, ↓iop_andn, Nat.reduceEqDiff, reduceIte, Nat.reduceMul, Nat.reduceSub, Nat.reduceLT, Nat.reduceLeDiff, Int.reduceToNat, Int.reduceBEq, Int.reduceBNe, Int.reduceLT, Int.reduceLE, Int.reduceAdd, Int.reduceSub, Int.reduceMul]); try simp only [Nat.reduceAdd])
 refine xcallD_p (math_bits_RotateLeft32_p a0.a1 5 bx41) ?_; try dsimp only
 try refine xd_id ?_
 iterate 3 ((try simp only [go_sem, ↓iop_and, ↓iop_or, ↓iop_xor, ↓iop_andn, Nat.reduceEqDiff, reduceIte, Nat.reduceMul, Nat.reduceSub, Nat.reduceLT, Nat.reduceLeDiff, Int.reduceToNat, Int.reduceBEq, Int.reduceBNe, Int.reduceLT, Int.reduceLE, Int.reduceAdd, Int.reduceSub, Int.reduceMul]); try simp only [Nat.reduceAdd])
 refine And.intro ?_ (hKK _ (cipher_Round_S0 a0 x41 a1 a2) (Wk.canonD [] [] [some 0, some 1] rfl trivial rfl (tmOU 1 (tmOU 0 tmO0 rfl List.not_mem_nil (by simp only [upd_get, Nat.reduceEqDiff, reduceIte, if_true, if_false] <;> rfl) (TmL.clean (e_A4vw_clean _))) rfl List.not_mem_nil (by simp only [upd_get, Nat.reduceEqDiff, reduceIte, if_true, if_false] <;> rfl) (TmL.clean (e_A4vw_clean _))) (tmAllU 6 (tmAllU 3 (tmAllU 2 (tmAllU 1 tmAll0 (Tm.v _)) (Tm.v _)) (Tm.ptr rfl)) (Tm.ptr rfl))) ?_)
 ·
  subst hall
  clear hKK KK
  first | decide +kernel | (simp [printsOk, apartP, clash, meet]; try (first | done | decide +kernel | (repeat (first | exact Or.inr (by decide +kernel) | (refine And.intro (Or.inr (by decide +kernel)) ?_)))))
 ·
  clear hKK KK hall all
  unfold cipher_Round_S0
  refine awp_nr [1,2,3,6] (fun _ => rfl) fun tz => ?_
  refine awp_regDW fun KK hKK all hall => ?_
  refine xd_id ?_
  try simp only [List.toList_toArray, List.map_cons, List.map_nil, List.size_toArray, List.length_cons, List.length_nil, Nat.zero_add]
  try simp only [Nat.reduceAdd]
  obtain ⟨x42, bx42, h0⟩ := bnd h0
  iterate 3 ((try simp only [go_sem, ↓iop_and, ↓iop_or, ↓iop_xor, ↓iop_andn, Nat.reduceEqDiff, reduceIte, Nat.reduceMul, Nat.reduceSub, Nat.reduceLT, Nat.reduceLeDiff, Int.reduceToNat, Int.reduceBEq, Int.reduceBNe, Int.reduceLT, Int.reduceLE, Int.reduceAdd, Int.reduceSub, Int.reduceMul]); try simp only [Nat.reduceAdd])
  refine xcallD_p (math_bits_RotateLeft32_p a0.a3 9 bx42) ?_; try dsimp only
  try refine xd_id ?_
  iterate 3 ((try simp only [go_sem, ↓iop_and, ↓iop_or, ↓iop_xor, ↓iop_andn, Nat.reduceEqDiff, reduceIte, Nat.reduceMul, Nat.reduceSub, Nat.reduceLT, Nat.reduceLeDiff, Int.reduceToNat, Int.reduceBEq, Int.reduceBNe, Int.reduceLT, Int.reduceLE, Int.reduceAdd, Int.reduceSub, Int.reduceMul]); try simp only [Nat.reduceAdd])
  refine And.intro ?_ (hKK _ _ (Wk.refl _ _ _) ?_)
  ·
   subst hall
   clear hKK KK
   first | decide +kernel | (simp [printsOk, apartP, clash, meet]; try (first | done | decide +kernel | (repeat (first | exact Or.inr (by decide +kernel) | (refine And.intro (Or.inr (by decide +kernel)) ?_)))))
  ·
   clear hKK KK hall all
   refine awp_nr [1,2,3,6] (fun _ => rfl) fun tz => ?_
   refine awp_regDW fun KK hKK all hall => ?_
   refine xd_id ?_
   try simp only [List.toList_toArray, List.map_cons, List.map_nil, List.size_toArray, List.length_cons, List.length_nil, Nat.zero_add]
   try simp only [Nat.reduceAdd]
   obtain ⟨x43, bx43, h0⟩ := bnd h0
   iterate 3 ((try simp only [go_sem, ↓iop_and, ↓iop_or, ↓iop_xor, ↓iop_andn, Nat.reduceEqDiff, reduceIte, Nat.reduceMul, Nat.reduceSub, Nat.reduceLT, Nat.reduceLeDiff, Int.reduceToNat, Int.reduceBEq, Int.reduceBNe, Int.reduceLT, Int.reduceLE, Int.reduceAdd, Int.reduceSub, Int.reduceMul]); try simp only [Nat.reduceAdd])
   refine xcallD_p (math_bits_RotateLeft32_p (IntKind.wrap .u32 ((IntKind.wrap .u32 (a0.a2 + (bxor .u32 x42 a2))) + a1)) 13 bx43) ?_; try dsimp only
   try refine xd_id ?_
   iterate 3 ((try simp only [go_sem, ↓iop_and, ↓iop_or, ↓iop_xor, ↓iop_andn, Nat.reduceEqDiff, reduceIte, Nat.reduceMul, Nat.reduceSub, Nat.reduceLT, Nat.reduceLeDiff, Int.reduceToNat, Int.reduceBEq, Int.reduceBNe, Int.reduceLT, Int.reduceLE, Int.reduceAdd, Int.reduceSub, Int.reduceMul]); try simp only [Nat.reduceAdd])
   refine And.intro ?_ (hKK _ (cipher_Round_S1 a0 x41 a1 x43 a2 x42) (Wk.canonD [] [] [some 0, some 1] rfl trivial rfl (tmOU 1 (tmOU 0 tmO0 rfl List.not_mem_nil (by simp only [upd_get, Nat.reduceEqDiff, reduceIte, if_true, if_false] <;> rfl) (TmL.clean (e_A4vw_clean _))) rfl List.not_mem_nil (by simp only [upd_get, Nat.reduceEqDiff, reduceIte, if_true, if_false] <;> rfl) (TmL.clean (e_A4vw_clean _))) (tmAllU 6 (tmAllU 3 (tmAllU 2 tmAll0 (Tm.v _)) (Tm.ptr rfl)) (Tm.ptr rfl))) ?_)
   ·
    subst hall
    clear hKK KK
    first | decide +kernel | (simp [printsOk, apartP, clash, meet]; try (first | done | decide +kernel | (repeat (first | exact Or.inr (by decide +kernel) | (refine And.intro (Or.inr (by decide +kernel)) ?_)))))
   ·
    clear hKK KK hall all
    unfold cipher_Round_S1
    refine awp_nr [2,3,6] (fun _ => rfl) fun tz => ?_
    refine awp_regDW fun KK hKK all hall => ?_
    refine xd_id ?_
    try simp only [List.toList_toArray, List.map_cons, List.map_nil, List.size_toArray, List.length_cons, List.length_nil, Nat.zero_add]
    try simp only [Nat.reduceAdd]
    obtain ⟨x44, bx44, h0⟩ := bnd h0
    iterate 3 ((try simp only [go_sem, ↓iop_and, ↓iop_or, ↓iop_xor, ↓iop_andn, Nat.reduceEqDiff, reduceIte, Nat.reduceMul, Nat.reduceSub, Nat.reduceLT, Nat.reduceLeDiff, Int.reduceToNat, Int.reduceBEq, Int.reduceBNe, Int.reduceLT, Int.reduceLE, Int.reduceAdd, Int.reduceSub, Int.reduceMul]); try simp only [Nat.reduceAdd])
    refine xcallD_p (math_bits_RotateLeft32_p (IntKind.wrap .u32 ((IntKind.wrap .u32 (a0.a0 + (bxor .u32 x41 a1))) + a2)) 19 bx44) ?_; try dsimp only
    try refine xd_id ?_
    iterate 3 ((try simp only [go_sem, ↓iop_and, ↓iop_or, ↓iop_xor, ↓iop_andn, Nat.reduceEqDiff, reduceIte, Nat.reduceMul, Nat.reduceSub, Nat.reduceLT, Nat.reduceLeDiff, Int.reduceToNat, Int.reduceBEq, Int.reduceBNe, Int.reduceLT, Int.reduceLE, Int.reduceAdd, Int.reduceSub, Int.reduceMul]); try simp only [Nat.reduceAdd])
    refine And.intro ?_ (hKK _ _ (Wk.refl _ _ _) ?_)
    ·
     subst hall
     clear hKK KK
     first | decide +kernel | (simp [printsOk, apartP, clash, meet]; try (first | done | decide +kernel | (repeat (first | exact Or.inr (by decide +kernel) | (refine And.intro (Or.inr (by decide +kernel)) ?_)))))
    ·
     clear hKK KK hall all
     refine awp_nr [3,6] (fun _ => rfl) fun tz => ?_
     refine awp_regW fun KK hKK => ?_
     refine xw_id ?_
     try simp only [go_sem, ↓iop_and, ↓iop_or, ↓iop_xor, ↓iop_andn, Nat.reduceEqDiff, reduceIte, Nat.reduceAdd, Nat.reduceMul, Nat.reduceSub, Nat.reduceLT, Nat.reduceLeDiff, Int.reduceToNat, Int.reduceBEq, Int.reduceBNe, Int.reduceLT, Int.reduceLE, Int.reduceAdd, Int.reduceSub, Int.reduceMul]
     refine hKK _ _ (Wk.refl _ _ _) ?_; clear hKK KK
     refine awp_ret1 ?_
     obtain rfl := someInj h0
     refine endW_i ?_
     refine end_ret0 rs83 (by simp only [go_sem, resV, resAll, resOf, packR, ↓iop_and, ↓iop_or, ↓iop_xor, ↓iop_andn, Nat.reduceEqDiff, reduceIte, Nat.reduceAdd, Nat.reduceMul, Nat.reduceSub, Nat.reduceLT, Nat.reduceLeDiff]; rfl) ?_
     try simp only [go_sem, ↓iop_and, ↓iop_or, ↓iop_xor, ↓iop_andn, Nat.reduceEqDiff, reduceIte, Nat.reduceAdd, Nat.reduceMul, Nat.reduceSub, Nat.reduceLT, Nat.reduceLeDiff, fz, nilS, packR, List.take_nil, List.take_length, List.length_map, List.length_append, cond_true, cond_false, Nat.ble_eq, ble_self]
     all_goals first | rfl | (simp only [go_sem, ↓iop_and, ↓iop_or, ↓iop_xor, ↓iop_andn, Nat.reduceEqDiff, reduceIte, Nat.reduceAdd, Nat.reduceMul, Nat.reduceSub, Nat.reduceLT, Nat.reduceLeDiff, fz, nilS, packR, List.take_nil, List.take_length, List.length_map, List.length_append, cond_true, cond_false, Nat.ble_eq, ble_self, List.map_append] <;> rfl)

end Go.AX.Z.TX

/-! (TXW cipher Join) -/

set_option linter.unusedSimpArgs false
set_option linter.unusedVariables false
set_option maxHeartbeats 4000000
set_option maxRecDepth 20000
namespace Go.AX.Z.TX
open Go.AX Go.Proofs
attribute [local irreducible] awp xw xop xcall gsp ob xd xdop xcallD seqQ loopQ blkQ endQ

def cipher_Join_S0 (d43 : A16vu) : AS :=
 { objs := (upd (fun _ => .dead) 0 (.live (e_A16vu d43))), next := 1, tmps := (upd (fun _ => .unk) 2 (.ptr 0 0)) }

def cipher_Join_S1 (a0 : A4vw) (d44 : (A16vu × Int)) : AS :=
 { objs := (upd (upd (fun _ => .dead) 0 (.live (e_A4vw a0))) 1 (.live (e_A16vu d44.1))), next := 2, tmps := (upd (upd (upd (fun _ => .unk) 1 (.ptr 0 0)) 2 (.ptr 1 0)) 4 (vi d44.2)) }

theorem cipher_Join_p (a0 : A4vw) {r : A16vu} (h0 : cipher_Join a0 = some r) : SndP K 84 [(.agg (e_A4vw a0))] (.agg (e_A16vu r)) := by
 refine SndP.of_walkW hC (Clean.agg (e_A16vu_clean _)) (clean_cons (Clean.agg (e_A4vw_clean _)) clean_nil) (show K.P.funcs[84]? = some Try.f84 from Try.func84) rfl rfl (by decide +kernel) (Nat.le_of_ble_eq_true rfl) ?_
 unfold cipher_Join at h0
 refine awp_nr [0] (fun _ => rfl) fun tz => ?_
 refine awp_regW fun KK hKK => ?_
 refine xw_id ?_
 try simp only [go_sem, Nat.reduceEqDiff, reduceIte, Nat.reduceAdd, Nat.reduceMul, Nat.reduceSub, Nat.reduceLT, Nat.reduceLeDiff]
 refine hKK _ _ (Wk.refl _ _ _) ?_; clear hKK KK
 refine awp_assoc ?_
 refine awp_nr [1,2] (fun _ => rfl) fun tz => ?_
 refine awp_regW fun KK hKK => ?_
 refine xw_id ?_
 try simp only [go_sem, Nat.reduceEqDiff, reduceIte, Nat.reduceAdd, Nat.reduceMul, Nat.reduceSub, Nat.reduceLT, Nat.reduceLeDiff]
 refine hKK _ _ (Wk.refl _ _ _) ?_; clear hKK KK
 obtain ⟨d43, hi1, h0⟩ := bnd h0
 refine awp_cut (fun z => d43 = z) (fun d43 : A16vu => cipher_Join_S0 d43) ?_ ?_
 ·
  refine awp_block1 ?_
  refine awp_loopS (fun n (d44 : (A16vu × Int)) => cipher_Join_L2 a0 n d44 = some d43) (fun d44 : (A16vu × Int) => cipher_Join_S1 a0 d44) big (A16vu.z, 0) (Wk.canonD [] [] [some 0, some 1] rfl trivial rfl (tmOU 1 (tmOU 0 tmO0 rfl List.not_mem_nil (by simp only [upd_get, Nat.reduceEqDiff, reduceIte, if_true, if_false] <;> rfl) (TmL.clean (e_A4vw_clean _))) rfl List.not_mem_nil (by simp only [upd_get, Nat.reduceEqDiff, reduceIte, if_true, if_false] <;> rfl) (TmL.clean (e_A16vu_clean _))) (tmAllU 4 (tmAllU 2 (tmAllU 1 tmAll0 (Tm.ptr rfl)) (Tm.ptr rfl)) (Tm.v _))) hi1 ?_
  clear hi1
  rintro n d44 hl3
  rcases n with _ | n2
  ·
   (rw [cipher_Join_L2] at hl3; cases hl3)
  ·
   rw [cipher_Join_L2] at hl3
   unfold cipher_Join_S1
   refine awp_nr [1,2,4] (fun _ => rfl) fun tz => ?_
   refine awp_regW fun KK hKK => ?_
   refine xw_id ?_
   try simp only [go_sem, Nat.reduceEqDiff, reduceIte, Nat.reduceAdd, Nat.reduceMul, Nat.reduceSub, Nat.reduceLT, Nat.reduceLeDiff]
   refine hKK _ _ (Wk.refl _ _ _) ?_; clear hKK KK
   refine awp_cond (b := (decide (d44.2 < 16))) rfl (fun h4 => ?_) (fun h4 => ?_)
   ·
    have hl3 := cT hl3 h4
    refine awp_skip ?_
    refine awp_blockW ?_
    refine awp_nr [1,2,4] (fun _ => rfl) fun tz => ?_
    refine awp_regW fun KK hKK => ?_
    refine xw_id ?_
    try simp only [go_sem, Nat.reduceEqDiff, reduceIte, Nat.reduceAdd, Nat.reduceMul, Nat.reduceSub, Nat.reduceLT, Nat.reduceLeDiff]
    refine hKK _ _ (Wk.refl _ _ _) ?_; clear hKK KK
    refine awp_nr1 [1,2,3,4] (fun _ => rfl) fun tz => ?_
    refine awp_reg1 fun KK hKK => ?_
    refine xw_id ?_
    obtain ⟨x45, bx45, hl3⟩ := bnd hl3
    obtain ⟨fx45_0, fx45_1, fx45_2, fx45_3⟩ := idxA_some bx45
    have fx45_6 : (e_A4vw a0)[(IntKind.wrap .i64 ((d44.2).tdiv 4)).toNat]? = some (vw x45) := by show (List.map vw [a0.a0, a0.a1, a0.a2, a0.a3])[(IntKind.wrap .i64 ((d44.2).tdiv 4)).toNat]? = _; rw [List.getElem?_map, fx45_2]; rfl
    obtain ⟨x46, bx46, hl3⟩ := bnd hl3
    have bx46 := chk_some bx46
    simp only [Bool.and_eq_true, decide_eq_true_eq] at bx46
    have gx46_0 := bx46
    obtain ⟨x47, bx47, hl3⟩ := bnd hl3
    obtain ⟨fx47_0, fx47_1, fx47_2, fx47_3⟩ := idxA_some bx47
    have fx47_6 : (e_A16vu d44.1)[(d44.2).toNat]? = some (vu x47) := by show (List.map vu [d44.1.a0, d44.1.a1, d44.1.a2, d44.1.a3, d44.1.a4, d44.1.a5, d44.1.a6, d44.1.a7, d44.1.a8, d44.1.a9, d44.1.a10, d44.1.a11, d44.1.a12, d44.1.a13, d44.1.a14, d44.1.a15])[(d44.2).toNat]? = _; rw [List.getElem?_map, fx47_2]; rfl
    have gs5b : (d44.2).toNat < 16 := by have h0 := of_eq_true fx47_0; have h1 := of_eq_true fx47_1; omega
    have gs5 : (e_A16vu d44.1).set ((d44.2).toNat) (vu (IntKind.wrap .u8 ((x45).fdiv (2 ^ (min ((IntKind.wrap .i64 (((d44.2).tmod 4) * 8))).toNat 32))))) = e_A16vu (d44.1.setA ((d44.2).toNat) (IntKind.wrap .u8 ((x45).fdiv (2 ^ (min ((IntKind.wrap .i64 (((d44.2).tmod 4) * 8))).toNat 32))))) := e_A16vu_setA _ _ gs5b
    have gs5l : ((d44.2).toNat + 1 ≤ 16) = True := eq_true (by omega)
    try simp only [go_sem, Nat.reduceEqDiff, reduceIte, Nat.reduceAdd, Nat.reduceMul, Nat.reduceSub, Nat.reduceLT, Nat.reduceLeDiff, Int.reduceToNat, Int.reduceBEq, Int.reduceBNe, Int.reduceLT, Int.reduceLE, Int.reduceAdd, Int.reduceSub, Int.reduceMul, Int.reduceEq, fx45_0, fx45_1, fx45_6, gx46_0, fx47_0, fx47_1, fx47_6, gs5, gs5l]
    refine hKK _ ?_; clear hKK KK
    refine bq_n ?_
    refine seqW_i ?_
    refine awp_nr1 [1,2,4] (fun _ => rfl) fun tz => ?_
    refine awp_reg1 fun KK hKK => ?_
    refine xw_id ?_
    try simp only [go_sem, Nat.reduceEqDiff, reduceIte, Nat.reduceAdd, Nat.reduceMul, Nat.reduceSub, Nat.reduceLT, Nat.reduceLeDiff, fx45_0, fx45_1, fx45_6, fx47_0, fx47_1, fx47_6]
    refine hKK _ ?_; clear hKK KK
    refine lq_n ?_
    exact ⟨n2, ((d44.1.setA ((d44.2).toNat) (IntKind.wrap .u8 ((x45).fdiv (2 ^ (min ((IntKind.wrap .i64 (((d44.2).tmod 4) * 8))).toNat 32))))), IntKind.wrap .i64 (d44.2 + 1)), rfl, hl3, (Wk.canonD [] [] [some 0, some 1] rfl trivial rfl (tmOU 1 (tmOU 0 tmO0 rfl List.not_mem_nil (by simp only [upd_get, Nat.reduceEqDiff, reduceIte, if_true, if_false] <;> rfl) (TmL.clean (e_A4vw_clean _))) rfl List.not_mem_nil (by simp only [upd_get, Nat.reduceEqDiff, reduceIte, if_true, if_false] <;> rfl) (TmL.clean (e_A16vu_clean _))) (tmAllU 4 (tmAllU 2 (tmAllU 1 tmAll0 (Tm.ptr rfl)) (Tm.ptr rfl)) (Tm.v _)))⟩
   ·
    have hl3 := cF hl3 h4
    refine awp_exit ?_
    refine lq_e ?_
    refine bq_e ?_
    refine sq_n ?_
    obtain rfl := someInj hl3
    exact ⟨_, rfl, (Wk.canonD [] [] [some 1] rfl trivial rfl (tmOU 0 tmO0 rfl List.not_mem_nil (by simp only [upd_get, Nat.reduceEqDiff, reduceIte, if_true, if_false] <;> rfl) (TmL.clean (e_A16vu_clean _))) (tmAllU 2 tmAll0 (Tm.ptr rfl)))⟩
 ·
  rintro _ rfl
  clear hi1
  unfold cipher_Join_S0
  refine awp_nr [2] (fun _ => rfl) fun tz => ?_
  refine awp_regW fun KK hKK => ?_
  refine xw_id ?_
  try simp only [go_sem, Nat.reduceEqDiff, reduceIte, Nat.reduceAdd, Nat.reduceMul, Nat.reduceSub, Nat.reduceLT, Nat.reduceLeDiff]
  refine hKK _ _ (Wk.refl _ _ _) ?_; clear hKK KK
  refine awp_ret1 ?_
  obtain rfl := someInj h0
  refine endW_i ?_
  refine end_ret0 rs84 (by simp only [go_sem, resV, resAll, resOf, packR, Nat.reduceEqDiff, reduceIte, Nat.reduceAdd, Nat.reduceMul, Nat.reduceSub, Nat.reduceLT, Nat.reduceLeDiff]; rfl) ?_
  try simp only [go_sem, Nat.reduceEqDiff, reduceIte, Nat.reduceAdd, Nat.reduceMul, Nat.reduceSub, Nat.reduceLT, Nat.reduceLeDiff, fz, nilS, packR, List.take_nil, List.take_length, List.length_map, List.length_append, cond_true, cond_false, Nat.ble_eq, ble_self]
  all_goals first | rfl | (simp only [go_sem, Nat.reduceEqDiff, reduceIte, Nat.reduceAdd, Nat.reduceMul, Nat.reduceSub, Nat.reduceLT, Nat.reduceLeDiff, fz, nilS, packR, List.take_nil, List.take_length, List.length_map, List.length_append, cond_true, cond_false, Nat.ble_eq, ble_self, List.map_append] <;> rfl)

end Go.AX.Z.TX

/-! (TXW cipher Encrypt) -/

set_option linter.unusedSimpArgs false
set_option linter.unusedVariables false
set_option maxHeartbeats 4000000
set_option maxRecDepth 20000
namespace Go.AX.Z.TX
open Go.AX Go.Proofs
attribute [local irreducible] awp xw xop xcall gsp ob xd xdop xcallD seqQ loopQ blkQ endQ

def cipher_Encrypt_S0 (a1 : A16vu) (x24 : A36vw) : AS :=
 { objs := (upd (upd (upd (fun _ => .dead) 0 (.live (e_A16vu a1))) 1 (.live (e_A16vu A16vu.z))) 2 (.live (e_A36vw x24))), next := 3, tmps := (upd (upd (upd (fun _ => .unk) 3 (.ptr 0 0)) 4 (.ptr 1 0)) 5 (.ptr 2 0)) }

def cipher_Encrypt_S1 (x24 : A36vw) (x26 : A4vw) : AS :=
 { objs := (upd (upd (upd (fun _ => .dead) 0 (.live (e_A16vu A16vu.z))) 1 (.live (e_A36vw x24))) 2 (.live (e_A4vw x26))), next := 3, tmps := (upd (upd (upd (fun _ => .unk) 4 (.ptr 0 0)) 5 (.ptr 1 0)) 6 (.ptr 2 0)) }

def cipher_Encrypt_S2 (d27 : A4vw) : AS :=
 { objs := (upd (upd (fun _ => .dead) 0 (.live (e_A16vu A16vu.z))) 1 (.live (e_A4vw d27))), next := 2, tmps := (upd (upd (fun _ => .unk) 4 (.ptr 0 0)) 6 (.ptr 1 0)) }

def cipher_Encrypt_S3 (x24 : A36vw) (d28 : (A4vw × Int)) : AS :=
 { objs := (upd (upd (upd (fun _ => .dead) 0 (.live (e_A16vu A16vu.z))) 1 (.live (e_A36vw x24))) 2 (.live (e_A4vw d28.1))), next := 3, tmps := (upd (upd (upd (upd (fun _ => .unk) 4 (.ptr 0 0)) 5 (.ptr 1 0)) 6 (.ptr 2 0)) 14 (vi d28.2)) }

theorem cipher_Encrypt_p (a0 : A16vu) (a1 : A16vu) {r : A16vu} (h0 : cipher_Encrypt a0 a1 = some r) : SndP K 73 [(.agg (e_A16vu a0)), (.agg (e_A16vu a1))] (.agg (e_A16vu r)) := by
 refine SndP.of_walkW hC (Clean.agg (e_A16vu_clean _)) (clean_cons (Clean.agg (e_A16vu_clean _)) (clean_cons (Clean.agg (e_A16vu_clean _)) clean_nil)) (show K.P.funcs[73]? = some Try.f73 from Try.func73) rfl rfl (by decide +kernel) (Nat.le_of_ble_eq_true rfl) ?_
 unfold cipher_Encrypt at h0
 refine awp_nr [0,1] (fun _ => rfl) fun tz => ?_
 refine awp_regW fun KK hKK => ?_
 refine xw_id ?_
 try simp only [go_sem, Nat.reduceEqDiff, reduceIte, Nat.reduceAdd, Nat.reduceMul, Nat.reduceSub, Nat.reduceLT, Nat.reduceLeDiff]
 refine hKK _ _ (Wk.refl _ _ _) ?_; clear hKK KK
 refine awp_nr [2,3,4] (fun _ => rfl) fun tz => ?_
 refine awp_regW fun KK hKK => ?_
 refine xw_id ?_
 obtain ⟨x24, bx24, h0⟩ := bnd h0
 try simp only [go_sem, Nat.reduceEqDiff, reduceIte, Nat.reduceAdd, Nat.reduceMul, Nat.reduceSub, Nat.reduceLT, Nat.reduceLeDiff]
 refine xcall_p (cipher_Schedule_p a0 bx24) ?_; try dsimp only
 try refine xw_id ?_
 try simp only [go_sem, Nat.reduceEqDiff, reduceIte, Nat.reduceAdd, Nat.reduceMul, Nat.reduceSub, Nat.reduceLT, Nat.reduceLeDiff]
 refine hKK _ (cipher_Encrypt_S0 a1 x24) (Wk.canonD [] [] [some 1, some 2, some 5] rfl trivial rfl (tmOU 2 (tmOU 1 (tmOU 0 tmO0 rfl List.not_mem_nil (by simp only [upd_get, Nat.reduceEqDiff, reduceIte, if_true, if_false] <;> rfl) (TmL.clean (e_A16vu_clean _))) rfl List.not_mem_nil (by simp only [upd_get, Nat.reduceEqDiff, reduceIte, if_true, if_false] <;> rfl) (TmL.clean (e_A16vu_clean _))) rfl List.not_mem_nil (by simp only [upd_get, Nat.reduceEqDiff, reduceIte, if_true, if_false] <;> rfl) (TmL.clean (e_A36vw_clean _))) (tmAllU 5 (tmAllU 4 (tmAllU 3 tmAll0 (Tm.ptr rfl)) (Tm.ptr rfl)) (Tm.ptr rfl))) ?_; clear hKK KK
 unfold cipher_Encrypt_S0
 refine awp_nr [3,4,5] (fun _ => rfl) fun tz => ?_
 refine awp_regDW fun KK hKK all hall => ?_
 refine xd_id ?_
 try simp only [List.toList_toArray, List.map_cons, List.map_nil, List.size_toArray, List.length_cons, List.length_nil, Nat.zero_add]
 try simp only [Nat.reduceAdd]
 obtain ⟨x25, bx25, h0⟩ := bnd h0
 iterate 3 ((try simp only [go_sem, Nat.reduceEqDiff, reduceIte, Nat.reduceMul, Nat.reduceSub, Nat.reduceLT, Nat.reduceLeDiff]); try simp only [Nat.reduceAdd])
 refine xcallD_p (cipher_Words_p a1 bx25) ?_; try dsimp only
 try refine xd_id ?_
 obtain ⟨x26, bx26, h0⟩ := bnd h0
 iterate 3 ((try simp only [go_sem, Nat.reduceEqDiff, reduceIte, Nat.reduceMul, Nat.reduceSub, Nat.reduceLT, Nat.reduceLeDiff]); try simp only [Nat.reduceAdd])
 refine xcallD_p (cipher_mask_p x25 x24 bx26) ?_; try dsimp only
 try refine xd_id ?_
 iterate 3 ((try simp only [go_sem, Nat.reduceEqDiff, reduceIte, Nat.reduceMul, Nat.reduceSub, Nat.reduceLT, Nat.reduceLeDiff]); try simp only [Nat.reduceAdd])
 refine And.intro ?_ (hKK _ (cipher_Encrypt_S1 x24 x26) (Wk.canonD [] [] [some 1, some 2, some 7] rfl trivial rfl (tmOU 2 (tmOU 1 (tmOU 0 tmO0 rfl List.not_mem_nil (by simp only [upd_get, Nat.reduceEqDiff, reduceIte, if_true, if_false] <;> rfl) (TmL.clean (e_A16vu_clean _))) rfl List.not_mem_nil (by simp only [upd_get, Nat.reduceEqDiff, reduceIte, if_true, if_false] <;> rfl) (TmL.clean (e_A36vw_clean _))) rfl List.not_mem_nil (by simp only [upd_get, Nat.reduceEqDiff, reduceIte, if_true, if_false] <;> rfl) (TmL.clean (e_A4vw_clean _))) (tmAllU 6 (tmAllU 5 (tmAllU 4 tmAll0 (Tm.ptr rfl)) (Tm.ptr rfl)) (Tm.ptr rfl))) ?_)
 ·
  subst hall
  clear hKK KK
  first | decide +kernel | (simp [printsOk, apartP, clash, meet]; try (first | done | decide +kernel | (repeat (first | exact Or.inr (by decide +kernel) | (refine And.intro (Or.inr (by decide +kernel)) ?_)))))
 ·
  clear hKK KK hall all
  unfold cipher_Encrypt_S1
  refine awp_assoc ?_
  refine awp_nr [4,5,6] (fun _ => rfl) fun tz => ?_
  refine awp_regW fun KK hKK => ?_
  refine xw_id ?_
  try simp only [go_sem, Nat.reduceEqDiff, reduceIte, Nat.reduceAdd, Nat.reduceMul, Nat.reduceSub, Nat.reduceLT, Nat.reduceLeDiff]
  refine hKK _ _ (Wk.refl _ _ _) ?_; clear hKK KK
  obtain ⟨d27, hi1, h0⟩ := bnd h0
  refine awp_cut (fun z => d27 = z) (fun d27 : A4vw => cipher_Encrypt_S2 d27) ?_ ?_
  ·
   refine awp_block1 ?_
   refine awp_loopS (fun n (d28 : (A4vw × Int)) => cipher_Encrypt_L4 x24 a0 a1 n d28 = some d27) (fun d28 : (A4vw × Int) => cipher_Encrypt_S3 x24 d28) big (x26, 0) (Wk.canonD [] [] [some 0, some 1, some 2] rfl trivial rfl (tmOU 2 (tmOU 1 (tmOU 0 tmO0 rfl List.not_mem_nil (by simp only [upd_get, Nat.reduceEqDiff, reduceIte, if_true, if_false] <;> rfl) (TmL.clean (e_A16vu_clean _))) rfl List.not_mem_nil (by simp only [upd_get, Nat.reduceEqDiff, reduceIte, if_true, if_false] <;> rfl) (TmL.clean (e_A36vw_clean _))) rfl List.not_mem_nil (by simp only [upd_get, Nat.reduceEqDiff, reduceIte, if_true, if_false] <;> rfl) (TmL.clean (e_A4vw_clean _))) (tmAllU 14 (tmAllU 6 (tmAllU 5 (tmAllU 4 tmAll0 (Tm.ptr rfl)) (Tm.ptr rfl)) (Tm.ptr rfl)) (Tm.v _))) hi1 ?_
   clear hi1
   rintro n d28 hl3
   rcases n with _ | n2
   ·
    (rw [cipher_Encrypt_L4] at hl3; cases hl3)
   ·
    rw [cipher_Encrypt_L4] at hl3
    unfold cipher_Encrypt_S3
    refine awp_nr [4,5,6,14] (fun _ => rfl) fun tz => ?_
    refine awp_regW fun KK hKK => ?_
    refine xw_id ?_
    try simp only [go_sem, Nat.reduceEqDiff, reduceIte, Nat.reduceAdd, Nat.reduceMul, Nat.reduceSub, Nat.reduceLT, Nat.reduceLeDiff]
    refine hKK _ _ (Wk.refl _ _ _) ?_; clear hKK KK
    refine awp_cond (b := (decide (d28.2 < 16))) rfl (fun h4 => ?_) (fun h4 => ?_)
    ·
     have hl3 := cT hl3 h4
     refine awp_skip ?_
     refine awp_blockW ?_
     refine awp_nr [4,5,6,14] (fun _ => rfl) fun tz => ?_
     refine awp_regW fun KK hKK => ?_
     refine xw_id ?_
     try simp only [go_sem, Nat.reduceEqDiff, reduceIte, Nat.reduceAdd, Nat.reduceMul, Nat.reduceSub, Nat.reduceLT, Nat.reduceLeDiff]
     refine hKK _ _ (Wk.refl _ _ _) ?_; clear hKK KK
     refine awp_nr1 [4,5,6,7,14] (fun _ => rfl) fun tz => ?_
     refine awp_regD1 fun KK hKK all hall => ?_
     refine xd_id ?_
     try simp only [List.toList_toArray, List.map_cons, List.map_nil, List.size_toArray, List.length_cons, List.length_nil, Nat.zero_add]
     try simp only [Nat.reduceAdd]
     obtain ⟨x29, bx29, hl3⟩ := bnd hl3
     obtain ⟨fx29_0, fx29_1, fx29_2, fx29_3⟩ := idxA_some bx29
     have fx29_6 : (e_A36vw x24)[(IntKind.wrap .i64 (4 + (IntKind.wrap .i64 (2 * d28.2)))).toNat]? = some (vw x29) := by show (List.map vw [x24.a0, x24.a1, x24.a2, x24.a3, x24.a4, x24.a5, x24.a6, x24.a7, x24.a8, x24.a9, x24.a10, x24.a11, x24.a12, x24.a13, x24.a14, x24.a15, x24.a16, x24.a17, x24.a18, x24.a19, x24.a20, x24.a21, x24.a22, x24.a23, x24.a24, x24.a25, x24.a26, x24.a27, x24.a28, x24.a29, x24.a30, x24.a31, x24.a32, x24.a33, x24.a34, x24.a35])[(IntKind.wrap .i64 (4 + (IntKind.wrap .i64 (2 * d28.2)))).toNat]? = _; rw [List.getElem?_map, fx29_2]; rfl
     obtain ⟨x30, bx30, hl3⟩ := bnd hl3
     obtain ⟨fx30_0, fx30_1, fx30_2, fx30_3⟩ := idxA_some bx30
     have fx30_6 : (e_A36vw x24)[(IntKind.wrap .i64 (5 + (IntKind.wrap .i64 (2 * d28.2)))).toNat]? = some (vw x30) := by show (List.map vw [x24.a0, x24.a1, x24.a2, x24.a3, x24.a4, x24.a5, x24.a6, x24.a7, x24.a8, x24.a9, x24.a10, x24.a11, x24.a12, x24.a13, x24.a14, x24.a15, x24.a16, x24.a17, x24.a18, x24.a19, x24.a20, x24.a21, x24.a22, x24.a23, x24.a24, x24.a25, x24.a26, x24.a27, x24.a28, x24.a29, x24.a30, x24.a31, x24.a32, x24.a33, x24.a34, x24.a35])[(IntKind.wrap .i64 (5 + (IntKind.wrap .i64 (2 * d28.2)))).toNat]? = _; rw [List.getElem?_map, fx30_2]; rfl
     obtain ⟨x31, bx31, hl3⟩ := bnd hl3
     iterate 3 ((try simp only [go_sem, Nat.reduceEqDiff, reduceIte, Nat.reduceMul, Nat.reduceSub, Nat.reduceLT, Nat.reduceLeDiff, Int.reduceToNat, Int.reduceBEq, Int.reduceBNe, Int.reduceLT, Int.reduceLE, Int.reduceAdd, Int.reduceSub, Int.reduceMul, fx29_0, fx29_1, fx29_6, fx30_0, fx30_1, fx30_6]); try simp only [Nat.reduceAdd])
     refine xcallD_p (cipher_Round_p d28.1 x29 x30 bx31) ?_; try dsimp only
     try refine xd_id ?_
     iterate 3 ((try simp only [go_sem, Nat.reduceEqDiff, reduceIte, Nat.reduceMul, Nat.reduceSub, Nat.reduceLT, Nat.reduceLeDiff, Int.reduceToNat, Int.reduceBEq, Int.reduceBNe, Int.reduceLT, Int.reduceLE, Int.reduceAdd, Int.reduceSub, Int.reduceMul, fx29_0, fx29_1, fx29_6, fx30_0, fx30_1, fx30_6]); try simp only [Nat.reduceAdd])
     refine And.intro ?_ (hKK _ ?_)
     ·
      subst hall
      clear hKK KK
      first | decide +kernel | (simp [printsOk, apartP, clash, meet]; try (first | done | decide +kernel | (repeat (first | exact Or.inr (by decide +kernel) | (refine And.intro (Or.inr (by decide +kernel)) ?_)))))
     ·
      clear hKK KK hall all
      refine bq_n ?_
      refine seqW_i ?_
      refine awp_nr1 [4,5,6,14] (fun _ => rfl) fun tz => ?_
      refine awp_reg1 fun KK hKK => ?_
      refine xw_id ?_
      try simp only [go_sem, Nat.reduceEqDiff, reduceIte, Nat.reduceAdd, Nat.reduceMul, Nat.reduceSub, Nat.reduceLT, Nat.reduceLeDiff, fx29_0, fx29_1, fx29_6, fx30_0, fx30_1, fx30_6]
      refine hKK _ ?_; clear hKK KK
      refine lq_n ?_
      exact ⟨n2, (x31, IntKind.wrap .i64 (d28.2 + 1)), rfl, hl3, (Wk.canonD [] [] [some 0, some 1, some 2] rfl trivial rfl (tmOU 2 (tmOU 1 (tmOU 0 tmO0 rfl List.not_mem_nil (by simp only [upd_get, Nat.reduceEqDiff, reduceIte, if_true, if_false] <;> rfl) (TmL.clean (e_A16vu_clean _))) rfl List.not_mem_nil (by simp only [upd_get, Nat.reduceEqDiff, reduceIte, if_true, if_false] <;> rfl) (TmL.clean (e_A36vw_clean _))) rfl List.not_mem_nil (by simp only [upd_get, Nat.reduceEqDiff, reduceIte, if_true, if_false] <;> rfl) (TmL.clean (e_A4vw_clean _))) (tmAllU 14 (tmAllU 6 (tmAllU 5 (tmAllU 4 tmAll0 (Tm.ptr rfl)) (Tm.ptr rfl)) (Tm.ptr rfl)) (Tm.v _)))⟩
    ·
     have hl3 := cF hl3 h4
     refine awp_exit ?_
     refine lq_e ?_
     refine bq_e ?_
     refine sq_n ?_
     obtain rfl := someInj hl3
     exact ⟨_, rfl, (Wk.canonD [] [] [some 0, some 2] rfl trivial rfl (tmOU 1 (tmOU 0 tmO0 rfl List.not_mem_nil (by simp only [upd_get, Nat.reduceEqDiff, reduceIte, if_true, if_false] <;> rfl) (TmL.clean (e_A16vu_clean _))) rfl List.not_mem_nil (by simp only [upd_get, Nat.reduceEqDiff, reduceIte, if_true, if_false] <;> rfl) (TmL.clean (e_A4vw_clean _))) (tmAllU 6 (tmAllU 4 tmAll0 (Tm.ptr rfl)) (Tm.ptr rfl)))⟩
  ·
   rintro _ rfl
   clear hi1
   unfold cipher_Encrypt_S2
   refine awp_nr [4,6] (fun _ => rfl) fun tz => ?_
   refine awp_regW fun KK hKK => ?_
   refine xw_id ?_
   obtain ⟨x32, bx32, h0⟩ := bnd h0
   try simp only [go_sem, Nat.reduceEqDiff, reduceIte, Nat.reduceAdd, Nat.reduceMul, Nat.reduceSub, Nat.reduceLT, Nat.reduceLeDiff]
   refine xcall_p (cipher_Join_p d27 bx32) ?_; try dsimp only
   try refine xw_id ?_
   try simp only [go_sem, Nat.reduceEqDiff, reduceIte, Nat.reduceAdd, Nat.reduceMul, Nat.reduceSub, Nat.reduceLT, Nat.reduceLeDiff]
   refine hKK _ _ (Wk.refl _ _ _) ?_; clear hKK KK
   refine awp_ret1 ?_
   obtain rfl := someInj h0
   refine endW_i ?_
   refine end_ret0 rs73 (by simp only [go_sem, resV, resAll, resOf, packR, Nat.reduceEqDiff, reduceIte, Nat.reduceAdd, Nat.reduceMul, Nat.reduceSub, Nat.reduceLT, Nat.reduceLeDiff]; rfl) ?_
   try simp only [go_sem, Nat.reduceEqDiff, reduceIte, Nat.reduceAdd, Nat.reduceMul, Nat.reduceSub, Nat.reduceLT, Nat.reduceLeDiff, fz, nilS, packR, List.take_nil, List.take_length, List.length_map, List.length_append, cond_true, cond_false, Nat.ble_eq, ble_self]
   all_goals first | rfl | (simp only [go_sem, Nat.reduceEqDiff, reduceIte, Nat.reduceAdd, Nat.reduceMul, Nat.reduceSub, Nat.reduceLT, Nat.reduceLeDiff, fz, nilS, packR, List.take_nil, List.take_length, List.length_map, List.length_append, cond_true, cond_false, Nat.ble_eq, ble_self, List.map_append] <;> rfl)

end Go.AX.Z.TX

/-! (TXW derive Mac) -/

set_option linter.unusedSimpArgs false
set_option linter.unusedVariables false
set_option maxHeartbeats 4000000
set_option maxRecDepth 20000
namespace Go.AX.Z.TX
open Go.AX Go.Proofs
attribute [local irreducible] awp xw xop xcall gsp ob xd xdop xcallD seqQ loopQ blkQ endQ

def derive_Mac_S0 (a0 : A16vu) (a1 : (List Int)) : AS :=
 { objs := (upd (upd (upd (fun _ => .dead) 0 (.live (e_A16vu a0))) 1 (.live (e_A16vu A16vu.z))) 2 (.live (e_A16vu { A16vu.z with a0 := 3 }))), next := 3, tmps := (upd (upd (upd (upd (fun _ => .unk) 1 (.imm (List.map vu a1) a1.length)) 2 (.ptr 0 0)) 4 (.ptr 1 0)) 5 (.ptr 2 0)) }

def derive_Mac_S1 (a0 : A16vu) (a1 : (List Int)) (d20 : A16vu) : AS :=
 { objs := (upd (upd (upd (fun _ => .dead) 0 (.live (e_A16vu a0))) 1 (.live (e_A16vu A16vu.z))) 2 (.live (e_A16vu d20))), next := 3, tmps := (upd (upd (upd (upd (fun _ => .unk) 1 (.imm (List.map vu a1) a1.length)) 2 (.ptr 0 0)) 4 (.ptr 1 0)) 5 (.ptr 2 0)) }

def derive_Mac_S2 (a0 : A16vu) (a1 : (List Int)) (d21 : (A16vu × Int)) : AS :=
 { objs := (upd (upd (upd (fun _ => .dead) 0 (.live (e_A16vu a0))) 1 (.live (e_A16vu A16vu.z))) 2 (.live (e_A16vu d21.1))), next := 3, tmps := (upd (upd (upd (upd (upd (fun _ => .unk) 1 (.imm (List.map vu a1) a1.length)) 2 (.ptr 0 0)) 4 (.ptr 1 0)) 5 (.ptr 2 0)) 10 (vi d21.2)) }

def derive_Mac_S4 (d25 : A16vu) : AS :=
 { objs := (upd (upd (fun _ => .dead) 0 (.live (e_A16vu A16vu.z))) 1 (.live (e_A16vu d25))), next := 2, tmps := (upd (upd (fun _ => .unk) 4 (.ptr 0 0)) 5 (.ptr 1 0)) }

def derive_Mac_S5 (a0 : A16vu) (a1 : (List Int)) (d26 : (A16vu × Int)) : AS :=
 { objs := (upd (upd (upd (fun _ => .dead) 0 (.live (e_A16vu a0))) 1 (.live (e_A16vu A16vu.z))) 2 (.live (e_A16vu d26.1))), next := 3, tmps := (upd (upd (upd (upd (upd (upd (upd (fun _ => .unk) 1 (.imm (List.map vu a1) a1.length)) 2 (.ptr 0 0)) 4 (.ptr 1 0)) 5 (.ptr 2 0)) 26 (.imm (List.map vu a1) a1.length)) 27 (vi (a1.length : Int))) 28 (vi d26.2)) }

theorem derive_Mac_p (a0 : A16vu) (a1 : (List Int)) {r : A16vu} (h0 : derive_Mac a0 a1 = some r) : SndP K 64 [(.agg (e_A16vu a0)), (S_vu a1)] (.agg (e_A16vu r)) := by
 refine SndP.of_walkW hC (Clean.agg (e_A16vu_clean _)) (clean_cons (Clean.agg (e_A16vu_clean _)) (clean_cons (S_vu_clean _) clean_nil)) (show K.P.funcs[64]? = some Try.f64 from Try.func64) rfl rfl (by decide +kernel) (Nat.le_of_ble_eq_true rfl) ?_
 unfold derive_Mac at h0
 refine awp_nr [0,1] (fun _ => rfl) fun tz => ?_
 refine awp_regW fun KK hKK => ?_
 refine xw_id ?_
 try simp only [go_sem, ↓iop_and, ↓iop_or, ↓iop_xor, ↓iop_andn, Nat.reduceEqDiff, reduceIte, Nat.reduceAdd, Nat.reduceMul, Nat.reduceSub, Nat.reduceLT, Nat.reduceLeDiff]
 refine hKK _ _ (Wk.refl _ _ _) ?_; clear hKK KK
 refine awp_nr [1,2,4] (fun _ => rfl) fun tz => ?_
 refine awp_regW fun KK hKK => ?_
 refine xw_id ?_
 try simp only [go_sem, ↓iop_and, ↓iop_or, ↓iop_xor, ↓iop_andn, Nat.reduceEqDiff, reduceIte, Nat.reduceAdd, Nat.reduceMul, Nat.reduceSub, Nat.reduceLT, Nat.reduceLeDiff]
 refine hKK _ (derive_Mac_S0 a0 a1) (Wk.canonD [] [] [some 0, some 1, some 3] rfl trivial rfl (tmOU 2 (tmOU 1 (tmOU 0 tmO0 rfl List.not_mem_nil (by simp only [upd_get, Nat.reduceEqDiff, reduceIte, if_true, if_false] <;> rfl) (TmL.clean (e_A16vu_clean _))) rfl List.not_mem_nil (by simp only [upd_get, Nat.reduceEqDiff, reduceIte, if_true, if_false] <;> rfl) (TmL.clean (e_A16vu_clean _))) rfl List.not_mem_nil (by simp only [upd_get, Nat.reduceEqDiff, reduceIte, if_true, if_false] <;> rfl) (TmL.clean (e_A16vu_clean _))) (tmAllU 5 (tmAllU 4 (tmAllU 2 (tmAllU 1 tmAll0 (Tm.clean (Clean.imm (vu_clean _)))) (Tm.ptr rfl)) (Tm.ptr rfl)) (Tm.ptr rfl))) ?_; clear hKK KK
 unfold derive_Mac_S0
 refine awp_assoc ?_
 refine awp_nr [1,2,4,5] (fun _ => rfl) fun tz => ?_
 refine awp_regW fun KK hKK => ?_
 refine xw_id ?_
 try simp only [go_sem, ↓iop_and, ↓iop_or, ↓iop_xor, ↓iop_andn, Nat.reduceEqDiff, reduceIte, Nat.reduceAdd, Nat.reduceMul, Nat.reduceSub, Nat.reduceLT, Nat.reduceLeDiff]
 refine hKK _ _ (Wk.refl _ _ _) ?_; clear hKK KK
 obtain ⟨d20, hi1, h0⟩ := bnd h0
 refine awp_cut (fun z => d20 = z) (fun d20 : A16vu => derive_Mac_S1 a0 a1 d20) ?_ ?_
 ·
  refine awp_block1 ?_
  refine awp_loopS (fun n (d21 : (A16vu × Int)) => derive_Mac_L3 a0 a1 n d21 = some d20) (fun d21 : (A16vu × Int) => derive_Mac_S2 a0 a1 d21) big ({ A16vu.z with a0 := 3 }, 0) (Wk.canonD [] [] [some 0, some 1, some 2] rfl trivial rfl (tmOU 2 (tmOU 1 (tmOU 0 tmO0 rfl List.not_mem_nil (by simp only [upd_get, Nat.reduceEqDiff, reduceIte, if_true, if_false] <;> rfl) (TmL.clean (e_A16vu_clean _))) rfl List.not_mem_nil (by simp only [upd_get, Nat.reduceEqDiff, reduceIte, if_true, if_false] <;> rfl) (TmL.clean (e_A16vu_clean _))) rfl List.not_mem_nil (by simp only [upd_get, Nat.reduceEqDiff, reduceIte, if_true, if_false] <;> rfl) (TmL.clean (e_A16vu_clean _))) (tmAllU 10 (tmAllU 5 (tmAllU 4 (tmAllU 2 (tmAllU 1 tmAll0 (Tm.clean (Clean.imm (vu_clean _)))) (Tm.ptr rfl)) (Tm.ptr rfl)) (Tm.ptr rfl)) (Tm.v _))) hi1 ?_
  clear hi1
  rintro n d21 hl3
  rcases n with _ | n2
  ·
   (rw [derive_Mac_L3] at hl3; cases hl3)
  ·
   rw [derive_Mac_L3] at hl3
   unfold derive_Mac_S2
   refine awp_nr [1,2,4,5,10] (fun _ => rfl) fun tz => ?_
   refine awp_regW fun KK hKK => ?_
   refine xw_id ?_
   try simp only [go_sem, ↓iop_and, ↓iop_or, ↓iop_xor, ↓iop_andn, Nat.reduceEqDiff, reduceIte, Nat.reduceAdd, Nat.reduceMul, Nat.reduceSub, Nat.reduceLT, Nat.reduceLeDiff]
   refine hKK _ _ (Wk.refl _ _ _) ?_; clear hKK KK
   refine awp_cond (b := (decide (d21.2 < 8))) rfl (fun h4 => ?_) (fun h4 => ?_)
   ·
    have hl3 := cT hl3 h4
    refine awp_skip ?_
    refine awp_blockW ?_
    refine awp_nr [1,2,4,5,10] (fun _ => rfl) fun tz => ?_
    refine awp_regW fun KK hKK => ?_
    refine xw_id ?_
    try simp only [go_sem, ↓iop_and, ↓iop_or, ↓iop_xor, ↓iop_andn, Nat.reduceEqDiff, reduceIte, Nat.reduceAdd, Nat.reduceMul, Nat.reduceSub, Nat.reduceLT, Nat.reduceLeDiff]
    refine hKK _ _ (Wk.refl _ _ _) ?_; clear hKK KK
    refine awp_nr1 [1,2,4,5,6,10] (fun _ => rfl) fun tz => ?_
    refine awp_reg1 fun KK hKK => ?_
    refine xw_id ?_
    obtain ⟨x22, bx22, hl3⟩ := bnd hl3
    have bx22 := chk_some bx22
    simp only [Bool.and_eq_true, decide_eq_true_eq] at bx22
    have gx22_0 := bx22
    obtain ⟨x23, bx23, hl3⟩ := bnd hl3
    obtain ⟨fx23_0, fx23_1, fx23_2, fx23_3⟩ := idxA_some bx23
    have fx23_6 : (e_A16vu d21.1)[(IntKind.wrap .i64 (1 + d21.2)).toNat]? = some (vu x23) := by show (List.map vu [d21.1.a0, d21.1.a1, d21.1.a2, d21.1.a3, d21.1.a4, d21.1.a5, d21.1.a6, d21.1.a7, d21.1.a8, d21.1.a9, d21.1.a10, d21.1.a11, d21.1.a12, d21.1.a13, d21.1.a14, d21.1.a15])[(IntKind.wrap .i64 (1 + d21.2)).toNat]? = _; rw [List.getElem?_map, fx23_2]; rfl
    have gs5b : (IntKind.wrap .i64 (1 + d21.2)).toNat < 16 := by have h0 := of_eq_true fx23_0; have h1 := of_eq_true fx23_1; omega
    have gs5 : (e_A16vu d21.1).set ((IntKind.wrap .i64 (1 + d21.2)).toNat) (vu (IntKind.wrap .u8 (((a1.length : Int)).fdiv (2 ^ (min ((IntKind.wrap .i64 (8 * d21.2))).toNat 64))))) = e_A16vu (d21.1.setA ((IntKind.wrap .i64 (1 + d21.2)).toNat) (IntKind.wrap .u8 (((a1.length : Int)).fdiv (2 ^ (min ((IntKind.wrap .i64 (8 * d21.2))).toNat 64))))) := e_A16vu_setA _ _ gs5b
    have gs5l : ((IntKind.wrap .i64 (1 + d21.2)).toNat + 1 ≤ 16) = True := eq_true (by omega)
    try simp only [go_sem, ↓iop_and, ↓iop_or, ↓iop_xor, ↓iop_andn, Nat.reduceEqDiff, reduceIte, Nat.reduceAdd, Nat.reduceMul, Nat.reduceSub, Nat.reduceLT, Nat.reduceLeDiff, Int.reduceToNat, Int.reduceBEq, Int.reduceBNe, Int.reduceLT, Int.reduceLE, Int.reduceAdd, Int.reduceSub, Int.reduceMul, gx22_0, fx23_0, fx23_1, fx23_6, gs5, gs5l]
    refine hKK _ ?_; clear hKK KK
    refine bq_n ?_
    refine seqW_i ?_
    refine awp_nr1 [1,2,4,5,10] (fun _ => rfl) fun tz => ?_
    refine awp_reg1 fun KK hKK => ?_
    refine xw_id ?_
    try simp only [go_sem, ↓iop_and, ↓iop_or, ↓iop_xor, ↓iop_andn, Nat.reduceEqDiff, reduceIte, Nat.reduceAdd, Nat.reduceMul, Nat.reduceSub, Nat.reduceLT, Nat.reduceLeDiff, fx23_0, fx23_1, fx23_6]
    refine hKK _ ?_; clear hKK KK
    refine lq_n ?_
    exact ⟨n2, ((d21.1.setA ((IntKind.wrap .i64 (1 + d21.2)).toNat) (IntKind.wrap .u8 (((a1.length : Int)).fdiv (2 ^ (min ((IntKind.wrap .i64 (8 * d21.2))).toNat 64))))), IntKind.wrap .i64 (d21.2 + 1)), rfl, hl3, (Wk.canonD [] [] [some 0, some 1, some 2] rfl trivial rfl (tmOU 2 (tmOU 1 (tmOU 0 tmO0 rfl List.not_mem_nil (by simp only [upd_get, Nat.reduceEqDiff, reduceIte, if_true, if_false] <;> rfl) (TmL.clean (e_A16vu_clean _))) rfl List.not_mem_nil (by simp only [upd_get, Nat.reduceEqDiff, reduceIte, if_true, if_false] <;> rfl) (TmL.clean (e_A16vu_clean _))) rfl List.not_mem_nil (by simp only [upd_get, Nat.reduceEqDiff, reduceIte, if_true, if_false] <;> rfl) (TmL.clean (e_A16vu_clean _))) (tmAllU 10 (tmAllU 5 (tmAllU 4 (tmAllU 2 (tmAllU 1 tmAll0 (Tm.clean (Clean.imm (vu_clean _)))) (Tm.ptr rfl)) (Tm.ptr rfl)) (Tm.ptr rfl)) (Tm.v _)))⟩
   ·
    have hl3 := cF hl3 h4
    refine awp_exit ?_
    refine lq_e ?_
    refine bq_e ?_
    refine sq_n ?_
    obtain rfl := someInj hl3
    exact ⟨_, rfl, (Wk.canonD [] [] [some 0, some 1, some 2] rfl trivial rfl (tmOU 2 (tmOU 1 (tmOU 0 tmO0 rfl List.not_mem_nil (by simp only [upd_get, Nat.reduceEqDiff, reduceIte, if_true, if_false] <;> rfl) (TmL.clean (e_A16vu_clean _))) rfl List.not_mem_nil (by simp only [upd_get, Nat.reduceEqDiff, reduceIte, if_true, if_false] <;> rfl) (TmL.clean (e_A16vu_clean _))) rfl List.not_mem_nil (by simp only [upd_get, Nat.reduceEqDiff, reduceIte, if_true, if_false] <;> rfl) (TmL.clean (e_A16vu_clean _))) (tmAllU 5 (tmAllU 4 (tmAllU 2 (tmAllU 1 tmAll0 (Tm.clean (Clean.imm (vu_clean _)))) (Tm.ptr rfl)) (Tm.ptr rfl)) (Tm.ptr rfl)))⟩
 ·
  rintro _ rfl
  clear hi1
  unfold derive_Mac_S1
  refine awp_nr [1,2,4,5] (fun _ => rfl) fun tz => ?_
  refine awp_regW fun KK hKK => ?_
  refine xw_id ?_
  obtain ⟨x24, bx24, h0⟩ := bnd h0
  try simp only [go_sem, ↓iop_and, ↓iop_or, ↓iop_xor, ↓iop_andn, Nat.reduceEqDiff, reduceIte, Nat.reduceAdd, Nat.reduceMul, Nat.reduceSub, Nat.reduceLT, Nat.reduceLeDiff]
  refine xcall_p (cipher_Encrypt_p a0 d20 bx24) ?_; try dsimp only
  try refine xw_id ?_
  try simp only [go_sem, ↓iop_and, ↓iop_or, ↓iop_xor, ↓iop_andn, Nat.reduceEqDiff, reduceIte, Nat.reduceAdd, Nat.reduceMul, Nat.reduceSub, Nat.reduceLT, Nat.reduceLeDiff]
  refine hKK _ _ (Wk.refl _ _ _) ?_; clear hKK KK
  refine awp_assoc ?_
  refine awp_nr [1,2,4,5] (fun _ => rfl) fun tz => ?_
  refine awp_regW fun KK hKK => ?_
  refine xw_id ?_
  try simp only [go_sem, ↓iop_and, ↓iop_or, ↓iop_xor, ↓iop_andn, Nat.reduceEqDiff, reduceIte, Nat.reduceAdd, Nat.reduceMul, Nat.reduceSub, Nat.reduceLT, Nat.reduceLeDiff, Int.reduceToNat, Int.reduceBEq, Int.reduceBNe, Int.reduceLT, Int.reduceLE, Int.reduceAdd, Int.reduceSub, Int.reduceMul]
  refine hKK _ _ (Wk.refl _ _ _) ?_; clear hKK KK
  obtain ⟨d25, hi6, h0⟩ := bnd h0
  refine awp_cut (fun z => d25 = z) (fun d25 : A16vu => derive_Mac_S4 d25) ?_ ?_
  ·
   refine awp_block1 ?_
   refine awp_loopS (fun n (d26 : (A16vu × Int)) => derive_Mac_L6 a1 a0 n d26 = some d25) (fun d26 : (A16vu × Int) => derive_Mac_S5 a0 a1 d26) big (x24, 0) (Wk.canonD [] [] [some 0, some 1, some 2] rfl trivial rfl (tmOU 2 (tmOU 1 (tmOU 0 tmO0 rfl List.not_mem_nil (by simp only [upd_get, Nat.reduceEqDiff, reduceIte, if_true, if_false] <;> rfl) (TmL.clean (e_A16vu_clean _))) rfl List.not_mem_nil (by simp only [upd_get, Nat.reduceEqDiff, reduceIte, if_true, if_false] <;> rfl) (TmL.clean (e_A16vu_clean _))) rfl List.not_mem_nil (by simp only [upd_get, Nat.reduceEqDiff, reduceIte, if_true, if_false] <;> rfl) (TmL.clean (e_A16vu_clean _))) (tmAllU 28 (tmAllU 27 (tmAllU 26 (tmAllU 5 (tmAllU 4 (tmAllU 2 (tmAllU 1 tmAll0 (Tm.clean (Clean.imm (vu_clean _)))) (Tm.ptr rfl)) (Tm.ptr rfl)) (Tm.ptr rfl)) (Tm.clean (Clean.imm (vu_clean _)))) (Tm.v _)) (Tm.v _))) hi6 ?_
   clear hi6
   rintro n d26 hl8
   rcases n with _ | n7
   ·
    (rw [derive_Mac_L6] at hl8; cases hl8)
   ·
    rw [derive_Mac_L6] at hl8
    unfold derive_Mac_S5
    refine awp_nr [1,2,4,5,26,27,28] (fun _ => rfl) fun tz => ?_
    refine awp_regW fun KK hKK => ?_
    refine xw_id ?_
    try simp only [go_sem, ↓iop_and, ↓iop_or, ↓iop_xor, ↓iop_andn, Nat.reduceEqDiff, reduceIte, Nat.reduceAdd, Nat.reduceMul, Nat.reduceSub, Nat.reduceLT, Nat.reduceLeDiff]
    refine hKK _ _ (Wk.refl _ _ _) ?_; clear hKK KK
    refine awp_cond (b := (decide (d26.2 < (a1.length : Int)))) rfl (fun h9 => ?_) (fun h9 => ?_)
    ·
     have hl8 := cT hl8 h9
     refine awp_skip ?_
     refine awp_blockW ?_
     refine awp_nr [1,2,4,5,26,27,28] (fun _ => rfl) fun tz => ?_
     refine awp_regW fun KK hKK => ?_
     refine xw_id ?_
     obtain ⟨x27, bx27, hl8⟩ := bnd hl8
     obtain ⟨fx27_0, fx27_1, fx27_2, fx27_3⟩ := idx_some bx27
     try simp only [go_sem, ↓iop_and, ↓iop_or, ↓iop_xor, ↓iop_andn, Nat.reduceEqDiff, reduceIte, Nat.reduceAdd, Nat.reduceMul, Nat.reduceSub, Nat.reduceLT, Nat.reduceLeDiff, fx27_0, fx27_1, fx27_2]
     refine hKK _ _ (Wk.refl _ _ _) ?_; clear hKK KK
     refine awp_nr [1,2,4,5,7,8,26,27,28] (fun _ => rfl) fun tz => ?_
     refine awp_regW fun KK hKK => ?_
     refine xw_id ?_
     obtain ⟨x28, bx28, hl8⟩ := bnd hl8
     obtain ⟨fx28_0, fx28_1, fx28_2, fx28_3⟩ := idxA_some bx28
     have fx28_6 : (e_A16vu d26.1)[((d26.2).tmod 16).toNat]? = some (vu x28) := by show (List.map vu [d26.1.a0, d26.1.a1, d26.1.a2, d26.1.a3, d26.1.a4, d26.1.a5, d26.1.a6, d26.1.a7, d26.1.a8, d26.1.a9, d26.1.a10, d26.1.a11, d26.1.a12, d26.1.a13, d26.1.a14, d26.1.a15])[((d26.2).tmod 16).toNat]? = _; rw [List.getElem?_map, fx28_2]; rfl
     have gs10b : ((d26.2).tmod 16).toNat < 16 := by have h0 := of_eq_true fx28_0; have h1 := of_eq_true fx28_1; omega
     have gs10 : (e_A16vu d26.1).set (((d26.2).tmod 16).toNat) (vu (bxor .u8 x28 x27)) = e_A16vu (d26.1.setA (((d26.2).tmod 16).toNat) (bxor .u8 x28 x27)) := e_A16vu_setA _ _ gs10b
     have gs10l : (((d26.2).tmod 16).toNat + 1 ≤ 16) = True := eq_true (by omega)
     try simp only [go_sem, ↓iop_and, ↓iop_or, ↓iop_xor, ↓iop_andn, Nat.reduceEqDiff, reduceIte, Nat.reduceAdd, Nat.reduceMul, Nat.reduceSub, Nat.reduceLT, Nat.reduceLeDiff, Int.reduceToNat, Int.reduceBEq, Int.reduceBNe, Int.reduceLT, Int.reduceLE, Int.reduceAdd, Int.reduceSub, Int.reduceMul, fx27_0, fx27_1, fx27_2, Int.reduceEq, fx28_0, fx28_1, fx28_6, gs10, gs10l]
     refine hKK _ _ (Wk.refl _ _ _) ?_; clear hKK KK
     refine awp_nr [1,2,4,5,7,26,27,28] (fun _ => rfl) fun tz => ?_
     refine awp_regW fun KK hKK => ?_
     refine xw_id ?_
     refine xw_stop 4 (by (try simp only [go_sem]); rfl) (by (try simp only [go_sem]); rfl) (by rfl) fun K1 hK1 => ?_
     refine xw_id ?_
     try simp only [go_sem, ↓iop_and, ↓iop_or, ↓iop_xor, ↓iop_andn, Nat.reduceEqDiff, reduceIte, Nat.reduceAdd, Nat.reduceMul, Nat.reduceSub, Nat.reduceLT, Nat.reduceLeDiff, Int.reduceToNat, Int.reduceBEq, Int.reduceBNe, Int.reduceLT, Int.reduceLE, Int.reduceAdd, Int.reduceSub, Int.reduceMul, fx27_0, fx27_1, fx27_2, fx28_0, fx28_1, fx28_6, Int.reduceEq]
     refine hK1 _ ?_; clear hK1 K1
     refine xw_cut 6 [(1, (.imm (List.map vu a1) a1.length)), (2, (.ptr 0 0)), (4, (.ptr 1 0)), (5, (.ptr 2 0)), (26, (.imm (List.map vu a1) a1.length)), (27, (vi (a1.length : Int))), (28, (vi d26.2)), (49, (vb ((((d26.2).tmod 16) == 15) || (d26.2 == (IntKind.wrap .i64 ((a1.length : Int) - 1))))))] (by (try simp only [go_sem]); rfl) (by (try simp only [go_sem]); rfl) (by rfl) (fun K1 hK1 => ?_) fun tz => ?_
     ·
      refine xw_id ?_
      rcases Bool.eq_false_or_eq_true (((d26.2).tmod 16) == 15) with h11 | h11
      ·
       try simp only [go_sem, ↓iop_and, ↓iop_or, ↓iop_xor, ↓iop_andn, Nat.reduceEqDiff, reduceIte, Nat.reduceAdd, Nat.reduceMul, Nat.reduceSub, Nat.reduceLT, Nat.reduceLeDiff, Int.reduceToNat, Int.reduceBEq, Int.reduceBNe, Int.reduceLT, Int.reduceLE, Int.reduceAdd, Int.reduceSub, Int.reduceMul, fx27_0, fx27_1, fx27_2, fx28_0, fx28_1, fx28_6, Int.reduceEq, h11]
       exact hK1 _ ⟨rfl, rfl, rfl, rfl, rfl, rfl, rfl, rfl, (by first | rfl | (rw [h11]; rfl) | (simp only [h11, Bool.true_and, Bool.false_and, Bool.true_or, Bool.false_or, cond_true, cond_false]; done)), trivial⟩
      ·
       try simp only [go_sem, ↓iop_and, ↓iop_or, ↓iop_xor, ↓iop_andn, Nat.reduceEqDiff, reduceIte, Nat.reduceAdd, Nat.reduceMul, Nat.reduceSub, Nat.reduceLT, Nat.reduceLeDiff, Int.reduceToNat, Int.reduceBEq, Int.reduceBNe, Int.reduceLT, Int.reduceLE, Int.reduceAdd, Int.reduceSub, Int.reduceMul, fx27_0, fx27_1, fx27_2, fx28_0, fx28_1, fx28_6, Int.reduceEq, h11]
       exact hK1 _ ⟨rfl, rfl, rfl, rfl, rfl, rfl, rfl, rfl, (by first | rfl | (rw [h11]; rfl) | (simp only [h11, Bool.true_and, Bool.false_and, Bool.true_or, Bool.false_or, cond_true, cond_false]; done)), trivial⟩
     ·
      refine xw_id ?_
      try simp only [go_sem, ↓iop_and, ↓iop_or, ↓iop_xor, ↓iop_andn, Nat.reduceEqDiff, reduceIte, Nat.reduceAdd, Nat.reduceMul, Nat.reduceSub, Nat.reduceLT, Nat.reduceLeDiff, Int.reduceToNat, Int.reduceBEq, Int.reduceBNe, Int.reduceLT, Int.reduceLE, Int.reduceAdd, Int.reduceSub, Int.reduceMul, fx27_0, fx27_1, fx27_2, fx28_0, fx28_1, fx28_6, Int.reduceEq]
      refine hKK _ _ (Wk.refl _ _ _) ?_; clear hKK KK
      refine awp_cond1 (b := ((((d26.2).tmod 16) == 15) || (d26.2 == (IntKind.wrap .i64 ((a1.length : Int) - 1))))) rfl (fun h12 => ?_) (fun h12 => ?_)
      ·
       have hl8 := cT hl8 h12
       refine awp_nr1 [1,2,4,5,26,27,28] (fun _ => rfl) fun tz => ?_
       refine awp_reg1 fun KK hKK => ?_
       refine xw_id ?_
       obtain ⟨x29, bx29, hl8⟩ := bnd hl8
       try simp only [go_sem, ↓iop_and, ↓iop_or, ↓iop_xor, ↓iop_andn, Nat.reduceEqDiff, reduceIte, Nat.reduceAdd, Nat.reduceMul, Nat.reduceSub, Nat.reduceLT, Nat.reduceLeDiff, fx27_0, fx27_1, fx27_2, fx28_0, fx28_1, fx28_6]
       refine xcall_p (cipher_Encrypt_p a0 (d26.1.setA (((d26.2).tmod 16).toNat) (bxor .u8 x28 x27)) bx29) ?_; try dsimp only
       try refine xw_id ?_
       try simp only [go_sem, ↓iop_and, ↓iop_or, ↓iop_xor, ↓iop_andn, Nat.reduceEqDiff, reduceIte, Nat.reduceAdd, Nat.reduceMul, Nat.reduceSub, Nat.reduceLT, Nat.reduceLeDiff, fx27_0, fx27_1, fx27_2, fx28_0, fx28_1, fx28_6]
       refine hKK _ ?_; clear hKK KK
       refine bq_n ?_
       refine seqW_i ?_
       refine awp_nr1 [1,2,4,5,26,27,28] (fun _ => rfl) fun tz => ?_
       refine awp_reg1 fun KK hKK => ?_
       refine xw_id ?_
       try simp only [go_sem, ↓iop_and, ↓iop_or, ↓iop_xor, ↓iop_andn, Nat.reduceEqDiff, reduceIte, Nat.reduceAdd, Nat.reduceMul, Nat.reduceSub, Nat.reduceLT, Nat.reduceLeDiff, fx27_0, fx27_1, fx27_2, fx28_0, fx28_1, fx28_6]
       refine hKK _ ?_; clear hKK KK
       refine lq_n ?_
       exact ⟨n7, (x29, IntKind.wrap .i64 (d26.2 + 1)), rfl, hl8, (Wk.canonD [] [] [some 0, some 1, some 2] rfl trivial rfl (tmOU 2 (tmOU 1 (tmOU 0 tmO0 rfl List.not_mem_nil (by simp only [upd_get, Nat.reduceEqDiff, reduceIte, if_true, if_false] <;> rfl) (TmL.clean (e_A16vu_clean _))) rfl List.not_mem_nil (by simp only [upd_get, Nat.reduceEqDiff, reduceIte, if_true, if_false] <;> rfl) (TmL.clean (e_A16vu_clean _))) rfl List.not_mem_nil (by simp only [upd_get, Nat.reduceEqDiff, reduceIte, if_true, if_false] <;> rfl) (TmL.clean (e_A16vu_clean _))) (tmAllU 28 (tmAllU 27 (tmAllU 26 (tmAllU 5 (tmAllU 4 (tmAllU 2 (tmAllU 1 tmAll0 (Tm.clean (Clean.imm (vu_clean _)))) (Tm.ptr rfl)) (Tm.ptr rfl)) (Tm.ptr rfl)) (Tm.clean (Clean.imm (vu_clean _)))) (Tm.v _)) (Tm.v _)))⟩
      ·
       have hl8 := cF hl8 h12
       refine awp_skip1 ?_
       refine bq_n ?_
       refine seqW_i ?_
       refine awp_nr1 [1,2,4,5,26,27,28] (fun _ => rfl) fun tz => ?_
       refine awp_reg1 fun KK hKK => ?_
       refine xw_id ?_
       try simp only [go_sem, ↓iop_and, ↓iop_or, ↓iop_xor, ↓iop_andn, Nat.reduceEqDiff, reduceIte, Nat.reduceAdd, Nat.reduceMul, Nat.reduceSub, Nat.reduceLT, Nat.reduceLeDiff, fx27_0, fx27_1, fx27_2, fx28_0, fx28_1, fx28_6]
       refine hKK _ ?_; clear hKK KK
       refine lq_n ?_
       exact ⟨n7, ((d26.1.setA (((d26.2).tmod 16).toNat) (bxor .u8 x28 x27)), IntKind.wrap .i64 (d26.2 + 1)), rfl, hl8, (Wk.canonD [] [] [some 0, some 1, some 2] rfl trivial rfl (tmOU 2 (tmOU 1 (tmOU 0 tmO0 rfl List.not_mem_nil (by simp only [upd_get, Nat.reduceEqDiff, reduceIte, if_true, if_false] <;> rfl) (TmL.clean (e_A16vu_clean _))) rfl List.not_mem_nil (by simp only [upd_get, Nat.reduceEqDiff, reduceIte, if_true, if_false] <;> rfl) (TmL.clean (e_A16vu_clean _))) rfl List.not_mem_nil (by simp only [upd_get, Nat.reduceEqDiff, reduceIte, if_true, if_false] <;> rfl) (TmL.clean (e_A16vu_clean _))) (tmAllU 28 (tmAllU 27 (tmAllU 26 (tmAllU 5 (tmAllU 4 (tmAllU 2 (tmAllU 1 tmAll0 (Tm.clean (Clean.imm (vu_clean _)))) (Tm.ptr rfl)) (Tm.ptr rfl)) (Tm.ptr rfl)) (Tm.clean (Clean.imm (vu_clean _)))) (Tm.v _)) (Tm.v _)))⟩
    ·
     have hl8 := cF hl8 h9
     refine awp_exit ?_
     refine lq_e ?_
     refine bq_e ?_
     refine sq_n ?_
     obtain rfl := someInj hl8
     exact ⟨_, rfl, (Wk.canonD [] [] [some 1, some 2] rfl trivial rfl (tmOU 1 (tmOU 0 tmO0 rfl List.not_mem_nil (by simp only [upd_get, Nat.reduceEqDiff, reduceIte, if_true, if_false] <;> rfl) (TmL.clean (e_A16vu_clean _))) rfl List.not_mem_nil (by simp only [upd_get, Nat.reduceEqDiff, reduceIte, if_true, if_false] <;> rfl) (TmL.clean (e_A16vu_clean _))) (tmAllU 5 (tmAllU 4 tmAll0 (Tm.ptr rfl)) (Tm.ptr rfl)))⟩
  ·
   rintro _ rfl
   clear hi6
   unfold derive_Mac_S4
   refine awp_nr [4,5] (fun _ => rfl) fun tz => ?_
   refine awp_regW fun KK hKK => ?_
   refine xw_id ?_
   try simp only [go_sem, ↓iop_and, ↓iop_or, ↓iop_xor, ↓iop_andn, Nat.reduceEqDiff, reduceIte, Nat.reduceAdd, Nat.reduceMul, Nat.reduceSub, Nat.reduceLT, Nat.reduceLeDiff]
   refine hKK _ _ (Wk.refl _ _ _) ?_; clear hKK KK
   refine awp_ret1 ?_
   obtain rfl := someInj h0
   refine endW_i ?_
   refine end_ret0 rs64 (by simp only [go_sem, resV, resAll, resOf, packR, ↓iop_and, ↓iop_or, ↓iop_xor, ↓iop_andn, Nat.reduceEqDiff, reduceIte, Nat.reduceAdd, Nat.reduceMul, Nat.reduceSub, Nat.reduceLT, Nat.reduceLeDiff]; rfl) ?_
   try simp only [go_sem, ↓iop_and, ↓iop_or, ↓iop_xor, ↓iop_andn, Nat.reduceEqDiff, reduceIte, Nat.reduceAdd, Nat.reduceMul, Nat.reduceSub, Nat.reduceLT, Nat.reduceLeDiff, fz, nilS, packR, List.take_nil, List.take_length, List.length_map, List.length_append, cond_true, cond_false, Nat.ble_eq, ble_self]
   all_goals first | rfl | (simp only [go_sem, ↓iop_and, ↓iop_or, ↓iop_xor, ↓iop_andn, Nat.reduceEqDiff, reduceIte, Nat.reduceAdd, Nat.reduceMul, Nat.reduceSub, Nat.reduceLT, Nat.reduceLeDiff, fz, nilS, packR, List.take_nil, List.take_length, List.length_map, List.length_append, cond_true, cond_false, Nat.ble_eq, ble_self, List.map_append] <;> rfl)

end Go.AX.Z.TX

/-! (TXW derive Expand) -/

set_option linter.unusedSimpArgs false
set_option linter.unusedVariables false
set_option maxHeartbeats 4000000
set_option maxRecDepth 20000
namespace Go.AX.Z.TX
open Go.AX Go.Proofs
attribute [local irreducible] awp xw xop xcall gsp ob xd xdop xcallD seqQ loopQ blkQ endQ

def derive_Expand_S0 (a2 : Int) (d15 : (List Int)) : AS :=
 { objs := (upd (fun _ => .dead) 0 (.live (List.map vu d15))), next := 1, tmps := (upd (upd (fun _ => .unk) 3 (vi a2)) 10 (.ref 0 0 ((d15).length) 1)) }

def derive_Expand_S1 (a0 : A16vu) (a1 : (List Int)) (a2 : Int) (d16 : (List Int × Int)) : AS :=
 { objs := (upd (upd (fun _ => .dead) 0 (.live (e_A16vu a0))) 1 (.live (List.map vu d16.1))), next := 2, tmps := (upd (upd (upd (upd (upd (upd (fun _ => .unk) 1 (.v (.string ⟨#[112, 97, 115, 115, 119, 111, 114, 100]⟩))) 2 (.imm (List.map vu a1) a1.length)) 3 (vi a2)) 4 (.ptr 0 0)) 10 (.ref 1 0 ((d16.1).length) 1)) 11 (vi d16.2)) }

def derive_Expand_S3 (a0 : A16vu) (d16 : (List Int × Int)) (x18 : A16vu) (a1 : (List Int)) (a2 : Int) : AS :=
 { objs := (upd (upd (upd (fun _ => .dead) 0 (.live (e_A16vu a0))) 1 (.live (List.map vu d16.1))) 2 (.live (e_A16vu x18))), next := 3, tmps := (upd (upd (upd (upd (upd (upd (upd (fun _ => .unk) 1 (.v (.string ⟨#[112, 97, 115, 115, 119, 111, 114, 100]⟩))) 2 (.imm (List.map vu a1) a1.length)) 3 (vi a2)) 4 (.ptr 0 0)) 10 (.ref 1 0 d16.1.length 1)) 11 (vi d16.2)) 12 (.ptr 2 0)) }

theorem derive_Expand_r (a0 : A16vu) (a1 : (List Int)) (a2 : Int) {r : ((List Int) × Int)} (h0 : derive_Expand a0 a1 a2 = some r) : SndR K 44 [(.agg (e_A16vu a0)), (.v (.string ⟨#[112, 97, 115, 115, 119, 111, 114, 100]⟩)), (S_vu a1), (vi a2)] (fun q => (.tup [(.ref (q 0) 0 r.1.length 1), (vi r.2)])) [(List.map vu r.1)] := by
 refine SndR.of_walkW hC (show K.P.funcs[44]? = some Try.f44 from Try.func44) rfl rfl (by decide +kernel) (Nat.le_of_ble_eq_true rfl) ?_
 unfold derive_Expand at h0
 refine awp_nr [0,1,2,3] (fun _ => rfl) fun tz => ?_
 refine awp_regW fun KK hKK => ?_
 refine xw_id ?_
 try simp only [go_sem, Nat.reduceEqDiff, reduceIte, Nat.reduceAdd, Nat.reduceMul, Nat.reduceSub, Nat.reduceLT, Nat.reduceLeDiff]
 refine hKK _ _ (Wk.refl _ _ _) ?_; clear hKK KK
 refine awp_assoc ?_
 refine awp_nr [1,2,3,4] (fun _ => rfl) fun tz => ?_
 refine awp_regW fun KK hKK => ?_
 refine xw_id ?_
 try simp only [go_sem, Nat.reduceEqDiff, reduceIte, Nat.reduceAdd, Nat.reduceMul, Nat.reduceSub, Nat.reduceLT, Nat.reduceLeDiff]
 refine hKK _ _ (Wk.refl _ _ _) ?_; clear hKK KK
 refine awp_cond (b := (decide (a2 < 0))) rfl (fun h1 => ?_) (fun h1 => ?_)
 ·
  have h0 := cT h0 h1
  refine awp_assoc ?_
  refine awp_nr [] (fun _ => rfl) fun tz => ?_
  refine awp_regW fun KK hKK => ?_
  refine xw_id ?_
  try simp only [go_sem, Nat.reduceEqDiff, reduceIte, Nat.reduceAdd, Nat.reduceMul, Nat.reduceSub, Nat.reduceLT, Nat.reduceLeDiff]
  refine hKK _ _ (Wk.refl _ _ _) ?_; clear hKK KK
  refine awp_ret ?_
  obtain rfl := someInj h0
  refine endW_i ?_
  refine end_ret0 rs44 (rfl) ?_
  refine Res.mk [] [none] rfl (resON resO0) (Tm.tup (TmL.cons (Tm.thaw _ _ _) (TmL.cons (Tm.v _) TmL.nil)))
 ·
  have h0 := cF h0 h1
  refine awp_skip ?_
  refine awp_assoc ?_
  refine awp_nr [1,2,3,4] (fun _ => rfl) fun tz => ?_
  refine awp_regW fun KK hKK => ?_
  refine xw_id ?_
  have gs2 : (⟨#[112, 97, 115, 115, 119, 111, 114, 100]⟩ : ByteArray).size = 8 := by rfl
  refine xw_stop 9 (by (try simp only [go_sem]); rfl) (by (try simp only [go_sem]); rfl) (by rfl) fun K1 hK1 => ?_
  refine xw_id ?_
  try simp only [go_sem, Nat.reduceEqDiff, reduceIte, Nat.reduceAdd, Nat.reduceMul, Nat.reduceSub, Nat.reduceLT, Nat.reduceLeDiff, Int.reduceToNat, Int.reduceBEq, Int.reduceBNe, Int.reduceLT, Int.reduceLE, Int.reduceAdd, Int.reduceSub, Int.reduceMul, gs2]
  refine hK1 _ ?_; clear hK1 K1
  refine xw_cut 3 [(1, (.v (.string ⟨#[112, 97, 115, 115, 119, 111, 114, 100]⟩))), (2, (.imm (List.map vu a1) a1.length)), (3, (vi a2)), (4, (.ptr 0 0)), (26, (vb ((decide (256 < (a1.length : Int))) || (decide (1024 < a2)))))] (by (try simp only [go_sem]); rfl) (by (try simp only [go_sem]); rfl) (by rfl) (fun K1 hK1 => ?_) fun tz => ?_
  ·
   refine xw_id ?_
   rcases Bool.eq_false_or_eq_true (decide (256 < (a1.length : Int))) with h3 | h3
   ·
    try simp only [go_sem, Nat.reduceEqDiff, reduceIte, Nat.reduceAdd, Nat.reduceMul, Nat.reduceSub, Nat.reduceLT, Nat.reduceLeDiff, Int.reduceToNat, Int.reduceBEq, Int.reduceBNe, Int.reduceLT, Int.reduceLE, Int.reduceAdd, Int.reduceSub, Int.reduceMul, gs2, h3]
    exact hK1 _ ⟨rfl, rfl, rfl, rfl, rfl, (by first | rfl | (rw [h3]; rfl) | (simp only [h3, Bool.true_and, Bool.false_and, Bool.true_or, Bool.false_or, cond_true, cond_false]; done)), trivial⟩
   ·
    try simp only [go_sem, Nat.reduceEqDiff, reduceIte, Nat.reduceAdd, Nat.reduceMul, Nat.reduceSub, Nat.reduceLT, Nat.reduceLeDiff, Int.reduceToNat, Int.reduceBEq, Int.reduceBNe, Int.reduceLT, Int.reduceLE, Int.reduceAdd, Int.reduceSub, Int.reduceMul, gs2, h3]
    exact hK1 _ ⟨rfl, rfl, rfl, rfl, rfl, (by first | rfl | (rw [h3]; rfl) | (simp only [h3, Bool.true_and, Bool.false_and, Bool.true_or, Bool.false_or, cond_true, cond_false]; done)), trivial⟩
  ·
   refine xw_id ?_
   try simp only [go_sem, Nat.reduceEqDiff, reduceIte, Nat.reduceAdd, Nat.reduceMul, Nat.reduceSub, Nat.reduceLT, Nat.reduceLeDiff, Int.reduceToNat, Int.reduceBEq, Int.reduceBNe, Int.reduceLT, Int.reduceLE, Int.reduceAdd, Int.reduceSub, Int.reduceMul, gs2]
   refine hKK _ _ (Wk.refl _ _ _) ?_; clear hKK KK
   refine awp_cond (b := ((decide (256 < (a1.length : Int))) || (decide (1024 < a2)))) rfl (fun h4 => ?_) (fun h4 => ?_)
   ·
    have h0 := cT h0 h4
    refine awp_assoc ?_
    refine awp_nr [] (fun _ => rfl) fun tz => ?_
    refine awp_regW fun KK hKK => ?_
    refine xw_id ?_
    try simp only [go_sem, Nat.reduceEqDiff, reduceIte, Nat.reduceAdd, Nat.reduceMul, Nat.reduceSub, Nat.reduceLT, Nat.reduceLeDiff]
    refine hKK _ _ (Wk.refl _ _ _) ?_; clear hKK KK
    refine awp_ret ?_
    obtain rfl := someInj h0
    refine endW_i ?_
    refine end_ret0 rs44 (rfl) ?_
    refine Res.mk [] [none] rfl (resON resO0) (Tm.tup (TmL.cons (Tm.thaw _ _ _) (TmL.cons (Tm.v _) TmL.nil)))
   ·
    have h0 := cF h0 h4
    refine awp_skip ?_
    refine awp_nr [1,2,3,4] (fun _ => rfl) fun tz => ?_
    refine awp_regW fun KK hKK => ?_
    refine xw_id ?_
    try simp only [go_sem, Nat.reduceEqDiff, reduceIte, Nat.reduceAdd, Nat.reduceMul, Nat.reduceSub, Nat.reduceLT, Nat.reduceLeDiff]
    refine hKK _ _ (Wk.refl _ _ _) ?_; clear hKK KK
    refine awp_assoc ?_
    refine awp_nr [1,2,3,4,10] (fun _ => rfl) fun tz => ?_
    refine awp_regW fun KK hKK => ?_
    refine xw_id ?_
    try simp only [go_sem, Nat.reduceEqDiff, reduceIte, Nat.reduceAdd, Nat.reduceMul, Nat.reduceSub, Nat.reduceLT, Nat.reduceLeDiff]
    refine hKK _ _ (Wk.refl _ _ _) ?_; clear hKK KK
    obtain ⟨d15, hi5, h0⟩ := bnd h0
    refine awp_cut (fun z => d15 = z) (fun d15 : (List Int) => derive_Expand_S0 a2 d15) ?_ ?_
    ·
     refine awp_block1 ?_
     refine awp_loopS (fun n (d16 : (List Int × Int)) => derive_Expand_L2 a2 a1 a0 n d16 = some d15) (fun d16 : (List Int × Int) => derive_Expand_S1 a0 a1 a2 d16) big ([], 0) (Wk.canonD [] [] [some 0, none] rfl trivial rfl (tmON 1 (tmOU 0 tmO0 rfl List.not_mem_nil (by simp only [upd_get, Nat.reduceEqDiff, reduceIte, if_true, if_false] <;> rfl) (TmL.clean (e_A16vu_clean _))) rfl) (tmAllU 11 (tmAllU 10 (tmAllU 4 (tmAllU 3 (tmAllU 2 (tmAllU 1 tmAll0 (Tm.v _)) (Tm.clean (Clean.imm (vu_clean _)))) (Tm.v _)) (Tm.ptr rfl)) (Tm.thaw _ _ _)) (Tm.v _))) hi5 ?_
     clear hi5
     rintro n d16 hl7
     rcases n with _ | n6
     ·
      (rw [derive_Expand_L2] at hl7; cases hl7)
     ·
      rw [derive_Expand_L2] at hl7
      unfold derive_Expand_S1
      refine awp_assoc ?_
      refine awp_nr [1,2,3,4,10,11] (fun _ => rfl) fun tz => ?_
      refine awp_regW fun KK hKK => ?_
      refine xw_id ?_
      try simp only [go_sem, Nat.reduceEqDiff, reduceIte, Nat.reduceAdd, Nat.reduceMul, Nat.reduceSub, Nat.reduceLT, Nat.reduceLeDiff, Int.reduceToNat, Int.reduceBEq, Int.reduceBNe, Int.reduceLT, Int.reduceLE, Int.reduceAdd, Int.reduceSub, Int.reduceMul]
      refine hKK _ _ (Wk.refl _ _ _) ?_; clear hKK KK
      refine awp_cond (b := (decide ((((d16.1).length : Nat) : Int) < a2))) rfl (fun h8 => ?_) (fun h8 => ?_)
      ·
       have hl7 := cT hl7 h8
       refine awp_skip ?_
       refine awp_blockW ?_
       refine awp_nr [1,2,3,4,10,11] (fun _ => rfl) fun tz => ?_
       refine awp_regDW fun KK hKK all hall => ?_
       refine xd_id ?_
       try simp only [List.toList_toArray, List.map_cons, List.map_nil, List.size_toArray, List.length_cons, List.length_nil, Nat.zero_add]
       try simp only [Nat.reduceAdd]
       obtain ⟨x17, bx17, hl7⟩ := bnd hl7
       iterate 3 ((try simp only [go_sem, Nat.reduceEqDiff, reduceIte, Nat.reduceMul, Nat.reduceSub, Nat.reduceLT, Nat.reduceLeDiff]); try simp only [Nat.reduceAdd])
       refine xcallD_E (derive_Input_e a1 d16.2 bx17 _) ?_; try dsimp only
       try refine xd_id ?_
       obtain ⟨x18, bx18, hl7⟩ := bnd hl7
       iterate 3 ((try simp only [go_sem, Nat.reduceEqDiff, reduceIte, Nat.reduceMul, Nat.reduceSub, Nat.reduceLT, Nat.reduceLeDiff]); try simp only [Nat.reduceAdd])
       refine xcallD_L (by first | (simp only [go_sem, fz, Nat.reduceEqDiff, reduceIte, Nat.reduceAdd, Nat.reduceMul, Nat.reduceSub, Nat.reduceLT, Nat.reduceLeDiff]; done) | (simp only [go_sem, fz, Nat.reduceEqDiff, reduceIte, Nat.reduceAdd, Nat.reduceMul, Nat.reduceSub, Nat.reduceLT, Nat.reduceLeDiff]; rfl) | (simp only [go_sem, fz, List.length_set, ble_self, take_set, cond_true, cond_false, Nat.reduceEqDiff, reduceIte, Nat.reduceAdd, Nat.reduceMul, Nat.reduceSub, Nat.reduceLT, Nat.reduceLeDiff]; done) | (simp only [go_sem, fz, List.length_set, ble_self, take_set, cond_true, cond_false, Nat.reduceEqDiff, reduceIte, Nat.reduceAdd, Nat.reduceMul, Nat.reduceSub, Nat.reduceLT, Nat.reduceLeDiff]; rfl)) (by first | (simp only [go_sem, reach, Nat.reduceEqDiff, reduceIte, Nat.reduceAdd, Nat.reduceMul, Nat.reduceSub, Nat.reduceLT, Nat.reduceLeDiff]; done) | (simp only [go_sem, reach, Nat.reduceEqDiff, reduceIte, Nat.reduceAdd, Nat.reduceMul, Nat.reduceSub, Nat.reduceLT, Nat.reduceLeDiff]; rfl)) (derive_Mac_p a0 x17 bx18) (bare_ok (by rfl)) ?_; try dsimp only
       try refine xd_id ?_
       iterate 3 ((try simp only [go_sem, Nat.reduceEqDiff, reduceIte, Nat.reduceMul, Nat.reduceSub, Nat.reduceLT, Nat.reduceLeDiff]); try simp only [Nat.reduceAdd])
       refine And.intro ?_ (hKK _ (derive_Expand_S3 a0 d16 x18 a1 a2) (by refine Wk.canonD [] [] [some 0, some 1, some 12] rfl trivial rfl (tmOU 2 (tmOU 1 (tmOU 0 tmO0 rfl List.not_mem_nil (by simp only [upd_get, Nat.reduceEqDiff, reduceIte, if_true, if_false] <;> rfl) (TmL.clean (e_A16vu_clean _))) rfl List.not_mem_nil (by simp only [upd_get, Nat.reduceEqDiff, reduceIte, if_true, if_false] <;> rfl) (TmL.of_eq (by first | rfl | (simp only [List.flatMap_append, List.flatMap_cons, List.flatMap_nil, List.map_append, List.map_cons, List.map_nil, List.append_nil, List.nil_append]; done) | (simp only [List.flatMap_append, List.flatMap_cons, List.flatMap_nil, List.map_append, List.map_cons, List.map_nil, List.append_nil, List.nil_append]; rfl)) (vu_clean _))) rfl List.not_mem_nil (by simp only [upd_get, Nat.reduceEqDiff, reduceIte, if_true, if_false] <;> rfl) (TmL.clean (e_A16vu_clean _))) (tmAllU 12 (tmAllU 11 (tmAllU 10 (tmAllU 4 (tmAllU 3 (tmAllU 2 (tmAllU 1 tmAll0 (Tm.v _)) (Tm.clean (Clean.imm (vu_clean _)))) (Tm.v _)) (Tm.ptr rfl)) (Tm.refL rfl ?_)) (Tm.v _)) (Tm.ptr rfl)); all_goals (first | rfl | (simp only [List.length_take]; omega) | (simp only [List.length_append, List.length_cons, List.length_nil, List.length_modify, List.length_set, Nat.zero_add]; done) | (simp only [List.length_append, List.length_take, List.length_drop, List.length_cons, List.length_nil, List.length_modify, List.length_set, Nat.zero_add]; omega) | (simp only [List.length_append, List.length_take, List.length_drop, List.length_cons, List.length_nil, List.length_modify, List.length_set, Nat.zero_add]; done) | omega)) ?_)
       ·
        subst hall
        clear hKK KK
        first | decide +kernel | (simp [printsOk, apartP, clash, meet]; try (first | done | decide +kernel | (repeat (first | exact Or.inr (by decide +kernel) | (refine And.intro (Or.inr (by decide +kernel)) ?_)))))
       ·
        clear hKK KK hall all
        unfold derive_Expand_S3
        refine awp_nr1 [1,2,3,4,10,11,12] (fun _ => rfl) fun tz => ?_
        refine awp_reg1 fun KK hKK => ?_
        refine xw_id ?_
        obtain ⟨x19, bx19, hl7⟩ := bnd hl7
        have bx19 := chk_some bx19
        simp only [Bool.and_eq_true, decide_eq_true_eq] at bx19
        have gx19_0 := bx19
        try simp only [List.cons_append, List.nil_append, List.length_append, List.length_cons, List.length_nil, Nat.zero_add, Nat.reduceAdd, Nat.add_assoc, Nat.reduceLeDiff] at gx19_0
        try simp only [go_sem, Nat.reduceEqDiff, reduceIte, Nat.reduceAdd, Nat.reduceMul, Nat.reduceSub, Nat.reduceLT, Nat.reduceLeDiff, Int.reduceToNat, Int.reduceBEq, Int.reduceBNe, Int.reduceLT, Int.reduceLE, Int.reduceAdd, Int.reduceSub, Int.reduceMul, Int.sub_zero, gx19_0, List.length_append, vu_len]
        refine hKK _ ?_; clear hKK KK
        refine bq_n ?_
        refine seqW_i ?_
        refine awp_nr1 [1,2,3,4,10,11] (fun _ => rfl) fun tz => ?_
        refine awp_reg1 fun KK hKK => ?_
        refine xw_id ?_
        try simp only [go_sem, Nat.reduceEqDiff, reduceIte, Nat.reduceAdd, Nat.reduceMul, Nat.reduceSub, Nat.reduceLT, Nat.reduceLeDiff]
        refine hKK _ ?_; clear hKK KK
        refine lq_n ?_
        exact ⟨n6, ((d16.1 ++ [x18.a0, x18.a1, x18.a2, x18.a3, x18.a4, x18.a5, x18.a6, x18.a7, x18.a8, x18.a9, x18.a10, x18.a11, x18.a12, x18.a13, x18.a14, x18.a15]), IntKind.wrap .i64 (d16.2 + 1)), rfl, hl7, (by refine Wk.canonD [] [] [some 0, some 5] rfl trivial rfl (tmOU 1 (tmOU 0 tmO0 rfl List.not_mem_nil (by simp only [upd_get, Nat.reduceEqDiff, reduceIte, if_true, if_false] <;> rfl) (TmL.clean (e_A16vu_clean _))) rfl List.not_mem_nil (by simp only [upd_get, Nat.reduceEqDiff, reduceIte, if_true, if_false] <;> rfl) (TmL.of_eq (by first | rfl | (simp only [List.flatMap_append, List.flatMap_cons, List.flatMap_nil, List.map_append, List.map_cons, List.map_nil, List.append_nil, List.nil_append]; done) | (simp only [List.flatMap_append, List.flatMap_cons, List.flatMap_nil, List.map_append, List.map_cons, List.map_nil, List.append_nil, List.nil_append]; rfl)) (vu_clean _))) (tmAllU 11 (tmAllU 10 (tmAllU 4 (tmAllU 3 (tmAllU 2 (tmAllU 1 tmAll0 (Tm.v _)) (Tm.clean (Clean.imm (vu_clean _)))) (Tm.v _)) (Tm.ptr rfl)) (Tm.refL rfl ?_)) (Tm.v _)); all_goals (first | rfl | (simp only [List.length_take]; omega) | (simp only [List.length_append, List.length_cons, List.length_nil, List.length_modify, List.length_set, Nat.zero_add]; done) | (simp only [List.length_append, List.length_take, List.length_drop, List.length_cons, List.length_nil, List.length_modify, List.length_set, Nat.zero_add]; omega) | (simp only [List.length_append, List.length_take, List.length_drop, List.length_cons, List.length_nil, List.length_modify, List.length_set, Nat.zero_add]; done) | omega))⟩
      ·
       have hl7 := cF hl7 h8
       refine awp_exit ?_
       refine lq_e ?_
       refine bq_e ?_
       refine sq_n ?_
       obtain rfl := someInj hl7
       exact ⟨_, rfl, (by refine Wk.canonD [] [] [some 1] rfl trivial rfl (tmOU 0 tmO0 rfl List.not_mem_nil (by simp only [upd_get, Nat.reduceEqDiff, reduceIte, if_true, if_false] <;> rfl) (TmL.of_eq (by first | rfl | (simp only [List.flatMap_append, List.flatMap_cons, List.flatMap_nil, List.map_append, List.map_cons, List.map_nil, List.append_nil, List.nil_append]; done) | (simp only [List.flatMap_append, List.flatMap_cons, List.flatMap_nil, List.map_append, List.map_cons, List.map_nil, List.append_nil, List.nil_append]; rfl)) (vu_clean _))) (tmAllU 10 (tmAllU 3 tmAll0 (Tm.v _)) (Tm.refL rfl ?_)); all_goals (first | rfl | (simp only [List.length_take]; omega) | (simp only [List.length_append, List.length_cons, List.length_nil, List.length_modify, List.length_set, Nat.zero_add]; done) | (simp only [List.length_append, List.length_take, List.length_drop, List.length_cons, List.length_nil, List.length_modify, List.length_set, Nat.zero_add]; omega) | (simp only [List.length_append, List.length_take, List.length_drop, List.length_cons, List.length_nil, List.length_modify, List.length_set, Nat.zero_add]; done) | omega))⟩
    ·
     rintro _ rfl
     clear hi5
     unfold derive_Expand_S0
     refine awp_nr [3,10] (fun _ => rfl) fun tz => ?_
     refine awp_regW fun KK hKK => ?_
     refine xw_id ?_
     obtain ⟨x20, bx20, h0⟩ := bnd h0
     have bx20 := chk_some bx20
     simp only [Bool.and_eq_true, decide_eq_true_eq] at bx20
     obtain ⟨⟨gx20_0, gx20_1⟩, gx20_2⟩ := bx20
     try simp only [go_sem, Nat.reduceEqDiff, reduceIte, Nat.reduceAdd, Nat.reduceMul, Nat.reduceSub, Nat.reduceLT, Nat.reduceLeDiff, Int.reduceToNat, Int.reduceBEq, Int.reduceBNe, Int.reduceLT, Int.reduceLE, Int.reduceAdd, Int.reduceSub, Int.reduceMul, gx20_0, gx20_1, gx20_2]
     have ht : List.map vu d15 = List.map vu (List.take ((a2).toNat) d15) ++ List.map vu (List.drop ((a2).toNat) d15) := by rw [← List.map_append, List.take_append_drop]
     refine hKK _ _ (Wk.trim 0 ?_ ht) ?_
     ·
      simp only [upd_get, Nat.reduceEqDiff, reduceIte, if_true, if_false] <;> rfl
     clear hKK KK ht
     refine awp_ret1 ?_
     obtain rfl := someInj h0
     refine endW_i ?_
     refine end_ret0 rs44 (rfl) ?_
     refine Res.mk [] [some 0] rfl (resOU List.not_mem_nil (by simp only [upd_get, Nat.reduceEqDiff, reduceIte, if_true, if_false] <;> rfl) (TmL.of_eq (by first | rfl | (simp only [List.flatMap_append, List.flatMap_cons, List.flatMap_nil, List.map_append, List.map_cons, List.map_nil, List.append_nil, List.nil_append]; done) | (simp only [List.flatMap_append, List.flatMap_cons, List.flatMap_nil, List.map_append, List.map_cons, List.map_nil, List.append_nil, List.nil_append]; rfl)) (vu_clean _)) resO0) (Tm.tup (TmL.cons (Tm.refL rfl ?_) (TmL.cons (Tm.v _) TmL.nil)))
     all_goals (first | rfl | (simp only [List.length_take]; omega) | (simp only [List.length_append, List.length_cons, List.length_nil, List.length_modify, List.length_set, Nat.zero_add]; done) | (simp only [List.length_append, List.length_take, List.length_drop, List.length_cons, List.length_nil, List.length_modify, List.length_set, Nat.zero_add]; omega) | (simp only [List.length_append, List.length_take, List.length_drop, List.length_cons, List.length_nil, List.length_modify, List.length_set, Nat.zero_add]; done) | omega)

theorem derive_Expand_m (a0 : A16vu) (a1 : (List Int)) (a2 : Int) {r : ((List Int) × Int)} (h0 : derive_Expand a0 a1 a2 = some r) : SndM K 44 [(.agg (e_A16vu a0)), (.v (.string ⟨#[112, 97, 115, 115, 119, 111, 114, 100]⟩)), (S_vu a1), (vi a2)] (fun q => (.tup [(.ref (q 0) 0 r.1.length 1), (vi r.2)])) [(List.map vu r.1)] :=
 fun hs => Snd.of_newM (RenM.tup (RenML.cons (RenM.ref 0 0 _ _) (RenML.cons (RenM.const (Clean.v _)) RenML.nil))) (rows_all_cons (vu_clean _) rows_all_nil) (clean_cons (Clean.agg (e_A16vu_clean _)) (clean_cons (Clean.v _) (clean_cons (S_vu_clean _) (clean_cons (Clean.v _) clean_nil)))) (derive_Expand_r a0 a1 a2 h0) hs

theorem derive_Expand_e (a0 : A16vu) (a1 : (List Int)) (a2 : Int) {r : ((List Int) × Int)} (h0 : derive_Expand a0 a1 a2 = some r) (fr : Nat) (hs : HS) : SndE K 44 [(.agg (e_A16vu a0)), (.v (.string ⟨#[112, 97, 115, 115, 119, 111, 114, 100]⟩)), (S_vu a1), (vi a2)] hs fr ⟨(fun q : Nat → Nat => (.tup [(.ref (q 0) 0 r.1.length 1), (vi r.2)])) fun _ => fr, .new (List.map vu r.1)⟩ :=
 SndE.of_res (RenM.tup (RenML.cons (RenM.ref 0 0 _ _) (RenML.cons (RenM.const (Clean.v _)) RenML.nil))) (vu_clean _) (clean_cons (Clean.agg (e_A16vu_clean _)) (clean_cons (Clean.v _) (clean_cons (S_vu_clean _) (clean_cons (Clean.v _) clean_nil)))) (fun a b h => by simp only [h]) (derive_Expand_r a0 a1 a2 h0) hs fr

theorem derive_Expand_p (a0 : A16vu) (a1 : (List Int)) (a2 : Int) {r : ((List Int) × Int)} (h0 : derive_Expand a0 a1 a2 = some r) : SndP K 44 [(.agg (e_A16vu a0)), (.v (.string ⟨#[112, 97, 115, 115, 119, 111, 114, 100]⟩)), (S_vu a1), (vi a2)] (.tup [(S_vu r.1), (vi r.2)]) :=
 SndM.pure (derive_Expand_m a0 a1 a2 h0) (Clean.tup (clean_cons (S_vu_clean _) (clean_cons (Clean.v _) clean_nil))) (clean_cons (Clean.agg (e_A16vu_clean _)) (clean_cons (Clean.v _) (clean_cons (S_vu_clean _) (clean_cons (Clean.v _) clean_nil)))) (by simp only [go_sem, newL_n, newL_c, upd_get, fz, nilS, cond_true, cond_false, List.drop_zero, List.take_length, List.length_map, ble_self, Nat.reduceEqDiff, reduceIte, Nat.reduceAdd, Nat.reduceMul, Nat.reduceSub, Nat.reduceLT, Nat.reduceLeDiff] <;> rfl)

end Go.AX.Z.TX

/-! (TXW auth get) -/

set_option linter.unusedSimpArgs false
set_option linter.unusedVariables false
set_option maxHeartbeats 4000000
set_option maxRecDepth 20000
namespace Go.AX.Z.TX
open Go.AX Go.Proofs
attribute [local irreducible] awp xw xop xcall gsp ob xd xdop xcallD seqQ loopQ blkQ endQ

def auth_get_S0 (d22 : Int) : AS :=
 { objs := (fun _ => .dead), next := 0, tmps := (upd (fun _ => .unk) 2 (vq d22)) }

def auth_get_S1 (a0 : (List Int)) (d23 : (Int × Int)) : AS :=
 { objs := (fun _ => .dead), next := 0, tmps := (upd (upd (upd (fun _ => .unk) 0 (.imm (List.map vu a0) a0.length)) 2 (vq d23.1)) 4 (vi d23.2)) }

theorem auth_get_p (a0 : (List Int)) {r : Int} (h0 : auth_get a0 = some r) : SndP K 35 [(S_vu a0)] (vq r) := by
 refine SndP.of_walkW hC (Clean.v _) (clean_cons (S_vu_clean _) clean_nil) (show K.P.funcs[35]? = some Try.f35 from Try.func35) rfl rfl (by decide +kernel) (Nat.le_of_ble_eq_true rfl) ?_
 unfold auth_get at h0
 refine awp_nr [0] (fun _ => rfl) fun tz => ?_
 refine awp_regW fun KK hKK => ?_
 refine xw_id ?_
 try simp only [go_sem, ↓iop_and, ↓iop_or, ↓iop_xor, ↓iop_andn, Nat.reduceEqDiff, reduceIte, Nat.reduceAdd, Nat.reduceMul, Nat.reduceSub, Nat.reduceLT, Nat.reduceLeDiff]
 refine hKK _ _ (Wk.refl _ _ _) ?_; clear hKK KK
 refine awp_assoc ?_
 refine awp_nr [0,2] (fun _ => rfl) fun tz => ?_
 refine awp_regW fun KK hKK => ?_
 refine xw_id ?_
 try simp only [go_sem, ↓iop_and, ↓iop_or, ↓iop_xor, ↓iop_andn, Nat.reduceEqDiff, reduceIte, Nat.reduceAdd, Nat.reduceMul, Nat.reduceSub, Nat.reduceLT, Nat.reduceLeDiff]
 refine hKK _ _ (Wk.refl _ _ _) ?_; clear hKK KK
 obtain ⟨d22, hi1, h0⟩ := bnd h0
 refine awp_cut (fun z => d22 = z) (fun d22 : Int => auth_get_S0 d22) ?_ ?_
 ·
  refine awp_block1 ?_
  refine awp_loopS (fun n (d23 : (Int × Int)) => auth_get_L2 a0 n d23 = some d22) (fun d23 : (Int × Int) => auth_get_S1 a0 d23) big (0, 0) (Wk.canonD [] [] [] rfl trivial rfl tmO0 (tmAllU 4 (tmAllU 2 (tmAllU 0 tmAll0 (Tm.clean (Clean.imm (vu_clean _)))) (Tm.v _)) (Tm.v _))) hi1 ?_
  clear hi1
  rintro n d23 hl3
  rcases n with _ | n2
  ·
   (rw [auth_get_L2] at hl3; cases hl3)
  ·
   rw [auth_get_L2] at hl3
   unfold auth_get_S1
   refine awp_nr [0,2,4] (fun _ => rfl) fun tz => ?_
   refine awp_regW fun KK hKK => ?_
   refine xw_id ?_
   try simp only [go_sem, ↓iop_and, ↓iop_or, ↓iop_xor, ↓iop_andn, Nat.reduceEqDiff, reduceIte, Nat.reduceAdd, Nat.reduceMul, Nat.reduceSub, Nat.reduceLT, Nat.reduceLeDiff]
   refine hKK _ _ (Wk.refl _ _ _) ?_; clear hKK KK
   refine awp_cond (b := (decide (d23.2 < 8))) rfl (fun h4 => ?_) (fun h4 => ?_)
   ·
    have hl3 := cT hl3 h4
    refine awp_skip ?_
    refine awp_blockW ?_
    refine awp_nr [0,2,4] (fun _ => rfl) fun tz => ?_
    refine awp_regW fun KK hKK => ?_
    refine xw_id ?_
    try simp only [go_sem, ↓iop_and, ↓iop_or, ↓iop_xor, ↓iop_andn, Nat.reduceEqDiff, reduceIte, Nat.reduceAdd, Nat.reduceMul, Nat.reduceSub, Nat.reduceLT, Nat.reduceLeDiff]
    refine hKK _ _ (Wk.refl _ _ _) ?_; clear hKK KK
    refine awp_nr1 [0,2,3,4] (fun _ => rfl) fun tz => ?_
    refine awp_reg1 fun KK hKK => ?_
    refine xw_id ?_
    obtain ⟨x24, bx24, hl3⟩ := bnd hl3
    obtain ⟨fx24_0, fx24_1, fx24_2, fx24_3⟩ := idx_some bx24
    obtain ⟨x25, bx25, hl3⟩ := bnd hl3
    have bx25 := chk_some bx25
    simp only [Bool.and_eq_true, decide_eq_true_eq] at bx25
    have gx25_0 := bx25
    try simp only [go_sem, ↓iop_and, ↓iop_or, ↓iop_xor, ↓iop_andn, Nat.reduceEqDiff, reduceIte, Nat.reduceAdd, Nat.reduceMul, Nat.reduceSub, Nat.reduceLT, Nat.reduceLeDiff, fx24_0, fx24_1, fx24_2, gx25_0]
    refine hKK _ ?_; clear hKK KK
    refine bq_n ?_
    refine seqW_i ?_
    refine awp_nr1 [0,2,4] (fun _ => rfl) fun tz => ?_
    refine awp_reg1 fun KK hKK => ?_
    refine xw_id ?_
    try simp only [go_sem, ↓iop_and, ↓iop_or, ↓iop_xor, ↓iop_andn, Nat.reduceEqDiff, reduceIte, Nat.reduceAdd, Nat.reduceMul, Nat.reduceSub, Nat.reduceLT, Nat.reduceLeDiff, fx24_0, fx24_1, fx24_2]
    refine hKK _ ?_; clear hKK KK
    refine lq_n ?_
    exact ⟨n2, (bor .u64 d23.1 (IntKind.wrap .u64 ((IntKind.wrap .u64 x24) * 2 ^ (min ((IntKind.wrap .i64 (8 * d23.2))).toNat 64))), IntKind.wrap .i64 (d23.2 + 1)), rfl, hl3, (Wk.canonD [] [] [] rfl trivial rfl tmO0 (tmAllU 4 (tmAllU 2 (tmAllU 0 tmAll0 (Tm.clean (Clean.imm (vu_clean _)))) (Tm.v _)) (Tm.v _)))⟩
   ·
    have hl3 := cF hl3 h4
    refine awp_exit ?_
    refine lq_e ?_
    refine bq_e ?_
    refine sq_n ?_
    obtain rfl := someInj hl3
    exact ⟨_, rfl, (Wk.canonD [] [] [] rfl trivial rfl tmO0 (tmAllU 2 tmAll0 (Tm.v _)))⟩
 ·
  rintro _ rfl
  clear hi1
  unfold auth_get_S0
  refine awp_nr [2] (fun _ => rfl) fun tz => ?_
  refine awp_regW fun KK hKK => ?_
  refine xw_id ?_
  try simp only [go_sem, ↓iop_and, ↓iop_or, ↓iop_xor, ↓iop_andn, Nat.reduceEqDiff, reduceIte, Nat.reduceAdd, Nat.reduceMul, Nat.reduceSub, Nat.reduceLT, Nat.reduceLeDiff]
  refine hKK _ _ (Wk.refl _ _ _) ?_; clear hKK KK
  refine awp_ret1 ?_
  obtain rfl := someInj h0
  refine endW_i ?_
  refine end_ret0 rs35 (rfl) ?_
  try simp only [go_sem, ↓iop_and, ↓iop_or, ↓iop_xor, ↓iop_andn, Nat.reduceEqDiff, reduceIte, Nat.reduceAdd, Nat.reduceMul, Nat.reduceSub, Nat.reduceLT, Nat.reduceLeDiff, fz, nilS, packR, List.take_nil, List.take_length, List.length_map, List.length_append, cond_true, cond_false, Nat.ble_eq, ble_self]
  all_goals first | rfl | (simp only [go_sem, ↓iop_and, ↓iop_or, ↓iop_xor, ↓iop_andn, Nat.reduceEqDiff, reduceIte, Nat.reduceAdd, Nat.reduceMul, Nat.reduceSub, Nat.reduceLT, Nat.reduceLeDiff, fz, nilS, packR, List.take_nil, List.take_length, List.length_map, List.length_append, cond_true, cond_false, Nat.ble_eq, ble_self, List.map_append] <;> rfl)

end Go.AX.Z.TX

/-! (TXW math bits Mul64) -/

set_option linter.unusedSimpArgs false
set_option linter.unusedVariables false
set_option maxHeartbeats 4000000
set_option maxRecDepth 20000
namespace Go.AX.Z.TX
open Go.AX Go.Proofs
attribute [local irreducible] awp xw xop xcall gsp ob xd xdop xcallD seqQ loopQ blkQ endQ


theorem math_bits_Mul64_p (a0 : Int) (a1 : Int) {r : (Int × Int)} (h0 : math_bits_Mul64 a0 a1 = some r) : SndP K 68 [(vq a0), (vq a1)] (.tup [(vq r.1), (vq r.2)]) := by
 refine SndP.of_walkW hC (Clean.tup (clean_cons (Clean.v _) (clean_cons (Clean.v _) clean_nil))) (clean_cons (Clean.v _) (clean_cons (Clean.v _) clean_nil)) (show K.P.funcs[68]? = some Try.f68 from Try.func68) rfl rfl (by decide +kernel) (Nat.le_of_ble_eq_true rfl) ?_
 unfold math_bits_Mul64 at h0
 refine awp_nr [0,1] (fun _ => rfl) fun tz => ?_
 refine awp_regW fun KK hKK => ?_
 refine xw_id ?_
 try simp only [go_sem, ↓iop_and, ↓iop_or, ↓iop_xor, ↓iop_andn, Nat.reduceEqDiff, reduceIte, Nat.reduceAdd, Nat.reduceMul, Nat.reduceSub, Nat.reduceLT, Nat.reduceLeDiff]
 refine hKK _ _ (Wk.refl _ _ _) ?_; clear hKK KK
 refine awp_nr [0,1] (fun _ => rfl) fun tz => ?_
 refine awp_regW fun KK hKK => ?_
 refine xw_id ?_
 try simp only [go_sem, ↓iop_and, ↓iop_or, ↓iop_xor, ↓iop_andn, Nat.reduceEqDiff, reduceIte, Nat.reduceAdd, Nat.reduceMul, Nat.reduceSub, Nat.reduceLT, Nat.reduceLeDiff]
 refine hKK _ _ (Wk.refl _ _ _) ?_; clear hKK KK
 refine awp_nr [0,1,6] (fun _ => rfl) fun tz => ?_
 refine awp_regW fun KK hKK => ?_
 refine xw_id ?_
 try simp only [go_sem, ↓iop_and, ↓iop_or, ↓iop_xor, ↓iop_andn, Nat.reduceEqDiff, reduceIte, Nat.reduceAdd, Nat.reduceMul, Nat.reduceSub, Nat.reduceLT, Nat.reduceLeDiff, Int.reduceToNat, Int.reduceBEq, Int.reduceBNe, Int.reduceLT, Int.reduceLE, Int.reduceAdd, Int.reduceSub, Int.reduceMul]
 refine hKK _ _ (Wk.refl _ _ _) ?_; clear hKK KK
 refine awp_nr [0,1,6,7] (fun _ => rfl) fun tz => ?_
 refine awp_regW fun KK hKK => ?_
 refine xw_id ?_
 try simp only [go_sem, ↓iop_and, ↓iop_or, ↓iop_xor, ↓iop_andn, Nat.reduceEqDiff, reduceIte, Nat.reduceAdd, Nat.reduceMul, Nat.reduceSub, Nat.reduceLT, Nat.reduceLeDiff]
 refine hKK _ _ (Wk.refl _ _ _) ?_; clear hKK KK
 refine awp_nr [0,1,6,7,8] (fun _ => rfl) fun tz => ?_
 refine awp_regW fun KK hKK => ?_
 refine xw_id ?_
 try simp only [go_sem, ↓iop_and, ↓iop_or, ↓iop_xor, ↓iop_andn, Nat.reduceEqDiff, reduceIte, Nat.reduceAdd, Nat.reduceMul, Nat.reduceSub, Nat.reduceLT, Nat.reduceLeDiff, Int.reduceToNat, Int.reduceBEq, Int.reduceBNe, Int.reduceLT, Int.reduceLE, Int.reduceAdd, Int.reduceSub, Int.reduceMul]
 refine hKK _ _ (Wk.refl _ _ _) ?_; clear hKK KK
 refine awp_nr [0,1,6,7,8,9] (fun _ => rfl) fun tz => ?_
 refine awp_regW fun KK hKK => ?_
 refine xw_id ?_
 try simp only [go_sem, ↓iop_and, ↓iop_or, ↓iop_xor, ↓iop_andn, Nat.reduceEqDiff, reduceIte, Nat.reduceAdd, Nat.reduceMul, Nat.reduceSub, Nat.reduceLT, Nat.reduceLeDiff]
 refine hKK _ _ (Wk.refl _ _ _) ?_; clear hKK KK
 refine awp_nr [0,1,6,7,8,9,10] (fun _ => rfl) fun tz => ?_
 refine awp_regW fun KK hKK => ?_
 refine xw_id ?_
 try simp only [go_sem, ↓iop_and, ↓iop_or, ↓iop_xor, ↓iop_andn, Nat.reduceEqDiff, reduceIte, Nat.reduceAdd, Nat.reduceMul, Nat.reduceSub, Nat.reduceLT, Nat.reduceLeDiff, Int.reduceToNat, Int.reduceBEq, Int.reduceBNe, Int.reduceLT, Int.reduceLE, Int.reduceAdd, Int.reduceSub, Int.reduceMul]
 refine hKK _ _ (Wk.refl _ _ _) ?_; clear hKK KK
 refine awp_nr [0,1,6,7,9,11] (fun _ => rfl) fun tz => ?_
 refine awp_regW fun KK hKK => ?_
 refine xw_id ?_
 try simp only [go_sem, ↓iop_and, ↓iop_or, ↓iop_xor, ↓iop_andn, Nat.reduceEqDiff, reduceIte, Nat.reduceAdd, Nat.reduceMul, Nat.reduceSub, Nat.reduceLT, Nat.reduceLeDiff]
 refine hKK _ _ (Wk.refl _ _ _) ?_; clear hKK KK
 refine awp_nr [0,1,6,7,9,11,12] (fun _ => rfl) fun tz => ?_
 refine awp_regW fun KK hKK => ?_
 refine xw_id ?_
 try simp only [go_sem, ↓iop_and, ↓iop_or, ↓iop_xor, ↓iop_andn, Nat.reduceEqDiff, reduceIte, Nat.reduceAdd, Nat.reduceMul, Nat.reduceSub, Nat.reduceLT, Nat.reduceLeDiff, Int.reduceToNat, Int.reduceBEq, Int.reduceBNe, Int.reduceLT, Int.reduceLE, Int.reduceAdd, Int.reduceSub, Int.reduceMul]
 refine hKK _ _ (Wk.refl _ _ _) ?_; clear hKK KK
 refine awp_nr [0,1,6,7,9,12,13] (fun _ => rfl) fun tz => ?_
 refine awp_regW fun KK hKK => ?_
 refine xw_id ?_
 try simp only [go_sem, ↓iop_and, ↓iop_or, ↓iop_xor, ↓iop_andn, Nat.reduceEqDiff, reduceIte, Nat.reduceAdd, Nat.reduceMul, Nat.reduceSub, Nat.reduceLT, Nat.reduceLeDiff]
 refine hKK _ _ (Wk.refl _ _ _) ?_; clear hKK KK
 refine awp_nr [0,1,7,9,12,13] (fun _ => rfl) fun tz => ?_
 refine awp_regW fun KK hKK => ?_
 refine xw_id ?_
 try simp only [go_sem, ↓iop_and, ↓iop_or, ↓iop_xor, ↓iop_andn, Nat.reduceEqDiff, reduceIte, Nat.reduceAdd, Nat.reduceMul, Nat.reduceSub, Nat.reduceLT, Nat.reduceLeDiff, Int.reduceToNat, Int.reduceBEq, Int.reduceBNe, Int.reduceLT, Int.reduceLE, Int.reduceAdd, Int.reduceSub, Int.reduceMul]
 refine hKK _ _ (Wk.refl _ _ _) ?_; clear hKK KK
 refine awp_nr [0,1,4] (fun _ => rfl) fun tz => ?_
 refine awp_regW fun KK hKK => ?_
 refine xw_id ?_
 try simp only [go_sem, ↓iop_and, ↓iop_or, ↓iop_xor, ↓iop_andn, Nat.reduceEqDiff, reduceIte, Nat.reduceAdd, Nat.reduceMul, Nat.reduceSub, Nat.reduceLT, Nat.reduceLeDiff]
 refine hKK _ _ (Wk.refl _ _ _) ?_; clear hKK KK
 refine awp_ret1 ?_
 obtain rfl := someInj h0
 refine endW_i ?_
 refine end_ret0 rs68 (rfl) ?_
 try simp only [go_sem, ↓iop_and, ↓iop_or, ↓iop_xor, ↓iop_andn, Nat.reduceEqDiff, reduceIte, Nat.reduceAdd, Nat.reduceMul, Nat.reduceSub, Nat.reduceLT, Nat.reduceLeDiff, fz, nilS, packR, List.take_nil, List.take_length, List.length_map, List.length_append, cond_true, cond_false, Nat.ble_eq, ble_self]
 all_goals first | rfl | (simp only [go_sem, ↓iop_and, ↓iop_or, ↓iop_xor, ↓iop_andn, Nat.reduceEqDiff, reduceIte, Nat.reduceAdd, Nat.reduceMul, Nat.reduceSub, Nat.reduceLT, Nat.reduceLeDiff, fz, nilS, packR, List.take_nil, List.take_length, List.length_map, List.length_append, cond_true, cond_false, Nat.ble_eq, ble_self, List.map_append] <;> rfl)

end Go.AX.Z.TX

/-! (TXW math bits LeadingZeros64 run0) -/

set_option linter.unusedSimpArgs false
set_option linter.unusedVariables false
set_option maxHeartbeats 4000000
set_option maxRecDepth 20000
namespace Go.AX.Z.TX
open Go.AX Go.Proofs
attribute [local irreducible] awp xw xop xcall gsp ob xd xdop xcallD seqQ loopQ blkQ endQ

theorem math_bits_LeadingZeros64_run0 : ranX K 60 89 [vq 2305843009213693951] = some (vi 3) := by kernel_rfl

end Go.AX.Z.TX

/-! (TXW math bits LeadingZeros64) -/

set_option linter.unusedSimpArgs false
set_option linter.unusedVariables false
set_option maxHeartbeats 4000000
set_option maxRecDepth 20000
namespace Go.AX.Z.TX
open Go.AX Go.Proofs
attribute [local irreducible] awp xw xop xcall gsp ob xd xdop xcallD seqQ loopQ blkQ endQ

theorem math_bits_LeadingZeros64_p (a0 : Int) {r : Int} (h0 : math_bits_LeadingZeros64 a0 = some r) : SndP K 89 [(vq a0)] (vi r) := by
 unfold math_bits_LeadingZeros64 at h0
 rcases Bool.eq_false_or_eq_true ((a0 == 2305843009213693951)) with k0 | k0
 ·
  have h0 := cT h0 k0
  simp only [Bool.and_eq_true, beq_iff_eq] at k0
  subst k0
  cases h0
  exact SndP.of_run hC rfl rfl math_bits_LeadingZeros64_run0
 have h0 := cF h0 k0
 cases h0

end Go.AX.Z.TX

/-! (TXW math bits Div64) -/

set_option linter.unusedSimpArgs false
set_option linter.unusedVariables false
set_option maxHeartbeats 4000000
set_option maxRecDepth 20000
namespace Go.AX.Z.TX
open Go.AX Go.Proofs
attribute [local irreducible] awp xw xop xcall gsp ob xd xdop xcallD seqQ loopQ blkQ endQ

def math_bits_Div64_S0 (a0 : Int) (a1 : Int) (a2 : Int) (d29 : Unit) : AS :=
 { objs := (fun _ => .dead), next := 0, tmps := (upd (upd (upd (fun _ => .unk) 0 (vq a0)) 1 (vq a1)) 2 (vq a2)) }

def math_bits_Div64_S1 (a0 : Int) (a1 : Int) (a2 : Int) (d30 : Unit) : AS :=
 { objs := (fun _ => .dead), next := 0, tmps := (upd (upd (upd (fun _ => .unk) 0 (vq a0)) 1 (vq a1)) 2 (vq a2)) }

def math_bits_Div64_S2 (a2 : Int) (x33 : Int) (a0 : Int) (a1 : Int) (d39 : Int) : AS :=
 { objs := (fun _ => .dead), next := 0, tmps := (upd (upd (upd (upd (upd (upd (upd (upd (fun _ => .unk) 2 (vq (IntKind.wrap .u64 (a2 * 2 ^ (min ((IntKind.wrap .u64 x33)).toNat 64))))) 8 (vq (IntKind.wrap .u64 x33))) 9 (vq (((IntKind.wrap .u64 (a2 * 2 ^ (min ((IntKind.wrap .u64 x33)).toNat 64)))).fdiv (2 ^ (min 32 64))))) 10 (vq (band .u64 (IntKind.wrap .u64 (a2 * 2 ^ (min ((IntKind.wrap .u64 x33)).toNat 64))) 4294967295))) 11 (vq (bor .u64 (IntKind.wrap .u64 (a0 * 2 ^ (min ((IntKind.wrap .u64 x33)).toNat 64))) ((a1).fdiv (2 ^ (min ((IntKind.wrap .u64 (64 - (IntKind.wrap .u64 x33)))).toNat 64)))))) 13 (vq (((IntKind.wrap .u64 (a1 * 2 ^ (min ((IntKind.wrap .u64 x33)).toNat 64)))).fdiv (2 ^ (min 32 64))))) 14 (vq (band .u64 (IntKind.wrap .u64 (a1 * 2 ^ (min ((IntKind.wrap .u64 x33)).toNat 64))) 4294967295))) 15 (vq d39)) }

def math_bits_Div64_S3 (a2 : Int) (x33 : Int) (a0 : Int) (a1 : Int) (d40 : (Int × Int)) : AS :=
 { objs := (fun _ => .dead), next := 0, tmps := (upd (upd (upd (upd (upd (upd (upd (upd (upd (fun _ => .unk) 2 (vq (IntKind.wrap .u64 (a2 * 2 ^ (min ((IntKind.wrap .u64 x33)).toNat 64))))) 8 (vq (IntKind.wrap .u64 x33))) 9 (vq (((IntKind.wrap .u64 (a2 * 2 ^ (min ((IntKind.wrap .u64 x33)).toNat 64)))).fdiv (2 ^ (min 32 64))))) 10 (vq (band .u64 (IntKind.wrap .u64 (a2 * 2 ^ (min ((IntKind.wrap .u64 x33)).toNat 64))) 4294967295))) 11 (vq (bor .u64 (IntKind.wrap .u64 (a0 * 2 ^ (min ((IntKind.wrap .u64 x33)).toNat 64))) ((a1).fdiv (2 ^ (min ((IntKind.wrap .u64 (64 - (IntKind.wrap .u64 x33)))).toNat 64)))))) 13 (vq (((IntKind.wrap .u64 (a1 * 2 ^ (min ((IntKind.wrap .u64 x33)).toNat 64)))).fdiv (2 ^ (min 32 64))))) 14 (vq (band .u64 (IntKind.wrap .u64 (a1 * 2 ^ (min ((IntKind.wrap .u64 x33)).toNat 64))) 4294967295))) 15 (vq d40.1)) 16 (vq d40.2)) }

def math_bits_Div64_S5 (a2 : Int) (x33 : Int) (a1 : Int) (d39 : Int) (a0 : Int) (d42 : Int) : AS :=
 { objs := (fun _ => .dead), next := 0, tmps := (upd (upd (upd (upd (upd (upd (fun _ => .unk) 2 (vq (IntKind.wrap .u64 (a2 * 2 ^ (min ((IntKind.wrap .u64 x33)).toNat 64))))) 8 (vq (IntKind.wrap .u64 x33))) 14 (vq (band .u64 (IntKind.wrap .u64 (a1 * 2 ^ (min ((IntKind.wrap .u64 x33)).toNat 64))) 4294967295))) 15 (vq d39)) 17 (vq (IntKind.wrap .u64 ((IntKind.wrap .u64 ((IntKind.wrap .u64 ((bor .u64 (IntKind.wrap .u64 (a0 * 2 ^ (min ((IntKind.wrap .u64 x33)).toNat 64))) ((a1).fdiv (2 ^ (min ((IntKind.wrap .u64 (64 - (IntKind.wrap .u64 x33)))).toNat 64)))) * 4294967296)) + (((IntKind.wrap .u64 (a1 * 2 ^ (min ((IntKind.wrap .u64 x33)).toNat 64)))).fdiv (2 ^ (min 32 64))))) - (IntKind.wrap .u64 (d39 * (IntKind.wrap .u64 (a2 * 2 ^ (min ((IntKind.wrap .u64 x33)).toNat 64))))))))) 18 (vq d42)) }

def math_bits_Div64_S6 (a2 : Int) (x33 : Int) (a1 : Int) (d39 : Int) (a0 : Int) (d43 : (Int × Int)) : AS :=
 { objs := (fun _ => .dead), next := 0, tmps := (upd (upd (upd (upd (upd (upd (upd (upd (upd (fun _ => .unk) 2 (vq (IntKind.wrap .u64 (a2 * 2 ^ (min ((IntKind.wrap .u64 x33)).toNat 64))))) 8 (vq (IntKind.wrap .u64 x33))) 9 (vq (((IntKind.wrap .u64 (a2 * 2 ^ (min ((IntKind.wrap .u64 x33)).toNat 64)))).fdiv (2 ^ (min 32 64))))) 10 (vq (band .u64 (IntKind.wrap .u64 (a2 * 2 ^ (min ((IntKind.wrap .u64 x33)).toNat 64))) 4294967295))) 14 (vq (band .u64 (IntKind.wrap .u64 (a1 * 2 ^ (min ((IntKind.wrap .u64 x33)).toNat 64))) 4294967295))) 15 (vq d39)) 16 (vq d43.1)) 17 (vq (IntKind.wrap .u64 ((IntKind.wrap .u64 ((IntKind.wrap .u64 ((bor .u64 (IntKind.wrap .u64 (a0 * 2 ^ (min ((IntKind.wrap .u64 x33)).toNat 64))) ((a1).fdiv (2 ^ (min ((IntKind.wrap .u64 (64 - (IntKind.wrap .u64 x33)))).toNat 64)))) * 4294967296)) + (((IntKind.wrap .u64 (a1 * 2 ^ (min ((IntKind.wrap .u64 x33)).toNat 64)))).fdiv (2 ^ (min 32 64))))) - (IntKind.wrap .u64 (d39 * (IntKind.wrap .u64 (a2 * 2 ^ (min ((IntKind.wrap .u64 x33)).toNat 64))))))))) 18 (vq d43.2)) }

theorem math_bits_Div64_p (a0 : Int) (a1 : Int) (a2 : Int) {r : (Int × Int)} (h0 : math_bits_Div64 a0 a1 a2 = some r) : SndP K 78 [(vq a0), (vq a1), (vq a2)] (.tup [(vq r.1), (vq r.2)]) := by
 refine SndP.of_walkW hC (Clean.tup (clean_cons (Clean.v _) (clean_cons (Clean.v _) clean_nil))) (clean_cons (Clean.v _) (clean_cons (Clean.v _) (clean_cons (Clean.v _) clean_nil))) (show K.P.funcs[78]? = some Try.f78 from Try.func78) rfl rfl (by decide +kernel) (Nat.le_of_ble_eq_true rfl) ?_
 unfold math_bits_Div64 at h0
 refine awp_nr [0,1,2] (fun _ => rfl) fun tz => ?_
 refine awp_regW fun KK hKK => ?_
 refine xw_id ?_
 try simp only [go_sem, ↓iop_and, ↓iop_or, ↓iop_xor, ↓iop_andn, Nat.reduceEqDiff, reduceIte, Nat.reduceAdd, Nat.reduceMul, Nat.reduceSub, Nat.reduceLT, Nat.reduceLeDiff]
 refine hKK _ _ (Wk.refl _ _ _) ?_; clear hKK KK
 refine awp_assoc ?_
 refine awp_nr [0,1,2] (fun _ => rfl) fun tz => ?_
 refine awp_regW fun KK hKK => ?_
 refine xw_id ?_
 try simp only [go_sem, ↓iop_and, ↓iop_or, ↓iop_xor, ↓iop_andn, Nat.reduceEqDiff, reduceIte, Nat.reduceAdd, Nat.reduceMul, Nat.reduceSub, Nat.reduceLT, Nat.reduceLeDiff]
 refine hKK _ _ (Wk.refl _ _ _) ?_; clear hKK KK
 obtain ⟨d29, hi1, h0⟩ := bnd h0
 refine awp_cut (fun z => d29 = z) (fun d29 : Unit => math_bits_Div64_S0 a0 a1 a2 d29) ?_ ?_
 ·
  refine awp_cond1 (b := (a2 == 0)) rfl (fun h2 => ?_) (fun h2 => ?_)
  ·
   have hi1 := cT hi1 h2
   refine awp_nr1 [0,1,2] (fun _ => rfl) fun tz => ?_
   refine awp_reg1 fun KK hKK => ?_
   refine xw_id ?_
   cases hi1
  ·
   have hi1 := cF hi1 h2
   refine awp_skip1 ?_
   refine sq_n ?_
   obtain rfl := someInj hi1
   exact ⟨_, rfl, (Wk.canonD [] [] [] rfl trivial rfl tmO0 (tmAllU 2 (tmAllU 1 (tmAllU 0 tmAll0 (Tm.v _)) (Tm.v _)) (Tm.v _)))⟩
 ·
  rintro _ rfl
  clear hi1
  unfold math_bits_Div64_S0
  refine awp_assoc ?_
  refine awp_nr [0,1,2] (fun _ => rfl) fun tz => ?_
  refine awp_regW fun KK hKK => ?_
  refine xw_id ?_
  try simp only [go_sem, ↓iop_and, ↓iop_or, ↓iop_xor, ↓iop_andn, Nat.reduceEqDiff, reduceIte, Nat.reduceAdd, Nat.reduceMul, Nat.reduceSub, Nat.reduceLT, Nat.reduceLeDiff]
  refine hKK _ _ (Wk.refl _ _ _) ?_; clear hKK KK
  obtain ⟨d30, hi3, h0⟩ := bnd h0
  refine awp_cut (fun z => d30 = z) (fun d30 : Unit => math_bits_Div64_S1 a0 a1 a2 d30) ?_ ?_
  ·
   refine awp_cond1 (b := (decide (a2 ≤ a0))) rfl (fun h4 => ?_) (fun h4 => ?_)
   ·
    have hi3 := cT hi3 h4
    refine awp_nr1 [0,1,2] (fun _ => rfl) fun tz => ?_
    refine awp_reg1 fun KK hKK => ?_
    refine xw_id ?_
    cases hi3
   ·
    have hi3 := cF hi3 h4
    refine awp_skip1 ?_
    refine sq_n ?_
    obtain rfl := someInj hi3
    exact ⟨_, rfl, (Wk.canonD [] [] [] rfl trivial rfl tmO0 (tmAllU 2 (tmAllU 1 (tmAllU 0 tmAll0 (Tm.v _)) (Tm.v _)) (Tm.v _)))⟩
  ·
   rintro _ rfl
   clear hi3
   unfold math_bits_Div64_S1
   refine awp_assoc ?_
   refine awp_nr [0,1,2] (fun _ => rfl) fun tz => ?_
   refine awp_regW fun KK hKK => ?_
   refine xw_id ?_
   try simp only [go_sem, ↓iop_and, ↓iop_or, ↓iop_xor, ↓iop_andn, Nat.reduceEqDiff, reduceIte, Nat.reduceAdd, Nat.reduceMul, Nat.reduceSub, Nat.reduceLT, Nat.reduceLeDiff]
   refine hKK _ _ (Wk.refl _ _ _) ?_; clear hKK KK
   refine awp_cond (b := (a0 == 0)) rfl (fun h5 => ?_) (fun h5 => ?_)
   ·
    have h0 := cT h0 h5
    refine awp_assoc ?_
    refine awp_nr [1,2] (fun _ => rfl) fun tz => ?_
    refine awp_regW fun KK hKK => ?_
    refine xw_id ?_
    obtain ⟨x31, bx31, h0⟩ := bnd h0
    have bx31 := chk_some bx31
    simp only [Bool.and_eq_true, decide_eq_true_eq] at bx31
    have gx31_0 := bx31
    obtain ⟨x32, bx32, h0⟩ := bnd h0
    have bx32 := chk_some bx32
    simp only [Bool.and_eq_true, decide_eq_true_eq] at bx32
    have gx32_0 := bx32
    try simp only [go_sem, ↓iop_and, ↓iop_or, ↓iop_xor, ↓iop_andn, Nat.reduceEqDiff, reduceIte, Nat.reduceAdd, Nat.reduceMul, Nat.reduceSub, Nat.reduceLT, Nat.reduceLeDiff, Int.reduceEq, gx31_0, gx32_0]
    refine hKK _ _ (Wk.refl _ _ _) ?_; clear hKK KK
    refine awp_ret ?_
    obtain rfl := someInj h0
    refine endW_i ?_
    refine end_ret0 rs78 (rfl) ?_
    try simp only [go_sem, ↓iop_and, ↓iop_or, ↓iop_xor, ↓iop_andn, Nat.reduceEqDiff, reduceIte, Nat.reduceAdd, Nat.reduceMul, Nat.reduceSub, Nat.reduceLT, Nat.reduceLeDiff, fz, nilS, packR, List.take_nil, List.take_length, List.length_map, List.length_append, cond_true, cond_false, Nat.ble_eq, ble_self]
    all_goals first | rfl | (simp only [go_sem, ↓iop_and, ↓iop_or, ↓iop_xor, ↓iop_andn, Nat.reduceEqDiff, reduceIte, Nat.reduceAdd, Nat.reduceMul, Nat.reduceSub, Nat.reduceLT, Nat.reduceLeDiff, fz, nilS, packR, List.take_nil, List.take_length, List.length_map, List.length_append, cond_true, cond_false, Nat.ble_eq, ble_self, List.map_append] <;> rfl)
   ·
    have h0 := cF h0 h5
    refine awp_skip ?_
    refine awp_nr [0,1,2] (fun _ => rfl) fun tz => ?_
    refine awp_regW fun KK hKK => ?_
    refine xw_id ?_
    obtain ⟨x33, bx33, h0⟩ := bnd h0
    try simp only [go_sem, ↓iop_and, ↓iop_or, ↓iop_xor, ↓iop_andn, Nat.reduceEqDiff, reduceIte, Nat.reduceAdd, Nat.reduceMul, Nat.reduceSub, Nat.reduceLT, Nat.reduceLeDiff]
    refine xcall_p (math_bits_LeadingZeros64_p a2 bx33) ?_; try dsimp only
    try refine xw_id ?_
    try simp only [go_sem, ↓iop_and, ↓iop_or, ↓iop_xor, ↓iop_andn, Nat.reduceEqDiff, reduceIte, Nat.reduceAdd, Nat.reduceMul, Nat.reduceSub, Nat.reduceLT, Nat.reduceLeDiff]
    refine hKK _ _ (Wk.refl _ _ _) ?_; clear hKK KK
    refine awp_nr [0,1,2,8] (fun _ => rfl) fun tz => ?_
    refine awp_regW fun KK hKK => ?_
    refine xw_id ?_
    obtain ⟨x34, bx34, h0⟩ := bnd h0
    have bx34 := chk_some bx34
    simp only [Bool.and_eq_true, decide_eq_true_eq] at bx34
    have gx34_0 := bx34
    try simp only [go_sem, ↓iop_and, ↓iop_or, ↓iop_xor, ↓iop_andn, Nat.reduceEqDiff, reduceIte, Nat.reduceAdd, Nat.reduceMul, Nat.reduceSub, Nat.reduceLT, Nat.reduceLeDiff, gx34_0]
    refine hKK _ _ (Wk.refl _ _ _) ?_; clear hKK KK
    refine awp_nr [0,1,2,8] (fun _ => rfl) fun tz => ?_
    refine awp_regW fun KK hKK => ?_
    refine xw_id ?_
    try simp only [go_sem, ↓iop_and, ↓iop_or, ↓iop_xor, ↓iop_andn, Nat.reduceEqDiff, reduceIte, Nat.reduceAdd, Nat.reduceMul, Nat.reduceSub, Nat.reduceLT, Nat.reduceLeDiff, Int.reduceToNat, Int.reduceBEq, Int.reduceBNe, Int.reduceLT, Int.reduceLE, Int.reduceAdd, Int.reduceSub, Int.reduceMul]
    refine hKK _ _ (Wk.refl _ _ _) ?_; clear hKK KK
    refine awp_nr [0,1,2,8,9] (fun _ => rfl) fun tz => ?_
    refine awp_regW fun KK hKK => ?_
    refine xw_id ?_
    try simp only [go_sem, ↓iop_and, ↓iop_or, ↓iop_xor, ↓iop_andn, Nat.reduceEqDiff, reduceIte, Nat.reduceAdd, Nat.reduceMul, Nat.reduceSub, Nat.reduceLT, Nat.reduceLeDiff]
    refine hKK _ _ (Wk.refl _ _ _) ?_; clear hKK KK
    refine awp_nr [0,1,2,8,9,10] (fun _ => rfl) fun tz => ?_
    refine awp_regW fun KK hKK => ?_
    refine xw_id ?_
    obtain ⟨x35, bx35, h0⟩ := bnd h0
    have bx35 := chk_some bx35
    simp only [Bool.and_eq_true, decide_eq_true_eq] at bx35
    have gx35_0 := bx35
    obtain ⟨x36, bx36, h0⟩ := bnd h0
    have bx36 := chk_some bx36
    simp only [Bool.and_eq_true, decide_eq_true_eq] at bx36
    have gx36_0 := bx36
    try simp only [go_sem, ↓iop_and, ↓iop_or, ↓iop_xor, ↓iop_andn, Nat.reduceEqDiff, reduceIte, Nat.reduceAdd, Nat.reduceMul, Nat.reduceSub, Nat.reduceLT, Nat.reduceLeDiff, gx35_0, gx36_0]
    refine hKK _ _ (Wk.refl _ _ _) ?_; clear hKK KK
    refine awp_nr [1,2,8,9,10,11] (fun _ => rfl) fun tz => ?_
    refine awp_regW fun KK hKK => ?_
    refine xw_id ?_
    obtain ⟨x37, bx37, h0⟩ := bnd h0
    have bx37 := chk_some bx37
    simp only [Bool.and_eq_true, decide_eq_true_eq] at bx37
    have gx37_0 := bx37
    try simp only [go_sem, ↓iop_and, ↓iop_or, ↓iop_xor, ↓iop_andn, Nat.reduceEqDiff, reduceIte, Nat.reduceAdd, Nat.reduceMul, Nat.reduceSub, Nat.reduceLT, Nat.reduceLeDiff, gx37_0]
    refine hKK _ _ (Wk.refl _ _ _) ?_; clear hKK KK
    refine awp_nr [2,8,9,10,11,12] (fun _ => rfl) fun tz => ?_
    refine awp_regW fun KK hKK => ?_
    refine xw_id ?_
    try simp only [go_sem, ↓iop_and, ↓iop_or, ↓iop_xor, ↓iop_andn, Nat.reduceEqDiff, reduceIte, Nat.reduceAdd, Nat.reduceMul, Nat.reduceSub, Nat.reduceLT, Nat.reduceLeDiff, Int.reduceToNat, Int.reduceBEq, Int.reduceBNe, Int.reduceLT, Int.reduceLE, Int.reduceAdd, Int.reduceSub, Int.reduceMul]
    refine hKK _ _ (Wk.refl _ _ _) ?_; clear hKK KK
    refine awp_nr [2,8,9,10,11,12,13] (fun _ => rfl) fun tz => ?_
    refine awp_regW fun KK hKK => ?_
    refine xw_id ?_
    try simp only [go_sem, ↓iop_and, ↓iop_or, ↓iop_xor, ↓iop_andn, Nat.reduceEqDiff, reduceIte, Nat.reduceAdd, Nat.reduceMul, Nat.reduceSub, Nat.reduceLT, Nat.reduceLeDiff]
    refine hKK _ _ (Wk.refl _ _ _) ?_; clear hKK KK
    refine awp_nr [2,8,9,10,11,13,14] (fun _ => rfl) fun tz => ?_
    refine awp_regW fun KK hKK => ?_
    refine xw_id ?_
    obtain ⟨x38, bx38, h0⟩ := bnd h0
    have bx38 := chk_some bx38
    simp only [Bool.and_eq_true, decide_eq_true_eq] at bx38
    have gx38_0 := bx38
    try simp only [go_sem, ↓iop_and, ↓iop_or, ↓iop_xor, ↓iop_andn, Nat.reduceEqDiff, reduceIte, Nat.reduceAdd, Nat.reduceMul, Nat.reduceSub, Nat.reduceLT, Nat.reduceLeDiff, Int.reduceEq, gx38_0]
    refine hKK _ _ (Wk.refl _ _ _) ?_; clear hKK KK
    refine awp_nr [2,8,9,10,11,13,14,15] (fun _ => rfl) fun tz => ?_
    refine awp_regW fun KK hKK => ?_
    refine xw_id ?_
    try simp only [go_sem, ↓iop_and, ↓iop_or, ↓iop_xor, ↓iop_andn, Nat.reduceEqDiff, reduceIte, Nat.reduceAdd, Nat.reduceMul, Nat.reduceSub, Nat.reduceLT, Nat.reduceLeDiff]
    refine hKK _ _ (Wk.refl _ _ _) ?_; clear hKK KK
    obtain ⟨d39, hi6, h0⟩ := bnd h0
    refine awp_cut (fun z => d39 = z) (fun d39 : Int => math_bits_Div64_S2 a2 x33 a0 a1 d39) ?_ ?_
    ·
     refine awp_block1 ?_
     refine awp_loopS (fun n (d40 : (Int × Int)) => math_bits_Div64_L4 a1 x33 a2 n d40 = some d39) (fun d40 : (Int × Int) => math_bits_Div64_S3 a2 x33 a0 a1 d40) big (IntKind.wrap .u64 (((bor .u64 (IntKind.wrap .u64 (a0 * 2 ^ (min ((IntKind.wrap .u64 x33)).toNat 64))) ((a1).fdiv (2 ^ (min ((IntKind.wrap .u64 (64 - (IntKind.wrap .u64 x33)))).toNat 64))))).tdiv (((IntKind.wrap .u64 (a2 * 2 ^ (min ((IntKind.wrap .u64 x33)).toNat 64)))).fdiv (2 ^ (min 32 64)))), IntKind.wrap .u64 ((bor .u64 (IntKind.wrap .u64 (a0 * 2 ^ (min ((IntKind.wrap .u64 x33)).toNat 64))) ((a1).fdiv (2 ^ (min ((IntKind.wrap .u64 (64 - (IntKind.wrap .u64 x33)))).toNat 64)))) - (IntKind.wrap .u64 ((IntKind.wrap .u64 (((bor .u64 (IntKind.wrap .u64 (a0 * 2 ^ (min ((IntKind.wrap .u64 x33)).toNat 64))) ((a1).fdiv (2 ^ (min ((IntKind.wrap .u64 (64 - (IntKind.wrap .u64 x33)))).toNat 64))))).tdiv (((IntKind.wrap .u64 (a2 * 2 ^ (min ((IntKind.wrap .u64 x33)).toNat 64)))).fdiv (2 ^ (min 32 64))))) * (((IntKind.wrap .u64 (a2 * 2 ^ (min ((IntKind.wrap .u64 x33)).toNat 64)))).fdiv (2 ^ (min 32 64))))))) (Wk.canonD [] [] [] rfl trivial rfl tmO0 (tmAllU 16 (tmAllU 15 (tmAllU 14 (tmAllU 13 (tmAllU 11 (tmAllU 10 (tmAllU 9 (tmAllU 8 (tmAllU 2 tmAll0 (Tm.v _)) (Tm.v _)) (Tm.v _)) (Tm.v _)) (Tm.v _)) (Tm.v _)) (Tm.v _)) (Tm.v _)) (Tm.v _))) hi6 ?_
     clear hi6
     rintro n d40 hl8
     rcases n with _ | n7
     ·
      (rw [math_bits_Div64_L4] at hl8; cases hl8)
     ·
      rw [math_bits_Div64_L4] at hl8
      unfold math_bits_Div64_S3
      refine awp_assoc ?_
      refine awp_nr [2,8,9,10,11,13,14,15,16] (fun _ => rfl) fun tz => ?_
      refine awp_regW fun KK hKK => ?_
      refine xw_id ?_
      refine xw_stop 3 (by (try simp only [go_sem]); rfl) (by (try simp only [go_sem]); rfl) (by rfl) fun K1 hK1 => ?_
      refine xw_id ?_
      try simp only [go_sem, ↓iop_and, ↓iop_or, ↓iop_xor, ↓iop_andn, Nat.reduceEqDiff, reduceIte, Nat.reduceAdd, Nat.reduceMul, Nat.reduceSub, Nat.reduceLT, Nat.reduceLeDiff]
      refine hK1 _ ?_; clear hK1 K1
      refine xw_cut 9 [(2, (vq (IntKind.wrap .u64 (a2 * 2 ^ (min ((IntKind.wrap .u64 x33)).toNat 64))))), (8, (vq (IntKind.wrap .u64 x33))), (9, (vq (((IntKind.wrap .u64 (a2 * 2 ^ (min ((IntKind.wrap .u64 x33)).toNat 64)))).fdiv (2 ^ (min 32 64))))), (10, (vq (band .u64 (IntKind.wrap .u64 (a2 * 2 ^ (min ((IntKind.wrap .u64 x33)).toNat 64))) 4294967295))), (11, (vq (bor .u64 (IntKind.wrap .u64 (a0 * 2 ^ (min ((IntKind.wrap .u64 x33)).toNat 64))) ((a1).fdiv (2 ^ (min ((IntKind.wrap .u64 (64 - (IntKind.wrap .u64 x33)))).toNat 64)))))), (13, (vq (((IntKind.wrap .u64 (a1 * 2 ^ (min ((IntKind.wrap .u64 x33)).toNat 64)))).fdiv (2 ^ (min 32 64))))), (14, (vq (band .u64 (IntKind.wrap .u64 (a1 * 2 ^ (min ((IntKind.wrap .u64 x33)).toNat 64))) 4294967295))), (15, (vq d40.1)), (16, (vq d40.2)), (78, (vb ((decide (4294967296 ≤ d40.1)) || (decide ((IntKind.wrap .u64 ((IntKind.wrap .u64 (4294967296 * d40.2)) + (((IntKind.wrap .u64 (a1 * 2 ^ (min ((IntKind.wrap .u64 x33)).toNat 64)))).fdiv (2 ^ (min 32 64))))) < (IntKind.wrap .u64 (d40.1 * (band .u64 (IntKind.wrap .u64 (a2 * 2 ^ (min ((IntKind.wrap .u64 x33)).toNat 64))) 4294967295))))))))] (by (try simp only [go_sem]); rfl) (by (try simp only [go_sem]); rfl) (by rfl) (fun K1 hK1 => ?_) fun tz => ?_
      ·
       refine xw_id ?_
       rcases Bool.eq_false_or_eq_true (decide (4294967296 ≤ d40.1)) with h9 | h9
       ·
        try simp only [go_sem, ↓iop_and, ↓iop_or, ↓iop_xor, ↓iop_andn, Nat.reduceEqDiff, reduceIte, Nat.reduceAdd, Nat.reduceMul, Nat.reduceSub, Nat.reduceLT, Nat.reduceLeDiff, h9]
        exact hK1 _ ⟨rfl, rfl, rfl, rfl, rfl, rfl, rfl, rfl, rfl, rfl, (by first | rfl | (rw [h9]; rfl) | (simp only [h9, Bool.true_and, Bool.false_and, Bool.true_or, Bool.false_or, cond_true, cond_false]; done)), trivial⟩
       ·
        try simp only [go_sem, ↓iop_and, ↓iop_or, ↓iop_xor, ↓iop_andn, Nat.reduceEqDiff, reduceIte, Nat.reduceAdd, Nat.reduceMul, Nat.reduceSub, Nat.reduceLT, Nat.reduceLeDiff, h9]
        exact hK1 _ ⟨rfl, rfl, rfl, rfl, rfl, rfl, rfl, rfl, rfl, rfl, (by first | rfl | (rw [h9]; rfl) | (simp only [h9, Bool.true_and, Bool.false_and, Bool.true_or, Bool.false_or, cond_true, cond_false]; done)), trivial⟩
      ·
       refine xw_id ?_
       try simp only [go_sem, ↓iop_and, ↓iop_or, ↓iop_xor, ↓iop_andn, Nat.reduceEqDiff, reduceIte, Nat.reduceAdd, Nat.reduceMul, Nat.reduceSub, Nat.reduceLT, Nat.reduceLeDiff]
       refine hKK _ _ (Wk.refl _ _ _) ?_; clear hKK KK
       refine awp_cond (b := ((decide (4294967296 ≤ d40.1)) || (decide ((IntKind.wrap .u64 ((IntKind.wrap .u64 (4294967296 * d40.2)) + (((IntKind.wrap .u64 (a1 * 2 ^ (min ((IntKind.wrap .u64 x33)).toNat 64)))).fdiv (2 ^ (min 32 64))))) < (IntKind.wrap .u64 (d40.1 * (band .u64 (IntKind.wrap .u64 (a2 * 2 ^ (min ((IntKind.wrap .u64 x33)).toNat 64))) 4294967295))))))) rfl (fun h10 => ?_) (fun h10 => ?_)
       ·
        have hl8 := cT hl8 h10
        refine awp_skip ?_
        refine awp_block1 ?_
        refine awp_nr [2,8,9,10,11,13,14,15,16] (fun _ => rfl) fun tz => ?_
        refine awp_regW fun KK hKK => ?_
        refine xw_id ?_
        try simp only [go_sem, ↓iop_and, ↓iop_or, ↓iop_xor, ↓iop_andn, Nat.reduceEqDiff, reduceIte, Nat.reduceAdd, Nat.reduceMul, Nat.reduceSub, Nat.reduceLT, Nat.reduceLeDiff]
        refine hKK _ _ (Wk.refl _ _ _) ?_; clear hKK KK
        refine awp_nr [2,8,9,10,11,13,14,15,16] (fun _ => rfl) fun tz => ?_
        refine awp_regW fun KK hKK => ?_
        refine xw_id ?_
        try simp only [go_sem, ↓iop_and, ↓iop_or, ↓iop_xor, ↓iop_andn, Nat.reduceEqDiff, reduceIte, Nat.reduceAdd, Nat.reduceMul, Nat.reduceSub, Nat.reduceLT, Nat.reduceLeDiff]
        refine hKK _ _ (Wk.refl _ _ _) ?_; clear hKK KK
        refine awp_nr [2,8,9,10,11,13,14,15,16] (fun _ => rfl) fun tz => ?_
        refine awp_regW fun KK hKK => ?_
        refine xw_id ?_
        try simp only [go_sem, ↓iop_and, ↓iop_or, ↓iop_xor, ↓iop_andn, Nat.reduceEqDiff, reduceIte, Nat.reduceAdd, Nat.reduceMul, Nat.reduceSub, Nat.reduceLT, Nat.reduceLeDiff]
        refine hKK _ _ (Wk.refl _ _ _) ?_; clear hKK KK
        refine awp_cond1 (b := (decide (4294967296 ≤ (IntKind.wrap .u64 (d40.2 + (((IntKind.wrap .u64 (a2 * 2 ^ (min ((IntKind.wrap .u64 x33)).toNat 64)))).fdiv (2 ^ (min 32 64)))))))) rfl (fun h11 => ?_) (fun h11 => ?_)
        ·
         have hl8 := cT hl8 h11
         refine awp_exit1 ?_
         refine bq_o rfl ?_
         refine lq_e ?_
         refine bq_e ?_
         refine sq_n ?_
         obtain rfl := someInj hl8
         exact ⟨_, rfl, (Wk.canonD [] [] [] rfl trivial rfl tmO0 (tmAllU 15 (tmAllU 14 (tmAllU 13 (tmAllU 11 (tmAllU 10 (tmAllU 9 (tmAllU 8 (tmAllU 2 tmAll0 (Tm.v _)) (Tm.v _)) (Tm.v _)) (Tm.v _)) (Tm.v _)) (Tm.v _)) (Tm.v _)) (Tm.v _)))⟩
        ·
         have hl8 := cF hl8 h11
         refine awp_skip1 ?_
         refine bq_n ?_
         refine lq_n ?_
         exact ⟨n7, (IntKind.wrap .u64 (d40.1 - 1), IntKind.wrap .u64 (d40.2 + (((IntKind.wrap .u64 (a2 * 2 ^ (min ((IntKind.wrap .u64 x33)).toNat 64)))).fdiv (2 ^ (min 32 64))))), rfl, hl8, (Wk.canonD [] [] [] rfl trivial rfl tmO0 (tmAllU 16 (tmAllU 15 (tmAllU 14 (tmAllU 13 (tmAllU 11 (tmAllU 10 (tmAllU 9 (tmAllU 8 (tmAllU 2 tmAll0 (Tm.v _)) (Tm.v _)) (Tm.v _)) (Tm.v _)) (Tm.v _)) (Tm.v _)) (Tm.v _)) (Tm.v _)) (Tm.v _)))⟩
       ·
        have hl8 := cF hl8 h10
        refine awp_exit ?_
        refine lq_e ?_
        refine bq_e ?_
        refine sq_n ?_
        obtain rfl := someInj hl8
        exact ⟨_, rfl, (Wk.canonD [] [] [] rfl trivial rfl tmO0 (tmAllU 15 (tmAllU 14 (tmAllU 13 (tmAllU 11 (tmAllU 10 (tmAllU 9 (tmAllU 8 (tmAllU 2 tmAll0 (Tm.v _)) (Tm.v _)) (Tm.v _)) (Tm.v _)) (Tm.v _)) (Tm.v _)) (Tm.v _)) (Tm.v _)))⟩
    ·
     rintro _ rfl
     clear hi6
     unfold math_bits_Div64_S2
     refine awp_nr [2,8,9,10,11,13,14,15] (fun _ => rfl) fun tz => ?_
     refine awp_regW fun KK hKK => ?_
     refine xw_id ?_
     try simp only [go_sem, ↓iop_and, ↓iop_or, ↓iop_xor, ↓iop_andn, Nat.reduceEqDiff, reduceIte, Nat.reduceAdd, Nat.reduceMul, Nat.reduceSub, Nat.reduceLT, Nat.reduceLeDiff]
     refine hKK _ _ (Wk.refl _ _ _) ?_; clear hKK KK
     refine awp_nr [2,8,9,10,14,15,17] (fun _ => rfl) fun tz => ?_
     refine awp_regW fun KK hKK => ?_
     refine xw_id ?_
     obtain ⟨x41, bx41, h0⟩ := bnd h0
     have bx41 := chk_some bx41
     simp only [Bool.and_eq_true, decide_eq_true_eq] at bx41
     have gx41_0 := bx41
     try simp only [go_sem, ↓iop_and, ↓iop_or, ↓iop_xor, ↓iop_andn, Nat.reduceEqDiff, reduceIte, Nat.reduceAdd, Nat.reduceMul, Nat.reduceSub, Nat.reduceLT, Nat.reduceLeDiff, Int.reduceEq, gx41_0]
     refine hKK _ _ (Wk.refl _ _ _) ?_; clear hKK KK
     refine awp_nr [2,8,9,10,14,15,17,18] (fun _ => rfl) fun tz => ?_
     refine awp_regW fun KK hKK => ?_
     refine xw_id ?_
     try simp only [go_sem, ↓iop_and, ↓iop_or, ↓iop_xor, ↓iop_andn, Nat.reduceEqDiff, reduceIte, Nat.reduceAdd, Nat.reduceMul, Nat.reduceSub, Nat.reduceLT, Nat.reduceLeDiff]
     refine hKK _ _ (Wk.refl _ _ _) ?_; clear hKK KK
     obtain ⟨d42, hi12, h0⟩ := bnd h0
     refine awp_cut (fun z => d42 = z) (fun d42 : Int => math_bits_Div64_S5 a2 x33 a1 d39 a0 d42) ?_ ?_
     ·
      refine awp_block1 ?_
      refine awp_loopS (fun n (d43 : (Int × Int)) => math_bits_Div64_L7 a1 x33 a2 n d43 = some d42) (fun d43 : (Int × Int) => math_bits_Div64_S6 a2 x33 a1 d39 a0 d43) big (IntKind.wrap .u64 ((IntKind.wrap .u64 ((IntKind.wrap .u64 ((IntKind.wrap .u64 ((bor .u64 (IntKind.wrap .u64 (a0 * 2 ^ (min ((IntKind.wrap .u64 x33)).toNat 64))) ((a1).fdiv (2 ^ (min ((IntKind.wrap .u64 (64 - (IntKind.wrap .u64 x33)))).toNat 64)))) * 4294967296)) + (((IntKind.wrap .u64 (a1 * 2 ^ (min ((IntKind.wrap .u64 x33)).toNat 64)))).fdiv (2 ^ (min 32 64))))) - (IntKind.wrap .u64 (d39 * (IntKind.wrap .u64 (a2 * 2 ^ (min ((IntKind.wrap .u64 x33)).toNat 64))))))) - (IntKind.wrap .u64 ((IntKind.wrap .u64 (((IntKind.wrap .u64 ((IntKind.wrap .u64 ((IntKind.wrap .u64 ((bor .u64 (IntKind.wrap .u64 (a0 * 2 ^ (min ((IntKind.wrap .u64 x33)).toNat 64))) ((a1).fdiv (2 ^ (min ((IntKind.wrap .u64 (64 - (IntKind.wrap .u64 x33)))).toNat 64)))) * 4294967296)) + (((IntKind.wrap .u64 (a1 * 2 ^ (min ((IntKind.wrap .u64 x33)).toNat 64)))).fdiv (2 ^ (min 32 64))))) - (IntKind.wrap .u64 (d39 * (IntKind.wrap .u64 (a2 * 2 ^ (min ((IntKind.wrap .u64 x33)).toNat 64)))))))).tdiv (((IntKind.wrap .u64 (a2 * 2 ^ (min ((IntKind.wrap .u64 x33)).toNat 64)))).fdiv (2 ^ (min 32 64))))) * (((IntKind.wrap .u64 (a2 * 2 ^ (min ((IntKind.wrap .u64 x33)).toNat 64)))).fdiv (2 ^ (min 32 64)))))), IntKind.wrap .u64 (((IntKind.wrap .u64 ((IntKind.wrap .u64 ((IntKind.wrap .u64 ((bor .u64 (IntKind.wrap .u64 (a0 * 2 ^ (min ((IntKind.wrap .u64 x33)).toNat 64))) ((a1).fdiv (2 ^ (min ((IntKind.wrap .u64 (64 - (IntKind.wrap .u64 x33)))).toNat 64)))) * 4294967296)) + (((IntKind.wrap .u64 (a1 * 2 ^ (min ((IntKind.wrap .u64 x33)).toNat 64)))).fdiv (2 ^ (min 32 64))))) - (IntKind.wrap .u64 (d39 * (IntKind.wrap .u64 (a2 * 2 ^ (min ((IntKind.wrap .u64 x33)).toNat 64)))))))).tdiv (((IntKind.wrap .u64 (a2 * 2 ^ (min ((IntKind.wrap .u64 x33)).toNat 64)))).fdiv (2 ^ (min 32 64))))) (Wk.canonD [] [] [] rfl trivial rfl tmO0 (tmAllU 18 (tmAllU 17 (tmAllU 16 (tmAllU 15 (tmAllU 14 (tmAllU 10 (tmAllU 9 (tmAllU 8 (tmAllU 2 tmAll0 (Tm.v _)) (Tm.v _)) (Tm.v _)) (Tm.v _)) (Tm.v _)) (Tm.v _)) (Tm.v _)) (Tm.v _)) (Tm.v _))) hi12 ?_
      clear hi12
      rintro n d43 hl14
      rcases n with _ | n13
      ·
       (rw [math_bits_Div64_L7] at hl14; cases hl14)
      ·
       rw [math_bits_Div64_L7] at hl14
       unfold math_bits_Div64_S6
       refine awp_assoc ?_
       refine awp_nr [2,8,9,10,14,15,16,17,18] (fun _ => rfl) fun tz => ?_
       refine awp_regW fun KK hKK => ?_
       refine xw_id ?_
       refine xw_stop 3 (by (try simp only [go_sem]); rfl) (by (try simp only [go_sem]); rfl) (by rfl) fun K1 hK1 => ?_
       refine xw_id ?_
       try simp only [go_sem, ↓iop_and, ↓iop_or, ↓iop_xor, ↓iop_andn, Nat.reduceEqDiff, reduceIte, Nat.reduceAdd, Nat.reduceMul, Nat.reduceSub, Nat.reduceLT, Nat.reduceLeDiff]
       refine hK1 _ ?_; clear hK1 K1
       refine xw_cut 9 [(2, (vq (IntKind.wrap .u64 (a2 * 2 ^ (min ((IntKind.wrap .u64 x33)).toNat 64))))), (8, (vq (IntKind.wrap .u64 x33))), (9, (vq (((IntKind.wrap .u64 (a2 * 2 ^ (min ((IntKind.wrap .u64 x33)).toNat 64)))).fdiv (2 ^ (min 32 64))))), (10, (vq (band .u64 (IntKind.wrap .u64 (a2 * 2 ^ (min ((IntKind.wrap .u64 x33)).toNat 64))) 4294967295))), (14, (vq (band .u64 (IntKind.wrap .u64 (a1 * 2 ^ (min ((IntKind.wrap .u64 x33)).toNat 64))) 4294967295))), (15, (vq d39)), (16, (vq d43.1)), (17, (vq (IntKind.wrap .u64 ((IntKind.wrap .u64 ((IntKind.wrap .u64 ((bor .u64 (IntKind.wrap .u64 (a0 * 2 ^ (min ((IntKind.wrap .u64 x33)).toNat 64))) ((a1).fdiv (2 ^ (min ((IntKind.wrap .u64 (64 - (IntKind.wrap .u64 x33)))).toNat 64)))) * 4294967296)) + (((IntKind.wrap .u64 (a1 * 2 ^ (min ((IntKind.wrap .u64 x33)).toNat 64)))).fdiv (2 ^ (min 32 64))))) - (IntKind.wrap .u64 (d39 * (IntKind.wrap .u64 (a2 * 2 ^ (min ((IntKind.wrap .u64 x33)).toNat 64))))))))), (18, (vq d43.2)), (113, (vb ((decide (4294967296 ≤ d43.2)) || (decide ((IntKind.wrap .u64 ((IntKind.wrap .u64 (4294967296 * d43.1)) + (band .u64 (IntKind.wrap .u64 (a1 * 2 ^ (min ((IntKind.wrap .u64 x33)).toNat 64))) 4294967295))) < (IntKind.wrap .u64 (d43.2 * (band .u64 (IntKind.wrap .u64 (a2 * 2 ^ (min ((IntKind.wrap .u64 x33)).toNat 64))) 4294967295))))))))] (by (try simp only [go_sem]); rfl) (by (try simp only [go_sem]); rfl) (by rfl) (fun K1 hK1 => ?_) fun tz => ?_
       ·
        refine xw_id ?_
        rcases Bool.eq_false_or_eq_true (decide (4294967296 ≤ d43.2)) with h15 | h15
        ·
         try simp only [go_sem, ↓iop_and, ↓iop_or, ↓iop_xor, ↓iop_andn, Nat.reduceEqDiff, reduceIte, Nat.reduceAdd, Nat.reduceMul, Nat.reduceSub, Nat.reduceLT, Nat.reduceLeDiff, h15]
         exact hK1 _ ⟨rfl, rfl, rfl, rfl, rfl, rfl, rfl, rfl, rfl, rfl, (by first | rfl | (rw [h15]; rfl) | (simp only [h15, Bool.true_and, Bool.false_and, Bool.true_or, Bool.false_or, cond_true, cond_false]; done)), trivial⟩
        ·
         try simp only [go_sem, ↓iop_and, ↓iop_or, ↓iop_xor, ↓iop_andn, Nat.reduceEqDiff, reduceIte, Nat.reduceAdd, Nat.reduceMul, Nat.reduceSub, Nat.reduceLT, Nat.reduceLeDiff, h15]
         exact hK1 _ ⟨rfl, rfl, rfl, rfl, rfl, rfl, rfl, rfl, rfl, rfl, (by first | rfl | (rw [h15]; rfl) | (simp only [h15, Bool.true_and, Bool.false_and, Bool.true_or, Bool.false_or, cond_true, cond_false]; done)), trivial⟩
       ·
        refine xw_id ?_
        try simp only [go_sem, ↓iop_and, ↓iop_or, ↓iop_xor, ↓iop_andn, Nat.reduceEqDiff, reduceIte, Nat.reduceAdd, Nat.reduceMul, Nat.reduceSub, Nat.reduceLT, Nat.reduceLeDiff]
        refine hKK _ _ (Wk.refl _ _ _) ?_; clear hKK KK
        refine awp_cond (b := ((decide (4294967296 ≤ d43.2)) || (decide ((IntKind.wrap .u64 ((IntKind.wrap .u64 (4294967296 * d43.1)) + (band .u64 (IntKind.wrap .u64 (a1 * 2 ^ (min ((IntKind.wrap .u64 x33)).toNat 64))) 4294967295))) < (IntKind.wrap .u64 (d43.2 * (band .u64 (IntKind.wrap .u64 (a2 * 2 ^ (min ((IntKind.wrap .u64 x33)).toNat 64))) 4294967295))))))) rfl (fun h16 => ?_) (fun h16 => ?_)
        ·
         have hl14 := cT hl14 h16
         refine awp_skip ?_
         refine awp_block1 ?_
         refine awp_nr [2,8,9,10,14,15,16,17,18] (fun _ => rfl) fun tz => ?_
         refine awp_regW fun KK hKK => ?_
         refine xw_id ?_
         try simp only [go_sem, ↓iop_and, ↓iop_or, ↓iop_xor, ↓iop_andn, Nat.reduceEqDiff, reduceIte, Nat.reduceAdd, Nat.reduceMul, Nat.reduceSub, Nat.reduceLT, Nat.reduceLeDiff]
         refine hKK _ _ (Wk.refl _ _ _) ?_; clear hKK KK
         refine awp_nr [2,8,9,10,14,15,16,17,18] (fun _ => rfl) fun tz => ?_
         refine awp_regW fun KK hKK => ?_
         refine xw_id ?_
         try simp only [go_sem, ↓iop_and, ↓iop_or, ↓iop_xor, ↓iop_andn, Nat.reduceEqDiff, reduceIte, Nat.reduceAdd, Nat.reduceMul, Nat.reduceSub, Nat.reduceLT, Nat.reduceLeDiff]
         refine hKK _ _ (Wk.refl _ _ _) ?_; clear hKK KK
         refine awp_nr [2,8,9,10,14,15,16,17,18] (fun _ => rfl) fun tz => ?_
         refine awp_regW fun KK hKK => ?_
         refine xw_id ?_
         try simp only [go_sem, ↓iop_and, ↓iop_or, ↓iop_xor, ↓iop_andn, Nat.reduceEqDiff, reduceIte, Nat.reduceAdd, Nat.reduceMul, Nat.reduceSub, Nat.reduceLT, Nat.reduceLeDiff]
         refine hKK _ _ (Wk.refl _ _ _) ?_; clear hKK KK
         refine awp_cond1 (b := (decide (4294967296 ≤ (IntKind.wrap .u64 (d43.1 + (((IntKind.wrap .u64 (a2 * 2 ^ (min ((IntKind.wrap .u64 x33)).toNat 64)))).fdiv (2 ^ (min 32 64)))))))) rfl (fun h17 => ?_) (fun h17 => ?_)
         ·
          have hl14 := cT hl14 h17
          refine awp_exit1 ?_
          refine bq_o rfl ?_
          refine lq_e ?_
          refine bq_e ?_
          refine sq_n ?_
          obtain rfl := someInj hl14
          exact ⟨_, rfl, (Wk.canonD [] [] [] rfl trivial rfl tmO0 (tmAllU 18 (tmAllU 17 (tmAllU 15 (tmAllU 14 (tmAllU 8 (tmAllU 2 tmAll0 (Tm.v _)) (Tm.v _)) (Tm.v _)) (Tm.v _)) (Tm.v _)) (Tm.v _)))⟩
         ·
          have hl14 := cF hl14 h17
          refine awp_skip1 ?_
          refine bq_n ?_
          refine lq_n ?_
          exact ⟨n13, (IntKind.wrap .u64 (d43.1 + (((IntKind.wrap .u64 (a2 * 2 ^ (min ((IntKind.wrap .u64 x33)).toNat 64)))).fdiv (2 ^ (min 32 64)))), IntKind.wrap .u64 (d43.2 - 1)), rfl, hl14, (Wk.canonD [] [] [] rfl trivial rfl tmO0 (tmAllU 18 (tmAllU 17 (tmAllU 16 (tmAllU 15 (tmAllU 14 (tmAllU 10 (tmAllU 9 (tmAllU 8 (tmAllU 2 tmAll0 (Tm.v _)) (Tm.v _)) (Tm.v _)) (Tm.v _)) (Tm.v _)) (Tm.v _)) (Tm.v _)) (Tm.v _)) (Tm.v _)))⟩
        ·
         have hl14 := cF hl14 h16
         refine awp_exit ?_
         refine lq_e ?_
         refine bq_e ?_
         refine sq_n ?_
         obtain rfl := someInj hl14
         exact ⟨_, rfl, (Wk.canonD [] [] [] rfl trivial rfl tmO0 (tmAllU 18 (tmAllU 17 (tmAllU 15 (tmAllU 14 (tmAllU 8 (tmAllU 2 tmAll0 (Tm.v _)) (Tm.v _)) (Tm.v _)) (Tm.v _)) (Tm.v _)) (Tm.v _)))⟩
     ·
      rintro _ rfl
      clear hi12
      unfold math_bits_Div64_S5
      refine awp_nr [2,8,14,15,17,18] (fun _ => rfl) fun tz => ?_
      refine awp_regW fun KK hKK => ?_
      refine xw_id ?_
      obtain ⟨x44, bx44, h0⟩ := bnd h0
      have bx44 := chk_some bx44
      simp only [Bool.and_eq_true, decide_eq_true_eq] at bx44
      have gx44_0 := bx44
      try simp only [go_sem, ↓iop_and, ↓iop_or, ↓iop_xor, ↓iop_andn, Nat.reduceEqDiff, reduceIte, Nat.reduceAdd, Nat.reduceMul, Nat.reduceSub, Nat.reduceLT, Nat.reduceLeDiff, gx44_0]
      refine hKK _ _ (Wk.refl _ _ _) ?_; clear hKK KK
      refine awp_ret1 ?_
      obtain rfl := someInj h0
      refine endW_i ?_
      refine end_ret0 rs78 (rfl) ?_
      try simp only [go_sem, ↓iop_and, ↓iop_or, ↓iop_xor, ↓iop_andn, Nat.reduceEqDiff, reduceIte, Nat.reduceAdd, Nat.reduceMul, Nat.reduceSub, Nat.reduceLT, Nat.reduceLeDiff, fz, nilS, packR, List.take_nil, List.take_length, List.length_map, List.length_append, cond_true, cond_false, Nat.ble_eq, ble_self]
      all_goals first | rfl | (simp only [go_sem, ↓iop_and, ↓iop_or, ↓iop_xor, ↓iop_andn, Nat.reduceEqDiff, reduceIte, Nat.reduceAdd, Nat.reduceMul, Nat.reduceSub, Nat.reduceLT, Nat.reduceLeDiff, fz, nilS, packR, List.take_nil, List.take_length, List.length_map, List.length_append, cond_true, cond_false, Nat.ble_eq, ble_self, List.map_append] <;> rfl)

end Go.AX.Z.TX

/-! (TXW math bits Rem64) -/

set_option linter.unusedSimpArgs false
set_option linter.unusedVariables false
set_option maxHeartbeats 4000000
set_option maxRecDepth 20000
namespace Go.AX.Z.TX
open Go.AX Go.Proofs
attribute [local irreducible] awp xw xop xcall gsp ob xd xdop xcallD seqQ loopQ blkQ endQ


theorem math_bits_Rem64_p (a0 : Int) (a1 : Int) (a2 : Int) {r : Int} (h0 : math_bits_Rem64 a0 a1 a2 = some r) : SndP K 69 [(vq a0), (vq a1), (vq a2)] (vq r) := by
 refine SndP.of_walkW hC (Clean.v _) (clean_cons (Clean.v _) (clean_cons (Clean.v _) (clean_cons (Clean.v _) clean_nil))) (show K.P.funcs[69]? = some Try.f69 from Try.func69) rfl rfl (by decide +kernel) (Nat.le_of_ble_eq_true rfl) ?_
 unfold math_bits_Rem64 at h0
 refine awp_nr [0,1,2] (fun _ => rfl) fun tz => ?_
 refine awp_regW fun KK hKK => ?_
 refine xw_id ?_
 try simp only [go_sem, Nat.reduceEqDiff, reduceIte, Nat.reduceAdd, Nat.reduceMul, Nat.reduceSub, Nat.reduceLT, Nat.reduceLeDiff]
 refine hKK _ _ (Wk.refl _ _ _) ?_; clear hKK KK
 refine awp_nr [0,1,2] (fun _ => rfl) fun tz => ?_
 refine awp_regW fun KK hKK => ?_
 refine xw_id ?_
 obtain ⟨x28, bx28, h0⟩ := bnd h0
 have bx28 := chk_some bx28
 simp only [Bool.and_eq_true, decide_eq_true_eq] at bx28
 have gx28_0 := bx28
 obtain ⟨x29, bx29, h0⟩ := bnd h0
 try simp only [go_sem, Nat.reduceEqDiff, reduceIte, Nat.reduceAdd, Nat.reduceMul, Nat.reduceSub, Nat.reduceLT, Nat.reduceLeDiff, Int.reduceEq, gx28_0]
 refine xcall_p (math_bits_Div64_p ((a0).tmod a2) a1 a2 bx29) ?_; try dsimp only
 try refine xw_id ?_
 try simp only [go_sem, Nat.reduceEqDiff, reduceIte, Nat.reduceAdd, Nat.reduceMul, Nat.reduceSub, Nat.reduceLT, Nat.reduceLeDiff, Int.reduceEq, gx28_0]
 refine hKK _ _ (Wk.refl _ _ _) ?_; clear hKK KK
 refine awp_nr [8] (fun _ => rfl) fun tz => ?_
 refine awp_regW fun KK hKK => ?_
 refine xw_id ?_
 try simp only [go_sem, Nat.reduceEqDiff, reduceIte, Nat.reduceAdd, Nat.reduceMul, Nat.reduceSub, Nat.reduceLT, Nat.reduceLeDiff]
 refine hKK _ _ (Wk.refl _ _ _) ?_; clear hKK KK
 refine awp_ret1 ?_
 obtain rfl := someInj h0
 refine endW_i ?_
 refine end_ret0 rs69 (rfl) ?_
 try simp only [go_sem, Nat.reduceEqDiff, reduceIte, Nat.reduceAdd, Nat.reduceMul, Nat.reduceSub, Nat.reduceLT, Nat.reduceLeDiff, fz, nilS, packR, List.take_nil, List.take_length, List.length_map, List.length_append, cond_true, cond_false, Nat.ble_eq, ble_self]
 all_goals first | rfl | (simp only [go_sem, Nat.reduceEqDiff, reduceIte, Nat.reduceAdd, Nat.reduceMul, Nat.reduceSub, Nat.reduceLT, Nat.reduceLeDiff, fz, nilS, packR, List.take_nil, List.take_length, List.length_map, List.length_append, cond_true, cond_false, Nat.ble_eq, ble_self, List.map_append] <;> rfl)

end Go.AX.Z.TX

/-! (TXW auth Mul) -/

set_option linter.unusedSimpArgs false
set_option linter.unusedVariables false
set_option maxHeartbeats 4000000
set_option maxRecDepth 20000
namespace Go.AX.Z.TX
open Go.AX Go.Proofs
attribute [local irreducible] awp xw xop xcall gsp ob xd xdop xcallD seqQ loopQ blkQ endQ


theorem auth_Mul_p (a0 : Int) (a1 : Int) {r : Int} (h0 : auth_Mul a0 a1 = some r) : SndP K 46 [(vq a0), (vq a1)] (vq r) := by
 refine SndP.of_walkW hC (Clean.v _) (clean_cons (Clean.v _) (clean_cons (Clean.v _) clean_nil)) (show K.P.funcs[46]? = some Try.f46 from Try.func46) rfl rfl (by decide +kernel) (Nat.le_of_ble_eq_true rfl) ?_
 unfold auth_Mul at h0
 refine awp_nr [0,1] (fun _ => rfl) fun tz => ?_
 refine awp_regW fun KK hKK => ?_
 refine xw_id ?_
 try simp only [go_sem, Nat.reduceEqDiff, reduceIte, Nat.reduceAdd, Nat.reduceMul, Nat.reduceSub, Nat.reduceLT, Nat.reduceLeDiff]
 refine hKK _ _ (Wk.refl _ _ _) ?_; clear hKK KK
 refine awp_nr [0,1] (fun _ => rfl) fun tz => ?_
 refine awp_regW fun KK hKK => ?_
 refine xw_id ?_
 obtain ⟨x27, bx27, h0⟩ := bnd h0
 try simp only [go_sem, Nat.reduceEqDiff, reduceIte, Nat.reduceAdd, Nat.reduceMul, Nat.reduceSub, Nat.reduceLT, Nat.reduceLeDiff, Int.reduceToNat, Int.reduceBEq, Int.reduceBNe, Int.reduceLT, Int.reduceLE, Int.reduceAdd, Int.reduceSub, Int.reduceMul, Int.reduceEq]
 refine xcall_p (math_bits_Mul64_p ((a0).tmod 2305843009213693951) ((a1).tmod 2305843009213693951) bx27) ?_; try dsimp only
 try refine xw_id ?_
 try simp only [go_sem, Nat.reduceEqDiff, reduceIte, Nat.reduceAdd, Nat.reduceMul, Nat.reduceSub, Nat.reduceLT, Nat.reduceLeDiff, Int.reduceToNat, Int.reduceBEq, Int.reduceBNe, Int.reduceLT, Int.reduceLE, Int.reduceAdd, Int.reduceSub, Int.reduceMul, Int.reduceEq]
 refine hKK _ _ (Wk.refl _ _ _) ?_; clear hKK KK
 refine awp_nr [5,6] (fun _ => rfl) fun tz => ?_
 refine awp_regW fun KK hKK => ?_
 refine xw_id ?_
 obtain ⟨x28, bx28, h0⟩ := bnd h0
 try simp only [go_sem, Nat.reduceEqDiff, reduceIte, Nat.reduceAdd, Nat.reduceMul, Nat.reduceSub, Nat.reduceLT, Nat.reduceLeDiff]
 refine xcall_p (math_bits_Rem64_p x27.1 x27.2 2305843009213693951 bx28) ?_; try dsimp only
 try refine xw_id ?_
 try simp only [go_sem, Nat.reduceEqDiff, reduceIte, Nat.reduceAdd, Nat.reduceMul, Nat.reduceSub, Nat.reduceLT, Nat.reduceLeDiff]
 refine hKK _ _ (Wk.refl _ _ _) ?_; clear hKK KK
 refine awp_ret1 ?_
 obtain rfl := someInj h0
 refine endW_i ?_
 refine end_ret0 rs46 (rfl) ?_
 try simp only [go_sem, Nat.reduceEqDiff, reduceIte, Nat.reduceAdd, Nat.reduceMul, Nat.reduceSub, Nat.reduceLT, Nat.reduceLeDiff, fz, nilS, packR, List.take_nil, List.take_length, List.length_map, List.length_append, cond_true, cond_false, Nat.ble_eq, ble_self]
 all_goals first | rfl | (simp only [go_sem, Nat.reduceEqDiff, reduceIte, Nat.reduceAdd, Nat.reduceMul, Nat.reduceSub, Nat.reduceLT, Nat.reduceLeDiff, fz, nilS, packR, List.take_nil, List.take_length, List.length_map, List.length_append, cond_true, cond_false, Nat.ble_eq, ble_self, List.map_append] <;> rfl)

end Go.AX.Z.TX

/-! (TXW auth Base) -/

set_option linter.unusedSimpArgs false
set_option linter.unusedVariables false
set_option maxHeartbeats 4000000
set_option maxRecDepth 20000
namespace Go.AX.Z.TX
open Go.AX Go.Proofs
attribute [local irreducible] awp xw xop xcall gsp ob xd xdop xcallD seqQ loopQ blkQ endQ

def auth_Base_S0 (a0 : (List Int)) (d4 : (A6vu × A6vu)) : AS :=
 { objs := (upd (upd (fun _ => .dead) 0 (.live (e_A6vu d4.1))) 1 (.live (e_A6vu d4.2))), next := 2, tmps := (upd (upd (upd (fun _ => .unk) 0 (vs a0)) 4 (.ptr 0 0)) 5 (.ptr 1 0)) }

def auth_Base_S1 (x6 : ((List Int) × Int)) : AS :=
 { objs := (upd (fun _ => .dead) 0 (.live (List.map vu x6.1))), next := 1, tmps := (upd (fun _ => .unk) 8 (.ref 0 0 x6.1.length 1)) }

theorem auth_Base_p (a0 : (List Int)) (a1 : A6vu) (a2 : A6vu) {r : (Int × Int)} (h0 : auth_Base a0 a1 a2 = some r) : SndP K 26 [(vs a0), (.agg (e_A6vu a1)), (.agg (e_A6vu a2))] (.tup [(vq r.1), (vi r.2)]) := by
 refine SndP.of_walkW hC (Clean.tup (clean_cons (Clean.v _) (clean_cons (Clean.v _) clean_nil))) (clean_cons (Clean.v _) (clean_cons (Clean.agg (e_A6vu_clean _)) (clean_cons (Clean.agg (e_A6vu_clean _)) clean_nil))) (show K.P.funcs[26]? = some Try.f26 from Try.func26) rfl rfl (by decide +kernel) (Nat.le_of_ble_eq_true rfl) ?_
 unfold auth_Base at h0
 refine awp_nr [0,1,2] (fun _ => rfl) fun tz => ?_
 refine awp_regW fun KK hKK => ?_
 refine xw_id ?_
 try simp only [go_sem, Nat.reduceEqDiff, reduceIte, Nat.reduceAdd, Nat.reduceMul, Nat.reduceSub, Nat.reduceLT, Nat.reduceLeDiff]
 refine hKK _ _ (Wk.refl _ _ _) ?_; clear hKK KK
 refine awp_assoc ?_
 refine awp_nr [0,4,5] (fun _ => rfl) fun tz => ?_
 refine awp_regW fun KK hKK => ?_
 refine xw_id ?_
 try simp only [go_sem, Nat.reduceEqDiff, reduceIte, Nat.reduceAdd, Nat.reduceMul, Nat.reduceSub, Nat.reduceLT, Nat.reduceLeDiff]
 refine hKK _ _ (Wk.refl _ _ _) ?_; clear hKK KK
 refine awp_cond (b := (decide (a1 = a2))) rfl (fun h1 => ?_) (fun h1 => ?_)
 ·
  have h0 := cT h0 h1
  refine awp_assoc ?_
  refine awp_nr [] (fun _ => rfl) fun tz => ?_
  refine awp_regW fun KK hKK => ?_
  refine xw_id ?_
  try simp only [go_sem, Nat.reduceEqDiff, reduceIte, Nat.reduceAdd, Nat.reduceMul, Nat.reduceSub, Nat.reduceLT, Nat.reduceLeDiff]
  refine hKK _ _ (Wk.refl _ _ _) ?_; clear hKK KK
  refine awp_ret ?_
  obtain rfl := someInj h0
  refine endW_i ?_
  refine end_ret0 rs26 (rfl) ?_
  try simp only [go_sem, Nat.reduceEqDiff, reduceIte, Nat.reduceAdd, Nat.reduceMul, Nat.reduceSub, Nat.reduceLT, Nat.reduceLeDiff, fz, nilS, packR, List.take_nil, List.take_length, List.length_map, List.length_append, cond_true, cond_false, Nat.ble_eq, ble_self]
  all_goals first | rfl | (simp only [go_sem, Nat.reduceEqDiff, reduceIte, Nat.reduceAdd, Nat.reduceMul, Nat.reduceSub, Nat.reduceLT, Nat.reduceLeDiff, fz, nilS, packR, List.take_nil, List.take_length, List.length_map, List.length_append, cond_true, cond_false, Nat.ble_eq, ble_self, List.map_append] <;> rfl)
 ·
  have h0 := cF h0 h1
  refine awp_skip ?_
  refine awp_assoc ?_
  refine awp_nr [0,4,5] (fun _ => rfl) fun tz => ?_
  refine awp_regW fun KK hKK => ?_
  refine xw_id ?_
  try simp only [go_sem, Nat.reduceEqDiff, reduceIte, Nat.reduceAdd, Nat.reduceMul, Nat.reduceSub, Nat.reduceLT, Nat.reduceLeDiff, Int.reduceToNat, Int.reduceBEq, Int.reduceBNe, Int.reduceLT, Int.reduceLE, Int.reduceAdd, Int.reduceSub, Int.reduceMul]
  refine hKK _ _ (Wk.refl _ _ _) ?_; clear hKK KK
  refine awp_cond (b := (decide (64 < (a0.length : Int)))) rfl (fun h2 => ?_) (fun h2 => ?_)
  ·
   have h0 := cT h0 h2
   refine awp_assoc ?_
   refine awp_nr [] (fun _ => rfl) fun tz => ?_
   refine awp_regW fun KK hKK => ?_
   refine xw_id ?_
   try simp only [go_sem, Nat.reduceEqDiff, reduceIte, Nat.reduceAdd, Nat.reduceMul, Nat.reduceSub, Nat.reduceLT, Nat.reduceLeDiff]
   refine hKK _ _ (Wk.refl _ _ _) ?_; clear hKK KK
   refine awp_ret ?_
   obtain rfl := someInj h0
   refine endW_i ?_
   refine end_ret0 rs26 (rfl) ?_
   try simp only [go_sem, Nat.reduceEqDiff, reduceIte, Nat.reduceAdd, Nat.reduceMul, Nat.reduceSub, Nat.reduceLT, Nat.reduceLeDiff, fz, nilS, packR, List.take_nil, List.take_length, List.length_map, List.length_append, cond_true, cond_false, Nat.ble_eq, ble_self]
   all_goals first | rfl | (simp only [go_sem, Nat.reduceEqDiff, reduceIte, Nat.reduceAdd, Nat.reduceMul, Nat.reduceSub, Nat.reduceLT, Nat.reduceLeDiff, fz, nilS, packR, List.take_nil, List.take_length, List.length_map, List.length_append, cond_true, cond_false, Nat.ble_eq, ble_self, List.map_append] <;> rfl)
  ·
   have h0 := cF h0 h2
   refine awp_skip ?_
   refine awp_assoc ?_
   refine awp_nr [0,4,5] (fun _ => rfl) fun tz => ?_
   refine awp_regW fun KK hKK => ?_
   refine xw_id ?_
   obtain ⟨x3, bx3, h0⟩ := bnd h0
   try simp only [go_sem, Nat.reduceEqDiff, reduceIte, Nat.reduceAdd, Nat.reduceMul, Nat.reduceSub, Nat.reduceLT, Nat.reduceLeDiff]
   refine xcall_p (address_Compare_p a1 a2 bx3) ?_; try dsimp only
   try refine xw_id ?_
   try simp only [go_sem, Nat.reduceEqDiff, reduceIte, Nat.reduceAdd, Nat.reduceMul, Nat.reduceSub, Nat.reduceLT, Nat.reduceLeDiff]
   refine hKK _ _ (Wk.refl _ _ _) ?_; clear hKK KK
   obtain ⟨d4, hi3, h0⟩ := bnd h0
   refine awp_cut (fun z => d4 = z) (fun d4 : (A6vu × A6vu) => auth_Base_S0 a0 d4) ?_ ?_
   ·
    refine awp_cond1 (b := (decide (0 < x3))) rfl (fun h4 => ?_) (fun h4 => ?_)
    ·
     have hi3 := cT hi3 h4
     refine awp_nr1 [0,4,5] (fun _ => rfl) fun tz => ?_
     refine awp_reg1 fun KK hKK => ?_
     refine xw_id ?_
     try simp only [go_sem, Nat.reduceEqDiff, reduceIte, Nat.reduceAdd, Nat.reduceMul, Nat.reduceSub, Nat.reduceLT, Nat.reduceLeDiff]
     refine hKK _ ?_; clear hKK KK
     refine sq_n ?_
     obtain rfl := someInj hi3
     exact ⟨_, rfl, (Wk.canonD [] [] [some 0, some 1] rfl trivial rfl (tmOU 1 (tmOU 0 tmO0 rfl List.not_mem_nil (by simp only [upd_get, Nat.reduceEqDiff, reduceIte, if_true, if_false] <;> rfl) (TmL.clean (e_A6vu_clean _))) rfl List.not_mem_nil (by simp only [upd_get, Nat.reduceEqDiff, reduceIte, if_true, if_false] <;> rfl) (TmL.clean (e_A6vu_clean _))) (tmAllU 5 (tmAllU 4 (tmAllU 0 tmAll0 (Tm.v _)) (Tm.ptr rfl)) (Tm.ptr rfl)))⟩
    ·
     have hi3 := cF hi3 h4
     refine awp_skip1 ?_
     refine sq_n ?_
     obtain rfl := someInj hi3
     exact ⟨_, rfl, (Wk.canonD [] [] [some 0, some 1] rfl trivial rfl (tmOU 1 (tmOU 0 tmO0 rfl List.not_mem_nil (by simp only [upd_get, Nat.reduceEqDiff, reduceIte, if_true, if_false] <;> rfl) (TmL.clean (e_A6vu_clean _))) rfl List.not_mem_nil (by simp only [upd_get, Nat.reduceEqDiff, reduceIte, if_true, if_false] <;> rfl) (TmL.clean (e_A6vu_clean _))) (tmAllU 5 (tmAllU 4 (tmAllU 0 tmAll0 (Tm.v _)) (Tm.ptr rfl)) (Tm.ptr rfl)))⟩
   ·
    rintro _ rfl
    clear hi3
    unfold auth_Base_S0
    refine awp_nr [0,4,5] (fun _ => rfl) fun tz => ?_
    refine awp_regDW fun KK hKK all hall => ?_
    refine xd_id ?_
    try simp only [List.toList_toArray, List.map_cons, List.map_nil, List.size_toArray, List.length_cons, List.length_nil, Nat.zero_add]
    try simp only [Nat.reduceAdd]
    have gs5 : sbE K.P 9 29 (vs a0) = some (.imm (List.map vu (sB a0)) (sB a0).length) := sbE_vs (d := .string) (e := 5) (by kernel_rfl) (by kernel_rfl) (by kernel_rfl) a0
    obtain ⟨x5, bx5, h0⟩ := bnd h0
    iterate 3 ((try simp only [go_sem, Nat.reduceEqDiff, reduceIte, Nat.reduceMul, Nat.reduceSub, Nat.reduceLT, Nat.reduceLeDiff, Int.reduceToNat, Int.reduceBEq, Int.reduceBNe, Int.reduceLT, Int.reduceLE, Int.reduceAdd, Int.reduceSub, Int.reduceMul, gs5, Int.sub_zero, Int.sub_zero]); try simp only [Nat.reduceAdd])
    refine xcallD_EL (by first | (simp only [go_sem, fz, nilS, cond_true, cond_false, Nat.reduceEqDiff, reduceIte, Nat.reduceAdd, Nat.reduceMul, Nat.reduceSub, Nat.reduceLT, Nat.reduceLeDiff, gs5, Int.sub_zero, Int.sub_zero]; done) | (simp only [go_sem, fz, nilS, cond_true, cond_false, Nat.reduceEqDiff, reduceIte, Nat.reduceAdd, Nat.reduceMul, Nat.reduceSub, Nat.reduceLT, Nat.reduceLeDiff, gs5, Int.sub_zero, Int.sub_zero]; rfl) | (simp only [go_sem, fz, List.length_set, ble_self, take_set, cond_true, cond_false, Nat.reduceEqDiff, reduceIte, Nat.reduceAdd, Nat.reduceMul, Nat.reduceSub, Nat.reduceLT, Nat.reduceLeDiff, gs5, Int.sub_zero, Int.sub_zero]; done) | (simp only [go_sem, fz, List.length_set, ble_self, take_set, cond_true, cond_false, Nat.reduceEqDiff, reduceIte, Nat.reduceAdd, Nat.reduceMul, Nat.reduceSub, Nat.reduceLT, Nat.reduceLeDiff, gs5, Int.sub_zero, Int.sub_zero]; rfl)) (by first | (simp only [go_sem, reach, Nat.reduceEqDiff, reduceIte, Nat.reduceAdd, Nat.reduceMul, Nat.reduceSub, Nat.reduceLT, Nat.reduceLeDiff, gs5, Int.sub_zero, Int.sub_zero]; done) | (simp only [go_sem, reach, Nat.reduceEqDiff, reduceIte, Nat.reduceAdd, Nat.reduceMul, Nat.reduceSub, Nat.reduceLT, Nat.reduceLeDiff, gs5, Int.sub_zero, Int.sub_zero]; rfl)) (slices_Concat_byte_byte_e [(sB a0), [d4.1.a0, d4.1.a1, d4.1.a2, d4.1.a3, d4.1.a4, d4.1.a5], [d4.2.a0, d4.2.a1, d4.2.a2, d4.2.a3, d4.2.a4, d4.2.a5]] bx5 _) (by repeat' (first | exact NoV.v _ | exact NoV.ref _ _ _ _ | exact NoV.onil | refine NoV.ocons ?_ ?_ | exact NoV.nil | refine NoV.tup ?_ | refine NoV.agg ?_ | refine NoV.rows (fun _ => ?_) _ | refine NoV.maps (fun _ => ?_) _ | refine NoV.cons ?_ ?_)) (by repeat' (first | exact NoV.v _ | exact NoV.ref _ _ _ _ | exact NoV.onil | refine NoV.ocons ?_ ?_ | exact NoV.nil | refine NoV.tup ?_ | refine NoV.agg ?_ | refine NoV.rows (fun _ => ?_) _ | refine NoV.maps (fun _ => ?_) _ | refine NoV.cons ?_ ?_)) ?_; try dsimp only
    try refine xd_id ?_
    obtain ⟨x6, bx6, h0⟩ := bnd h0
    iterate 3 ((try simp only [go_sem, Nat.reduceEqDiff, reduceIte, Nat.reduceMul, Nat.reduceSub, Nat.reduceLT, Nat.reduceLeDiff, Int.reduceToNat, Int.reduceBEq, Int.reduceBNe, Int.reduceLT, Int.reduceLE, Int.reduceAdd, Int.reduceSub, Int.reduceMul, gs5, Int.sub_zero, Int.sub_zero]); try simp only [Nat.reduceAdd])
    refine xcallD_EL (by first | (simp only [go_sem, fz, nilS, cond_true, cond_false, Nat.reduceEqDiff, reduceIte, Nat.reduceAdd, Nat.reduceMul, Nat.reduceSub, Nat.reduceLT, Nat.reduceLeDiff, gs5, Int.sub_zero, Int.sub_zero]; done) | (simp only [go_sem, fz, nilS, cond_true, cond_false, Nat.reduceEqDiff, reduceIte, Nat.reduceAdd, Nat.reduceMul, Nat.reduceSub, Nat.reduceLT, Nat.reduceLeDiff, gs5, Int.sub_zero, Int.sub_zero]; rfl) | (simp only [go_sem, fz, List.length_set, ble_self, take_set, cond_true, cond_false, Nat.reduceEqDiff, reduceIte, Nat.reduceAdd, Nat.reduceMul, Nat.reduceSub, Nat.reduceLT, Nat.reduceLeDiff, gs5, Int.sub_zero, Int.sub_zero]; done) | (simp only [go_sem, fz, List.length_set, ble_self, take_set, cond_true, cond_false, Nat.reduceEqDiff, reduceIte, Nat.reduceAdd, Nat.reduceMul, Nat.reduceSub, Nat.reduceLT, Nat.reduceLeDiff, gs5, Int.sub_zero, Int.sub_zero]; rfl)) (by first | (simp only [go_sem, reach, Nat.reduceEqDiff, reduceIte, Nat.reduceAdd, Nat.reduceMul, Nat.reduceSub, Nat.reduceLT, Nat.reduceLeDiff, gs5, Int.sub_zero, Int.sub_zero]; done) | (simp only [go_sem, reach, Nat.reduceEqDiff, reduceIte, Nat.reduceAdd, Nat.reduceMul, Nat.reduceSub, Nat.reduceLT, Nat.reduceLeDiff, gs5, Int.sub_zero, Int.sub_zero]; rfl)) (derive_Expand_e A16vu.z x5 8 bx6 _) (by repeat' (first | exact NoV.v _ | exact NoV.ref _ _ _ _ | exact NoV.onil | refine NoV.ocons ?_ ?_ | exact NoV.nil | refine NoV.tup ?_ | refine NoV.agg ?_ | refine NoV.rows (fun _ => ?_) _ | refine NoV.maps (fun _ => ?_) _ | refine NoV.cons ?_ ?_)) (by repeat' (first | exact NoV.v _ | exact NoV.ref _ _ _ _ | exact NoV.onil | refine NoV.ocons ?_ ?_ | exact NoV.nil | refine NoV.tup ?_ | refine NoV.agg ?_ | refine NoV.rows (fun _ => ?_) _ | refine NoV.maps (fun _ => ?_) _ | refine NoV.cons ?_ ?_)) ?_; try dsimp only
    try refine xd_id ?_
    iterate 3 ((try simp only [go_sem, Nat.reduceEqDiff, reduceIte, Nat.reduceMul, Nat.reduceSub, Nat.reduceLT, Nat.reduceLeDiff, Int.reduceToNat, Int.reduceBEq, Int.reduceBNe, Int.reduceLT, Int.reduceLE, Int.reduceAdd, Int.reduceSub, Int.reduceMul, gs5, Int.sub_zero, Int.sub_zero]); try simp only [Nat.reduceAdd])
    refine And.intro ?_ (hKK _ (auth_Base_S1 x6) (by refine Wk.canonD [] [] [some 9] rfl trivial rfl (tmOU 0 tmO0 rfl List.not_mem_nil (by simp only [upd_get, Nat.reduceEqDiff, reduceIte, if_true, if_false] <;> rfl) (TmL.of_eq (by first | rfl | (simp only [List.flatMap_append, List.flatMap_cons, List.flatMap_nil, List.map_append, List.map_cons, List.map_nil, List.append_nil, List.nil_append]; done) | (simp only [List.flatMap_append, List.flatMap_cons, List.flatMap_nil, List.map_append, List.map_cons, List.map_nil, List.append_nil, List.nil_append]; rfl)) (vu_clean _))) (tmAllU 8 tmAll0 (Tm.refL rfl ?_)); all_goals (first | rfl | (simp only [List.length_take]; omega) | (simp only [List.length_append, List.length_cons, List.length_nil, List.length_modify, List.length_set, Nat.zero_add]; done) | (simp only [List.length_append, List.length_take, List.length_drop, List.length_cons, List.length_nil, List.length_modify, List.length_set, Nat.zero_add]; omega) | (simp only [List.length_append, List.length_take, List.length_drop, List.length_cons, List.length_nil, List.length_modify, List.length_set, Nat.zero_add]; done) | omega)) ?_)
    ·
     subst hall
     clear hKK KK
     first | decide +kernel | (simp [printsOk, apartP, clash, meet]; try (first | done | decide +kernel | (repeat (first | exact Or.inr (by decide +kernel) | (refine And.intro (Or.inr (by decide +kernel)) ?_)))))
    ·
     clear hKK KK hall all
     unfold auth_Base_S1
     refine awp_nr [8] (fun _ => rfl) fun tz => ?_
     refine awp_regW fun KK hKK => ?_
     refine xw_id ?_
     obtain ⟨x7, bx7, h0⟩ := bnd h0
     try simp only [go_sem, Nat.reduceEqDiff, reduceIte, Nat.reduceAdd, Nat.reduceMul, Nat.reduceSub, Nat.reduceLT, Nat.reduceLeDiff]
     refine xcall_L (by first | (simp only [go_sem, fz, Nat.reduceEqDiff, reduceIte, Nat.reduceAdd, Nat.reduceMul, Nat.reduceSub, Nat.reduceLT, Nat.reduceLeDiff]; done) | (simp only [go_sem, fz, Nat.reduceEqDiff, reduceIte, Nat.reduceAdd, Nat.reduceMul, Nat.reduceSub, Nat.reduceLT, Nat.reduceLeDiff]; rfl) | (simp only [go_sem, fz, List.length_set, ble_self, take_set, cond_true, cond_false, Nat.reduceEqDiff, reduceIte, Nat.reduceAdd, Nat.reduceMul, Nat.reduceSub, Nat.reduceLT, Nat.reduceLeDiff]; done) | (simp only [go_sem, fz, List.length_set, ble_self, take_set, cond_true, cond_false, Nat.reduceEqDiff, reduceIte, Nat.reduceAdd, Nat.reduceMul, Nat.reduceSub, Nat.reduceLT, Nat.reduceLeDiff]; rfl)) (auth_get_p x6.1 bx7) (Bare.v _) ?_; try dsimp only
     try refine xw_id ?_
     try simp only [go_sem, Nat.reduceEqDiff, reduceIte, Nat.reduceAdd, Nat.reduceMul, Nat.reduceSub, Nat.reduceLT, Nat.reduceLeDiff, Int.reduceToNat, Int.reduceBEq, Int.reduceBNe, Int.reduceLT, Int.reduceLE, Int.reduceAdd, Int.reduceSub, Int.reduceMul, Int.reduceEq]
     refine hKK _ _ (Wk.refl _ _ _) ?_; clear hKK KK
     refine awp_nr [10] (fun _ => rfl) fun tz => ?_
     refine awp_regW fun KK hKK => ?_
     refine xw_id ?_
     obtain ⟨x8, bx8, h0⟩ := bnd h0
     try simp only [go_sem, Nat.reduceEqDiff, reduceIte, Nat.reduceAdd, Nat.reduceMul, Nat.reduceSub, Nat.reduceLT, Nat.reduceLeDiff]
     refine xcall_p (auth_Mul_p (IntKind.wrap .u64 (2 + ((x7).tmod 2305843009213693948))) (IntKind.wrap .u64 (2 + ((x7).tmod 2305843009213693948))) bx8) ?_; try dsimp only
     try refine xw_id ?_
     try simp only [go_sem, Nat.reduceEqDiff, reduceIte, Nat.reduceAdd, Nat.reduceMul, Nat.reduceSub, Nat.reduceLT, Nat.reduceLeDiff]
     refine hKK _ _ (Wk.refl _ _ _) ?_; clear hKK KK
     refine awp_ret1 ?_
     obtain rfl := someInj h0
     refine endW_i ?_
     refine end_ret0 rs26 (rfl) ?_
     try simp only [go_sem, Nat.reduceEqDiff, reduceIte, Nat.reduceAdd, Nat.reduceMul, Nat.reduceSub, Nat.reduceLT, Nat.reduceLeDiff, fz, nilS, packR, List.take_nil, List.take_length, List.length_map, List.length_append, cond_true, cond_false, Nat.ble_eq, ble_self]
     all_goals first | rfl | (simp only [go_sem, Nat.reduceEqDiff, reduceIte, Nat.reduceAdd, Nat.reduceMul, Nat.reduceSub, Nat.reduceLT, Nat.reduceLeDiff, fz, nilS, packR, List.take_nil, List.take_length, List.length_map, List.length_append, cond_true, cond_false, Nat.ble_eq, ble_self, List.map_append] <;> rfl)

end Go.AX.Z.TX

/-! (TXW auth secret) -/

set_option linter.unusedSimpArgs false
set_option linter.unusedVariables false
set_option maxHeartbeats 4000000
set_option maxRecDepth 20000
namespace Go.AX.Z.TX
open Go.AX Go.Proofs
attribute [local irreducible] awp xw xop xcall gsp ob xd xdop xcallD seqQ loopQ blkQ endQ


theorem auth_secret_p (a0 : Auth) {r : Bool} (h0 : auth_secret a0 = some r) : SndP K 48 [(.agg (e_Auth a0))] (vb r) := by
 refine SndP.of_walkW hC (Clean.v _) (clean_cons (Clean.agg (e_Auth_clean _)) clean_nil) (show K.P.funcs[48]? = some Try.f48 from Try.func48) rfl rfl (by decide +kernel) (Nat.le_of_ble_eq_true rfl) ?_
 unfold auth_secret at h0
 refine awp_nr [0] (fun _ => rfl) fun tz => ?_
 refine awp_regW fun KK hKK => ?_
 refine xw_id ?_
 try simp only [go_sem, Nat.reduceEqDiff, reduceIte, Nat.reduceAdd, Nat.reduceMul, Nat.reduceSub, Nat.reduceLT, Nat.reduceLeDiff]
 refine hKK _ _ (Wk.refl _ _ _) ?_; clear hKK KK
 refine awp_nr [1] (fun _ => rfl) fun tz => ?_
 refine awp_regW fun KK hKK => ?_
 refine xw_id ?_
 refine xw_stop 4 (by (try simp only [go_sem]); rfl) (by (try simp only [go_sem]); rfl) (by rfl) fun K1 hK1 => ?_
 refine xw_id ?_
 try simp only [go_sem, Nat.reduceEqDiff, reduceIte, Nat.reduceAdd, Nat.reduceMul, Nat.reduceSub, Nat.reduceLT, Nat.reduceLeDiff]
 refine hK1 _ ?_; clear hK1 K1
 refine xw_cut 4 [(1, (.ptr 0 0)), (10, (vb ((decide (2 ≤ a0.Rand)) && (decide (a0.Rand < 2305843009213693950)))))] (by (try simp only [go_sem]); rfl) (by (try simp only [go_sem]); rfl) (by rfl) (fun K1 hK1 => ?_) fun tz => ?_
 ·
  refine xw_id ?_
  rcases Bool.eq_false_or_eq_true (decide (2 ≤ a0.Rand)) with h1 | h1
  ·
   try simp only [go_sem, Nat.reduceEqDiff, reduceIte, Nat.reduceAdd, Nat.reduceMul, Nat.reduceSub, Nat.reduceLT, Nat.reduceLeDiff, h1]
   exact hK1 _ ⟨rfl, rfl, (by first | rfl | (rw [h1]; rfl) | (simp only [h1, Bool.true_and, Bool.false_and, Bool.true_or, Bool.false_or, cond_true, cond_false]; done)), trivial⟩
  ·
   try simp only [go_sem, Nat.reduceEqDiff, reduceIte, Nat.reduceAdd, Nat.reduceMul, Nat.reduceSub, Nat.reduceLT, Nat.reduceLeDiff, h1]
   exact hK1 _ ⟨rfl, rfl, (by first | rfl | (rw [h1]; rfl) | (simp only [h1, Bool.true_and, Bool.false_and, Bool.true_or, Bool.false_or, cond_true, cond_false]; done)), trivial⟩
 ·
  refine xw_id ?_
  refine xw_stop 1 (by (try simp only [go_sem]); rfl) (by (try simp only [go_sem]); rfl) (by rfl) fun K1 hK1 => ?_
  refine xw_id ?_
  try simp only [go_sem, Nat.reduceEqDiff, reduceIte, Nat.reduceAdd, Nat.reduceMul, Nat.reduceSub, Nat.reduceLT, Nat.reduceLeDiff]
  refine hK1 _ ?_; clear hK1 K1
  refine xw_cut 4 [(1, (.ptr 0 0)), (15, (vb (((decide (2 ≤ a0.Rand)) && (decide (a0.Rand < 2305843009213693950))) && (decide (2 ≤ a0.Mask)))))] (by (try simp only [go_sem]); rfl) (by (try simp only [go_sem]); rfl) (by rfl) (fun K1 hK1 => ?_) fun tz => ?_
  ·
   refine xw_id ?_
   rcases Bool.eq_false_or_eq_true ((decide (2 ≤ a0.Rand)) && (decide (a0.Rand < 2305843009213693950))) with h2 | h2
   ·
    have h2_0 : (decide (2 ≤ a0.Rand)) = true := by simp only [Bool.and_eq_true] at h2; exact h2.1
    have h2_1 : (decide (a0.Rand < 2305843009213693950)) = true := by simp only [Bool.and_eq_true] at h2; exact h2.2
    try simp only [go_sem, Nat.reduceEqDiff, reduceIte, Nat.reduceAdd, Nat.reduceMul, Nat.reduceSub, Nat.reduceLT, Nat.reduceLeDiff, h2, h2_0, h2_1]
    exact hK1 _ ⟨rfl, (by first | rfl | (rw [h2_0]; rfl) | (rw [h2_1]; rfl)), (by first | rfl | (rw [h2]; rfl) | (simp only [h2, Bool.true_and, Bool.false_and, Bool.true_or, Bool.false_or, cond_true, cond_false]; done)), trivial⟩
   ·
    try simp only [go_sem, Nat.reduceEqDiff, reduceIte, Nat.reduceAdd, Nat.reduceMul, Nat.reduceSub, Nat.reduceLT, Nat.reduceLeDiff, h2]
    exact hK1 _ ⟨rfl, rfl, (by first | rfl | (rw [h2]; rfl) | (simp only [h2, Bool.true_and, Bool.false_and, Bool.true_or, Bool.false_or, cond_true, cond_false]; done)), trivial⟩
  ·
   refine xw_id ?_
   refine xw_stop 1 (by (try simp only [go_sem]); rfl) (by (try simp only [go_sem]); rfl) (by rfl) fun K1 hK1 => ?_
   refine xw_id ?_
   try simp only [go_sem, Nat.reduceEqDiff, reduceIte, Nat.reduceAdd, Nat.reduceMul, Nat.reduceSub, Nat.reduceLT, Nat.reduceLeDiff]
   refine hK1 _ ?_; clear hK1 K1
   refine xw_cut 4 [(20, (vb ((((decide (2 ≤ a0.Rand)) && (decide (a0.Rand < 2305843009213693950))) && (decide (2 ≤ a0.Mask))) && (decide (a0.Mask < 2305843009213693950)))))] (by (try simp only [go_sem]); rfl) (by (try simp only [go_sem]); rfl) (by rfl) (fun K1 hK1 => ?_) fun tz => ?_
   ·
    refine xw_id ?_
    rcases Bool.eq_false_or_eq_true (((decide (2 ≤ a0.Rand)) && (decide (a0.Rand < 2305843009213693950))) && (decide (2 ≤ a0.Mask))) with h3 | h3
    ·
     have h3_0 : (decide (2 ≤ a0.Rand)) = true := by simp only [Bool.and_eq_true] at h3; exact h3.1.1
     have h3_1 : (decide (a0.Rand < 2305843009213693950)) = true := by simp only [Bool.and_eq_true] at h3; exact h3.1.2
     have h3_2 : (decide (2 ≤ a0.Mask)) = true := by simp only [Bool.and_eq_true] at h3; exact h3.2
     try simp only [go_sem, Nat.reduceEqDiff, reduceIte, Nat.reduceAdd, Nat.reduceMul, Nat.reduceSub, Nat.reduceLT, Nat.reduceLeDiff, h3, h3_0, h3_1, h3_2]
     exact hK1 _ ⟨rfl, (by first | rfl | (rw [h3]; rfl) | (simp only [h3, Bool.true_and, Bool.false_and, Bool.true_or, Bool.false_or, cond_true, cond_false]; done)), trivial⟩
    ·
     try simp only [go_sem, Nat.reduceEqDiff, reduceIte, Nat.reduceAdd, Nat.reduceMul, Nat.reduceSub, Nat.reduceLT, Nat.reduceLeDiff, h3]
     exact hK1 _ ⟨rfl, (by first | rfl | (rw [h3]; rfl) | (simp only [h3, Bool.true_and, Bool.false_and, Bool.true_or, Bool.false_or, cond_true, cond_false]; done)), trivial⟩
   ·
    refine xw_id ?_
    try simp only [go_sem, Nat.reduceEqDiff, reduceIte, Nat.reduceAdd, Nat.reduceMul, Nat.reduceSub, Nat.reduceLT, Nat.reduceLeDiff]
    refine hKK _ _ (Wk.refl _ _ _) ?_; clear hKK KK
    refine awp_ret1 ?_
    obtain rfl := someInj h0
    refine endW_i ?_
    refine end_ret0 rs48 (rfl) ?_
    try simp only [go_sem, Nat.reduceEqDiff, reduceIte, Nat.reduceAdd, Nat.reduceMul, Nat.reduceSub, Nat.reduceLT, Nat.reduceLeDiff, fz, nilS, packR, List.take_nil, List.take_length, List.length_map, List.length_append, cond_true, cond_false, Nat.ble_eq, ble_self]
    all_goals first | rfl | (simp only [go_sem, Nat.reduceEqDiff, reduceIte, Nat.reduceAdd, Nat.reduceMul, Nat.reduceSub, Nat.reduceLT, Nat.reduceLeDiff, fz, nilS, packR, List.take_nil, List.take_length, List.length_map, List.length_append, cond_true, cond_false, Nat.ble_eq, ble_self, List.map_append] <;> rfl)

end Go.AX.Z.TX

/-! (TXW auth sum) -/

set_option linter.unusedSimpArgs false
set_option linter.unusedVariables false
set_option maxHeartbeats 4000000
set_option maxRecDepth 20000
namespace Go.AX.Z.TX
open Go.AX Go.Proofs
attribute [local irreducible] awp xw xop xcall gsp ob xd xdop xcallD seqQ loopQ blkQ endQ


theorem auth_sum_p (a0 : Int) (a1 : Int) {r : Int} (h0 : auth_sum a0 a1 = some r) : SndP K 49 [(vq a0), (vq a1)] (vq r) := by
 refine SndP.of_walkW hC (Clean.v _) (clean_cons (Clean.v _) (clean_cons (Clean.v _) clean_nil)) (show K.P.funcs[49]? = some Try.f49 from Try.func49) rfl rfl (by decide +kernel) (Nat.le_of_ble_eq_true rfl) ?_
 unfold auth_sum at h0
 refine awp_nr [0,1] (fun _ => rfl) fun tz => ?_
 refine awp_regW fun KK hKK => ?_
 refine xw_id ?_
 try simp only [go_sem, Nat.reduceEqDiff, reduceIte, Nat.reduceAdd, Nat.reduceMul, Nat.reduceSub, Nat.reduceLT, Nat.reduceLeDiff]
 refine hKK _ _ (Wk.refl _ _ _) ?_; clear hKK KK
 refine awp_nr [0,1] (fun _ => rfl) fun tz => ?_
 refine awp_regW fun KK hKK => ?_
 refine xw_id ?_
 try simp only [go_sem, Nat.reduceEqDiff, reduceIte, Nat.reduceAdd, Nat.reduceMul, Nat.reduceSub, Nat.reduceLT, Nat.reduceLeDiff, Int.reduceToNat, Int.reduceBEq, Int.reduceBNe, Int.reduceLT, Int.reduceLE, Int.reduceAdd, Int.reduceSub, Int.reduceMul, Int.reduceEq]
 refine hKK _ _ (Wk.refl _ _ _) ?_; clear hKK KK
 refine awp_ret1 ?_
 obtain rfl := someInj h0
 refine endW_i ?_
 refine end_ret0 rs49 (rfl) ?_
 try simp only [go_sem, Nat.reduceEqDiff, reduceIte, Nat.reduceAdd, Nat.reduceMul, Nat.reduceSub, Nat.reduceLT, Nat.reduceLeDiff, fz, nilS, packR, List.take_nil, List.take_length, List.length_map, List.length_append, cond_true, cond_false, Nat.ble_eq, ble_self]
 all_goals first | rfl | (simp only [go_sem, Nat.reduceEqDiff, reduceIte, Nat.reduceAdd, Nat.reduceMul, Nat.reduceSub, Nat.reduceLT, Nat.reduceLeDiff, fz, nilS, packR, List.take_nil, List.take_length, List.length_map, List.length_append, cond_true, cond_false, Nat.ble_eq, ble_self, List.map_append] <;> rfl)

end Go.AX.Z.TX

/-! (TXW auth Pow) -/

set_option linter.unusedSimpArgs false
set_option linter.unusedVariables false
set_option maxHeartbeats 4000000
set_option maxRecDepth 20000
namespace Go.AX.Z.TX
open Go.AX Go.Proofs
attribute [local irreducible] awp xw xop xcall gsp ob xd xdop xcallD seqQ loopQ blkQ endQ

def auth_Pow_S0 (d18 : Int) : AS :=
 { objs := (fun _ => .dead), next := 0, tmps := (upd (fun _ => .unk) 5 (vq d18)) }

def auth_Pow_S1 (d19 : (Int × Int × Int)) : AS :=
 { objs := (fun _ => .dead), next := 0, tmps := (upd (upd (upd (fun _ => .unk) 0 (vq d19.1)) 1 (vq d19.2.1)) 5 (vq d19.2.2)) }

def auth_Pow_S3 (d19 : (Int × Int × Int)) (d20 : Int) : AS :=
 { objs := (fun _ => .dead), next := 0, tmps := (upd (upd (upd (fun _ => .unk) 0 (vq d19.1)) 1 (vq d19.2.1)) 5 (vq d20)) }

theorem auth_Pow_p (a0 : Int) (a1 : Int) {r : Int} (h0 : auth_Pow a0 a1 = some r) : SndP K 47 [(vq a0), (vq a1)] (vq r) := by
 refine SndP.of_walkW hC (Clean.v _) (clean_cons (Clean.v _) (clean_cons (Clean.v _) clean_nil)) (show K.P.funcs[47]? = some Try.f47 from Try.func47) rfl rfl (by decide +kernel) (Nat.le_of_ble_eq_true rfl) ?_
 unfold auth_Pow at h0
 refine awp_nr [0,1] (fun _ => rfl) fun tz => ?_
 refine awp_regW fun KK hKK => ?_
 refine xw_id ?_
 try simp only [go_sem, ↓iop_and, ↓iop_or, ↓iop_xor, ↓iop_andn, Nat.reduceEqDiff, reduceIte, Nat.reduceAdd, Nat.reduceMul, Nat.reduceSub, Nat.reduceLT, Nat.reduceLeDiff]
 refine hKK _ _ (Wk.refl _ _ _) ?_; clear hKK KK
 refine awp_nr [0,1] (fun _ => rfl) fun tz => ?_
 refine awp_regW fun KK hKK => ?_
 refine xw_id ?_
 try simp only [go_sem, ↓iop_and, ↓iop_or, ↓iop_xor, ↓iop_andn, Nat.reduceEqDiff, reduceIte, Nat.reduceAdd, Nat.reduceMul, Nat.reduceSub, Nat.reduceLT, Nat.reduceLeDiff]
 refine hKK _ _ (Wk.refl _ _ _) ?_; clear hKK KK
 obtain ⟨d18, hi1, h0⟩ := bnd h0
 refine awp_cut (fun z => d18 = z) (fun d18 : Int => auth_Pow_S0 d18) ?_ ?_
 ·
  refine awp_block1 ?_
  refine awp_loopS (fun n (d19 : (Int × Int × Int)) => auth_Pow_L2 n d19 = some d18) (fun d19 : (Int × Int × Int) => auth_Pow_S1 d19) big (a0, a1, 1) (Wk.canonD [] [] [] rfl trivial rfl tmO0 (tmAllU 5 (tmAllU 1 (tmAllU 0 tmAll0 (Tm.v _)) (Tm.v _)) (Tm.v _))) hi1 ?_
  clear hi1
  rintro n d19 hl3
  rcases n with _ | n2
  ·
   (rw [auth_Pow_L2] at hl3; cases hl3)
  ·
   rw [auth_Pow_L2] at hl3
   unfold auth_Pow_S1
   refine awp_assoc ?_
   refine awp_nr [0,1,5] (fun _ => rfl) fun tz => ?_
   refine awp_regW fun KK hKK => ?_
   refine xw_id ?_
   try simp only [go_sem, ↓iop_and, ↓iop_or, ↓iop_xor, ↓iop_andn, Nat.reduceEqDiff, reduceIte, Nat.reduceAdd, Nat.reduceMul, Nat.reduceSub, Nat.reduceLT, Nat.reduceLeDiff]
   refine hKK _ _ (Wk.refl _ _ _) ?_; clear hKK KK
   refine awp_cond (b := (decide (0 < d19.2.1))) rfl (fun h4 => ?_) (fun h4 => ?_)
   ·
    have hl3 := cT hl3 h4
    refine awp_skip ?_
    refine awp_blockW ?_
    refine awp_assoc ?_
    refine awp_nr [0,1,5] (fun _ => rfl) fun tz => ?_
    refine awp_regW fun KK hKK => ?_
    refine xw_id ?_
    try simp only [go_sem, ↓iop_and, ↓iop_or, ↓iop_xor, ↓iop_andn, Nat.reduceEqDiff, reduceIte, Nat.reduceAdd, Nat.reduceMul, Nat.reduceSub, Nat.reduceLT, Nat.reduceLeDiff]
    refine hKK _ _ (Wk.refl _ _ _) ?_; clear hKK KK
    obtain ⟨d20, hi5, hl3⟩ := bnd hl3
    refine awp_cut (fun z => d20 = z) (fun d20 : Int => auth_Pow_S3 d19 d20) ?_ ?_
    ·
     refine awp_cond1 (b := ((band .u64 d19.2.1 1) == 1)) rfl (fun h6 => ?_) (fun h6 => ?_)
     ·
      have hi5 := cT hi5 h6
      refine awp_nr1 [0,1,5] (fun _ => rfl) fun tz => ?_
      refine awp_reg1 fun KK hKK => ?_
      refine xw_id ?_
      obtain ⟨x21, bx21, hi5⟩ := bnd hi5
      try simp only [go_sem, ↓iop_and, ↓iop_or, ↓iop_xor, ↓iop_andn, Nat.reduceEqDiff, reduceIte, Nat.reduceAdd, Nat.reduceMul, Nat.reduceSub, Nat.reduceLT, Nat.reduceLeDiff]
      refine xcall_p (auth_Mul_p d19.2.2 d19.1 bx21) ?_; try dsimp only
      try refine xw_id ?_
      try simp only [go_sem, ↓iop_and, ↓iop_or, ↓iop_xor, ↓iop_andn, Nat.reduceEqDiff, reduceIte, Nat.reduceAdd, Nat.reduceMul, Nat.reduceSub, Nat.reduceLT, Nat.reduceLeDiff]
      refine hKK _ ?_; clear hKK KK
      refine sq_n ?_
      obtain rfl := someInj hi5
      exact ⟨_, rfl, (Wk.canonD [] [] [] rfl trivial rfl tmO0 (tmAllU 5 (tmAllU 1 (tmAllU 0 tmAll0 (Tm.v _)) (Tm.v _)) (Tm.v _)))⟩
     ·
      have hi5 := cF hi5 h6
      refine awp_skip1 ?_
      refine sq_n ?_
      obtain rfl := someInj hi5
      exact ⟨_, rfl, (Wk.canonD [] [] [] rfl trivial rfl tmO0 (tmAllU 5 (tmAllU 1 (tmAllU 0 tmAll0 (Tm.v _)) (Tm.v _)) (Tm.v _)))⟩
    ·
     rintro _ rfl
     clear hi5
     unfold auth_Pow_S3
     refine awp_nr1 [0,1,5] (fun _ => rfl) fun tz => ?_
     refine awp_reg1 fun KK hKK => ?_
     refine xw_id ?_
     obtain ⟨x22, bx22, hl3⟩ := bnd hl3
     try simp only [go_sem, ↓iop_and, ↓iop_or, ↓iop_xor, ↓iop_andn, Nat.reduceEqDiff, reduceIte, Nat.reduceAdd, Nat.reduceMul, Nat.reduceSub, Nat.reduceLT, Nat.reduceLeDiff]
     refine xcall_p (auth_Mul_p d19.1 d19.1 bx22) ?_; try dsimp only
     try refine xw_id ?_
     try simp only [go_sem, ↓iop_and, ↓iop_or, ↓iop_xor, ↓iop_andn, Nat.reduceEqDiff, reduceIte, Nat.reduceAdd, Nat.reduceMul, Nat.reduceSub, Nat.reduceLT, Nat.reduceLeDiff]
     refine hKK _ ?_; clear hKK KK
     refine bq_n ?_
     refine seqW_i ?_
     refine awp_nr1 [0,1,5] (fun _ => rfl) fun tz => ?_
     refine awp_reg1 fun KK hKK => ?_
     refine xw_id ?_
     try simp only [go_sem, ↓iop_and, ↓iop_or, ↓iop_xor, ↓iop_andn, Nat.reduceEqDiff, reduceIte, Nat.reduceAdd, Nat.reduceMul, Nat.reduceSub, Nat.reduceLT, Nat.reduceLeDiff, Int.reduceToNat, Int.reduceBEq, Int.reduceBNe, Int.reduceLT, Int.reduceLE, Int.reduceAdd, Int.reduceSub, Int.reduceMul]
     refine hKK _ ?_; clear hKK KK
     refine lq_n ?_
     exact ⟨n2, (x22, (d19.2.1).fdiv (2 ^ (min 1 64)), d20), rfl, hl3, (Wk.canonD [] [] [] rfl trivial rfl tmO0 (tmAllU 5 (tmAllU 1 (tmAllU 0 tmAll0 (Tm.v _)) (Tm.v _)) (Tm.v _)))⟩
   ·
    have hl3 := cF hl3 h4
    refine awp_exit ?_
    refine lq_e ?_
    refine bq_e ?_
    refine sq_n ?_
    obtain rfl := someInj hl3
    exact ⟨_, rfl, (Wk.canonD [] [] [] rfl trivial rfl tmO0 (tmAllU 5 tmAll0 (Tm.v _)))⟩
 ·
  rintro _ rfl
  clear hi1
  unfold auth_Pow_S0
  refine awp_nr [5] (fun _ => rfl) fun tz => ?_
  refine awp_regW fun KK hKK => ?_
  refine xw_id ?_
  try simp only [go_sem, ↓iop_and, ↓iop_or, ↓iop_xor, ↓iop_andn, Nat.reduceEqDiff, reduceIte, Nat.reduceAdd, Nat.reduceMul, Nat.reduceSub, Nat.reduceLT, Nat.reduceLeDiff]
  refine hKK _ _ (Wk.refl _ _ _) ?_; clear hKK KK
  refine awp_ret1 ?_
  obtain rfl := someInj h0
  refine endW_i ?_
  refine end_ret0 rs47 (rfl) ?_
  try simp only [go_sem, ↓iop_and, ↓iop_or, ↓iop_xor, ↓iop_andn, Nat.reduceEqDiff, reduceIte, Nat.reduceAdd, Nat.reduceMul, Nat.reduceSub, Nat.reduceLT, Nat.reduceLeDiff, fz, nilS, packR, List.take_nil, List.take_length, List.length_map, List.length_append, cond_true, cond_false, Nat.ble_eq, ble_self]
  all_goals first | rfl | (simp only [go_sem, ↓iop_and, ↓iop_or, ↓iop_xor, ↓iop_andn, Nat.reduceEqDiff, reduceIte, Nat.reduceAdd, Nat.reduceMul, Nat.reduceSub, Nat.reduceLT, Nat.reduceLeDiff, fz, nilS, packR, List.take_nil, List.take_length, List.length_map, List.length_append, cond_true, cond_false, Nat.ble_eq, ble_self, List.map_append] <;> rfl)

end Go.AX.Z.TX

/-! (TXW auth New) -/

set_option linter.unusedSimpArgs false
set_option linter.unusedVariables false
set_option maxHeartbeats 4000000
set_option maxRecDepth 20000
namespace Go.AX.Z.TX
open Go.AX Go.Proofs
attribute [local irreducible] awp xw xop xcall gsp ob xd xdop xcallD seqQ loopQ blkQ endQ

def auth_New_S0 (a0 : A6vu) (a1 : A6vu) (a3 : Int) (a4 : Int) (x15 : (Int × Int)) : AS :=
 { objs := (upd (upd (upd (fun _ => .dead) 0 (.live (e_A6vu a0))) 1 (.live (e_A6vu a1))) 2 (.live (e_Auth Auth.z))), next := 3, tmps := (upd (upd (upd (upd (upd (upd (upd (fun _ => .unk) 3 (vq a3)) 4 (vq a4)) 5 (.ptr 0 0)) 6 (.ptr 1 0)) 10 (.ptr 2 0)) 12 (vq x15.1)) 13 (vi x15.2)) }

def auth_New_S1 (x15 : (Int × Int)) (x18 : Int) (a4 : Int) (a0 : A6vu) (a1 : A6vu) (a3 : Int) (x17 : Int) : AS :=
 { objs := (upd (upd (fun _ => .dead) 0 (.live (e_Auth Auth.z))) 1 (.live (e_Auth { Auth.z with Base := x15.1, Element := x18, Mask := a4, Own := a0, Peer := a1, Rand := a3, Scalar := x17 }))), next := 2, tmps := (upd (upd (fun _ => .unk) 10 (.ptr 0 0)) 14 (.ptr 1 0)) }

theorem auth_New_p (a0 : A6vu) (a1 : A6vu) (a2 : (List Int)) (a3 : Int) (a4 : Int) {r : (Auth × Int)} (h0 : auth_New a0 a1 a2 a3 a4 = some r) : SndP K 29 [(.agg (e_A6vu a0)), (.agg (e_A6vu a1)), (vs a2), (vq a3), (vq a4)] (.tup [(.agg (e_Auth r.1)), (vi r.2)]) := by
 refine SndP.of_walkW hC (Clean.tup (clean_cons (Clean.agg (e_Auth_clean _)) (clean_cons (Clean.v _) clean_nil))) (clean_cons (Clean.agg (e_A6vu_clean _)) (clean_cons (Clean.agg (e_A6vu_clean _)) (clean_cons (Clean.v _) (clean_cons (Clean.v _) (clean_cons (Clean.v _) clean_nil))))) (show K.P.funcs[29]? = some Try.f29 from Try.func29) rfl rfl (by decide +kernel) (Nat.le_of_ble_eq_true rfl) ?_
 unfold auth_New at h0
 refine awp_nr [0,1,2,3,4] (fun _ => rfl) fun tz => ?_
 refine awp_regW fun KK hKK => ?_
 refine xw_id ?_
 try simp only [go_sem, Nat.reduceEqDiff, reduceIte, Nat.reduceAdd, Nat.reduceMul, Nat.reduceSub, Nat.reduceLT, Nat.reduceLeDiff]
 refine hKK _ _ (Wk.refl _ _ _) ?_; clear hKK KK
 refine awp_nr [2,3,4,5,6,10] (fun _ => rfl) fun tz => ?_
 refine awp_regW fun KK hKK => ?_
 refine xw_id ?_
 obtain ⟨x15, bx15, h0⟩ := bnd h0
 try simp only [go_sem, Nat.reduceEqDiff, reduceIte, Nat.reduceAdd, Nat.reduceMul, Nat.reduceSub, Nat.reduceLT, Nat.reduceLeDiff]
 refine xcall_p (auth_Base_p a2 a0 a1 bx15) ?_; try dsimp only
 try refine xw_id ?_
 try simp only [go_sem, Nat.reduceEqDiff, reduceIte, Nat.reduceAdd, Nat.reduceMul, Nat.reduceSub, Nat.reduceLT, Nat.reduceLeDiff]
 refine hKK _ (auth_New_S0 a0 a1 a3 a4 x15) (Wk.canonD [] [] [some 0, some 1, some 2] rfl trivial rfl (tmOU 2 (tmOU 1 (tmOU 0 tmO0 rfl List.not_mem_nil (by simp only [upd_get, Nat.reduceEqDiff, reduceIte, if_true, if_false] <;> rfl) (TmL.clean (e_A6vu_clean _))) rfl List.not_mem_nil (by simp only [upd_get, Nat.reduceEqDiff, reduceIte, if_true, if_false] <;> rfl) (TmL.clean (e_A6vu_clean _))) rfl List.not_mem_nil (by simp only [upd_get, Nat.reduceEqDiff, reduceIte, if_true, if_false] <;> rfl) (TmL.clean (e_Auth_clean _))) (tmAllU 13 (tmAllU 12 (tmAllU 10 (tmAllU 6 (tmAllU 5 (tmAllU 4 (tmAllU 3 tmAll0 (Tm.v _)) (Tm.v _)) (Tm.ptr rfl)) (Tm.ptr rfl)) (Tm.ptr rfl)) (Tm.v _)) (Tm.v _))) ?_; clear hKK KK
 unfold auth_New_S0
 refine awp_assoc ?_
 refine awp_nr [3,4,5,6,10,12,13] (fun _ => rfl) fun tz => ?_
 refine awp_regW fun KK hKK => ?_
 refine xw_id ?_
 try simp only [go_sem, Nat.reduceEqDiff, reduceIte, Nat.reduceAdd, Nat.reduceMul, Nat.reduceSub, Nat.reduceLT, Nat.reduceLeDiff]
 refine hKK _ _ (Wk.refl _ _ _) ?_; clear hKK KK
 refine awp_cond (b := (x15.2 != 0)) rfl (fun h1 => ?_) (fun h1 => ?_)
 ·
  have h0 := cT h0 h1
  refine awp_assoc ?_
  refine awp_nr [10,13] (fun _ => rfl) fun tz => ?_
  refine awp_regW fun KK hKK => ?_
  refine xw_id ?_
  try simp only [go_sem, Nat.reduceEqDiff, reduceIte, Nat.reduceAdd, Nat.reduceMul, Nat.reduceSub, Nat.reduceLT, Nat.reduceLeDiff]
  refine hKK _ _ (Wk.refl _ _ _) ?_; clear hKK KK
  refine awp_ret ?_
  obtain rfl := someInj h0
  refine endW_i ?_
  refine end_ret0 rs29 (by simp only [go_sem, resV, resAll, resOf, packR, Nat.reduceEqDiff, reduceIte, Nat.reduceAdd, Nat.reduceMul, Nat.reduceSub, Nat.reduceLT, Nat.reduceLeDiff]; rfl) ?_
  try simp only [go_sem, Nat.reduceEqDiff, reduceIte, Nat.reduceAdd, Nat.reduceMul, Nat.reduceSub, Nat.reduceLT, Nat.reduceLeDiff, fz, nilS, packR, List.take_nil, List.take_length, List.length_map, List.length_append, cond_true, cond_false, Nat.ble_eq, ble_self]
  all_goals first | rfl | (simp only [go_sem, Nat.reduceEqDiff, reduceIte, Nat.reduceAdd, Nat.reduceMul, Nat.reduceSub, Nat.reduceLT, Nat.reduceLeDiff, fz, nilS, packR, List.take_nil, List.take_length, List.length_map, List.length_append, cond_true, cond_false, Nat.ble_eq, ble_self, List.map_append] <;> rfl)
 ·
  have h0 := cF h0 h1
  refine awp_skip ?_
  refine awp_nr [3,4,5,6,10,12] (fun _ => rfl) fun tz => ?_
  refine awp_regW fun KK hKK => ?_
  refine xw_id ?_
  try simp only [go_sem, Nat.reduceEqDiff, reduceIte, Nat.reduceAdd, Nat.reduceMul, Nat.reduceSub, Nat.reduceLT, Nat.reduceLeDiff]
  refine hKK _ _ (Wk.refl _ _ _) ?_; clear hKK KK
  refine awp_assoc ?_
  refine awp_nr [3,4,10,12,14] (fun _ => rfl) fun tz => ?_
  refine awp_regW fun KK hKK => ?_
  refine xw_id ?_
  obtain ⟨x16, bx16, h0⟩ := bnd h0
  try simp only [go_sem, Nat.reduceEqDiff, reduceIte, Nat.reduceAdd, Nat.reduceMul, Nat.reduceSub, Nat.reduceLT, Nat.reduceLeDiff]
  refine xcall_p (auth_secret_p { Auth.z with Base := x15.1, Mask := a4, Own := a0, Peer := a1, Rand := a3 } bx16) ?_; try dsimp only
  try refine xw_id ?_
  try simp only [go_sem, Nat.reduceEqDiff, reduceIte, Nat.reduceAdd, Nat.reduceMul, Nat.reduceSub, Nat.reduceLT, Nat.reduceLeDiff]
  refine hKK _ _ (Wk.refl _ _ _) ?_; clear hKK KK
  refine awp_cond (b := (!x16)) rfl (fun h2 => ?_) (fun h2 => ?_)
  ·
   have h0 := cT h0 h2
   refine awp_assoc ?_
   refine awp_nr [10] (fun _ => rfl) fun tz => ?_
   refine awp_regW fun KK hKK => ?_
   refine xw_id ?_
   try simp only [go_sem, Nat.reduceEqDiff, reduceIte, Nat.reduceAdd, Nat.reduceMul, Nat.reduceSub, Nat.reduceLT, Nat.reduceLeDiff]
   refine hKK _ _ (Wk.refl _ _ _) ?_; clear hKK KK
   refine awp_ret ?_
   obtain rfl := someInj h0
   refine endW_i ?_
   refine end_ret0 rs29 (by simp only [go_sem, resV, resAll, resOf, packR, Nat.reduceEqDiff, reduceIte, Nat.reduceAdd, Nat.reduceMul, Nat.reduceSub, Nat.reduceLT, Nat.reduceLeDiff]; rfl) ?_
   try simp only [go_sem, Nat.reduceEqDiff, reduceIte, Nat.reduceAdd, Nat.reduceMul, Nat.reduceSub, Nat.reduceLT, Nat.reduceLeDiff, fz, nilS, packR, List.take_nil, List.take_length, List.length_map, List.length_append, cond_true, cond_false, Nat.ble_eq, ble_self]
   all_goals first | rfl | (simp only [go_sem, Nat.reduceEqDiff, reduceIte, Nat.reduceAdd, Nat.reduceMul, Nat.reduceSub, Nat.reduceLT, Nat.reduceLeDiff, fz, nilS, packR, List.take_nil, List.take_length, List.length_map, List.length_append, cond_true, cond_false, Nat.ble_eq, ble_self, List.map_append] <;> rfl)
  ·
   have h0 := cF h0 h2
   refine awp_skip ?_
   refine awp_nr [3,4,10,12,14] (fun _ => rfl) fun tz => ?_
   refine awp_regW fun KK hKK => ?_
   refine xw_id ?_
   obtain ⟨x17, bx17, h0⟩ := bnd h0
   try simp only [go_sem, Nat.reduceEqDiff, reduceIte, Nat.reduceAdd, Nat.reduceMul, Nat.reduceSub, Nat.reduceLT, Nat.reduceLeDiff]
   refine xcall_p (auth_sum_p a3 a4 bx17) ?_; try dsimp only
   try refine xw_id ?_
   obtain ⟨x18, bx18, h0⟩ := bnd h0
   try simp only [go_sem, Nat.reduceEqDiff, reduceIte, Nat.reduceAdd, Nat.reduceMul, Nat.reduceSub, Nat.reduceLT, Nat.reduceLeDiff]
   refine xcall_p (auth_Pow_p x15.1 (IntKind.wrap .u64 (2305843009213693950 - a4)) bx18) ?_; try dsimp only
   try refine xw_id ?_
   try simp only [go_sem, Nat.reduceEqDiff, reduceIte, Nat.reduceAdd, Nat.reduceMul, Nat.reduceSub, Nat.reduceLT, Nat.reduceLeDiff]
   refine hKK _ (auth_New_S1 x15 x18 a4 a0 a1 a3 x17) (Wk.canonD [] [] [some 2, some 11] rfl trivial rfl (tmOU 1 (tmOU 0 tmO0 rfl List.not_mem_nil (by simp only [upd_get, Nat.reduceEqDiff, reduceIte, if_true, if_false] <;> rfl) (TmL.clean (e_Auth_clean _))) rfl List.not_mem_nil (by simp only [upd_get, Nat.reduceEqDiff, reduceIte, if_true, if_false] <;> rfl) (TmL.clean (e_Auth_clean _))) (tmAllU 14 (tmAllU 10 tmAll0 (Tm.ptr rfl)) (Tm.ptr rfl))) ?_; clear hKK KK
   unfold auth_New_S1
   refine awp_assoc ?_
   refine awp_nr [10,14] (fun _ => rfl) fun tz => ?_
   refine awp_regW fun KK hKK => ?_
   refine xw_id ?_
   refine xw_stop 4 (by (try simp only [go_sem]); rfl) (by (try simp only [go_sem]); rfl) (by rfl) fun K1 hK1 => ?_
   refine xw_id ?_
   try simp only [go_sem, Nat.reduceEqDiff, reduceIte, Nat.reduceAdd, Nat.reduceMul, Nat.reduceSub, Nat.reduceLT, Nat.reduceLeDiff]
   refine hK1 _ ?_; clear hK1 K1
   refine xw_cut 4 [(10, (.ptr 0 0)), (14, (.ptr 1 0)), (52, (vb ((decide (x17 < 2)) || (decide (x18 < 2)))))] (by (try simp only [go_sem]); rfl) (by (try simp only [go_sem]); rfl) (by rfl) (fun K1 hK1 => ?_) fun tz => ?_
   ·
    refine xw_id ?_
    rcases Bool.eq_false_or_eq_true (decide (x17 < 2)) with h3 | h3
    ·
     try simp only [go_sem, Nat.reduceEqDiff, reduceIte, Nat.reduceAdd, Nat.reduceMul, Nat.reduceSub, Nat.reduceLT, Nat.reduceLeDiff, h3]
     exact hK1 _ ⟨rfl, rfl, rfl, (by first | rfl | (rw [h3]; rfl) | (simp only [h3, Bool.true_and, Bool.false_and, Bool.true_or, Bool.false_or, cond_true, cond_false]; done)), trivial⟩
    ·
     try simp only [go_sem, Nat.reduceEqDiff, reduceIte, Nat.reduceAdd, Nat.reduceMul, Nat.reduceSub, Nat.reduceLT, Nat.reduceLeDiff, h3]
     exact hK1 _ ⟨rfl, rfl, rfl, (by first | rfl | (rw [h3]; rfl) | (simp only [h3, Bool.true_and, Bool.false_and, Bool.true_or, Bool.false_or, cond_true, cond_false]; done)), trivial⟩
   ·
    refine xw_id ?_
    try simp only [go_sem, Nat.reduceEqDiff, reduceIte, Nat.reduceAdd, Nat.reduceMul, Nat.reduceSub, Nat.reduceLT, Nat.reduceLeDiff]
    refine hKK _ _ (Wk.refl _ _ _) ?_; clear hKK KK
    refine awp_cond (b := ((decide (x17 < 2)) || (decide (x18 < 2)))) rfl (fun h4 => ?_) (fun h4 => ?_)
    ·
     have h0 := cT h0 h4
     refine awp_assoc ?_
     refine awp_nr [10] (fun _ => rfl) fun tz => ?_
     refine awp_regW fun KK hKK => ?_
     refine xw_id ?_
     try simp only [go_sem, Nat.reduceEqDiff, reduceIte, Nat.reduceAdd, Nat.reduceMul, Nat.reduceSub, Nat.reduceLT, Nat.reduceLeDiff]
     refine hKK _ _ (Wk.refl _ _ _) ?_; clear hKK KK
     refine awp_ret ?_
     obtain rfl := someInj h0
     refine endW_i ?_
     refine end_ret0 rs29 (by simp only [go_sem, resV, resAll, resOf, packR, Nat.reduceEqDiff, reduceIte, Nat.reduceAdd, Nat.reduceMul, Nat.reduceSub, Nat.reduceLT, Nat.reduceLeDiff]; rfl) ?_
     try simp only [go_sem, Nat.reduceEqDiff, reduceIte, Nat.reduceAdd, Nat.reduceMul, Nat.reduceSub, Nat.reduceLT, Nat.reduceLeDiff, fz, nilS, packR, List.take_nil, List.take_length, List.length_map, List.length_append, cond_true, cond_false, Nat.ble_eq, ble_self]
     all_goals first | rfl | (simp only [go_sem, Nat.reduceEqDiff, reduceIte, Nat.reduceAdd, Nat.reduceMul, Nat.reduceSub, Nat.reduceLT, Nat.reduceLeDiff, fz, nilS, packR, List.take_nil, List.take_length, List.length_map, List.length_append, cond_true, cond_false, Nat.ble_eq, ble_self, List.map_append] <;> rfl)
    ·
     have h0 := cF h0 h4
     refine awp_skip ?_
     refine awp_nr [10,14] (fun _ => rfl) fun tz => ?_
     refine awp_regW fun KK hKK => ?_
     refine xw_id ?_
     try simp only [go_sem, Nat.reduceEqDiff, reduceIte, Nat.reduceAdd, Nat.reduceMul, Nat.reduceSub, Nat.reduceLT, Nat.reduceLeDiff]
     refine hKK _ _ (Wk.refl _ _ _) ?_; clear hKK KK
     refine awp_ret1 ?_
     obtain rfl := someInj h0
     refine endW_i ?_
     refine end_ret0 rs29 (by simp only [go_sem, resV, resAll, resOf, packR, Nat.reduceEqDiff, reduceIte, Nat.reduceAdd, Nat.reduceMul, Nat.reduceSub, Nat.reduceLT, Nat.reduceLeDiff]; rfl) ?_
     try simp only [go_sem, Nat.reduceEqDiff, reduceIte, Nat.reduceAdd, Nat.reduceMul, Nat.reduceSub, Nat.reduceLT, Nat.reduceLeDiff, fz, nilS, packR, List.take_nil, List.take_length, List.length_map, List.length_append, cond_true, cond_false, Nat.ble_eq, ble_self]
     all_goals first | rfl | (simp only [go_sem, Nat.reduceEqDiff, reduceIte, Nat.reduceAdd, Nat.reduceMul, Nat.reduceSub, Nat.reduceLT, Nat.reduceLeDiff, fz, nilS, packR, List.take_nil, List.take_length, List.length_map, List.length_append, cond_true, cond_false, Nat.ble_eq, ble_self, List.map_append] <;> rfl)

end Go.AX.Z.TX

/-! (TXW auth put 2) -/

set_option linter.unusedSimpArgs false
set_option linter.unusedVariables false
set_option maxHeartbeats 4000000
set_option maxRecDepth 20000
namespace Go.AX.Z.TX
open Go.AX Go.Proofs
attribute [local irreducible] awp xw xop xcall gsp ob xd xdop xcallD seqQ loopQ blkQ endQ

def auth_put_2_S0 (d37 : (List Int)) : AS :=
 { objs := (upd (fun _ => .dead) 1 (.live (List.map vu d37))), next := 2, tmps := (upd (fun _ => .unk) 0 (.ref 1 0 ((d37).length) 1)) }

def auth_put_2_S1 (a0 : Int) (d38 : (List Int × Int)) : AS :=
 { objs := (upd (fun _ => .dead) 1 (.live (List.map vu d38.1))), next := 2, tmps := (upd (upd (upd (fun _ => .unk) 0 (.ref 1 0 ((d38.1).length) 1)) 1 (vq a0)) 6 (vi d38.2)) }

theorem auth_put_2_io (a0 : Int) (a1 : List Int) {r : (List Int)} (h0 : auth_put_2 a0 a1 = some r) : SndIO K 63 1 (fun q => [(.ref (q 0) 0 a1.length 1), (vq a0)]) [(fun q => (List.map vu a1))] (fun q => (.ref (q 1) 0 ((r).length) 1)) [none, (some (fun q => (List.map vu r)))] := by
 refine SndIO.of_walkW hC (RenML.cons (RenM.ref 0 0 _ _) (RenML.cons (RenM.const (Clean.v _)) RenML.nil)) (tpl_cons (RenML.const (vu_clean _)) tpl_nil) (otpl_none (otpl_some (RenML.const (vu_clean _)) otpl_nil)) (RenM.ref 1 0 _ _) rfl (Nat.le_of_ble_eq_true rfl) (show K.P.funcs[63]? = some Try.f63 from Try.func63) rfl rfl (by decide +kernel) (Nat.le_of_ble_eq_true rfl) ?_
 unfold auth_put_2 at h0
 refine awp_nr [0,1] (fun _ => rfl) fun tz => ?_
 refine awp_regW fun KK hKK => ?_
 refine xw_id ?_
 try simp only [go_sem, Nat.reduceEqDiff, reduceIte, Nat.reduceAdd, Nat.reduceMul, Nat.reduceSub, Nat.reduceLT, Nat.reduceLeDiff]
 refine hKK _ _ (Wk.refl _ _ _) ?_; clear hKK KK
 refine awp_assoc ?_
 refine awp_nr [0,1] (fun _ => rfl) fun tz => ?_
 refine awp_regW fun KK hKK => ?_
 refine xw_id ?_
 try simp only [go_sem, Nat.reduceEqDiff, reduceIte, Nat.reduceAdd, Nat.reduceMul, Nat.reduceSub, Nat.reduceLT, Nat.reduceLeDiff]
 refine hKK _ _ (Wk.refl _ _ _) ?_; clear hKK KK
 obtain ⟨d37, hi1, h0⟩ := bnd h0
 refine awp_cut (fun z => d37 = z) (fun d37 : (List Int) => auth_put_2_S0 d37) ?_ ?_
 ·
  refine awp_block1 ?_
  refine awp_loopS (fun n (d38 : (List Int × Int)) => auth_put_2_L2 a0 n d38 = some d37) (fun d38 : (List Int × Int) => auth_put_2_S1 a0 d38) big (a1, 0) (by refine Wk.canonD [] [0] [some 0, some 0] rfl ⟨rfl, trivial⟩ rfl (tmOU 1 tmO0 rfl List.not_mem_nil (by simp only [upd_get, Nat.reduceEqDiff, reduceIte, if_true, if_false] <;> rfl) (TmL.of_eq (by first | rfl | (simp only [List.flatMap_append, List.flatMap_cons, List.flatMap_nil, List.map_append, List.map_cons, List.map_nil, List.append_nil, List.nil_append]; done) | (simp only [List.flatMap_append, List.flatMap_cons, List.flatMap_nil, List.map_append, List.map_cons, List.map_nil, List.append_nil, List.nil_append]; rfl)) (vu_clean _))) (tmAllU 6 (tmAllU 1 (tmAllU 0 tmAll0 (Tm.refL rfl ?_)) (Tm.v _)) (Tm.v _)); all_goals (first | rfl | (simp only [List.length_take]; omega) | (simp only [List.length_append, List.length_cons, List.length_nil, List.length_modify, List.length_set, Nat.zero_add]; done) | (simp only [List.length_append, List.length_take, List.length_drop, List.length_cons, List.length_nil, List.length_modify, List.length_set, Nat.zero_add]; omega) | (simp only [List.length_append, List.length_take, List.length_drop, List.length_cons, List.length_nil, List.length_modify, List.length_set, Nat.zero_add]; done) | omega)) hi1 ?_
  clear hi1
  rintro n d38 hl3
  rcases n with _ | n2
  ·
   (rw [auth_put_2_L2] at hl3; cases hl3)
  ·
   rw [auth_put_2_L2] at hl3
   unfold auth_put_2_S1
   refine awp_nr [0,1,6] (fun _ => rfl) fun tz => ?_
   refine awp_regW fun KK hKK => ?_
   refine xw_id ?_
   try simp only [go_sem, Nat.reduceEqDiff, reduceIte, Nat.reduceAdd, Nat.reduceMul, Nat.reduceSub, Nat.reduceLT, Nat.reduceLeDiff]
   refine hKK _ _ (Wk.refl _ _ _) ?_; clear hKK KK
   refine awp_cond (b := (decide (d38.2 < 8))) rfl (fun h4 => ?_) (fun h4 => ?_)
   ·
    have hl3 := cT hl3 h4
    refine awp_skip ?_
    refine awp_blockW ?_
    refine awp_nr [0,1,6] (fun _ => rfl) fun tz => ?_
    refine awp_regW fun KK hKK => ?_
    refine xw_id ?_
    try simp only [go_sem, Nat.reduceEqDiff, reduceIte, Nat.reduceAdd, Nat.reduceMul, Nat.reduceSub, Nat.reduceLT, Nat.reduceLeDiff]
    refine hKK _ _ (Wk.refl _ _ _) ?_; clear hKK KK
    refine awp_nr1 [0,1,5,6] (fun _ => rfl) fun tz => ?_
    refine awp_reg1 fun KK hKK => ?_
    refine xw_id ?_
    obtain ⟨x39, bx39, hl3⟩ := bnd hl3
    have bx39 := chk_some bx39
    simp only [Bool.and_eq_true, decide_eq_true_eq] at bx39
    have gx39_0 := bx39
    obtain ⟨x40, bx40, hl3⟩ := bnd hl3
    have bx40 := chk_some bx40
    simp only [Bool.and_eq_true, decide_eq_true_eq] at bx40
    have gx40_0 := bx40
    try simp only [go_sem, Nat.reduceEqDiff, reduceIte, Nat.reduceAdd, Nat.reduceMul, Nat.reduceSub, Nat.reduceLT, Nat.reduceLeDiff, Int.reduceToNat, Int.reduceBEq, Int.reduceBNe, Int.reduceLT, Int.reduceLE, Int.reduceAdd, Int.reduceSub, Int.reduceMul, gx39_0, gx40_0]
    refine hKK _ ?_; clear hKK KK
    refine bq_n ?_
    refine seqW_i ?_
    refine awp_nr1 [0,1,6] (fun _ => rfl) fun tz => ?_
    refine awp_reg1 fun KK hKK => ?_
    refine xw_id ?_
    try simp only [go_sem, Nat.reduceEqDiff, reduceIte, Nat.reduceAdd, Nat.reduceMul, Nat.reduceSub, Nat.reduceLT, Nat.reduceLeDiff]
    refine hKK _ ?_; clear hKK KK
    refine lq_n ?_
    exact ⟨n2, ((d38.1 ++ [IntKind.wrap .u8 ((a0).fdiv (2 ^ (min ((IntKind.wrap .i64 (8 * d38.2))).toNat 64)))]), IntKind.wrap .i64 (d38.2 + 1)), rfl, hl3, (by refine Wk.canonD [] [0] [some 0, some 12] rfl ⟨rfl, trivial⟩ rfl (tmOU 1 tmO0 rfl List.not_mem_nil (by simp only [upd_get, Nat.reduceEqDiff, reduceIte, if_true, if_false] <;> rfl) (TmL.of_eq (by first | rfl | (simp only [List.flatMap_append, List.flatMap_cons, List.flatMap_nil, List.map_append, List.map_cons, List.map_nil, List.append_nil, List.nil_append]; done) | (simp only [List.flatMap_append, List.flatMap_cons, List.flatMap_nil, List.map_append, List.map_cons, List.map_nil, List.append_nil, List.nil_append]; rfl)) (vu_clean _))) (tmAllU 6 (tmAllU 1 (tmAllU 0 tmAll0 (Tm.refL rfl ?_)) (Tm.v _)) (Tm.v _)); all_goals (first | rfl | (simp only [List.length_take]; omega) | (simp only [List.length_append, List.length_cons, List.length_nil, List.length_modify, List.length_set, Nat.zero_add]; done) | (simp only [List.length_append, List.length_take, List.length_drop, List.length_cons, List.length_nil, List.length_modify, List.length_set, Nat.zero_add]; omega) | (simp only [List.length_append, List.length_take, List.length_drop, List.length_cons, List.length_nil, List.length_modify, List.length_set, Nat.zero_add]; done) | omega))⟩
   ·
    have hl3 := cF hl3 h4
    refine awp_exit ?_
    refine lq_e ?_
    refine bq_e ?_
    refine sq_n ?_
    obtain rfl := someInj hl3
    exact ⟨_, rfl, (by refine Wk.canonD [] [0] [some 0, some 1] rfl ⟨rfl, trivial⟩ rfl (tmOU 1 tmO0 rfl List.not_mem_nil (by simp only [upd_get, Nat.reduceEqDiff, reduceIte, if_true, if_false] <;> rfl) (TmL.of_eq (by first | rfl | (simp only [List.flatMap_append, List.flatMap_cons, List.flatMap_nil, List.map_append, List.map_cons, List.map_nil, List.append_nil, List.nil_append]; done) | (simp only [List.flatMap_append, List.flatMap_cons, List.flatMap_nil, List.map_append, List.map_cons, List.map_nil, List.append_nil, List.nil_append]; rfl)) (vu_clean _))) (tmAllU 0 tmAll0 (Tm.refL rfl ?_)); all_goals (first | rfl | (simp only [List.length_take]; omega) | (simp only [List.length_append, List.length_cons, List.length_nil, List.length_modify, List.length_set, Nat.zero_add]; done) | (simp only [List.length_append, List.length_take, List.length_drop, List.length_cons, List.length_nil, List.length_modify, List.length_set, Nat.zero_add]; omega) | (simp only [List.length_append, List.length_take, List.length_drop, List.length_cons, List.length_nil, List.length_modify, List.length_set, Nat.zero_add]; done) | omega))⟩
 ·
  rintro _ rfl
  clear hi1
  unfold auth_put_2_S0
  refine awp_nr [0] (fun _ => rfl) fun tz => ?_
  refine awp_regW fun KK hKK => ?_
  refine xw_id ?_
  try simp only [go_sem, Nat.reduceEqDiff, reduceIte, Nat.reduceAdd, Nat.reduceMul, Nat.reduceSub, Nat.reduceLT, Nat.reduceLeDiff]
  refine hKK _ _ (Wk.refl _ _ _) ?_; clear hKK KK
  refine awp_ret1 ?_
  obtain rfl := someInj h0
  refine endW_i ?_
  refine end_ret0 rs63 (rfl) ?_
  refine ResIO.mk [] [some 0, some 1] rfl (resED (resEU List.not_mem_nil (by simp only [upd_get, Nat.reduceEqDiff, reduceIte, if_true, if_false] <;> rfl) (TmL.of_eq (by first | rfl | (simp only [List.flatMap_append, List.flatMap_cons, List.flatMap_nil, List.map_append, List.map_cons, List.map_nil, List.append_nil, List.nil_append]; done) | (simp only [List.flatMap_append, List.flatMap_cons, List.flatMap_nil, List.map_append, List.map_cons, List.map_nil, List.append_nil, List.nil_append]; rfl)) (vu_clean _)) resE0)) (Tm.refL rfl ?_)
  all_goals (first | rfl | (simp only [List.length_take]; omega) | (simp only [List.length_append, List.length_cons, List.length_nil, List.length_modify, List.length_set, Nat.zero_add]; done) | (simp only [List.length_append, List.length_take, List.length_drop, List.length_cons, List.length_nil, List.length_modify, List.length_set, Nat.zero_add]; omega) | (simp only [List.length_append, List.length_take, List.length_drop, List.length_cons, List.length_nil, List.length_modify, List.length_set, Nat.zero_add]; done) | omega)

end Go.AX.Z.TX

/-! (TXW auth numbers) -/

set_option linter.unusedSimpArgs false
set_option linter.unusedVariables false
set_option maxHeartbeats 4000000
set_option maxRecDepth 20000
namespace Go.AX.Z.TX
open Go.AX Go.Proofs
attribute [local irreducible] awp xw xop xcall gsp ob xd xdop xcallD seqQ loopQ blkQ endQ

def auth_numbers_S0 (d35 : (List Int)) : AS :=
 { objs := (upd (fun _ => .dead) 0 (.live (List.map vu d35))), next := 1, tmps := (upd (fun _ => .unk) 2 (.ref 0 0 ((d35).length) 1)) }

def auth_numbers_S1 (a0 : (List Int)) (d36 : (List Int × Int)) : AS :=
 { objs := (upd (fun _ => .dead) 0 (.live (List.map vu d36.1))), next := 1, tmps := (upd (upd (upd (upd (fun _ => .unk) 2 (.ref 0 0 ((d36.1).length) 1)) 5 (.imm (List.map vq a0) a0.length)) 6 (vi (a0.length : Int))) 7 (vi d36.2)) }

theorem auth_numbers_r (a0 : (List Int)) {r : (List Int)} (h0 : auth_numbers a0 = some r) : SndR K 37 [(S_vq a0)] (fun q => (.ref (q 0) 0 r.length 1)) [(List.map vu r)] := by
 refine SndR.of_walkW hC (show K.P.funcs[37]? = some Try.f37 from Try.func37) rfl rfl (by decide +kernel) (Nat.le_of_ble_eq_true rfl) ?_
 unfold auth_numbers at h0
 refine awp_nr [0] (fun _ => rfl) fun tz => ?_
 refine awp_regW fun KK hKK => ?_
 refine xw_id ?_
 try simp only [go_sem, Nat.reduceEqDiff, reduceIte, Nat.reduceAdd, Nat.reduceMul, Nat.reduceSub, Nat.reduceLT, Nat.reduceLeDiff]
 refine hKK _ _ (Wk.refl _ _ _) ?_; clear hKK KK
 refine awp_assoc ?_
 refine awp_nr [0,2] (fun _ => rfl) fun tz => ?_
 refine awp_regW fun KK hKK => ?_
 refine xw_id ?_
 try simp only [go_sem, Nat.reduceEqDiff, reduceIte, Nat.reduceAdd, Nat.reduceMul, Nat.reduceSub, Nat.reduceLT, Nat.reduceLeDiff, Int.reduceToNat, Int.reduceBEq, Int.reduceBNe, Int.reduceLT, Int.reduceLE, Int.reduceAdd, Int.reduceSub, Int.reduceMul]
 refine hKK _ _ (Wk.refl _ _ _) ?_; clear hKK KK
 obtain ⟨d35, hi1, h0⟩ := bnd h0
 refine awp_cut (fun z => d35 = z) (fun d35 : (List Int) => auth_numbers_S0 d35) ?_ ?_
 ·
  refine awp_block1 ?_
  refine awp_loopS (fun n (d36 : (List Int × Int)) => auth_numbers_L2 a0 n d36 = some d35) (fun d36 : (List Int × Int) => auth_numbers_S1 a0 d36) big ([], 0) (Wk.canonD [] [] [none] rfl trivial rfl (tmON 0 tmO0 rfl) (tmAllU 7 (tmAllU 6 (tmAllU 5 (tmAllU 2 tmAll0 (Tm.thaw _ _ _)) (Tm.clean (Clean.imm (vq_clean _)))) (Tm.v _)) (Tm.v _))) hi1 ?_
  clear hi1
  rintro n d36 hl3
  rcases n with _ | n2
  ·
   (rw [auth_numbers_L2] at hl3; cases hl3)
  ·
   rw [auth_numbers_L2] at hl3
   unfold auth_numbers_S1
   refine awp_nr [2,5,6,7] (fun _ => rfl) fun tz => ?_
   refine awp_regW fun KK hKK => ?_
   refine xw_id ?_
   try simp only [go_sem, Nat.reduceEqDiff, reduceIte, Nat.reduceAdd, Nat.reduceMul, Nat.reduceSub, Nat.reduceLT, Nat.reduceLeDiff]
   refine hKK _ _ (Wk.refl _ _ _) ?_; clear hKK KK
   refine awp_cond (b := (decide (d36.2 < (a0.length : Int)))) rfl (fun h4 => ?_) (fun h4 => ?_)
   ·
    have hl3 := cT hl3 h4
    refine awp_skip ?_
    refine awp_blockW ?_
    refine awp_nr [2,5,6,7] (fun _ => rfl) fun tz => ?_
    refine awp_regW fun KK hKK => ?_
    refine xw_id ?_
    obtain ⟨x37, bx37, hl3⟩ := bnd hl3
    obtain ⟨fx37_0, fx37_1, fx37_2, fx37_3⟩ := idx_some bx37
    try simp only [go_sem, Nat.reduceEqDiff, reduceIte, Nat.reduceAdd, Nat.reduceMul, Nat.reduceSub, Nat.reduceLT, Nat.reduceLeDiff, fx37_0, fx37_1, fx37_2]
    refine hKK _ _ (Wk.refl _ _ _) ?_; clear hKK KK
    refine awp_nr1 [2,4,5,6,7] (fun _ => rfl) fun tz => ?_
    refine awp_reg1 fun KK hKK => ?_
    refine xw_id ?_
    obtain ⟨x38, bx38, hl3⟩ := bnd hl3
    try simp only [go_sem, Nat.reduceEqDiff, reduceIte, Nat.reduceAdd, Nat.reduceMul, Nat.reduceSub, Nat.reduceLT, Nat.reduceLeDiff, fx37_0, fx37_1, fx37_2]
    refine xcall_O [0] (auth_put_2_io x37 d36.1 bx38) (by decide) (by decide) ⟨(by first | rfl | (simp only [go_sem, Nat.reduceEqDiff, reduceIte, Nat.reduceAdd, Nat.reduceMul, Nat.reduceSub, Nat.reduceLT, Nat.reduceLeDiff, fx37_0, fx37_1, fx37_2]; done) | (simp only [go_sem, Nat.reduceEqDiff, reduceIte, Nat.reduceAdd, Nat.reduceMul, Nat.reduceSub, Nat.reduceLT, Nat.reduceLeDiff, fx37_0, fx37_1, fx37_2]; rfl)), trivial⟩ (by first | rfl | (simp only [go_sem, Nat.reduceEqDiff, reduceIte, Nat.reduceAdd, Nat.reduceMul, Nat.reduceSub, Nat.reduceLT, Nat.reduceLeDiff, fx37_0, fx37_1, fx37_2]; done) | (simp only [go_sem, Nat.reduceEqDiff, reduceIte, Nat.reduceAdd, Nat.reduceMul, Nat.reduceSub, Nat.reduceLT, Nat.reduceLeDiff, fx37_0, fx37_1, fx37_2]; rfl)) ?_; try dsimp only
    try refine xw_id ?_
    try simp only [go_sem, Nat.reduceEqDiff, reduceIte, Nat.reduceAdd, Nat.reduceMul, Nat.reduceSub, Nat.reduceLT, Nat.reduceLeDiff, fx37_0, fx37_1, fx37_2, List.length_cons, List.length_nil]
    refine hKK _ ?_; clear hKK KK
    refine bq_n ?_
    refine seqW_i ?_
    refine awp_nr1 [2,5,6,7] (fun _ => rfl) fun tz => ?_
    refine awp_reg1 fun KK hKK => ?_
    refine xw_id ?_
    try simp only [go_sem, Nat.reduceEqDiff, reduceIte, Nat.reduceAdd, Nat.reduceMul, Nat.reduceSub, Nat.reduceLT, Nat.reduceLeDiff, fx37_0, fx37_1, fx37_2]
    refine hKK _ ?_; clear hKK KK
    refine lq_n ?_
    exact ⟨n2, (x38, IntKind.wrap .i64 (d36.2 + 1)), rfl, hl3, (by refine Wk.canonD [] [] [some 9] rfl trivial rfl (tmOU 0 tmO0 rfl List.not_mem_nil (by simp only [upd_get, Nat.reduceEqDiff, reduceIte, if_true, if_false] <;> rfl) (TmL.of_eq (by first | rfl | (simp only [List.flatMap_append, List.flatMap_cons, List.flatMap_nil, List.map_append, List.map_cons, List.map_nil, List.append_nil, List.nil_append]; done) | (simp only [List.flatMap_append, List.flatMap_cons, List.flatMap_nil, List.map_append, List.map_cons, List.map_nil, List.append_nil, List.nil_append]; rfl)) (vu_clean _))) (tmAllU 7 (tmAllU 6 (tmAllU 5 (tmAllU 2 tmAll0 (Tm.refL rfl ?_)) (Tm.clean (Clean.imm (vq_clean _)))) (Tm.v _)) (Tm.v _)); all_goals (first | rfl | (simp only [List.length_take]; omega) | (simp only [List.length_append, List.length_cons, List.length_nil, List.length_modify, List.length_set, Nat.zero_add]; done) | (simp only [List.length_append, List.length_take, List.length_drop, List.length_cons, List.length_nil, List.length_modify, List.length_set, Nat.zero_add]; omega) | (simp only [List.length_append, List.length_take, List.length_drop, List.length_cons, List.length_nil, List.length_modify, List.length_set, Nat.zero_add]; done) | omega))⟩
   ·
    have hl3 := cF hl3 h4
    refine awp_exit ?_
    refine lq_e ?_
    refine bq_e ?_
    refine sq_n ?_
    obtain rfl := someInj hl3
    exact ⟨_, rfl, (by refine Wk.canonD [] [] [some 0] rfl trivial rfl (tmOU 0 tmO0 rfl List.not_mem_nil (by simp only [upd_get, Nat.reduceEqDiff, reduceIte, if_true, if_false] <;> rfl) (TmL.of_eq (by first | rfl | (simp only [List.flatMap_append, List.flatMap_cons, List.flatMap_nil, List.map_append, List.map_cons, List.map_nil, List.append_nil, List.nil_append]; done) | (simp only [List.flatMap_append, List.flatMap_cons, List.flatMap_nil, List.map_append, List.map_cons, List.map_nil, List.append_nil, List.nil_append]; rfl)) (vu_clean _))) (tmAllU 2 tmAll0 (Tm.refL rfl ?_)); all_goals (first | rfl | (simp only [List.length_take]; omega) | (simp only [List.length_append, List.length_cons, List.length_nil, List.length_modify, List.length_set, Nat.zero_add]; done) | (simp only [List.length_append, List.length_take, List.length_drop, List.length_cons, List.length_nil, List.length_modify, List.length_set, Nat.zero_add]; omega) | (simp only [List.length_append, List.length_take, List.length_drop, List.length_cons, List.length_nil, List.length_modify, List.length_set, Nat.zero_add]; done) | omega))⟩
 ·
  rintro _ rfl
  clear hi1
  unfold auth_numbers_S0
  refine awp_nr [2] (fun _ => rfl) fun tz => ?_
  refine awp_regW fun KK hKK => ?_
  refine xw_id ?_
  try simp only [go_sem, Nat.reduceEqDiff, reduceIte, Nat.reduceAdd, Nat.reduceMul, Nat.reduceSub, Nat.reduceLT, Nat.reduceLeDiff]
  refine hKK _ _ (Wk.refl _ _ _) ?_; clear hKK KK
  refine awp_ret1 ?_
  obtain rfl := someInj h0
  refine endW_i ?_
  refine end_ret0 rs37 (rfl) ?_
  refine Res.mk [] [some 0] rfl (resOU List.not_mem_nil (by simp only [upd_get, Nat.reduceEqDiff, reduceIte, if_true, if_false] <;> rfl) (TmL.of_eq (by first | rfl | (simp only [List.flatMap_append, List.flatMap_cons, List.flatMap_nil, List.map_append, List.map_cons, List.map_nil, List.append_nil, List.nil_append]; done) | (simp only [List.flatMap_append, List.flatMap_cons, List.flatMap_nil, List.map_append, List.map_cons, List.map_nil, List.append_nil, List.nil_append]; rfl)) (vu_clean _)) resO0) (Tm.refL rfl ?_)
  all_goals (first | rfl | (simp only [List.length_take]; omega) | (simp only [List.length_append, List.length_cons, List.length_nil, List.length_modify, List.length_set, Nat.zero_add]; done) | (simp only [List.length_append, List.length_take, List.length_drop, List.length_cons, List.length_nil, List.length_modify, List.length_set, Nat.zero_add]; omega) | (simp only [List.length_append, List.length_take, List.length_drop, List.length_cons, List.length_nil, List.length_modify, List.length_set, Nat.zero_add]; done) | omega)

theorem auth_numbers_m (a0 : (List Int)) {r : (List Int)} (h0 : auth_numbers a0 = some r) : SndM K 37 [(S_vq a0)] (fun q => (.ref (q 0) 0 r.length 1)) [(List.map vu r)] :=
 fun hs => Snd.of_newM (RenM.ref 0 0 _ _) (rows_all_cons (vu_clean _) rows_all_nil) (clean_cons (S_vq_clean _) clean_nil) (auth_numbers_r a0 h0) hs

theorem auth_numbers_e (a0 : (List Int)) {r : (List Int)} (h0 : auth_numbers a0 = some r) (fr : Nat) (hs : HS) : SndE K 37 [(S_vq a0)] hs fr ⟨(fun q : Nat → Nat => (.ref (q 0) 0 r.length 1)) fun _ => fr, .new (List.map vu r)⟩ :=
 SndE.of_res (RenM.ref 0 0 _ _) (vu_clean _) (clean_cons (S_vq_clean _) clean_nil) (fun a b h => by simp only [h]) (auth_numbers_r a0 h0) hs fr

theorem auth_numbers_p (a0 : (List Int)) {r : (List Int)} (h0 : auth_numbers a0 = some r) : SndP K 37 [(S_vq a0)] (S_vu r) :=
 SndM.pure (auth_numbers_m a0 h0) (S_vu_clean _) (clean_cons (S_vq_clean _) clean_nil) (by simp only [go_sem, newL_n, newL_c, upd_get, fz, nilS, cond_true, cond_false, List.drop_zero, List.take_length, List.length_map, ble_self, Nat.reduceEqDiff, reduceIte, Nat.reduceAdd, Nat.reduceMul, Nat.reduceSub, Nat.reduceLT, Nat.reduceLeDiff] <;> rfl)

end Go.AX.Z.TX
