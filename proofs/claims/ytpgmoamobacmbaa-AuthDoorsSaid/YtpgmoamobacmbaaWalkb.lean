/- A part of the proof: walks through the functions that the statement reaches. -/
import Derived.Test.YtpgmoamobacmbaaWalka
set_option linter.unusedVariables false
set_option linter.unusedSimpArgs false

/-! (TWW hotspotref23 low) -/

set_option linter.unusedSimpArgs false
set_option linter.unusedVariables false
set_option maxHeartbeats 4000000
set_option maxRecDepth 20000
namespace Go.AX.Z.TW
open Go.AX Go.Proofs
attribute [local irreducible] awp xw xop xcall gsp ob xd xdop xcallD seqQ loopQ blkQ endQ

def hotspotref23_low_S0 (d36 : (List Int)) : AS :=
 { objs := (upd (fun _ => .dead) 0 (.live (List.map vu d36))), next := 1, tmps := (upd (fun _ => .unk) 5 (.ref 0 0 ((d36).length) 1)) }

def hotspotref23_low_S1 (a1 : Int) (d37 : (Int × List Int × Int)) : AS :=
 { objs := (upd (fun _ => .dead) 0 (.live (List.map vu d37.2.1))), next := 1, tmps := (upd (upd (upd (upd (fun _ => .unk) 0 (vi d37.1)) 1 (vi a1)) 5 (.ref 0 0 ((d37.2.1).length) 1)) 6 (vi d37.2.2)) }

theorem hotspotref23_low_r (a0 : Int) (a1 : Int) {r : (List Int)} (h0 : hotspotref23_low a0 a1 = some r) : SndR K 77 [(vi a0), (vi a1)] (fun q => (.ref (q 0) 0 r.length 1)) [(List.map vu r)] := by
 refine SndR.of_walkW hC (show K.P.funcs[77]? = some Try.f77 from Try.func77) rfl rfl (by decide +kernel) (Nat.le_of_ble_eq_true rfl) ?_
 unfold hotspotref23_low at h0
 refine awp_nr [0,1] (fun _ => rfl) fun tz => ?_
 refine awp_regW fun KK hKK => ?_
 refine xw_id ?_
 try simp only [go_sem, Nat.reduceEqDiff, reduceIte, Nat.reduceAdd, Nat.reduceMul, Nat.reduceSub, Nat.reduceLT, Nat.reduceLeDiff]
 refine hKK _ _ (Wk.refl _ _ _) ?_; clear hKK KK
 refine awp_nr [0,1] (fun _ => rfl) fun tz => ?_
 refine awp_regW fun KK hKK => ?_
 refine xw_id ?_
 try simp only [go_sem, Nat.reduceEqDiff, reduceIte, Nat.reduceAdd, Nat.reduceMul, Nat.reduceSub, Nat.reduceLT, Nat.reduceLeDiff]
 refine hKK _ _ (Wk.refl _ _ _) ?_; clear hKK KK
 refine awp_assoc ?_
 refine awp_nr [0,1,5] (fun _ => rfl) fun tz => ?_
 refine awp_regW fun KK hKK => ?_
 refine xw_id ?_
 try simp only [go_sem, Nat.reduceEqDiff, reduceIte, Nat.reduceAdd, Nat.reduceMul, Nat.reduceSub, Nat.reduceLT, Nat.reduceLeDiff]
 refine hKK _ _ (Wk.refl _ _ _) ?_; clear hKK KK
 obtain ⟨d36, hi1, h0⟩ := bnd h0
 refine awp_cut (fun z => d36 = z) (fun d36 : (List Int) => hotspotref23_low_S0 d36) ?_ ?_
 ·
  refine awp_block1 ?_
  refine awp_loopS (fun n (d37 : (Int × List Int × Int)) => hotspotref23_low_L2 a1 n d37 = some d36) (fun d37 : (Int × List Int × Int) => hotspotref23_low_S1 a1 d37) big (a0, [], 0) (Wk.canonD [] [] [none] rfl trivial rfl (tmON 0 tmO0 rfl) (tmAllU 6 (tmAllU 5 (tmAllU 1 (tmAllU 0 tmAll0 (Tm.v _)) (Tm.v _)) (Tm.thaw _ _ _)) (Tm.v _))) hi1 ?_
  clear hi1
  rintro n d37 hl3
  rcases n with _ | n2
  ·
   (rw [hotspotref23_low_L2] at hl3; cases hl3)
  ·
   rw [hotspotref23_low_L2] at hl3
   unfold hotspotref23_low_S1
   refine awp_assoc ?_
   refine awp_nr [0,1,5,6] (fun _ => rfl) fun tz => ?_
   refine awp_regW fun KK hKK => ?_
   refine xw_id ?_
   try simp only [go_sem, Nat.reduceEqDiff, reduceIte, Nat.reduceAdd, Nat.reduceMul, Nat.reduceSub, Nat.reduceLT, Nat.reduceLeDiff]
   refine hKK _ _ (Wk.refl _ _ _) ?_; clear hKK KK
   refine awp_cond (b := (decide (d37.2.2 < a1))) rfl (fun h4 => ?_) (fun h4 => ?_)
   ·
    have hl3 := cT hl3 h4
    refine awp_skip ?_
    refine awp_blockW ?_
    refine awp_nr [0,1,5,6] (fun _ => rfl) fun tz => ?_
    refine awp_regW fun KK hKK => ?_
    refine xw_id ?_
    obtain ⟨x38, bx38, hl3⟩ := bnd hl3
    have bx38 := chk_some bx38
    simp only [Bool.and_eq_true, decide_eq_true_eq] at bx38
    have gx38_0 := bx38
    try simp only [go_sem, Nat.reduceEqDiff, reduceIte, Nat.reduceAdd, Nat.reduceMul, Nat.reduceSub, Nat.reduceLT, Nat.reduceLeDiff, Int.reduceToNat, Int.reduceBEq, Int.reduceBNe, Int.reduceLT, Int.reduceLE, Int.reduceAdd, Int.reduceSub, Int.reduceMul, gx38_0]
    refine hKK _ _ (Wk.refl _ _ _) ?_; clear hKK KK
    refine awp_nr1 [0,1,5,6] (fun _ => rfl) fun tz => ?_
    refine awp_reg1 fun KK hKK => ?_
    refine xw_id ?_
    try simp only [go_sem, Nat.reduceEqDiff, reduceIte, Nat.reduceAdd, Nat.reduceMul, Nat.reduceSub, Nat.reduceLT, Nat.reduceLeDiff, Int.reduceToNat, Int.reduceBEq, Int.reduceBNe, Int.reduceLT, Int.reduceLE, Int.reduceAdd, Int.reduceSub, Int.reduceMul]
    refine hKK _ ?_; clear hKK KK
    refine bq_n ?_
    refine seqW_i ?_
    refine awp_nr1 [0,1,5,6] (fun _ => rfl) fun tz => ?_
    refine awp_reg1 fun KK hKK => ?_
    refine xw_id ?_
    try simp only [go_sem, Nat.reduceEqDiff, reduceIte, Nat.reduceAdd, Nat.reduceMul, Nat.reduceSub, Nat.reduceLT, Nat.reduceLeDiff]
    refine hKK _ ?_; clear hKK KK
    refine lq_n ?_
    exact ⟨n2, ((d37.1).fdiv (2 ^ (min 8 64)), (d37.2.1 ++ [IntKind.wrap .u8 d37.1]), IntKind.wrap .i64 (d37.2.2 + 1)), rfl, hl3, (by refine Wk.canonD [] [] [some 8] rfl trivial rfl (tmOU 0 tmO0 rfl List.not_mem_nil (by simp only [upd_get, ↓iop_and, Nat.reduceEqDiff, reduceIte, if_true, if_false] <;> rfl) (TmL.of_eq (by first | rfl | (simp only [List.flatMap_append, List.flatMap_cons, List.flatMap_nil, List.map_append, List.map_cons, List.map_nil, List.append_nil, List.nil_append]; done) | (simp only [List.flatMap_append, List.flatMap_cons, List.flatMap_nil, List.map_append, List.map_cons, List.map_nil, List.append_nil, List.nil_append]; rfl)) (vu_clean _))) (tmAllU 6 (tmAllU 5 (tmAllU 1 (tmAllU 0 tmAll0 (Tm.v _)) (Tm.v _)) (Tm.refL rfl ?_)) (Tm.v _)); all_goals (first | rfl | (simp only [List.length_take]; omega) | (simp only [List.length_append, List.length_cons, List.length_nil, List.length_modify, List.length_set, Nat.zero_add]; done) | (simp only [List.length_append, List.length_take, List.length_drop, List.length_cons, List.length_nil, List.length_modify, List.length_set, Nat.zero_add]; omega) | (simp only [List.length_append, List.length_take, List.length_drop, List.length_cons, List.length_nil, List.length_modify, List.length_set, Nat.zero_add]; done) | omega))⟩
   ·
    have hl3 := cF hl3 h4
    refine awp_exit ?_
    refine lq_e ?_
    refine bq_e ?_
    refine sq_n ?_
    obtain rfl := someInj hl3
    exact ⟨_, rfl, (by refine Wk.canonD [] [] [some 0] rfl trivial rfl (tmOU 0 tmO0 rfl List.not_mem_nil (by simp only [upd_get, ↓iop_and, Nat.reduceEqDiff, reduceIte, if_true, if_false] <;> rfl) (TmL.of_eq (by first | rfl | (simp only [List.flatMap_append, List.flatMap_cons, List.flatMap_nil, List.map_append, List.map_cons, List.map_nil, List.append_nil, List.nil_append]; done) | (simp only [List.flatMap_append, List.flatMap_cons, List.flatMap_nil, List.map_append, List.map_cons, List.map_nil, List.append_nil, List.nil_append]; rfl)) (vu_clean _))) (tmAllU 5 tmAll0 (Tm.refL rfl ?_)); all_goals (first | rfl | (simp only [List.length_take]; omega) | (simp only [List.length_append, List.length_cons, List.length_nil, List.length_modify, List.length_set, Nat.zero_add]; done) | (simp only [List.length_append, List.length_take, List.length_drop, List.length_cons, List.length_nil, List.length_modify, List.length_set, Nat.zero_add]; omega) | (simp only [List.length_append, List.length_take, List.length_drop, List.length_cons, List.length_nil, List.length_modify, List.length_set, Nat.zero_add]; done) | omega))⟩
 ·
  rintro _ rfl
  clear hi1
  unfold hotspotref23_low_S0
  refine awp_nr [5] (fun _ => rfl) fun tz => ?_
  refine awp_regW fun KK hKK => ?_
  refine xw_id ?_
  try simp only [go_sem, Nat.reduceEqDiff, reduceIte, Nat.reduceAdd, Nat.reduceMul, Nat.reduceSub, Nat.reduceLT, Nat.reduceLeDiff]
  refine hKK _ _ (Wk.refl _ _ _) ?_; clear hKK KK
  refine awp_ret1 ?_
  obtain rfl := someInj h0
  refine endW_i ?_
  refine end_ret0 rs77 (rfl) ?_
  refine Res.mk [] [some 0] rfl (resOU List.not_mem_nil (by simp only [upd_get, ↓iop_and, Nat.reduceEqDiff, reduceIte, if_true, if_false] <;> rfl) (TmL.of_eq (by first | rfl | (simp only [List.flatMap_append, List.flatMap_cons, List.flatMap_nil, List.map_append, List.map_cons, List.map_nil, List.append_nil, List.nil_append]; done) | (simp only [List.flatMap_append, List.flatMap_cons, List.flatMap_nil, List.map_append, List.map_cons, List.map_nil, List.append_nil, List.nil_append]; rfl)) (vu_clean _)) resO0) (Tm.refL rfl ?_)
  all_goals (first | rfl | (simp only [List.length_take]; omega) | (simp only [List.length_append, List.length_cons, List.length_nil, List.length_modify, List.length_set, Nat.zero_add]; done) | (simp only [List.length_append, List.length_take, List.length_drop, List.length_cons, List.length_nil, List.length_modify, List.length_set, Nat.zero_add]; omega) | (simp only [List.length_append, List.length_take, List.length_drop, List.length_cons, List.length_nil, List.length_modify, List.length_set, Nat.zero_add]; done) | omega)

theorem hotspotref23_low_m (a0 : Int) (a1 : Int) {r : (List Int)} (h0 : hotspotref23_low a0 a1 = some r) : SndM K 77 [(vi a0), (vi a1)] (fun q => (.ref (q 0) 0 r.length 1)) [(List.map vu r)] :=
 fun hs => Snd.of_newM (RenM.ref 0 0 _ _) (rows_all_cons (vu_clean _) rows_all_nil) (clean_cons (Clean.v _) (clean_cons (Clean.v _) clean_nil)) (hotspotref23_low_r a0 a1 h0) hs

theorem hotspotref23_low_e (a0 : Int) (a1 : Int) {r : (List Int)} (h0 : hotspotref23_low a0 a1 = some r) (fr : Nat) (hs : HS) : SndE K 77 [(vi a0), (vi a1)] hs fr ⟨(fun q : Nat → Nat => (.ref (q 0) 0 r.length 1)) fun _ => fr, .new (List.map vu r)⟩ :=
 SndE.of_res (RenM.ref 0 0 _ _) (vu_clean _) (clean_cons (Clean.v _) (clean_cons (Clean.v _) clean_nil)) (fun a b h => by simp only [h]) (hotspotref23_low_r a0 a1 h0) hs fr

theorem hotspotref23_low_p (a0 : Int) (a1 : Int) {r : (List Int)} (h0 : hotspotref23_low a0 a1 = some r) : SndP K 77 [(vi a0), (vi a1)] (S_vu r) :=
 SndM.pure (hotspotref23_low_m a0 a1 h0) (S_vu_clean _) (clean_cons (Clean.v _) (clean_cons (Clean.v _) clean_nil)) (by simp only [go_sem, newL_n, newL_c, upd_get, fz, nilS, cond_true, cond_false, List.drop_zero, List.take_length, List.length_map, ble_self, Nat.reduceEqDiff, reduceIte, Nat.reduceAdd, Nat.reduceMul, Nat.reduceSub, Nat.reduceLT, Nat.reduceLeDiff] <;> rfl)

end Go.AX.Z.TW

/-! (TWW hotspotref23 Input) -/

set_option linter.unusedSimpArgs false
set_option linter.unusedVariables false
set_option maxHeartbeats 4000000
set_option maxRecDepth 20000
namespace Go.AX.Z.TW
open Go.AX Go.Proofs
attribute [local irreducible] awp xw xop xcall gsp ob xd xdop xcallD seqQ loopQ blkQ endQ

def hotspotref23_Input_S0 (x36 : (List Int)) (x38 : (List Int)) (a0 : (List Int)) (a1 : Int) : AS :=
 { objs := (upd (fun _ => .dead) 0 (.live (List.map vu ((x36 ++ [116, 111, 107, 101, 110]) ++ x38)))), next := 1, tmps := (upd (upd (upd (fun _ => .unk) 1 (.imm (List.map vu a0) a0.length)) 2 (vi a1)) 7 (.ref 0 0 (((x36 ++ [116, 111, 107, 101, 110]) ++ x38).length) 1)) }

theorem hotspotref23_Input_r (a0 : (List Int)) (a1 : Int) {r : (List Int)} (h0 : hotspotref23_Input a0 a1 = some r) : SndR K 67 [(.v (.string ⟨#[116, 111, 107, 101, 110]⟩)), (S_vu a0), (vi a1)] (fun q => (.ref (q 0) 0 r.length 1)) [(List.map vu r)] := by
 refine SndR.of_walkW hC (show K.P.funcs[67]? = some Try.f67 from Try.func67) rfl rfl (by decide +kernel) (Nat.le_of_ble_eq_true rfl) ?_
 unfold hotspotref23_Input at h0
 refine awp_nr [0,1,2] (fun _ => rfl) fun tz => ?_
 refine awp_regW fun KK hKK => ?_
 refine xw_id ?_
 try simp only [go_sem, Nat.reduceEqDiff, reduceIte, Nat.reduceAdd, Nat.reduceMul, Nat.reduceSub, Nat.reduceLT, Nat.reduceLeDiff]
 refine hKK _ _ (Wk.refl _ _ _) ?_; clear hKK KK
 refine awp_nr [0,1,2] (fun _ => rfl) fun tz => ?_
 refine awp_regW fun KK hKK => ?_
 refine xw_id ?_
 have gs1 : (⟨#[116, 111, 107, 101, 110]⟩ : ByteArray).size = 5 := by rfl
 obtain ⟨x36, bx36, h0⟩ := bnd h0
 try simp only [go_sem, Nat.reduceEqDiff, reduceIte, Nat.reduceAdd, Nat.reduceMul, Nat.reduceSub, Nat.reduceLT, Nat.reduceLeDiff, Int.reduceToNat, Int.reduceBEq, Int.reduceBNe, Int.reduceLT, Int.reduceLE, Int.reduceAdd, Int.reduceSub, Int.reduceMul, gs1]
 refine xcall_M (hotspotref23_low_m 5 1 bx36) ?_; try dsimp only
 try refine xw_id ?_
 try simp only [go_sem, Nat.reduceEqDiff, reduceIte, Nat.reduceAdd, Nat.reduceMul, Nat.reduceSub, Nat.reduceLT, Nat.reduceLeDiff, Int.reduceToNat, Int.reduceBEq, Int.reduceBNe, Int.reduceLT, Int.reduceLE, Int.reduceAdd, Int.reduceSub, Int.reduceMul, gs1]
 refine hKK _ _ (Wk.refl _ _ _) ?_; clear hKK KK
 refine awp_nr [0,1,2,7] (fun _ => rfl) fun tz => ?_
 refine awp_regW fun KK hKK => ?_
 refine xw_id ?_
 have gs2 : sbE K.P 9 29 (.v (.string ⟨#[116, 111, 107, 101, 110]⟩)) = some (.imm (List.map vu [116, 111, 107, 101, 110]) 5) := by kernel_rfl
 obtain ⟨x37, bx37, h0⟩ := bnd h0
 have bx37 := chk_some bx37
 simp only [Bool.and_eq_true, decide_eq_true_eq] at bx37
 have gx37_0 := bx37
 try simp only [List.length_append, List.length_cons, List.length_nil, Nat.zero_add, Nat.reduceAdd, Nat.add_assoc, Nat.reduceLeDiff] at gx37_0
 try simp only [go_sem, Nat.reduceEqDiff, reduceIte, Nat.reduceAdd, Nat.reduceMul, Nat.reduceSub, Nat.reduceLT, Nat.reduceLeDiff, Int.reduceToNat, Int.reduceBEq, Int.reduceBNe, Int.reduceLT, Int.reduceLE, Int.reduceAdd, Int.reduceSub, Int.reduceMul, gs2, gx37_0, List.length_append, vu_len]
 refine hKK _ _ (Wk.refl _ _ _) ?_; clear hKK KK
 refine awp_nr [1,2,7] (fun _ => rfl) fun tz => ?_
 refine awp_regW fun KK hKK => ?_
 refine xw_id ?_
 obtain ⟨x38, bx38, h0⟩ := bnd h0
 try simp only [go_sem, Nat.reduceEqDiff, reduceIte, Nat.reduceAdd, Nat.reduceMul, Nat.reduceSub, Nat.reduceLT, Nat.reduceLeDiff, Int.reduceToNat, Int.reduceBEq, Int.reduceBNe, Int.reduceLT, Int.reduceLE, Int.reduceAdd, Int.reduceSub, Int.reduceMul]
 refine xcall_M (hotspotref23_low_m (a0.length : Int) 2 bx38) ?_; try dsimp only
 try refine xw_id ?_
 obtain ⟨x39, bx39, h0⟩ := bnd h0
 have bx39 := chk_some bx39
 simp only [Bool.and_eq_true, decide_eq_true_eq] at bx39
 have gx39_0 := bx39
 try simp only [List.length_append, List.length_cons, List.length_nil, Nat.zero_add, Nat.reduceAdd, Nat.add_assoc, Nat.reduceLeDiff] at gx39_0
 try simp only [go_sem, Nat.reduceEqDiff, reduceIte, Nat.reduceAdd, Nat.reduceMul, Nat.reduceSub, Nat.reduceLT, Nat.reduceLeDiff, Int.reduceToNat, Int.reduceBEq, Int.reduceBNe, Int.reduceLT, Int.reduceLE, Int.reduceAdd, Int.reduceSub, Int.reduceMul, gx39_0, List.length_append, vu_len]
 refine hKK _ (hotspotref23_Input_S0 x36 x38 a0 a1) (by refine Wk.canonD [] [] [some 15] rfl trivial rfl (tmOU 0 tmO0 rfl List.not_mem_nil (by simp only [upd_get, ↓iop_and, Nat.reduceEqDiff, reduceIte, if_true, if_false] <;> rfl) (TmL.of_eq (by first | rfl | (simp only [List.flatMap_append, List.flatMap_cons, List.flatMap_nil, List.map_append, List.map_cons, List.map_nil, List.append_nil, List.nil_append]; done) | (simp only [List.flatMap_append, List.flatMap_cons, List.flatMap_nil, List.map_append, List.map_cons, List.map_nil, List.append_nil, List.nil_append]; rfl)) (vu_clean _))) (tmAllU 7 (tmAllU 2 (tmAllU 1 tmAll0 (Tm.clean (Clean.imm (vu_clean _)))) (Tm.v _)) (Tm.refL rfl ?_)); all_goals (first | rfl | (simp only [List.length_take]; omega) | (simp only [List.length_append, List.length_cons, List.length_nil, List.length_modify, List.length_set, Nat.zero_add]; done) | (simp only [List.length_append, List.length_take, List.length_drop, List.length_cons, List.length_nil, List.length_modify, List.length_set, Nat.zero_add]; omega) | (simp only [List.length_append, List.length_take, List.length_drop, List.length_cons, List.length_nil, List.length_modify, List.length_set, Nat.zero_add]; done) | omega)) ?_; clear hKK KK
 unfold hotspotref23_Input_S0
 refine awp_nr [1,2,7] (fun _ => rfl) fun tz => ?_
 refine awp_regW fun KK hKK => ?_
 refine xw_id ?_
 obtain ⟨x40, bx40, h0⟩ := bnd h0
 have bx40 := chk_some bx40
 simp only [Bool.and_eq_true, decide_eq_true_eq] at bx40
 have gx40_0 := bx40
 try simp only [List.length_append, List.length_cons, List.length_nil, Nat.zero_add, Nat.reduceAdd, Nat.add_assoc, Nat.reduceLeDiff] at gx40_0
 try simp only [go_sem, Nat.reduceEqDiff, reduceIte, Nat.reduceAdd, Nat.reduceMul, Nat.reduceSub, Nat.reduceLT, Nat.reduceLeDiff, Int.reduceToNat, Int.reduceBEq, Int.reduceBNe, Int.reduceLT, Int.reduceLE, Int.reduceAdd, Int.reduceSub, Int.reduceMul, gx40_0, List.length_append, vu_len]
 refine hKK _ _ (Wk.refl _ _ _) ?_; clear hKK KK
 refine awp_nr [2,7] (fun _ => rfl) fun tz => ?_
 refine awp_regW fun KK hKK => ?_
 refine xw_id ?_
 obtain ⟨x41, bx41, h0⟩ := bnd h0
 try simp only [go_sem, Nat.reduceEqDiff, reduceIte, Nat.reduceAdd, Nat.reduceMul, Nat.reduceSub, Nat.reduceLT, Nat.reduceLeDiff]
 refine xcall_M (hotspotref23_low_m a1 2 bx41) ?_; try dsimp only
 try refine xw_id ?_
 obtain ⟨x42, bx42, h0⟩ := bnd h0
 have bx42 := chk_some bx42
 simp only [Bool.and_eq_true, decide_eq_true_eq] at bx42
 have gx42_0 := bx42
 try simp only [List.length_append, List.length_cons, List.length_nil, Nat.zero_add, Nat.reduceAdd, Nat.add_assoc, Nat.reduceLeDiff] at gx42_0
 try simp only [go_sem, Nat.reduceEqDiff, reduceIte, Nat.reduceAdd, Nat.reduceMul, Nat.reduceSub, Nat.reduceLT, Nat.reduceLeDiff, Int.reduceToNat, Int.reduceBEq, Int.reduceBNe, Int.reduceLT, Int.reduceLE, Int.reduceAdd, Int.reduceSub, Int.reduceMul, gx42_0, List.length_append, vu_len]
 refine hKK _ _ (Wk.refl _ _ _) ?_; clear hKK KK
 refine awp_ret1 ?_
 obtain rfl := someInj h0
 refine endW_i ?_
 refine end_ret0 rs67 (rfl) ?_
 refine Res.mk [] [some 8] rfl (resOU List.not_mem_nil (by simp only [upd_get, ↓iop_and, Nat.reduceEqDiff, reduceIte, if_true, if_false] <;> rfl) (TmL.of_eq (by first | rfl | (simp only [List.flatMap_append, List.flatMap_cons, List.flatMap_nil, List.map_append, List.map_cons, List.map_nil, List.append_nil, List.nil_append]; done) | (simp only [List.flatMap_append, List.flatMap_cons, List.flatMap_nil, List.map_append, List.map_cons, List.map_nil, List.append_nil, List.nil_append]; rfl)) (vu_clean _)) resO0) (Tm.refL rfl ?_)
 all_goals (first | rfl | (simp only [List.length_take]; omega) | (simp only [List.length_append, List.length_cons, List.length_nil, List.length_modify, List.length_set, Nat.zero_add]; done) | (simp only [List.length_append, List.length_take, List.length_drop, List.length_cons, List.length_nil, List.length_modify, List.length_set, Nat.zero_add]; omega) | (simp only [List.length_append, List.length_take, List.length_drop, List.length_cons, List.length_nil, List.length_modify, List.length_set, Nat.zero_add]; done) | omega)

theorem hotspotref23_Input_m (a0 : (List Int)) (a1 : Int) {r : (List Int)} (h0 : hotspotref23_Input a0 a1 = some r) : SndM K 67 [(.v (.string ⟨#[116, 111, 107, 101, 110]⟩)), (S_vu a0), (vi a1)] (fun q => (.ref (q 0) 0 r.length 1)) [(List.map vu r)] :=
 fun hs => Snd.of_newM (RenM.ref 0 0 _ _) (rows_all_cons (vu_clean _) rows_all_nil) (clean_cons (Clean.v _) (clean_cons (S_vu_clean _) (clean_cons (Clean.v _) clean_nil))) (hotspotref23_Input_r a0 a1 h0) hs

theorem hotspotref23_Input_e (a0 : (List Int)) (a1 : Int) {r : (List Int)} (h0 : hotspotref23_Input a0 a1 = some r) (fr : Nat) (hs : HS) : SndE K 67 [(.v (.string ⟨#[116, 111, 107, 101, 110]⟩)), (S_vu a0), (vi a1)] hs fr ⟨(fun q : Nat → Nat => (.ref (q 0) 0 r.length 1)) fun _ => fr, .new (List.map vu r)⟩ :=
 SndE.of_res (RenM.ref 0 0 _ _) (vu_clean _) (clean_cons (Clean.v _) (clean_cons (S_vu_clean _) (clean_cons (Clean.v _) clean_nil))) (fun a b h => by simp only [h]) (hotspotref23_Input_r a0 a1 h0) hs fr

theorem hotspotref23_Input_p (a0 : (List Int)) (a1 : Int) {r : (List Int)} (h0 : hotspotref23_Input a0 a1 = some r) : SndP K 67 [(.v (.string ⟨#[116, 111, 107, 101, 110]⟩)), (S_vu a0), (vi a1)] (S_vu r) :=
 SndM.pure (hotspotref23_Input_m a0 a1 h0) (S_vu_clean _) (clean_cons (Clean.v _) (clean_cons (S_vu_clean _) (clean_cons (Clean.v _) clean_nil))) (by simp only [go_sem, newL_n, newL_c, upd_get, fz, nilS, cond_true, cond_false, List.drop_zero, List.take_length, List.length_map, ble_self, Nat.reduceEqDiff, reduceIte, Nat.reduceAdd, Nat.reduceMul, Nat.reduceSub, Nat.reduceLT, Nat.reduceLeDiff] <;> rfl)

end Go.AX.Z.TW

/-! (TWW hotspotref21 word) -/

set_option linter.unusedSimpArgs false
set_option linter.unusedVariables false
set_option maxHeartbeats 4000000
set_option maxRecDepth 20000
namespace Go.AX.Z.TW
open Go.AX Go.Proofs
attribute [local irreducible] awp xw xop xcall gsp ob xd xdop xcallD seqQ loopQ blkQ endQ


theorem hotspotref21_word_p (a0 : Int) (a1 : Int) (a2 : Int) (a3 : Int) {r : Int} (h0 : hotspotref21_word a0 a1 a2 a3 = some r) : SndP K 92 [(vu a0), (vu a1), (vu a2), (vu a3)] (vw r) := by
 refine SndP.of_walkW hC (Clean.v _) (clean_cons (Clean.v _) (clean_cons (Clean.v _) (clean_cons (Clean.v _) (clean_cons (Clean.v _) clean_nil)))) (show K.P.funcs[92]? = some Try.f92 from Try.func92) rfl rfl (by decide +kernel) (Nat.le_of_ble_eq_true rfl) ?_
 unfold hotspotref21_word at h0
 refine awp_nr [0,1,2,3] (fun _ => rfl) fun tz => ?_
 refine awp_regW fun KK hKK => ?_
 refine xw_id ?_
 try simp only [go_sem, Nat.reduceEqDiff, reduceIte, Nat.reduceAdd, Nat.reduceMul, Nat.reduceSub, Nat.reduceLT, Nat.reduceLeDiff]
 refine hKK _ _ (Wk.refl _ _ _) ?_; clear hKK KK
 refine awp_nr [0,1,2,3] (fun _ => rfl) fun tz => ?_
 refine awp_regW fun KK hKK => ?_
 refine xw_id ?_
 try simp only [go_sem, Nat.reduceEqDiff, reduceIte, Nat.reduceAdd, Nat.reduceMul, Nat.reduceSub, Nat.reduceLT, Nat.reduceLeDiff]
 refine hKK _ _ (Wk.refl _ _ _) ?_; clear hKK KK
 refine awp_ret1 ?_
 obtain rfl := someInj h0
 refine endW_i ?_
 refine end_ret0 rs92 (rfl) ?_
 try simp only [go_sem, Nat.reduceEqDiff, reduceIte, Nat.reduceAdd, Nat.reduceMul, Nat.reduceSub, Nat.reduceLT, Nat.reduceLeDiff, fz, nilS, packR, List.take_nil, List.take_length, List.length_map, List.length_append, cond_true, cond_false, Nat.ble_eq, ble_self]
 all_goals first | rfl | (simp only [go_sem, Nat.reduceEqDiff, reduceIte, Nat.reduceAdd, Nat.reduceMul, Nat.reduceSub, Nat.reduceLT, Nat.reduceLeDiff, fz, nilS, packR, List.take_nil, List.take_length, List.length_map, List.length_append, cond_true, cond_false, Nat.ble_eq, ble_self, List.map_append] <;> rfl)

end Go.AX.Z.TW

/-! (TWW hotspotref21 Words) -/

set_option linter.unusedSimpArgs false
set_option linter.unusedVariables false
set_option maxHeartbeats 4000000
set_option maxRecDepth 20000
namespace Go.AX.Z.TW
open Go.AX Go.Proofs
attribute [local irreducible] awp xw xop xcall gsp ob xd xdop xcallD seqQ loopQ blkQ endQ

def hotspotref21_Words_S0 (d51 : A4vw) : AS :=
 { objs := (upd (upd (fun _ => .dead) 0 (.live (e_A4vw A4vw.z))) 1 (.live (e_A4vw d51))), next := 2, tmps := (upd (upd (fun _ => .unk) 2 (.ptr 0 0)) 3 (.ptr 1 0)) }

def hotspotref21_Words_S1 (a0 : A16vu) (d52 : (A4vw × Int)) : AS :=
 { objs := (upd (upd (upd (fun _ => .dead) 0 (.live (e_A16vu a0))) 1 (.live (e_A4vw A4vw.z))) 2 (.live (e_A4vw d52.1))), next := 3, tmps := (upd (upd (upd (upd (fun _ => .unk) 1 (.ptr 0 0)) 2 (.ptr 1 0)) 3 (.ptr 2 0)) 4 (vi d52.2)) }

theorem hotspotref21_Words_p (a0 : A16vu) {r : A4vw} (h0 : hotspotref21_Words a0 = some r) : SndP K 86 [(.agg (e_A16vu a0))] (.agg (e_A4vw r)) := by
 refine SndP.of_walkW hC (Clean.agg (e_A4vw_clean _)) (clean_cons (Clean.agg (e_A16vu_clean _)) clean_nil) (show K.P.funcs[86]? = some Try.f86 from Try.func86) rfl rfl (by decide +kernel) (Nat.le_of_ble_eq_true rfl) ?_
 unfold hotspotref21_Words at h0
 refine awp_nr [0] (fun _ => rfl) fun tz => ?_
 refine awp_regW fun KK hKK => ?_
 refine xw_id ?_
 try simp only [go_sem, Nat.reduceEqDiff, reduceIte, Nat.reduceAdd, Nat.reduceMul, Nat.reduceSub, Nat.reduceLT, Nat.reduceLeDiff]
 refine hKK _ _ (Wk.refl _ _ _) ?_; clear hKK KK
 refine awp_nr [1,2] (fun _ => rfl) fun tz => ?_
 refine awp_regW fun KK hKK => ?_
 refine xw_id ?_
 try simp only [go_sem, Nat.reduceEqDiff, reduceIte, Nat.reduceAdd, Nat.reduceMul, Nat.reduceSub, Nat.reduceLT, Nat.reduceLeDiff]
 refine hKK _ _ (Wk.refl _ _ _) ?_; clear hKK KK
 refine awp_assoc ?_
 refine awp_nr [1,2,3] (fun _ => rfl) fun tz => ?_
 refine awp_regW fun KK hKK => ?_
 refine xw_id ?_
 try simp only [go_sem, Nat.reduceEqDiff, reduceIte, Nat.reduceAdd, Nat.reduceMul, Nat.reduceSub, Nat.reduceLT, Nat.reduceLeDiff]
 refine hKK _ _ (Wk.refl _ _ _) ?_; clear hKK KK
 obtain ⟨d51, hi1, h0⟩ := bnd h0
 refine awp_cut (fun z => d51 = z) (fun d51 : A4vw => hotspotref21_Words_S0 d51) ?_ ?_
 ·
  refine awp_block1 ?_
  refine awp_loopS (fun n (d52 : (A4vw × Int)) => hotspotref21_Words_L2 a0 n d52 = some d51) (fun d52 : (A4vw × Int) => hotspotref21_Words_S1 a0 d52) big (A4vw.z, 0) (Wk.canonD [] [] [some 0, some 1, some 2] rfl trivial rfl (tmOU 2 (tmOU 1 (tmOU 0 tmO0 rfl List.not_mem_nil (by simp only [upd_get, ↓iop_and, Nat.reduceEqDiff, reduceIte, if_true, if_false] <;> rfl) (TmL.clean (e_A16vu_clean _))) rfl List.not_mem_nil (by simp only [upd_get, ↓iop_and, Nat.reduceEqDiff, reduceIte, if_true, if_false] <;> rfl) (TmL.clean (e_A4vw_clean _))) rfl List.not_mem_nil (by simp only [upd_get, ↓iop_and, Nat.reduceEqDiff, reduceIte, if_true, if_false] <;> rfl) (TmL.clean (e_A4vw_clean _))) (tmAllU 4 (tmAllU 3 (tmAllU 2 (tmAllU 1 tmAll0 (Tm.ptr rfl)) (Tm.ptr rfl)) (Tm.ptr rfl)) (Tm.v _))) hi1 ?_
  clear hi1
  rintro n d52 hl3
  rcases n with _ | n2
  ·
   (rw [hotspotref21_Words_L2] at hl3; cases hl3)
  ·
   rw [hotspotref21_Words_L2] at hl3
   unfold hotspotref21_Words_S1
   refine awp_assoc ?_
   refine awp_nr [1,2,3,4] (fun _ => rfl) fun tz => ?_
   refine awp_regW fun KK hKK => ?_
   refine xw_id ?_
   try simp only [go_sem, Nat.reduceEqDiff, reduceIte, Nat.reduceAdd, Nat.reduceMul, Nat.reduceSub, Nat.reduceLT, Nat.reduceLeDiff]
   refine hKK _ _ (Wk.refl _ _ _) ?_; clear hKK KK
   refine awp_cond (b := (decide (d52.2 < 4))) rfl (fun h4 => ?_) (fun h4 => ?_)
   ·
    have hl3 := cT hl3 h4
    refine awp_skip ?_
    refine awp_blockW ?_
    refine awp_nr1 [1,2,3,4] (fun _ => rfl) fun tz => ?_
    refine awp_regD1 fun KK hKK all hall => ?_
    refine xd_id ?_
    try simp only [List.toList_toArray, List.map_cons, List.map_nil, List.size_toArray, List.length_cons, List.length_nil, Nat.zero_add]
    try simp only [Nat.reduceAdd]
    obtain ⟨x53, bx53, hl3⟩ := bnd hl3
    obtain ⟨fx53_0, fx53_1, fx53_2, fx53_3⟩ := idxA_some bx53
    have fx53_6 : (e_A16vu a0)[(IntKind.wrap .i64 (4 * d52.2)).toNat]? = some (vu x53) := by show (List.map vu [a0.a0, a0.a1, a0.a2, a0.a3, a0.a4, a0.a5, a0.a6, a0.a7, a0.a8, a0.a9, a0.a10, a0.a11, a0.a12, a0.a13, a0.a14, a0.a15])[(IntKind.wrap .i64 (4 * d52.2)).toNat]? = _; rw [List.getElem?_map, fx53_2]; rfl
    obtain ⟨x54, bx54, hl3⟩ := bnd hl3
    obtain ⟨fx54_0, fx54_1, fx54_2, fx54_3⟩ := idxA_some bx54
    have fx54_6 : (e_A16vu a0)[(IntKind.wrap .i64 ((IntKind.wrap .i64 (4 * d52.2)) + 1)).toNat]? = some (vu x54) := by show (List.map vu [a0.a0, a0.a1, a0.a2, a0.a3, a0.a4, a0.a5, a0.a6, a0.a7, a0.a8, a0.a9, a0.a10, a0.a11, a0.a12, a0.a13, a0.a14, a0.a15])[(IntKind.wrap .i64 ((IntKind.wrap .i64 (4 * d52.2)) + 1)).toNat]? = _; rw [List.getElem?_map, fx54_2]; rfl
    obtain ⟨x55, bx55, hl3⟩ := bnd hl3
    obtain ⟨fx55_0, fx55_1, fx55_2, fx55_3⟩ := idxA_some bx55
    have fx55_6 : (e_A16vu a0)[(IntKind.wrap .i64 ((IntKind.wrap .i64 (4 * d52.2)) + 2)).toNat]? = some (vu x55) := by show (List.map vu [a0.a0, a0.a1, a0.a2, a0.a3, a0.a4, a0.a5, a0.a6, a0.a7, a0.a8, a0.a9, a0.a10, a0.a11, a0.a12, a0.a13, a0.a14, a0.a15])[(IntKind.wrap .i64 ((IntKind.wrap .i64 (4 * d52.2)) + 2)).toNat]? = _; rw [List.getElem?_map, fx55_2]; rfl
    obtain ⟨x56, bx56, hl3⟩ := bnd hl3
    obtain ⟨fx56_0, fx56_1, fx56_2, fx56_3⟩ := idxA_some bx56
    have fx56_6 : (e_A16vu a0)[(IntKind.wrap .i64 ((IntKind.wrap .i64 (4 * d52.2)) + 3)).toNat]? = some (vu x56) := by show (List.map vu [a0.a0, a0.a1, a0.a2, a0.a3, a0.a4, a0.a5, a0.a6, a0.a7, a0.a8, a0.a9, a0.a10, a0.a11, a0.a12, a0.a13, a0.a14, a0.a15])[(IntKind.wrap .i64 ((IntKind.wrap .i64 (4 * d52.2)) + 3)).toNat]? = _; rw [List.getElem?_map, fx56_2]; rfl
    obtain ⟨x57, bx57, hl3⟩ := bnd hl3
    simp only [go_sem, Nat.reduceEqDiff, reduceIte, Nat.reduceMul, Nat.reduceSub, Nat.reduceLT, Nat.reduceLeDiff, Int.reduceToNat, Int.reduceBEq, Int.reduceBNe, Int.reduceLT, Int.reduceLE, Int.reduceAdd, Int.reduceSub, Int.reduceMul, fx53_0, fx53_1, fx53_6, fx54_0, fx54_1, fx54_6, fx55_0, fx55_1, fx55_6, fx56_0, fx56_1, fx56_6]
    try simp only [Nat.reduceAdd]
    try simp only [go_sem, Nat.reduceEqDiff, reduceIte, Nat.reduceMul, Nat.reduceSub, Nat.reduceLT, Nat.reduceLeDiff, Int.reduceToNat, Int.reduceBEq, Int.reduceBNe, Int.reduceLT, Int.reduceLE, Int.reduceAdd, Int.reduceSub, Int.reduceMul, fx53_0, fx53_1, fx53_6, fx54_0, fx54_1, fx54_6, fx55_0, fx55_1, fx55_6, fx56_0, fx56_1, fx56_6]
    try simp only [Nat.reduceAdd]
    try simp only [go_sem, Nat.reduceEqDiff, reduceIte, Nat.reduceMul, Nat.reduceSub, Nat.reduceLT, Nat.reduceLeDiff, Int.reduceToNat, Int.reduceBEq, Int.reduceBNe, Int.reduceLT, Int.reduceLE, Int.reduceAdd, Int.reduceSub, Int.reduceMul, fx53_0, fx53_1, fx53_6, fx54_0, fx54_1, fx54_6, fx55_0, fx55_1, fx55_6, fx56_0, fx56_1, fx56_6]
    refine xcallD_p (hotspotref21_word_p x53 x54 x55 x56 bx57) ?_; try dsimp only
    try refine xd_id ?_
    obtain ⟨x58, bx58, hl3⟩ := bnd hl3
    obtain ⟨fx58_0, fx58_1, fx58_2, fx58_3⟩ := idxA_some bx58
    have fx58_6 : (e_A4vw d52.1)[(d52.2).toNat]? = some (vw x58) := by show (List.map vw [d52.1.a0, d52.1.a1, d52.1.a2, d52.1.a3])[(d52.2).toNat]? = _; rw [List.getElem?_map, fx58_2]; rfl
    have gs5b : (d52.2).toNat < 4 := by have h0 := of_eq_true fx58_0; have h1 := of_eq_true fx58_1; omega
    have gs5 : (e_A4vw d52.1).set ((d52.2).toNat) (vw x57) = e_A4vw (d52.1.setA ((d52.2).toNat) x57) := e_A4vw_setA _ _ gs5b
    have gs5l : ((d52.2).toNat + 1 ≤ 4) = True := eq_true (by omega)
    simp only [go_sem, Nat.reduceEqDiff, reduceIte, Nat.reduceMul, Nat.reduceSub, Nat.reduceLT, Nat.reduceLeDiff, Int.reduceToNat, Int.reduceBEq, Int.reduceBNe, Int.reduceLT, Int.reduceLE, Int.reduceAdd, Int.reduceSub, Int.reduceMul, fx53_0, fx53_1, fx53_6, fx54_0, fx54_1, fx54_6, fx55_0, fx55_1, fx55_6, fx56_0, fx56_1, fx56_6, fx58_0, fx58_1, fx58_6, gs5, gs5l]
    try simp only [Nat.reduceAdd]
    try simp only [go_sem, Nat.reduceEqDiff, reduceIte, Nat.reduceMul, Nat.reduceSub, Nat.reduceLT, Nat.reduceLeDiff, Int.reduceToNat, Int.reduceBEq, Int.reduceBNe, Int.reduceLT, Int.reduceLE, Int.reduceAdd, Int.reduceSub, Int.reduceMul, fx53_0, fx53_1, fx53_6, fx54_0, fx54_1, fx54_6, fx55_0, fx55_1, fx55_6, fx56_0, fx56_1, fx56_6, fx58_0, fx58_1, fx58_6, gs5, gs5l]
    try simp only [Nat.reduceAdd]
    try simp only [go_sem, Nat.reduceEqDiff, reduceIte, Nat.reduceMul, Nat.reduceSub, Nat.reduceLT, Nat.reduceLeDiff, Int.reduceToNat, Int.reduceBEq, Int.reduceBNe, Int.reduceLT, Int.reduceLE, Int.reduceAdd, Int.reduceSub, Int.reduceMul, fx53_0, fx53_1, fx53_6, fx54_0, fx54_1, fx54_6, fx55_0, fx55_1, fx55_6, fx56_0, fx56_1, fx56_6, fx58_0, fx58_1, fx58_6, gs5, gs5l]
    refine And.intro ?_ (hKK _ ?_)
    ·
     subst hall
     clear hKK KK
     first | decide +kernel | (simp [printsOk, apartP, clash, meet]; done) | (simp [printsOk, apartP, clash, meet]; decide +kernel) | (simp [printsOk, apartP, clash, meet]; repeat (first | exact Or.inr (by decide +kernel) | (refine And.intro (Or.inr (by decide +kernel)) ?_)))
    ·
     clear hKK KK hall all
     refine bq_n ?_
     refine seqW_i ?_
     refine awp_nr1 [1,2,3,4] (fun _ => rfl) fun tz => ?_
     refine awp_reg1 fun KK hKK => ?_
     refine xw_id ?_
     try simp only [go_sem, Nat.reduceEqDiff, reduceIte, Nat.reduceAdd, Nat.reduceMul, Nat.reduceSub, Nat.reduceLT, Nat.reduceLeDiff, fx53_0, fx53_1, fx53_6, fx54_0, fx54_1, fx54_6, fx55_0, fx55_1, fx55_6, fx56_0, fx56_1, fx56_6, fx58_0, fx58_1, fx58_6]
     refine hKK _ ?_; clear hKK KK
     refine lq_n ?_
     exact ⟨n2, ((d52.1.setA ((d52.2).toNat) x57), IntKind.wrap .i64 (d52.2 + 1)), rfl, hl3, (Wk.canonD [] [] [some 0, some 1, some 2] rfl trivial rfl (tmOU 2 (tmOU 1 (tmOU 0 tmO0 rfl List.not_mem_nil (by simp only [upd_get, ↓iop_and, Nat.reduceEqDiff, reduceIte, if_true, if_false] <;> rfl) (TmL.clean (e_A16vu_clean _))) rfl List.not_mem_nil (by simp only [upd_get, ↓iop_and, Nat.reduceEqDiff, reduceIte, if_true, if_false] <;> rfl) (TmL.clean (e_A4vw_clean _))) rfl List.not_mem_nil (by simp only [upd_get, ↓iop_and, Nat.reduceEqDiff, reduceIte, if_true, if_false] <;> rfl) (TmL.clean (e_A4vw_clean _))) (tmAllU 4 (tmAllU 3 (tmAllU 2 (tmAllU 1 tmAll0 (Tm.ptr rfl)) (Tm.ptr rfl)) (Tm.ptr rfl)) (Tm.v _)))⟩
   ·
    have hl3 := cF hl3 h4
    refine awp_exit ?_
    refine lq_e ?_
    refine bq_e ?_
    refine sq_n ?_
    obtain rfl := someInj hl3
    exact ⟨_, rfl, (Wk.canonD [] [] [some 1, some 2] rfl trivial rfl (tmOU 1 (tmOU 0 tmO0 rfl List.not_mem_nil (by simp only [upd_get, ↓iop_and, Nat.reduceEqDiff, reduceIte, if_true, if_false] <;> rfl) (TmL.clean (e_A4vw_clean _))) rfl List.not_mem_nil (by simp only [upd_get, ↓iop_and, Nat.reduceEqDiff, reduceIte, if_true, if_false] <;> rfl) (TmL.clean (e_A4vw_clean _))) (tmAllU 3 (tmAllU 2 tmAll0 (Tm.ptr rfl)) (Tm.ptr rfl)))⟩
 ·
  rintro _ rfl
  clear hi1
  unfold hotspotref21_Words_S0
  refine awp_nr [2,3] (fun _ => rfl) fun tz => ?_
  refine awp_regW fun KK hKK => ?_
  refine xw_id ?_
  try simp only [go_sem, Nat.reduceEqDiff, reduceIte, Nat.reduceAdd, Nat.reduceMul, Nat.reduceSub, Nat.reduceLT, Nat.reduceLeDiff]
  refine hKK _ _ (Wk.refl _ _ _) ?_; clear hKK KK
  refine awp_ret1 ?_
  obtain rfl := someInj h0
  refine endW_i ?_
  refine end_ret0 rs86 (by simp only [go_sem, resV, resAll, resOf, packR, Nat.reduceEqDiff, reduceIte, Nat.reduceAdd, Nat.reduceMul, Nat.reduceSub, Nat.reduceLT, Nat.reduceLeDiff]; rfl) ?_
  try simp only [go_sem, Nat.reduceEqDiff, reduceIte, Nat.reduceAdd, Nat.reduceMul, Nat.reduceSub, Nat.reduceLT, Nat.reduceLeDiff, fz, nilS, packR, List.take_nil, List.take_length, List.length_map, List.length_append, cond_true, cond_false, Nat.ble_eq, ble_self]
  all_goals first | rfl | (simp only [go_sem, Nat.reduceEqDiff, reduceIte, Nat.reduceAdd, Nat.reduceMul, Nat.reduceSub, Nat.reduceLT, Nat.reduceLeDiff, fz, nilS, packR, List.take_nil, List.take_length, List.length_map, List.length_append, cond_true, cond_false, Nat.ble_eq, ble_self, List.map_append] <;> rfl)

end Go.AX.Z.TW

/-! (TWW hotspotref21 Left) -/

set_option linter.unusedSimpArgs false
set_option linter.unusedVariables false
set_option maxHeartbeats 4000000
set_option maxRecDepth 20000
namespace Go.AX.Z.TW
open Go.AX Go.Proofs
attribute [local irreducible] awp xw xop xcall gsp ob xd xdop xcallD seqQ loopQ blkQ endQ


theorem hotspotref21_Left_p (a0 : Int) (a1 : Int) {r : Int} (h0 : hotspotref21_Left a0 a1 = some r) : SndP K 91 [(vw a0), (vi a1)] (vw r) := by
 refine SndP.of_walkW hC (Clean.v _) (clean_cons (Clean.v _) (clean_cons (Clean.v _) clean_nil)) (show K.P.funcs[91]? = some Try.f91 from Try.func91) rfl rfl (by decide +kernel) (Nat.le_of_ble_eq_true rfl) ?_
 unfold hotspotref21_Left at h0
 refine awp_nr [0,1] (fun _ => rfl) fun tz => ?_
 refine awp_regW fun KK hKK => ?_
 refine xw_id ?_
 try simp only [go_sem, Nat.reduceEqDiff, reduceIte, Nat.reduceAdd, Nat.reduceMul, Nat.reduceSub, Nat.reduceLT, Nat.reduceLeDiff]
 refine hKK _ _ (Wk.refl _ _ _) ?_; clear hKK KK
 refine awp_nr [0,1] (fun _ => rfl) fun tz => ?_
 refine awp_regW fun KK hKK => ?_
 refine xw_id ?_
 obtain ⟨x65, bx65, h0⟩ := bnd h0
 have bx65 := chk_some bx65
 simp only [Bool.and_eq_true, decide_eq_true_eq] at bx65
 have gx65_0 := bx65
 obtain ⟨x66, bx66, h0⟩ := bnd h0
 have bx66 := chk_some bx66
 simp only [Bool.and_eq_true, decide_eq_true_eq] at bx66
 have gx66_0 := bx66
 try simp only [go_sem, Nat.reduceEqDiff, reduceIte, Nat.reduceAdd, Nat.reduceMul, Nat.reduceSub, Nat.reduceLT, Nat.reduceLeDiff, gx65_0, gx66_0]
 refine hKK _ _ (Wk.refl _ _ _) ?_; clear hKK KK
 refine awp_ret1 ?_
 obtain rfl := someInj h0
 refine endW_i ?_
 refine end_ret0 rs91 (rfl) ?_
 try simp only [go_sem, Nat.reduceEqDiff, reduceIte, Nat.reduceAdd, Nat.reduceMul, Nat.reduceSub, Nat.reduceLT, Nat.reduceLeDiff, fz, nilS, packR, List.take_nil, List.take_length, List.length_map, List.length_append, cond_true, cond_false, Nat.ble_eq, ble_self]
 all_goals first | rfl | (simp only [go_sem, Nat.reduceEqDiff, reduceIte, Nat.reduceAdd, Nat.reduceMul, Nat.reduceSub, Nat.reduceLT, Nat.reduceLeDiff, fz, nilS, packR, List.take_nil, List.take_length, List.length_map, List.length_append, cond_true, cond_false, Nat.ble_eq, ble_self, List.map_append] <;> rfl)

end Go.AX.Z.TW

/-! (TWW hotspotref21 Schedule) -/

set_option linter.unusedSimpArgs false
set_option linter.unusedVariables false
set_option maxHeartbeats 4000000
set_option maxRecDepth 20000
namespace Go.AX.Z.TW
open Go.AX Go.Proofs
attribute [local irreducible] awp xw xop xcall gsp ob xd xdop xcallD seqQ loopQ blkQ endQ

def hotspotref21_Schedule_S0 (x51 : A4vw) : AS :=
 { objs := (upd (upd (upd (fun _ => .dead) 0 (.live (e_A36vw A36vw.z))) 1 (.live (e_A36vw A36vw.z))) 2 (.live (e_A4vw x51))), next := 3, tmps := (upd (upd (upd (fun _ => .unk) 2 (.ptr 0 0)) 3 (.ptr 1 0)) 4 (.ptr 2 0)) }

def hotspotref21_Schedule_S1 (d52 : A36vw) : AS :=
 { objs := (upd (upd (fun _ => .dead) 0 (.live (e_A36vw A36vw.z))) 1 (.live (e_A36vw d52))), next := 2, tmps := (upd (upd (fun _ => .unk) 2 (.ptr 0 0)) 3 (.ptr 1 0)) }

def hotspotref21_Schedule_S2 (x51 : A4vw) (d53 : (A36vw × Int)) : AS :=
 { objs := (upd (upd (upd (fun _ => .dead) 0 (.live (e_A36vw A36vw.z))) 1 (.live (e_A36vw d53.1))) 2 (.live (e_A4vw x51))), next := 3, tmps := (upd (upd (upd (upd (fun _ => .unk) 2 (.ptr 0 0)) 3 (.ptr 1 0)) 4 (.ptr 2 0)) 5 (vi d53.2)) }

theorem hotspotref21_Schedule_p (a0 : A16vu) {r : A36vw} (h0 : hotspotref21_Schedule a0 = some r) : SndP K 85 [(.agg (e_A16vu a0))] (.agg (e_A36vw r)) := by
 refine SndP.of_walkW hC (Clean.agg (e_A36vw_clean _)) (clean_cons (Clean.agg (e_A16vu_clean _)) clean_nil) (show K.P.funcs[85]? = some Try.f85 from Try.func85) rfl rfl (by decide +kernel) (Nat.le_of_ble_eq_true rfl) ?_
 unfold hotspotref21_Schedule at h0
 refine awp_nr [0] (fun _ => rfl) fun tz => ?_
 refine awp_regW fun KK hKK => ?_
 refine xw_id ?_
 try simp only [go_sem, ↓iop_and, ↓iop_or, ↓iop_xor, ↓iop_andn, Nat.reduceEqDiff, reduceIte, Nat.reduceAdd, Nat.reduceMul, Nat.reduceSub, Nat.reduceLT, Nat.reduceLeDiff]
 refine hKK _ _ (Wk.refl _ _ _) ?_; clear hKK KK
 refine awp_nr [1,2] (fun _ => rfl) fun tz => ?_
 refine awp_regW fun KK hKK => ?_
 refine xw_id ?_
 try simp only [go_sem, ↓iop_and, ↓iop_or, ↓iop_xor, ↓iop_andn, Nat.reduceEqDiff, reduceIte, Nat.reduceAdd, Nat.reduceMul, Nat.reduceSub, Nat.reduceLT, Nat.reduceLeDiff]
 refine hKK _ _ (Wk.refl _ _ _) ?_; clear hKK KK
 refine awp_nr [1,2,3] (fun _ => rfl) fun tz => ?_
 refine awp_regW fun KK hKK => ?_
 refine xw_id ?_
 obtain ⟨x51, bx51, h0⟩ := bnd h0
 try simp only [go_sem, ↓iop_and, ↓iop_or, ↓iop_xor, ↓iop_andn, Nat.reduceEqDiff, reduceIte, Nat.reduceAdd, Nat.reduceMul, Nat.reduceSub, Nat.reduceLT, Nat.reduceLeDiff]
 refine xcall_p (hotspotref21_Words_p a0 bx51) ?_; try dsimp only
 try refine xw_id ?_
 try simp only [go_sem, ↓iop_and, ↓iop_or, ↓iop_xor, ↓iop_andn, Nat.reduceEqDiff, reduceIte, Nat.reduceAdd, Nat.reduceMul, Nat.reduceSub, Nat.reduceLT, Nat.reduceLeDiff]
 refine hKK _ (hotspotref21_Schedule_S0 x51) (Wk.canonD [] [] [some 1, some 2, some 5] rfl trivial rfl (tmOU 2 (tmOU 1 (tmOU 0 tmO0 rfl List.not_mem_nil (by simp only [upd_get, ↓iop_and, Nat.reduceEqDiff, reduceIte, if_true, if_false] <;> rfl) (TmL.clean (e_A36vw_clean _))) rfl List.not_mem_nil (by simp only [upd_get, ↓iop_and, Nat.reduceEqDiff, reduceIte, if_true, if_false] <;> rfl) (TmL.clean (e_A36vw_clean _))) rfl List.not_mem_nil (by simp only [upd_get, ↓iop_and, Nat.reduceEqDiff, reduceIte, if_true, if_false] <;> rfl) (TmL.clean (e_A4vw_clean _))) (tmAllU 4 (tmAllU 3 (tmAllU 2 tmAll0 (Tm.ptr rfl)) (Tm.ptr rfl)) (Tm.ptr rfl))) ?_; clear hKK KK
 unfold hotspotref21_Schedule_S0
 refine awp_assoc ?_
 refine awp_nr [2,3,4] (fun _ => rfl) fun tz => ?_
 refine awp_regW fun KK hKK => ?_
 refine xw_id ?_
 try simp only [go_sem, ↓iop_and, ↓iop_or, ↓iop_xor, ↓iop_andn, Nat.reduceEqDiff, reduceIte, Nat.reduceAdd, Nat.reduceMul, Nat.reduceSub, Nat.reduceLT, Nat.reduceLeDiff]
 refine hKK _ _ (Wk.refl _ _ _) ?_; clear hKK KK
 obtain ⟨d52, hi1, h0⟩ := bnd h0
 refine awp_cut (fun z => d52 = z) (fun d52 : A36vw => hotspotref21_Schedule_S1 d52) ?_ ?_
 ·
  refine awp_block1 ?_
  refine awp_loopS (fun n (d53 : (A36vw × Int)) => hotspotref21_Schedule_L3 x51 a0 n d53 = some d52) (fun d53 : (A36vw × Int) => hotspotref21_Schedule_S2 x51 d53) big (A36vw.z, 0) (Wk.canonD [] [] [some 0, some 1, some 2] rfl trivial rfl (tmOU 2 (tmOU 1 (tmOU 0 tmO0 rfl List.not_mem_nil (by simp only [upd_get, ↓iop_and, Nat.reduceEqDiff, reduceIte, if_true, if_false] <;> rfl) (TmL.clean (e_A36vw_clean _))) rfl List.not_mem_nil (by simp only [upd_get, ↓iop_and, Nat.reduceEqDiff, reduceIte, if_true, if_false] <;> rfl) (TmL.clean (e_A36vw_clean _))) rfl List.not_mem_nil (by simp only [upd_get, ↓iop_and, Nat.reduceEqDiff, reduceIte, if_true, if_false] <;> rfl) (TmL.clean (e_A4vw_clean _))) (tmAllU 5 (tmAllU 4 (tmAllU 3 (tmAllU 2 tmAll0 (Tm.ptr rfl)) (Tm.ptr rfl)) (Tm.ptr rfl)) (Tm.v _))) hi1 ?_
  clear hi1
  rintro n d53 hl3
  rcases n with _ | n2
  ·
   (rw [hotspotref21_Schedule_L3] at hl3; cases hl3)
  ·
   rw [hotspotref21_Schedule_L3] at hl3
   unfold hotspotref21_Schedule_S2
   refine awp_assoc ?_
   refine awp_nr [2,3,4,5] (fun _ => rfl) fun tz => ?_
   refine awp_regW fun KK hKK => ?_
   refine xw_id ?_
   try simp only [go_sem, ↓iop_and, ↓iop_or, ↓iop_xor, ↓iop_andn, Nat.reduceEqDiff, reduceIte, Nat.reduceAdd, Nat.reduceMul, Nat.reduceSub, Nat.reduceLT, Nat.reduceLeDiff]
   refine hKK _ _ (Wk.refl _ _ _) ?_; clear hKK KK
   refine awp_cond (b := (decide (d53.2 < 36))) rfl (fun h4 => ?_) (fun h4 => ?_)
   ·
    have hl3 := cT hl3 h4
    refine awp_skip ?_
    refine awp_blockW ?_
    refine awp_nr [2,3,4,5] (fun _ => rfl) fun tz => ?_
    refine awp_regW fun KK hKK => ?_
    refine xw_id ?_
    try simp only [go_sem, ↓iop_and, ↓iop_or, ↓iop_xor, ↓iop_andn, Nat.reduceEqDiff, reduceIte, Nat.reduceAdd, Nat.reduceMul, Nat.reduceSub, Nat.reduceLT, Nat.reduceLeDiff]
    refine hKK _ _ (Wk.refl _ _ _) ?_; clear hKK KK
    refine awp_cond1 (b := (decide (d53.2 < 4))) rfl (fun h5 => ?_) (fun h5 => ?_)
    ·
     have hl3 := cT hl3 h5
     refine awp_nr1 [2,3,4,5] (fun _ => rfl) fun tz => ?_
     refine awp_reg1 fun KK hKK => ?_
     refine xw_id ?_
     obtain ⟨x54, bx54, hl3⟩ := bnd hl3
     obtain ⟨fx54_0, fx54_1, fx54_2, fx54_3⟩ := idxA_some bx54
     have fx54_6 : (e_A4vw x51)[(d53.2).toNat]? = some (vw x54) := by show (List.map vw [x51.a0, x51.a1, x51.a2, x51.a3])[(d53.2).toNat]? = _; rw [List.getElem?_map, fx54_2]; rfl
     obtain ⟨x55, bx55, hl3⟩ := bnd hl3
     obtain ⟨fx55_0, fx55_1, fx55_2, fx55_3⟩ := idxA_some bx55
     have fx55_6 : (e_A36vw d53.1)[(d53.2).toNat]? = some (vw x55) := by show (List.map vw [d53.1.a0, d53.1.a1, d53.1.a2, d53.1.a3, d53.1.a4, d53.1.a5, d53.1.a6, d53.1.a7, d53.1.a8, d53.1.a9, d53.1.a10, d53.1.a11, d53.1.a12, d53.1.a13, d53.1.a14, d53.1.a15, d53.1.a16, d53.1.a17, d53.1.a18, d53.1.a19, d53.1.a20, d53.1.a21, d53.1.a22, d53.1.a23, d53.1.a24, d53.1.a25, d53.1.a26, d53.1.a27, d53.1.a28, d53.1.a29, d53.1.a30, d53.1.a31, d53.1.a32, d53.1.a33, d53.1.a34, d53.1.a35])[(d53.2).toNat]? = _; rw [List.getElem?_map, fx55_2]; rfl
     have gs6b : (d53.2).toNat < 36 := by have h0 := of_eq_true fx55_0; have h1 := of_eq_true fx55_1; omega
     have gs6 : (e_A36vw d53.1).set ((d53.2).toNat) (vw x54) = e_A36vw (d53.1.setA ((d53.2).toNat) x54) := e_A36vw_setA _ _ gs6b
     have gs6l : ((d53.2).toNat + 1 ≤ 36) = True := eq_true (by omega)
     try simp only [go_sem, ↓iop_and, ↓iop_or, ↓iop_xor, ↓iop_andn, Nat.reduceEqDiff, reduceIte, Nat.reduceAdd, Nat.reduceMul, Nat.reduceSub, Nat.reduceLT, Nat.reduceLeDiff, Int.reduceToNat, Int.reduceBEq, Int.reduceBNe, Int.reduceLT, Int.reduceLE, Int.reduceAdd, Int.reduceSub, Int.reduceMul, fx54_0, fx54_1, fx54_6, fx55_0, fx55_1, fx55_6, gs6, gs6l]
     refine hKK _ ?_; clear hKK KK
     refine bq_n ?_
     refine seqW_i ?_
     refine awp_nr1 [2,3,4,5] (fun _ => rfl) fun tz => ?_
     refine awp_reg1 fun KK hKK => ?_
     refine xw_id ?_
     try simp only [go_sem, ↓iop_and, ↓iop_or, ↓iop_xor, ↓iop_andn, Nat.reduceEqDiff, reduceIte, Nat.reduceAdd, Nat.reduceMul, Nat.reduceSub, Nat.reduceLT, Nat.reduceLeDiff, fx54_0, fx54_1, fx54_6, fx55_0, fx55_1, fx55_6]
     refine hKK _ ?_; clear hKK KK
     refine lq_n ?_
     exact ⟨n2, ((d53.1.setA ((d53.2).toNat) x54), IntKind.wrap .i64 (d53.2 + 1)), rfl, hl3, (Wk.canonD [] [] [some 0, some 1, some 2] rfl trivial rfl (tmOU 2 (tmOU 1 (tmOU 0 tmO0 rfl List.not_mem_nil (by simp only [upd_get, ↓iop_and, Nat.reduceEqDiff, reduceIte, if_true, if_false] <;> rfl) (TmL.clean (e_A36vw_clean _))) rfl List.not_mem_nil (by simp only [upd_get, ↓iop_and, Nat.reduceEqDiff, reduceIte, if_true, if_false] <;> rfl) (TmL.clean (e_A36vw_clean _))) rfl List.not_mem_nil (by simp only [upd_get, ↓iop_and, Nat.reduceEqDiff, reduceIte, if_true, if_false] <;> rfl) (TmL.clean (e_A4vw_clean _))) (tmAllU 5 (tmAllU 4 (tmAllU 3 (tmAllU 2 tmAll0 (Tm.ptr rfl)) (Tm.ptr rfl)) (Tm.ptr rfl)) (Tm.v _)))⟩
    ·
     have hl3 := cF hl3 h5
     refine awp_nr1 [2,3,4,5] (fun _ => rfl) fun tz => ?_
     refine awp_regD1 fun KK hKK all hall => ?_
     refine xd_id ?_
     try simp only [List.toList_toArray, List.map_cons, List.map_nil, List.size_toArray, List.length_cons, List.length_nil, Nat.zero_add]
     try simp only [Nat.reduceAdd]
     obtain ⟨x56, bx56, hl3⟩ := bnd hl3
     obtain ⟨fx56_0, fx56_1, fx56_2, fx56_3⟩ := idxA_some bx56
     have fx56_6 : (e_A36vw d53.1)[(IntKind.wrap .i64 (d53.2 - 4)).toNat]? = some (vw x56) := by show (List.map vw [d53.1.a0, d53.1.a1, d53.1.a2, d53.1.a3, d53.1.a4, d53.1.a5, d53.1.a6, d53.1.a7, d53.1.a8, d53.1.a9, d53.1.a10, d53.1.a11, d53.1.a12, d53.1.a13, d53.1.a14, d53.1.a15, d53.1.a16, d53.1.a17, d53.1.a18, d53.1.a19, d53.1.a20, d53.1.a21, d53.1.a22, d53.1.a23, d53.1.a24, d53.1.a25, d53.1.a26, d53.1.a27, d53.1.a28, d53.1.a29, d53.1.a30, d53.1.a31, d53.1.a32, d53.1.a33, d53.1.a34, d53.1.a35])[(IntKind.wrap .i64 (d53.2 - 4)).toNat]? = _; rw [List.getElem?_map, fx56_2]; rfl
     obtain ⟨x57, bx57, hl3⟩ := bnd hl3
     obtain ⟨fx57_0, fx57_1, fx57_2, fx57_3⟩ := idxA_some bx57
     have fx57_6 : (e_A36vw d53.1)[(IntKind.wrap .i64 (d53.2 - 1)).toNat]? = some (vw x57) := by show (List.map vw [d53.1.a0, d53.1.a1, d53.1.a2, d53.1.a3, d53.1.a4, d53.1.a5, d53.1.a6, d53.1.a7, d53.1.a8, d53.1.a9, d53.1.a10, d53.1.a11, d53.1.a12, d53.1.a13, d53.1.a14, d53.1.a15, d53.1.a16, d53.1.a17, d53.1.a18, d53.1.a19, d53.1.a20, d53.1.a21, d53.1.a22, d53.1.a23, d53.1.a24, d53.1.a25, d53.1.a26, d53.1.a27, d53.1.a28, d53.1.a29, d53.1.a30, d53.1.a31, d53.1.a32, d53.1.a33, d53.1.a34, d53.1.a35])[(IntKind.wrap .i64 (d53.2 - 1)).toNat]? = _; rw [List.getElem?_map, fx57_2]; rfl
     obtain ⟨x58, bx58, hl3⟩ := bnd hl3
     simp only [go_sem, ↓iop_and, ↓iop_or, ↓iop_xor, ↓iop_andn, Nat.reduceEqDiff, reduceIte, Nat.reduceMul, Nat.reduceSub, Nat.reduceLT, Nat.reduceLeDiff, Int.reduceToNat, Int.reduceBEq, Int.reduceBNe, Int.reduceLT, Int.reduceLE, Int.reduceAdd, Int.reduceSub, Int.reduceMul, fx56_0, fx56_1, fx56_6, fx57_0, fx57_1, fx57_6]
     try simp only [Nat.reduceAdd]
     try simp only [go_sem, ↓iop_and, ↓iop_or, ↓iop_xor, ↓iop_andn, Nat.reduceEqDiff, reduceIte, Nat.reduceMul, Nat.reduceSub, Nat.reduceLT, Nat.reduceLeDiff, Int.reduceToNat, Int.reduceBEq, Int.reduceBNe, Int.reduceLT, Int.reduceLE, Int.reduceAdd, Int.reduceSub, Int.reduceMul, fx56_0, fx56_1, fx56_6, fx57_0, fx57_1, fx57_6]
     try simp only [Nat.reduceAdd]
     try simp only [go_sem, ↓iop_and, ↓iop_or, ↓iop_xor, ↓iop_andn, Nat.reduceEqDiff, reduceIte, Nat.reduceMul, Nat.reduceSub, Nat.reduceLT, Nat.reduceLeDiff, Int.reduceToNat, Int.reduceBEq, Int.reduceBNe, Int.reduceLT, Int.reduceLE, Int.reduceAdd, Int.reduceSub, Int.reduceMul, fx56_0, fx56_1, fx56_6, fx57_0, fx57_1, fx57_6]
     refine xcallD_p (hotspotref21_Left_p x57 7 bx58) ?_; try dsimp only
     try refine xd_id ?_
     obtain ⟨x59, bx59, hl3⟩ := bnd hl3
     obtain ⟨fx59_0, fx59_1, fx59_2, fx59_3⟩ := idxA_some bx59
     have fx59_6 : (e_A36vw d53.1)[(d53.2).toNat]? = some (vw x59) := by show (List.map vw [d53.1.a0, d53.1.a1, d53.1.a2, d53.1.a3, d53.1.a4, d53.1.a5, d53.1.a6, d53.1.a7, d53.1.a8, d53.1.a9, d53.1.a10, d53.1.a11, d53.1.a12, d53.1.a13, d53.1.a14, d53.1.a15, d53.1.a16, d53.1.a17, d53.1.a18, d53.1.a19, d53.1.a20, d53.1.a21, d53.1.a22, d53.1.a23, d53.1.a24, d53.1.a25, d53.1.a26, d53.1.a27, d53.1.a28, d53.1.a29, d53.1.a30, d53.1.a31, d53.1.a32, d53.1.a33, d53.1.a34, d53.1.a35])[(d53.2).toNat]? = _; rw [List.getElem?_map, fx59_2]; rfl
     have gs7b : (d53.2).toNat < 36 := by have h0 := of_eq_true fx59_0; have h1 := of_eq_true fx59_1; omega
     have gs7 : (e_A36vw d53.1).set ((d53.2).toNat) (vw (IntKind.wrap .u32 (x56 + (bxor .u32 x58 (IntKind.wrap .u32 ((IntKind.wrap .u32 ((IntKind.wrap .u32 d53.2) * 2050759141)) + 525043411)))))) = e_A36vw (d53.1.setA ((d53.2).toNat) (IntKind.wrap .u32 (x56 + (bxor .u32 x58 (IntKind.wrap .u32 ((IntKind.wrap .u32 ((IntKind.wrap .u32 d53.2) * 2050759141)) + 525043411)))))) := e_A36vw_setA _ _ gs7b
     have gs7l : ((d53.2).toNat + 1 ≤ 36) = True := eq_true (by omega)
     simp only [go_sem, ↓iop_and, ↓iop_or, ↓iop_xor, ↓iop_andn, Nat.reduceEqDiff, reduceIte, Nat.reduceMul, Nat.reduceSub, Nat.reduceLT, Nat.reduceLeDiff, Int.reduceToNat, Int.reduceBEq, Int.reduceBNe, Int.reduceLT, Int.reduceLE, Int.reduceAdd, Int.reduceSub, Int.reduceMul, fx56_0, fx56_1, fx56_6, fx57_0, fx57_1, fx57_6, fx59_0, fx59_1, fx59_6, gs7, gs7l]
     try simp only [Nat.reduceAdd]
     try simp only [go_sem, ↓iop_and, ↓iop_or, ↓iop_xor, ↓iop_andn, Nat.reduceEqDiff, reduceIte, Nat.reduceMul, Nat.reduceSub, Nat.reduceLT, Nat.reduceLeDiff, Int.reduceToNat, Int.reduceBEq, Int.reduceBNe, Int.reduceLT, Int.reduceLE, Int.reduceAdd, Int.reduceSub, Int.reduceMul, fx56_0, fx56_1, fx56_6, fx57_0, fx57_1, fx57_6, fx59_0, fx59_1, fx59_6, gs7, gs7l]
     try simp only [Nat.reduceAdd]
     try simp only [go_sem, ↓iop_and, ↓iop_or, ↓iop_xor, ↓iop_andn, Nat.reduceEqDiff, reduceIte, Nat.reduceMul, Nat.reduceSub, Nat.reduceLT, Nat.reduceLeDiff, Int.reduceToNat, Int.reduceBEq, Int.reduceBNe, Int.reduceLT, Int.reduceLE, Int.reduceAdd, Int.reduceSub, Int.reduceMul, fx56_0, fx56_1, fx56_6, fx57_0, fx57_1, fx57_6, fx59_0, fx59_1, fx59_6, gs7, gs7l]
     refine And.intro ?_ (hKK _ ?_)
     ·
      subst hall
      clear hKK KK
      first | decide +kernel | (simp [printsOk, apartP, clash, meet]; done) | (simp [printsOk, apartP, clash, meet]; decide +kernel) | (simp [printsOk, apartP, clash, meet]; repeat (first | exact Or.inr (by decide +kernel) | (refine And.intro (Or.inr (by decide +kernel)) ?_)))
     ·
      clear hKK KK hall all
      refine bq_n ?_
      refine seqW_i ?_
      refine awp_nr1 [2,3,4,5] (fun _ => rfl) fun tz => ?_
      refine awp_reg1 fun KK hKK => ?_
      refine xw_id ?_
      try simp only [go_sem, ↓iop_and, ↓iop_or, ↓iop_xor, ↓iop_andn, Nat.reduceEqDiff, reduceIte, Nat.reduceAdd, Nat.reduceMul, Nat.reduceSub, Nat.reduceLT, Nat.reduceLeDiff, fx56_0, fx56_1, fx56_6, fx57_0, fx57_1, fx57_6, fx59_0, fx59_1, fx59_6]
      refine hKK _ ?_; clear hKK KK
      refine lq_n ?_
      exact ⟨n2, ((d53.1.setA ((d53.2).toNat) (IntKind.wrap .u32 (x56 + (bxor .u32 x58 (IntKind.wrap .u32 ((IntKind.wrap .u32 ((IntKind.wrap .u32 d53.2) * 2050759141)) + 525043411)))))), IntKind.wrap .i64 (d53.2 + 1)), rfl, hl3, (Wk.canonD [] [] [some 0, some 1, some 2] rfl trivial rfl (tmOU 2 (tmOU 1 (tmOU 0 tmO0 rfl List.not_mem_nil (by simp only [upd_get, ↓iop_and, Nat.reduceEqDiff, reduceIte, if_true, if_false] <;> rfl) (TmL.clean (e_A36vw_clean _))) rfl List.not_mem_nil (by simp only [upd_get, ↓iop_and, Nat.reduceEqDiff, reduceIte, if_true, if_false] <;> rfl) (TmL.clean (e_A36vw_clean _))) rfl List.not_mem_nil (by simp only [upd_get, ↓iop_and, Nat.reduceEqDiff, reduceIte, if_true, if_false] <;> rfl) (TmL.clean (e_A4vw_clean _))) (tmAllU 5 (tmAllU 4 (tmAllU 3 (tmAllU 2 tmAll0 (Tm.ptr rfl)) (Tm.ptr rfl)) (Tm.ptr rfl)) (Tm.v _)))⟩
   ·
    have hl3 := cF hl3 h4
    refine awp_exit ?_
    refine lq_e ?_
    refine bq_e ?_
    refine sq_n ?_
    obtain rfl := someInj hl3
    exact ⟨_, rfl, (Wk.canonD [] [] [some 0, some 1] rfl trivial rfl (tmOU 1 (tmOU 0 tmO0 rfl List.not_mem_nil (by simp only [upd_get, ↓iop_and, Nat.reduceEqDiff, reduceIte, if_true, if_false] <;> rfl) (TmL.clean (e_A36vw_clean _))) rfl List.not_mem_nil (by simp only [upd_get, ↓iop_and, Nat.reduceEqDiff, reduceIte, if_true, if_false] <;> rfl) (TmL.clean (e_A36vw_clean _))) (tmAllU 3 (tmAllU 2 tmAll0 (Tm.ptr rfl)) (Tm.ptr rfl)))⟩
 ·
  rintro _ rfl
  clear hi1
  unfold hotspotref21_Schedule_S1
  refine awp_nr [2,3] (fun _ => rfl) fun tz => ?_
  refine awp_regW fun KK hKK => ?_
  refine xw_id ?_
  try simp only [go_sem, ↓iop_and, ↓iop_or, ↓iop_xor, ↓iop_andn, Nat.reduceEqDiff, reduceIte, Nat.reduceAdd, Nat.reduceMul, Nat.reduceSub, Nat.reduceLT, Nat.reduceLeDiff]
  refine hKK _ _ (Wk.refl _ _ _) ?_; clear hKK KK
  refine awp_ret1 ?_
  obtain rfl := someInj h0
  refine endW_i ?_
  refine end_ret0 rs85 (by simp only [go_sem, resV, resAll, resOf, packR, ↓iop_and, ↓iop_or, ↓iop_xor, ↓iop_andn, Nat.reduceEqDiff, reduceIte, Nat.reduceAdd, Nat.reduceMul, Nat.reduceSub, Nat.reduceLT, Nat.reduceLeDiff]; rfl) ?_
  try simp only [go_sem, ↓iop_and, ↓iop_or, ↓iop_xor, ↓iop_andn, Nat.reduceEqDiff, reduceIte, Nat.reduceAdd, Nat.reduceMul, Nat.reduceSub, Nat.reduceLT, Nat.reduceLeDiff, fz, nilS, packR, List.take_nil, List.take_length, List.length_map, List.length_append, cond_true, cond_false, Nat.ble_eq, ble_self]
  all_goals first | rfl | (simp only [go_sem, ↓iop_and, ↓iop_or, ↓iop_xor, ↓iop_andn, Nat.reduceEqDiff, reduceIte, Nat.reduceAdd, Nat.reduceMul, Nat.reduceSub, Nat.reduceLT, Nat.reduceLeDiff, fz, nilS, packR, List.take_nil, List.take_length, List.length_map, List.length_append, cond_true, cond_false, Nat.ble_eq, ble_self, List.map_append] <;> rfl)

end Go.AX.Z.TW

/-! (TWW hotspotref21 Round) -/

set_option linter.unusedSimpArgs false
set_option linter.unusedVariables false
set_option maxHeartbeats 4000000
set_option maxRecDepth 20000
namespace Go.AX.Z.TW
open Go.AX Go.Proofs
attribute [local irreducible] awp xw xop xcall gsp ob xd xdop xcallD seqQ loopQ blkQ endQ

def hotspotref21_Round_S0 (a0 : A4vw) (a1 : Int) (a2 : Int) (x69 : Int) (x70 : Int) : AS :=
 { objs := (upd (upd (fun _ => .dead) 0 (.live (e_A4vw a0))) 1 (.live (e_A4vw A4vw.z))), next := 2, tmps := (upd (upd (upd (upd (upd (upd (fun _ => .unk) 1 (vw a1)) 2 (vw a2)) 3 (.ptr 0 0)) 6 (.ptr 1 0)) 7 (vw (IntKind.wrap .u32 (a0.a0 + (bxor .u32 x69 a1))))) 8 (vw (IntKind.wrap .u32 (a0.a2 + (bxor .u32 x70 a2))))) }

theorem hotspotref21_Round_p (a0 : A4vw) (a1 : Int) (a2 : Int) {r : A4vw} (h0 : hotspotref21_Round a0 a1 a2 = some r) : SndP K 87 [(.agg (e_A4vw a0)), (vw a1), (vw a2)] (.agg (e_A4vw r)) := by
 refine SndP.of_walkW hC (Clean.agg (e_A4vw_clean _)) (clean_cons (Clean.agg (e_A4vw_clean _)) (clean_cons (Clean.v _) (clean_cons (Clean.v _) clean_nil))) (show K.P.funcs[87]? = some Try.f87 from Try.func87) rfl rfl (by decide +kernel) (Nat.le_of_ble_eq_true rfl) ?_
 unfold hotspotref21_Round at h0
 refine awp_nr [0,1,2] (fun _ => rfl) fun tz => ?_
 refine awp_regW fun KK hKK => ?_
 refine xw_id ?_
 try simp only [go_sem, ↓iop_and, ↓iop_or, ↓iop_xor, ↓iop_andn, Nat.reduceEqDiff, reduceIte, Nat.reduceAdd, Nat.reduceMul, Nat.reduceSub, Nat.reduceLT, Nat.reduceLeDiff]
 refine hKK _ _ (Wk.refl _ _ _) ?_; clear hKK KK
 refine awp_nr [1,2,3,6] (fun _ => rfl) fun tz => ?_
 refine awp_regW fun KK hKK => ?_
 refine xw_id ?_
 obtain ⟨x69, bx69, h0⟩ := bnd h0
 try simp only [go_sem, ↓iop_and, ↓iop_or, ↓iop_xor, ↓iop_andn, Nat.reduceEqDiff, reduceIte, Nat.reduceAdd, Nat.reduceMul, Nat.reduceSub, Nat.reduceLT, Nat.reduceLeDiff, Int.reduceToNat, Int.reduceBEq, Int.reduceBNe, Int.reduceLT, Int.reduceLE, Int.reduceAdd, Int.reduceSub, Int.reduceMul]
 refine xcall_p (hotspotref21_Left_p a0.a1 5 bx69) ?_; try dsimp only
 try refine xw_id ?_
 try simp only [go_sem, ↓iop_and, ↓iop_or, ↓iop_xor, ↓iop_andn, Nat.reduceEqDiff, reduceIte, Nat.reduceAdd, Nat.reduceMul, Nat.reduceSub, Nat.reduceLT, Nat.reduceLeDiff, Int.reduceToNat, Int.reduceBEq, Int.reduceBNe, Int.reduceLT, Int.reduceLE, Int.reduceAdd, Int.reduceSub, Int.reduceMul]
 refine hKK _ _ (Wk.refl _ _ _) ?_; clear hKK KK
 refine awp_nr [1,2,3,6,7] (fun _ => rfl) fun tz => ?_
 refine awp_regW fun KK hKK => ?_
 refine xw_id ?_
 obtain ⟨x70, bx70, h0⟩ := bnd h0
 try simp only [go_sem, ↓iop_and, ↓iop_or, ↓iop_xor, ↓iop_andn, Nat.reduceEqDiff, reduceIte, Nat.reduceAdd, Nat.reduceMul, Nat.reduceSub, Nat.reduceLT, Nat.reduceLeDiff, Int.reduceToNat, Int.reduceBEq, Int.reduceBNe, Int.reduceLT, Int.reduceLE, Int.reduceAdd, Int.reduceSub, Int.reduceMul]
 refine xcall_p (hotspotref21_Left_p a0.a3 9 bx70) ?_; try dsimp only
 try refine xw_id ?_
 try simp only [go_sem, ↓iop_and, ↓iop_or, ↓iop_xor, ↓iop_andn, Nat.reduceEqDiff, reduceIte, Nat.reduceAdd, Nat.reduceMul, Nat.reduceSub, Nat.reduceLT, Nat.reduceLeDiff, Int.reduceToNat, Int.reduceBEq, Int.reduceBNe, Int.reduceLT, Int.reduceLE, Int.reduceAdd, Int.reduceSub, Int.reduceMul]
 refine hKK _ (hotspotref21_Round_S0 a0 a1 a2 x69 x70) (Wk.canonD [] [] [some 0, some 1] rfl trivial rfl (tmOU 1 (tmOU 0 tmO0 rfl List.not_mem_nil (by simp only [upd_get, ↓iop_and, Nat.reduceEqDiff, reduceIte, if_true, if_false] <;> rfl) (TmL.clean (e_A4vw_clean _))) rfl List.not_mem_nil (by simp only [upd_get, ↓iop_and, Nat.reduceEqDiff, reduceIte, if_true, if_false] <;> rfl) (TmL.clean (e_A4vw_clean _))) (tmAllU 8 (tmAllU 7 (tmAllU 6 (tmAllU 3 (tmAllU 2 (tmAllU 1 tmAll0 (Tm.v _)) (Tm.v _)) (Tm.ptr rfl)) (Tm.ptr rfl)) (Tm.v _)) (Tm.v _))) ?_; clear hKK KK
 unfold hotspotref21_Round_S0
 refine awp_nr [1,2,3,6,7,8] (fun _ => rfl) fun tz => ?_
 refine awp_regW fun KK hKK => ?_
 refine xw_id ?_
 obtain ⟨x71, bx71, h0⟩ := bnd h0
 try simp only [go_sem, ↓iop_and, ↓iop_or, ↓iop_xor, ↓iop_andn, Nat.reduceEqDiff, reduceIte, Nat.reduceAdd, Nat.reduceMul, Nat.reduceSub, Nat.reduceLT, Nat.reduceLeDiff, Int.reduceToNat, Int.reduceBEq, Int.reduceBNe, Int.reduceLT, Int.reduceLE, Int.reduceAdd, Int.reduceSub, Int.reduceMul]
 refine xcall_p (hotspotref21_Left_p (IntKind.wrap .u32 ((IntKind.wrap .u32 (a0.a2 + (bxor .u32 x70 a2))) + a1)) 13 bx71) ?_; try dsimp only
 try refine xw_id ?_
 try simp only [go_sem, ↓iop_and, ↓iop_or, ↓iop_xor, ↓iop_andn, Nat.reduceEqDiff, reduceIte, Nat.reduceAdd, Nat.reduceMul, Nat.reduceSub, Nat.reduceLT, Nat.reduceLeDiff, Int.reduceToNat, Int.reduceBEq, Int.reduceBNe, Int.reduceLT, Int.reduceLE, Int.reduceAdd, Int.reduceSub, Int.reduceMul]
 refine hKK _ _ (Wk.refl _ _ _) ?_; clear hKK KK
 refine awp_nr [2,3,6,7,8,9] (fun _ => rfl) fun tz => ?_
 refine awp_regW fun KK hKK => ?_
 refine xw_id ?_
 obtain ⟨x72, bx72, h0⟩ := bnd h0
 try simp only [go_sem, ↓iop_and, ↓iop_or, ↓iop_xor, ↓iop_andn, Nat.reduceEqDiff, reduceIte, Nat.reduceAdd, Nat.reduceMul, Nat.reduceSub, Nat.reduceLT, Nat.reduceLeDiff, Int.reduceToNat, Int.reduceBEq, Int.reduceBNe, Int.reduceLT, Int.reduceLE, Int.reduceAdd, Int.reduceSub, Int.reduceMul]
 refine xcall_p (hotspotref21_Left_p (IntKind.wrap .u32 ((IntKind.wrap .u32 (a0.a0 + (bxor .u32 x69 a1))) + a2)) 19 bx72) ?_; try dsimp only
 try refine xw_id ?_
 try simp only [go_sem, ↓iop_and, ↓iop_or, ↓iop_xor, ↓iop_andn, Nat.reduceEqDiff, reduceIte, Nat.reduceAdd, Nat.reduceMul, Nat.reduceSub, Nat.reduceLT, Nat.reduceLeDiff, Int.reduceToNat, Int.reduceBEq, Int.reduceBNe, Int.reduceLT, Int.reduceLE, Int.reduceAdd, Int.reduceSub, Int.reduceMul]
 refine hKK _ _ (Wk.refl _ _ _) ?_; clear hKK KK
 refine awp_nr [6,7,8,9,10] (fun _ => rfl) fun tz => ?_
 refine awp_regW fun KK hKK => ?_
 refine xw_id ?_
 try simp only [go_sem, ↓iop_and, ↓iop_or, ↓iop_xor, ↓iop_andn, Nat.reduceEqDiff, reduceIte, Nat.reduceAdd, Nat.reduceMul, Nat.reduceSub, Nat.reduceLT, Nat.reduceLeDiff]
 refine hKK _ _ (Wk.refl _ _ _) ?_; clear hKK KK
 refine awp_ret1 ?_
 obtain rfl := someInj h0
 refine endW_i ?_
 refine end_ret0 rs87 (by simp only [go_sem, resV, resAll, resOf, packR, ↓iop_and, ↓iop_or, ↓iop_xor, ↓iop_andn, Nat.reduceEqDiff, reduceIte, Nat.reduceAdd, Nat.reduceMul, Nat.reduceSub, Nat.reduceLT, Nat.reduceLeDiff]; rfl) ?_
 try simp only [go_sem, ↓iop_and, ↓iop_or, ↓iop_xor, ↓iop_andn, Nat.reduceEqDiff, reduceIte, Nat.reduceAdd, Nat.reduceMul, Nat.reduceSub, Nat.reduceLT, Nat.reduceLeDiff, fz, nilS, packR, List.take_nil, List.take_length, List.length_map, List.length_append, cond_true, cond_false, Nat.ble_eq, ble_self]
 all_goals first | rfl | (simp only [go_sem, ↓iop_and, ↓iop_or, ↓iop_xor, ↓iop_andn, Nat.reduceEqDiff, reduceIte, Nat.reduceAdd, Nat.reduceMul, Nat.reduceSub, Nat.reduceLT, Nat.reduceLeDiff, fz, nilS, packR, List.take_nil, List.take_length, List.length_map, List.length_append, cond_true, cond_false, Nat.ble_eq, ble_self, List.map_append] <;> rfl)

end Go.AX.Z.TW

/-! (TWW hotspotref21 Join) -/

set_option linter.unusedSimpArgs false
set_option linter.unusedVariables false
set_option maxHeartbeats 4000000
set_option maxRecDepth 20000
namespace Go.AX.Z.TW
open Go.AX Go.Proofs
attribute [local irreducible] awp xw xop xcall gsp ob xd xdop xcallD seqQ loopQ blkQ endQ

def hotspotref21_Join_S0 (d71 : A16vu) : AS :=
 { objs := (upd (upd (fun _ => .dead) 0 (.live (e_A16vu A16vu.z))) 1 (.live (e_A16vu d71))), next := 2, tmps := (upd (upd (fun _ => .unk) 2 (.ptr 0 0)) 3 (.ptr 1 0)) }

def hotspotref21_Join_S1 (a0 : A4vw) (d72 : (A16vu × Int)) : AS :=
 { objs := (upd (upd (upd (fun _ => .dead) 0 (.live (e_A4vw a0))) 1 (.live (e_A16vu A16vu.z))) 2 (.live (e_A16vu d72.1))), next := 3, tmps := (upd (upd (upd (upd (fun _ => .unk) 1 (.ptr 0 0)) 2 (.ptr 1 0)) 3 (.ptr 2 0)) 4 (vi d72.2)) }

def hotspotref21_Join_S3 (a0 : A4vw) (d72 : (A16vu × Int)) (d73 : A16vu) : AS :=
 { objs := (upd (upd (upd (fun _ => .dead) 0 (.live (e_A4vw a0))) 1 (.live (e_A16vu A16vu.z))) 2 (.live (e_A16vu d73))), next := 3, tmps := (upd (upd (upd (upd (fun _ => .unk) 1 (.ptr 0 0)) 2 (.ptr 1 0)) 3 (.ptr 2 0)) 4 (vi d72.2)) }

def hotspotref21_Join_S4 (a0 : A4vw) (d72 : (A16vu × Int)) (d75 : A16vu) : AS :=
 { objs := (upd (upd (upd (fun _ => .dead) 0 (.live (e_A4vw a0))) 1 (.live (e_A16vu A16vu.z))) 2 (.live (e_A16vu d75))), next := 3, tmps := (upd (upd (upd (upd (fun _ => .unk) 1 (.ptr 0 0)) 2 (.ptr 1 0)) 3 (.ptr 2 0)) 4 (vi d72.2)) }

def hotspotref21_Join_S5 (a0 : A4vw) (d72 : (A16vu × Int)) (d76 : (A16vu × Int × Int)) : AS :=
 { objs := (upd (upd (upd (fun _ => .dead) 0 (.live (e_A4vw a0))) 1 (.live (e_A16vu A16vu.z))) 2 (.live (e_A16vu d76.1))), next := 3, tmps := (upd (upd (upd (upd (upd (upd (fun _ => .unk) 1 (.ptr 0 0)) 2 (.ptr 1 0)) 3 (.ptr 2 0)) 4 (vi d72.2)) 5 (vw d76.2.1)) 6 (vi d76.2.2)) }

theorem hotspotref21_Join_p (a0 : A4vw) {r : A16vu} (h0 : hotspotref21_Join a0 = some r) : SndP K 88 [(.agg (e_A4vw a0))] (.agg (e_A16vu r)) := by
 refine SndP.of_walkW hC (Clean.agg (e_A16vu_clean _)) (clean_cons (Clean.agg (e_A4vw_clean _)) clean_nil) (show K.P.funcs[88]? = some Try.f88 from Try.func88) rfl rfl (by decide +kernel) (Nat.le_of_ble_eq_true rfl) ?_
 unfold hotspotref21_Join at h0
 refine awp_nr [0] (fun _ => rfl) fun tz => ?_
 refine awp_regW fun KK hKK => ?_
 refine xw_id ?_
 try simp only [go_sem, Nat.reduceEqDiff, reduceIte, Nat.reduceAdd, Nat.reduceMul, Nat.reduceSub, Nat.reduceLT, Nat.reduceLeDiff]
 refine hKK _ _ (Wk.refl _ _ _) ?_; clear hKK KK
 refine awp_nr [1,2] (fun _ => rfl) fun tz => ?_
 refine awp_regW fun KK hKK => ?_
 refine xw_id ?_
 try simp only [go_sem, Nat.reduceEqDiff, reduceIte, Nat.reduceAdd, Nat.reduceMul, Nat.reduceSub, Nat.reduceLT, Nat.reduceLeDiff]
 refine hKK _ _ (Wk.refl _ _ _) ?_; clear hKK KK
 refine awp_assoc ?_
 refine awp_nr [1,2,3] (fun _ => rfl) fun tz => ?_
 refine awp_regW fun KK hKK => ?_
 refine xw_id ?_
 try simp only [go_sem, Nat.reduceEqDiff, reduceIte, Nat.reduceAdd, Nat.reduceMul, Nat.reduceSub, Nat.reduceLT, Nat.reduceLeDiff]
 refine hKK _ _ (Wk.refl _ _ _) ?_; clear hKK KK
 obtain ⟨d71, hi1, h0⟩ := bnd h0
 refine awp_cut (fun z => d71 = z) (fun d71 : A16vu => hotspotref21_Join_S0 d71) ?_ ?_
 ·
  refine awp_block1 ?_
  refine awp_loopS (fun n (d72 : (A16vu × Int)) => hotspotref21_Join_L2 a0 n d72 = some d71) (fun d72 : (A16vu × Int) => hotspotref21_Join_S1 a0 d72) big (A16vu.z, 0) (Wk.canonD [] [] [some 0, some 1, some 2] rfl trivial rfl (tmOU 2 (tmOU 1 (tmOU 0 tmO0 rfl List.not_mem_nil (by simp only [upd_get, Nat.reduceEqDiff, reduceIte, Nat.reduceAdd, Nat.reduceMul, Nat.reduceSub, Nat.reduceLT, Nat.reduceLeDiff, if_true, if_false] <;> rfl) (TmL.clean (e_A4vw_clean _))) rfl List.not_mem_nil (by simp only [upd_get, Nat.reduceEqDiff, reduceIte, Nat.reduceAdd, Nat.reduceMul, Nat.reduceSub, Nat.reduceLT, Nat.reduceLeDiff, if_true, if_false] <;> rfl) (TmL.clean (e_A16vu_clean _))) rfl List.not_mem_nil (by simp only [upd_get, Nat.reduceEqDiff, reduceIte, Nat.reduceAdd, Nat.reduceMul, Nat.reduceSub, Nat.reduceLT, Nat.reduceLeDiff, if_true, if_false] <;> rfl) (TmL.clean (e_A16vu_clean _))) (tmAllU 4 (tmAllU 3 (tmAllU 2 (tmAllU 1 tmAll0 (Tm.ptr rfl)) (Tm.ptr rfl)) (Tm.ptr rfl)) (Tm.v _))) hi1 ?_
  clear hi1
  rintro n d72 hl3
  rcases n with _ | n2
  ·
   (rw [hotspotref21_Join_L2] at hl3; cases hl3)
  ·
   rw [hotspotref21_Join_L2] at hl3
   unfold hotspotref21_Join_S1
   refine awp_assoc ?_
   refine awp_nr [1,2,3,4] (fun _ => rfl) fun tz => ?_
   refine awp_regW fun KK hKK => ?_
   refine xw_id ?_
   try simp only [go_sem, Nat.reduceEqDiff, reduceIte, Nat.reduceAdd, Nat.reduceMul, Nat.reduceSub, Nat.reduceLT, Nat.reduceLeDiff]
   refine hKK _ _ (Wk.refl _ _ _) ?_; clear hKK KK
   refine awp_cond (b := (decide (d72.2 < 4))) rfl (fun h4 => ?_) (fun h4 => ?_)
   ·
    have hl3 := cT hl3 h4
    refine awp_skip ?_
    obtain ⟨d73, hi5, hl3⟩ := bnd hl3
    refine awp_cut (fun z => d73 = z) (fun d73 : A16vu => hotspotref21_Join_S3 a0 d72 d73) ?_ ?_
    ·
     refine awp_block1 ?_
     refine awp_nr [1,2,3,4] (fun _ => rfl) fun tz => ?_
     refine awp_regW fun KK hKK => ?_
     refine xw_id ?_
     obtain ⟨x74, bx74, hi5⟩ := bnd hi5
     obtain ⟨fx74_0, fx74_1, fx74_2, fx74_3⟩ := idxA_some bx74
     have fx74_6 : (e_A4vw a0)[(d72.2).toNat]? = some (vw x74) := by show (List.map vw [a0.a0, a0.a1, a0.a2, a0.a3])[(d72.2).toNat]? = _; rw [List.getElem?_map, fx74_2]; rfl
     try simp only [go_sem, Nat.reduceEqDiff, reduceIte, Nat.reduceAdd, Nat.reduceMul, Nat.reduceSub, Nat.reduceLT, Nat.reduceLeDiff, Int.reduceToNat, Int.reduceBEq, Int.reduceBNe, Int.reduceLT, Int.reduceLE, Int.reduceAdd, Int.reduceSub, Int.reduceMul, Int.reduceNeg, Int.reduceEq, Int.reduceNe, fx74_0, fx74_1, fx74_6]
     refine hKK _ _ (Wk.refl _ _ _) ?_; clear hKK KK
     refine awp_nr [1,2,3,4,5] (fun _ => rfl) fun tz => ?_
     refine awp_regW fun KK hKK => ?_
     refine xw_id ?_
     try simp only [go_sem, Nat.reduceEqDiff, reduceIte, Nat.reduceAdd, Nat.reduceMul, Nat.reduceSub, Nat.reduceLT, Nat.reduceLeDiff, fx74_0, fx74_1, fx74_6]
     refine hKK _ _ (Wk.refl _ _ _) ?_; clear hKK KK
     obtain ⟨d75, hi6, hi5⟩ := bnd hi5
     refine awp_cutQ (fun z => d75 = z) (fun d75 : A16vu => hotspotref21_Join_S4 a0 d72 d75) (clQ_blk clQ_cut) ?_ ?_
     ·
      refine awp_block1 ?_
      refine awp_loopS (fun n (d76 : (A16vu × Int × Int)) => hotspotref21_Join_L6 a0 d72 n d76 = some d75) (fun d76 : (A16vu × Int × Int) => hotspotref21_Join_S5 a0 d72 d76) big (d72.1, x74, 0) (Wk.canonD [] [] [some 0, some 1, some 2] rfl trivial rfl (tmOU 2 (tmOU 1 (tmOU 0 tmO0 rfl List.not_mem_nil (by simp only [upd_get, Nat.reduceEqDiff, reduceIte, Nat.reduceAdd, Nat.reduceMul, Nat.reduceSub, Nat.reduceLT, Nat.reduceLeDiff, if_true, if_false] <;> rfl) (TmL.clean (e_A4vw_clean _))) rfl List.not_mem_nil (by simp only [upd_get, Nat.reduceEqDiff, reduceIte, Nat.reduceAdd, Nat.reduceMul, Nat.reduceSub, Nat.reduceLT, Nat.reduceLeDiff, if_true, if_false] <;> rfl) (TmL.clean (e_A16vu_clean _))) rfl List.not_mem_nil (by simp only [upd_get, Nat.reduceEqDiff, reduceIte, Nat.reduceAdd, Nat.reduceMul, Nat.reduceSub, Nat.reduceLT, Nat.reduceLeDiff, if_true, if_false] <;> rfl) (TmL.clean (e_A16vu_clean _))) (tmAllU 6 (tmAllU 5 (tmAllU 4 (tmAllU 3 (tmAllU 2 (tmAllU 1 tmAll0 (Tm.ptr rfl)) (Tm.ptr rfl)) (Tm.ptr rfl)) (Tm.v _)) (Tm.v _)) (Tm.v _))) hi6 ?_
      clear hi6
      rintro n d76 hl8
      rcases n with _ | n7
      ·
       (rw [hotspotref21_Join_L6] at hl8; cases hl8)
      ·
       rw [hotspotref21_Join_L6] at hl8
       unfold hotspotref21_Join_S5
       refine awp_assoc ?_
       refine awp_nr [1,2,3,4,5,6] (fun _ => rfl) fun tz => ?_
       refine awp_regW fun KK hKK => ?_
       refine xw_id ?_
       try simp only [go_sem, Nat.reduceEqDiff, reduceIte, Nat.reduceAdd, Nat.reduceMul, Nat.reduceSub, Nat.reduceLT, Nat.reduceLeDiff]
       refine hKK _ _ (Wk.refl _ _ _) ?_; clear hKK KK
       refine awp_cond (b := (decide (d76.2.2 < 4))) rfl (fun h9 => ?_) (fun h9 => ?_)
       ·
        have hl8 := cT hl8 h9
        refine awp_skip ?_
        refine awp_blockW ?_
        refine awp_nr [1,2,3,4,5,6] (fun _ => rfl) fun tz => ?_
        refine awp_regW fun KK hKK => ?_
        refine xw_id ?_
        obtain ⟨x77, bx77, hl8⟩ := bnd hl8
        obtain ⟨fx77_0, fx77_1, fx77_2, fx77_3⟩ := idxA_some bx77
        have fx77_6 : (e_A16vu d76.1)[(IntKind.wrap .i64 ((IntKind.wrap .i64 (4 * d72.2)) + d76.2.2)).toNat]? = some (vu x77) := by show (List.map vu [d76.1.a0, d76.1.a1, d76.1.a2, d76.1.a3, d76.1.a4, d76.1.a5, d76.1.a6, d76.1.a7, d76.1.a8, d76.1.a9, d76.1.a10, d76.1.a11, d76.1.a12, d76.1.a13, d76.1.a14, d76.1.a15])[(IntKind.wrap .i64 ((IntKind.wrap .i64 (4 * d72.2)) + d76.2.2)).toNat]? = _; rw [List.getElem?_map, fx77_2]; rfl
        have gs10b : (IntKind.wrap .i64 ((IntKind.wrap .i64 (4 * d72.2)) + d76.2.2)).toNat < 16 := by have h0 := of_eq_true fx77_0; have h1 := of_eq_true fx77_1; omega
        have gs10 : (e_A16vu d76.1).set ((IntKind.wrap .i64 ((IntKind.wrap .i64 (4 * d72.2)) + d76.2.2)).toNat) (vu (IntKind.wrap .u8 ((d76.2.1).tmod 256))) = e_A16vu (d76.1.setA ((IntKind.wrap .i64 ((IntKind.wrap .i64 (4 * d72.2)) + d76.2.2)).toNat) (IntKind.wrap .u8 ((d76.2.1).tmod 256))) := e_A16vu_setA _ _ gs10b
        have gs10l : ((IntKind.wrap .i64 ((IntKind.wrap .i64 (4 * d72.2)) + d76.2.2)).toNat + 1 ≤ 16) = True := eq_true (by omega)
        try simp only [go_sem, Nat.reduceEqDiff, reduceIte, Nat.reduceAdd, Nat.reduceMul, Nat.reduceSub, Nat.reduceLT, Nat.reduceLeDiff, Int.reduceToNat, Int.reduceBEq, Int.reduceBNe, Int.reduceLT, Int.reduceLE, Int.reduceAdd, Int.reduceSub, Int.reduceMul, Int.reduceNeg, Int.reduceEq, Int.reduceNe, fx77_0, fx77_1, fx77_6, gs10, gs10l]
        refine hKK _ _ (Wk.refl _ _ _) ?_; clear hKK KK
        refine awp_nr1 [1,2,3,4,5,6] (fun _ => rfl) fun tz => ?_
        refine awp_reg1 fun KK hKK => ?_
        refine xw_id ?_
        try simp only [go_sem, Nat.reduceEqDiff, reduceIte, Nat.reduceAdd, Nat.reduceMul, Nat.reduceSub, Nat.reduceLT, Nat.reduceLeDiff, Int.reduceToNat, Int.reduceBEq, Int.reduceBNe, Int.reduceLT, Int.reduceLE, Int.reduceAdd, Int.reduceSub, Int.reduceMul, Int.reduceNeg, Int.reduceEq, Int.reduceNe, fx77_0, fx77_1, fx77_6]
        refine hKK _ ?_; clear hKK KK
        refine bq_n ?_
        refine seqW_i ?_
        refine awp_nr1 [1,2,3,4,5,6] (fun _ => rfl) fun tz => ?_
        refine awp_reg1 fun KK hKK => ?_
        refine xw_id ?_
        try simp only [go_sem, Nat.reduceEqDiff, reduceIte, Nat.reduceAdd, Nat.reduceMul, Nat.reduceSub, Nat.reduceLT, Nat.reduceLeDiff, fx77_0, fx77_1, fx77_6]
        refine hKK _ ?_; clear hKK KK
        refine lq_n ?_
        exact ⟨n7, ((d76.1.setA ((IntKind.wrap .i64 ((IntKind.wrap .i64 (4 * d72.2)) + d76.2.2)).toNat) (IntKind.wrap .u8 ((d76.2.1).tmod 256))), IntKind.wrap .u32 ((d76.2.1).tdiv 256), IntKind.wrap .i64 (d76.2.2 + 1)), rfl, hl8, (Wk.canonD [] [] [some 0, some 1, some 2] rfl trivial rfl (tmOU 2 (tmOU 1 (tmOU 0 tmO0 rfl List.not_mem_nil (by simp only [upd_get, Nat.reduceEqDiff, reduceIte, Nat.reduceAdd, Nat.reduceMul, Nat.reduceSub, Nat.reduceLT, Nat.reduceLeDiff, if_true, if_false] <;> rfl) (TmL.clean (e_A4vw_clean _))) rfl List.not_mem_nil (by simp only [upd_get, Nat.reduceEqDiff, reduceIte, Nat.reduceAdd, Nat.reduceMul, Nat.reduceSub, Nat.reduceLT, Nat.reduceLeDiff, if_true, if_false] <;> rfl) (TmL.clean (e_A16vu_clean _))) rfl List.not_mem_nil (by simp only [upd_get, Nat.reduceEqDiff, reduceIte, Nat.reduceAdd, Nat.reduceMul, Nat.reduceSub, Nat.reduceLT, Nat.reduceLeDiff, if_true, if_false] <;> rfl) (TmL.clean (e_A16vu_clean _))) (tmAllU 6 (tmAllU 5 (tmAllU 4 (tmAllU 3 (tmAllU 2 (tmAllU 1 tmAll0 (Tm.ptr rfl)) (Tm.ptr rfl)) (Tm.ptr rfl)) (Tm.v _)) (Tm.v _)) (Tm.v _)))⟩
       ·
        have hl8 := cF hl8 h9
        refine awp_exit ?_
        refine lq_e ?_
        refine bq_e ?_
        refine sq_n ?_
        obtain rfl := someInj hl8
        exact ⟨_, rfl, (Wk.canonD [] [] [some 0, some 1, some 2] rfl trivial rfl (tmOU 2 (tmOU 1 (tmOU 0 tmO0 rfl List.not_mem_nil (by simp only [upd_get, Nat.reduceEqDiff, reduceIte, Nat.reduceAdd, Nat.reduceMul, Nat.reduceSub, Nat.reduceLT, Nat.reduceLeDiff, if_true, if_false] <;> rfl) (TmL.clean (e_A4vw_clean _))) rfl List.not_mem_nil (by simp only [upd_get, Nat.reduceEqDiff, reduceIte, Nat.reduceAdd, Nat.reduceMul, Nat.reduceSub, Nat.reduceLT, Nat.reduceLeDiff, if_true, if_false] <;> rfl) (TmL.clean (e_A16vu_clean _))) rfl List.not_mem_nil (by simp only [upd_get, Nat.reduceEqDiff, reduceIte, Nat.reduceAdd, Nat.reduceMul, Nat.reduceSub, Nat.reduceLT, Nat.reduceLeDiff, if_true, if_false] <;> rfl) (TmL.clean (e_A16vu_clean _))) (tmAllU 4 (tmAllU 3 (tmAllU 2 (tmAllU 1 tmAll0 (Tm.ptr rfl)) (Tm.ptr rfl)) (Tm.ptr rfl)) (Tm.v _)))⟩
     ·
      rintro _ rfl
      clear hi6
      unfold hotspotref21_Join_S4
      refine bq_n ?_
      refine sq_n ?_
      obtain rfl := someInj hi5
      exact ⟨_, rfl, (Wk.canonD [] [] [some 0, some 1, some 2] rfl trivial rfl (tmOU 2 (tmOU 1 (tmOU 0 tmO0 rfl List.not_mem_nil (by simp only [upd_get, Nat.reduceEqDiff, reduceIte, Nat.reduceAdd, Nat.reduceMul, Nat.reduceSub, Nat.reduceLT, Nat.reduceLeDiff, if_true, if_false] <;> rfl) (TmL.clean (e_A4vw_clean _))) rfl List.not_mem_nil (by simp only [upd_get, Nat.reduceEqDiff, reduceIte, Nat.reduceAdd, Nat.reduceMul, Nat.reduceSub, Nat.reduceLT, Nat.reduceLeDiff, if_true, if_false] <;> rfl) (TmL.clean (e_A16vu_clean _))) rfl List.not_mem_nil (by simp only [upd_get, Nat.reduceEqDiff, reduceIte, Nat.reduceAdd, Nat.reduceMul, Nat.reduceSub, Nat.reduceLT, Nat.reduceLeDiff, if_true, if_false] <;> rfl) (TmL.clean (e_A16vu_clean _))) (tmAllU 4 (tmAllU 3 (tmAllU 2 (tmAllU 1 tmAll0 (Tm.ptr rfl)) (Tm.ptr rfl)) (Tm.ptr rfl)) (Tm.v _)))⟩
    ·
     rintro _ rfl
     clear hi5
     unfold hotspotref21_Join_S3
     refine awp_nr1 [1,2,3,4] (fun _ => rfl) fun tz => ?_
     refine awp_reg1 fun KK hKK => ?_
     refine xw_id ?_
     try simp only [go_sem, Nat.reduceEqDiff, reduceIte, Nat.reduceAdd, Nat.reduceMul, Nat.reduceSub, Nat.reduceLT, Nat.reduceLeDiff]
     refine hKK _ ?_; clear hKK KK
     refine lq_n ?_
     exact ⟨n2, (d73, IntKind.wrap .i64 (d72.2 + 1)), rfl, hl3, (Wk.canonD [] [] [some 0, some 1, some 2] rfl trivial rfl (tmOU 2 (tmOU 1 (tmOU 0 tmO0 rfl List.not_mem_nil (by simp only [upd_get, Nat.reduceEqDiff, reduceIte, Nat.reduceAdd, Nat.reduceMul, Nat.reduceSub, Nat.reduceLT, Nat.reduceLeDiff, if_true, if_false] <;> rfl) (TmL.clean (e_A4vw_clean _))) rfl List.not_mem_nil (by simp only [upd_get, Nat.reduceEqDiff, reduceIte, Nat.reduceAdd, Nat.reduceMul, Nat.reduceSub, Nat.reduceLT, Nat.reduceLeDiff, if_true, if_false] <;> rfl) (TmL.clean (e_A16vu_clean _))) rfl List.not_mem_nil (by simp only [upd_get, Nat.reduceEqDiff, reduceIte, Nat.reduceAdd, Nat.reduceMul, Nat.reduceSub, Nat.reduceLT, Nat.reduceLeDiff, if_true, if_false] <;> rfl) (TmL.clean (e_A16vu_clean _))) (tmAllU 4 (tmAllU 3 (tmAllU 2 (tmAllU 1 tmAll0 (Tm.ptr rfl)) (Tm.ptr rfl)) (Tm.ptr rfl)) (Tm.v _)))⟩
   ·
    have hl3 := cF hl3 h4
    refine awp_exit ?_
    refine lq_e ?_
    refine bq_e ?_
    refine sq_n ?_
    obtain rfl := someInj hl3
    exact ⟨_, rfl, (Wk.canonD [] [] [some 1, some 2] rfl trivial rfl (tmOU 1 (tmOU 0 tmO0 rfl List.not_mem_nil (by simp only [upd_get, Nat.reduceEqDiff, reduceIte, Nat.reduceAdd, Nat.reduceMul, Nat.reduceSub, Nat.reduceLT, Nat.reduceLeDiff, if_true, if_false] <;> rfl) (TmL.clean (e_A16vu_clean _))) rfl List.not_mem_nil (by simp only [upd_get, Nat.reduceEqDiff, reduceIte, Nat.reduceAdd, Nat.reduceMul, Nat.reduceSub, Nat.reduceLT, Nat.reduceLeDiff, if_true, if_false] <;> rfl) (TmL.clean (e_A16vu_clean _))) (tmAllU 3 (tmAllU 2 tmAll0 (Tm.ptr rfl)) (Tm.ptr rfl)))⟩
 ·
  rintro _ rfl
  clear hi1
  unfold hotspotref21_Join_S0
  refine awp_nr [2,3] (fun _ => rfl) fun tz => ?_
  refine awp_regW fun KK hKK => ?_
  refine xw_id ?_
  try simp only [go_sem, Nat.reduceEqDiff, reduceIte, Nat.reduceAdd, Nat.reduceMul, Nat.reduceSub, Nat.reduceLT, Nat.reduceLeDiff]
  refine hKK _ _ (Wk.refl _ _ _) ?_; clear hKK KK
  refine awp_ret1 ?_
  obtain rfl := someInj h0
  refine endW_i ?_
  refine end_ret0 rs88 (by simp only [go_sem, resV, resAll, resOf, packR, Nat.reduceEqDiff, reduceIte, Nat.reduceAdd, Nat.reduceMul, Nat.reduceSub, Nat.reduceLT, Nat.reduceLeDiff]; rfl) ?_
  try simp only [go_sem, Nat.reduceEqDiff, reduceIte, Nat.reduceAdd, Nat.reduceMul, Nat.reduceSub, Nat.reduceLT, Nat.reduceLeDiff, fz, nilS, packR, List.take_nil, List.take_length, List.length_map, List.length_append, cond_true, cond_false, Nat.ble_eq, ble_self]
  all_goals first | rfl | (simp only [go_sem, Nat.reduceEqDiff, reduceIte, Nat.reduceAdd, Nat.reduceMul, Nat.reduceSub, Nat.reduceLT, Nat.reduceLeDiff, fz, nilS, packR, List.take_nil, List.take_length, List.length_map, List.length_append, cond_true, cond_false, Nat.ble_eq, ble_self, List.map_append] <;> rfl)

end Go.AX.Z.TW

/-! (TWW hotspotref21 Encrypt) -/

set_option linter.unusedSimpArgs false
set_option linter.unusedVariables false
set_option maxHeartbeats 4000000
set_option maxRecDepth 20000
namespace Go.AX.Z.TW
open Go.AX Go.Proofs
attribute [local irreducible] awp xw xop xcall gsp ob xd xdop xcallD seqQ loopQ blkQ endQ

def hotspotref21_Encrypt_S0 (a1 : A16vu) (x51 : A36vw) : AS :=
 { objs := (upd (upd (upd (fun _ => .dead) 0 (.live (e_A16vu a1))) 1 (.live (e_A16vu A16vu.z))) 2 (.live (e_A36vw x51))), next := 3, tmps := (upd (upd (upd (fun _ => .unk) 3 (.ptr 0 0)) 4 (.ptr 1 0)) 5 (.ptr 2 0)) }

def hotspotref21_Encrypt_S1 (x51 : A36vw) (d53 : A4vw) : AS :=
 { objs := (upd (upd (upd (fun _ => .dead) 0 (.live (e_A16vu A16vu.z))) 1 (.live (e_A36vw x51))) 2 (.live (e_A4vw d53))), next := 3, tmps := (upd (upd (upd (fun _ => .unk) 4 (.ptr 0 0)) 5 (.ptr 1 0)) 6 (.ptr 2 0)) }

def hotspotref21_Encrypt_S2 (x51 : A36vw) (d54 : (A4vw × Int)) : AS :=
 { objs := (upd (upd (upd (fun _ => .dead) 0 (.live (e_A16vu A16vu.z))) 1 (.live (e_A36vw x51))) 2 (.live (e_A4vw d54.1))), next := 3, tmps := (upd (upd (upd (upd (fun _ => .unk) 4 (.ptr 0 0)) 5 (.ptr 1 0)) 6 (.ptr 2 0)) 7 (vi d54.2)) }

def hotspotref21_Encrypt_S4 (d57 : A4vw) : AS :=
 { objs := (upd (upd (fun _ => .dead) 0 (.live (e_A16vu A16vu.z))) 1 (.live (e_A4vw d57))), next := 2, tmps := (upd (upd (fun _ => .unk) 4 (.ptr 0 0)) 6 (.ptr 1 0)) }

def hotspotref21_Encrypt_S5 (x51 : A36vw) (d58 : (A4vw × Int)) : AS :=
 { objs := (upd (upd (upd (fun _ => .dead) 0 (.live (e_A16vu A16vu.z))) 1 (.live (e_A36vw x51))) 2 (.live (e_A4vw d58.1))), next := 3, tmps := (upd (upd (upd (upd (fun _ => .unk) 4 (.ptr 0 0)) 5 (.ptr 1 0)) 6 (.ptr 2 0)) 8 (vi d58.2)) }

theorem hotspotref21_Encrypt_p (a0 : A16vu) (a1 : A16vu) {r : A16vu} (h0 : hotspotref21_Encrypt a0 a1 = some r) : SndP K 76 [(.agg (e_A16vu a0)), (.agg (e_A16vu a1))] (.agg (e_A16vu r)) := by
 refine SndP.of_walkW hC (Clean.agg (e_A16vu_clean _)) (clean_cons (Clean.agg (e_A16vu_clean _)) (clean_cons (Clean.agg (e_A16vu_clean _)) clean_nil)) (show K.P.funcs[76]? = some Try.f76 from Try.func76) rfl rfl (by decide +kernel) (Nat.le_of_ble_eq_true rfl) ?_
 unfold hotspotref21_Encrypt at h0
 refine awp_nr [0,1] (fun _ => rfl) fun tz => ?_
 refine awp_regW fun KK hKK => ?_
 refine xw_id ?_
 try simp only [go_sem, ↓iop_and, ↓iop_or, ↓iop_xor, ↓iop_andn, Nat.reduceEqDiff, reduceIte, Nat.reduceAdd, Nat.reduceMul, Nat.reduceSub, Nat.reduceLT, Nat.reduceLeDiff]
 refine hKK _ _ (Wk.refl _ _ _) ?_; clear hKK KK
 refine awp_nr [2,3,4] (fun _ => rfl) fun tz => ?_
 refine awp_regW fun KK hKK => ?_
 refine xw_id ?_
 obtain ⟨x51, bx51, h0⟩ := bnd h0
 try simp only [go_sem, ↓iop_and, ↓iop_or, ↓iop_xor, ↓iop_andn, Nat.reduceEqDiff, reduceIte, Nat.reduceAdd, Nat.reduceMul, Nat.reduceSub, Nat.reduceLT, Nat.reduceLeDiff]
 refine xcall_p (hotspotref21_Schedule_p a0 bx51) ?_; try dsimp only
 try refine xw_id ?_
 try simp only [go_sem, ↓iop_and, ↓iop_or, ↓iop_xor, ↓iop_andn, Nat.reduceEqDiff, reduceIte, Nat.reduceAdd, Nat.reduceMul, Nat.reduceSub, Nat.reduceLT, Nat.reduceLeDiff]
 refine hKK _ (hotspotref21_Encrypt_S0 a1 x51) (Wk.canonD [] [] [some 1, some 2, some 5] rfl trivial rfl (tmOU 2 (tmOU 1 (tmOU 0 tmO0 rfl List.not_mem_nil (by simp only [upd_get, ↓iop_and, Nat.reduceEqDiff, reduceIte, if_true, if_false] <;> rfl) (TmL.clean (e_A16vu_clean _))) rfl List.not_mem_nil (by simp only [upd_get, ↓iop_and, Nat.reduceEqDiff, reduceIte, if_true, if_false] <;> rfl) (TmL.clean (e_A16vu_clean _))) rfl List.not_mem_nil (by simp only [upd_get, ↓iop_and, Nat.reduceEqDiff, reduceIte, if_true, if_false] <;> rfl) (TmL.clean (e_A36vw_clean _))) (tmAllU 5 (tmAllU 4 (tmAllU 3 tmAll0 (Tm.ptr rfl)) (Tm.ptr rfl)) (Tm.ptr rfl))) ?_; clear hKK KK
 unfold hotspotref21_Encrypt_S0
 refine awp_nr [3,4,5] (fun _ => rfl) fun tz => ?_
 refine awp_regW fun KK hKK => ?_
 refine xw_id ?_
 obtain ⟨x52, bx52, h0⟩ := bnd h0
 try simp only [go_sem, ↓iop_and, ↓iop_or, ↓iop_xor, ↓iop_andn, Nat.reduceEqDiff, reduceIte, Nat.reduceAdd, Nat.reduceMul, Nat.reduceSub, Nat.reduceLT, Nat.reduceLeDiff]
 refine xcall_p (hotspotref21_Words_p a1 bx52) ?_; try dsimp only
 try refine xw_id ?_
 try simp only [go_sem, ↓iop_and, ↓iop_or, ↓iop_xor, ↓iop_andn, Nat.reduceEqDiff, reduceIte, Nat.reduceAdd, Nat.reduceMul, Nat.reduceSub, Nat.reduceLT, Nat.reduceLeDiff]
 refine hKK _ _ (Wk.refl _ _ _) ?_; clear hKK KK
 refine awp_assoc ?_
 refine awp_nr [4,5,6] (fun _ => rfl) fun tz => ?_
 refine awp_regW fun KK hKK => ?_
 refine xw_id ?_
 try simp only [go_sem, ↓iop_and, ↓iop_or, ↓iop_xor, ↓iop_andn, Nat.reduceEqDiff, reduceIte, Nat.reduceAdd, Nat.reduceMul, Nat.reduceSub, Nat.reduceLT, Nat.reduceLeDiff]
 refine hKK _ _ (Wk.refl _ _ _) ?_; clear hKK KK
 obtain ⟨d53, hi1, h0⟩ := bnd h0
 refine awp_cut (fun z => d53 = z) (fun d53 : A4vw => hotspotref21_Encrypt_S1 x51 d53) ?_ ?_
 ·
  refine awp_block1 ?_
  refine awp_loopS (fun n (d54 : (A4vw × Int)) => hotspotref21_Encrypt_L3 a0 a1 x51 n d54 = some d53) (fun d54 : (A4vw × Int) => hotspotref21_Encrypt_S2 x51 d54) big (x52, 0) (Wk.canonD [] [] [some 1, some 2, some 5] rfl trivial rfl (tmOU 2 (tmOU 1 (tmOU 0 tmO0 rfl List.not_mem_nil (by simp only [upd_get, ↓iop_and, Nat.reduceEqDiff, reduceIte, if_true, if_false] <;> rfl) (TmL.clean (e_A16vu_clean _))) rfl List.not_mem_nil (by simp only [upd_get, ↓iop_and, Nat.reduceEqDiff, reduceIte, if_true, if_false] <;> rfl) (TmL.clean (e_A36vw_clean _))) rfl List.not_mem_nil (by simp only [upd_get, ↓iop_and, Nat.reduceEqDiff, reduceIte, if_true, if_false] <;> rfl) (TmL.clean (e_A4vw_clean _))) (tmAllU 7 (tmAllU 6 (tmAllU 5 (tmAllU 4 tmAll0 (Tm.ptr rfl)) (Tm.ptr rfl)) (Tm.ptr rfl)) (Tm.v _))) hi1 ?_
  clear hi1
  rintro n d54 hl3
  rcases n with _ | n2
  ·
   (rw [hotspotref21_Encrypt_L3] at hl3; cases hl3)
  ·
   rw [hotspotref21_Encrypt_L3] at hl3
   unfold hotspotref21_Encrypt_S2
   refine awp_assoc ?_
   refine awp_nr [4,5,6,7] (fun _ => rfl) fun tz => ?_
   refine awp_regW fun KK hKK => ?_
   refine xw_id ?_
   try simp only [go_sem, ↓iop_and, ↓iop_or, ↓iop_xor, ↓iop_andn, Nat.reduceEqDiff, reduceIte, Nat.reduceAdd, Nat.reduceMul, Nat.reduceSub, Nat.reduceLT, Nat.reduceLeDiff]
   refine hKK _ _ (Wk.refl _ _ _) ?_; clear hKK KK
   refine awp_cond (b := (decide (d54.2 < 4))) rfl (fun h4 => ?_) (fun h4 => ?_)
   ·
    have hl3 := cT hl3 h4
    refine awp_skip ?_
    refine awp_blockW ?_
    refine awp_nr1 [4,5,6,7] (fun _ => rfl) fun tz => ?_
    refine awp_regD1 fun KK hKK all hall => ?_
    refine xd_id ?_
    try simp only [List.toList_toArray, List.map_cons, List.map_nil, List.size_toArray, List.length_cons, List.length_nil, Nat.zero_add]
    try simp only [Nat.reduceAdd]
    obtain ⟨x55, bx55, hl3⟩ := bnd hl3
    obtain ⟨fx55_0, fx55_1, fx55_2, fx55_3⟩ := idxA_some bx55
    have fx55_6 : (e_A4vw d54.1)[(d54.2).toNat]? = some (vw x55) := by show (List.map vw [d54.1.a0, d54.1.a1, d54.1.a2, d54.1.a3])[(d54.2).toNat]? = _; rw [List.getElem?_map, fx55_2]; rfl
    obtain ⟨x56, bx56, hl3⟩ := bnd hl3
    obtain ⟨fx56_0, fx56_1, fx56_2, fx56_3⟩ := idxA_some bx56
    have fx56_6 : (e_A36vw x51)[(d54.2).toNat]? = some (vw x56) := by show (List.map vw [x51.a0, x51.a1, x51.a2, x51.a3, x51.a4, x51.a5, x51.a6, x51.a7, x51.a8, x51.a9, x51.a10, x51.a11, x51.a12, x51.a13, x51.a14, x51.a15, x51.a16, x51.a17, x51.a18, x51.a19, x51.a20, x51.a21, x51.a22, x51.a23, x51.a24, x51.a25, x51.a26, x51.a27, x51.a28, x51.a29, x51.a30, x51.a31, x51.a32, x51.a33, x51.a34, x51.a35])[(d54.2).toNat]? = _; rw [List.getElem?_map, fx56_2]; rfl
    have gs5b : (d54.2).toNat < 4 := by have h0 := of_eq_true fx55_0; have h1 := of_eq_true fx55_1; omega
    have gs5 : (e_A4vw d54.1).set ((d54.2).toNat) (vw (bxor .u32 x55 x56)) = e_A4vw (d54.1.setA ((d54.2).toNat) (bxor .u32 x55 x56)) := e_A4vw_setA _ _ gs5b
    have gs5l : ((d54.2).toNat + 1 ≤ 4) = True := eq_true (by omega)
    simp only [go_sem, ↓iop_and, ↓iop_or, ↓iop_xor, ↓iop_andn, Nat.reduceEqDiff, reduceIte, Nat.reduceMul, Nat.reduceSub, Nat.reduceLT, Nat.reduceLeDiff, Int.reduceToNat, Int.reduceBEq, Int.reduceBNe, Int.reduceLT, Int.reduceLE, Int.reduceAdd, Int.reduceSub, Int.reduceMul, fx55_0, fx55_1, fx55_6, fx56_0, fx56_1, fx56_6, gs5, gs5l]
    try simp only [Nat.reduceAdd]
    try simp only [go_sem, ↓iop_and, ↓iop_or, ↓iop_xor, ↓iop_andn, Nat.reduceEqDiff, reduceIte, Nat.reduceMul, Nat.reduceSub, Nat.reduceLT, Nat.reduceLeDiff, Int.reduceToNat, Int.reduceBEq, Int.reduceBNe, Int.reduceLT, Int.reduceLE, Int.reduceAdd, Int.reduceSub, Int.reduceMul, fx55_0, fx55_1, fx55_6, fx56_0, fx56_1, fx56_6, gs5, gs5l]
    try simp only [Nat.reduceAdd]
    try simp only [go_sem, ↓iop_and, ↓iop_or, ↓iop_xor, ↓iop_andn, Nat.reduceEqDiff, reduceIte, Nat.reduceMul, Nat.reduceSub, Nat.reduceLT, Nat.reduceLeDiff, Int.reduceToNat, Int.reduceBEq, Int.reduceBNe, Int.reduceLT, Int.reduceLE, Int.reduceAdd, Int.reduceSub, Int.reduceMul, fx55_0, fx55_1, fx55_6, fx56_0, fx56_1, fx56_6, gs5, gs5l]
    refine And.intro ?_ (hKK _ ?_)
    ·
     subst hall
     clear hKK KK
     first | decide +kernel | (simp [printsOk, apartP, clash, meet]; done) | (simp [printsOk, apartP, clash, meet]; decide +kernel) | (simp [printsOk, apartP, clash, meet]; repeat (first | exact Or.inr (by decide +kernel) | (refine And.intro (Or.inr (by decide +kernel)) ?_)))
    ·
     clear hKK KK hall all
     refine bq_n ?_
     refine seqW_i ?_
     refine awp_nr1 [4,5,6,7] (fun _ => rfl) fun tz => ?_
     refine awp_reg1 fun KK hKK => ?_
     refine xw_id ?_
     try simp only [go_sem, ↓iop_and, ↓iop_or, ↓iop_xor, ↓iop_andn, Nat.reduceEqDiff, reduceIte, Nat.reduceAdd, Nat.reduceMul, Nat.reduceSub, Nat.reduceLT, Nat.reduceLeDiff, fx55_0, fx55_1, fx55_6, fx56_0, fx56_1, fx56_6]
     refine hKK _ ?_; clear hKK KK
     refine lq_n ?_
     exact ⟨n2, ((d54.1.setA ((d54.2).toNat) (bxor .u32 x55 x56)), IntKind.wrap .i64 (d54.2 + 1)), rfl, hl3, (Wk.canonD [] [] [some 0, some 1, some 2] rfl trivial rfl (tmOU 2 (tmOU 1 (tmOU 0 tmO0 rfl List.not_mem_nil (by simp only [upd_get, ↓iop_and, Nat.reduceEqDiff, reduceIte, if_true, if_false] <;> rfl) (TmL.clean (e_A16vu_clean _))) rfl List.not_mem_nil (by simp only [upd_get, ↓iop_and, Nat.reduceEqDiff, reduceIte, if_true, if_false] <;> rfl) (TmL.clean (e_A36vw_clean _))) rfl List.not_mem_nil (by simp only [upd_get, ↓iop_and, Nat.reduceEqDiff, reduceIte, if_true, if_false] <;> rfl) (TmL.clean (e_A4vw_clean _))) (tmAllU 7 (tmAllU 6 (tmAllU 5 (tmAllU 4 tmAll0 (Tm.ptr rfl)) (Tm.ptr rfl)) (Tm.ptr rfl)) (Tm.v _)))⟩
   ·
    have hl3 := cF hl3 h4
    refine awp_exit ?_
    refine lq_e ?_
    refine bq_e ?_
    refine sq_n ?_
    obtain rfl := someInj hl3
    exact ⟨_, rfl, (Wk.canonD [] [] [some 0, some 1, some 2] rfl trivial rfl (tmOU 2 (tmOU 1 (tmOU 0 tmO0 rfl List.not_mem_nil (by simp only [upd_get, ↓iop_and, Nat.reduceEqDiff, reduceIte, if_true, if_false] <;> rfl) (TmL.clean (e_A16vu_clean _))) rfl List.not_mem_nil (by simp only [upd_get, ↓iop_and, Nat.reduceEqDiff, reduceIte, if_true, if_false] <;> rfl) (TmL.clean (e_A36vw_clean _))) rfl List.not_mem_nil (by simp only [upd_get, ↓iop_and, Nat.reduceEqDiff, reduceIte, if_true, if_false] <;> rfl) (TmL.clean (e_A4vw_clean _))) (tmAllU 6 (tmAllU 5 (tmAllU 4 tmAll0 (Tm.ptr rfl)) (Tm.ptr rfl)) (Tm.ptr rfl)))⟩
 ·
  rintro _ rfl
  clear hi1
  unfold hotspotref21_Encrypt_S1
  refine awp_assoc ?_
  refine awp_nr [4,5,6] (fun _ => rfl) fun tz => ?_
  refine awp_regW fun KK hKK => ?_
  refine xw_id ?_
  try simp only [go_sem, ↓iop_and, ↓iop_or, ↓iop_xor, ↓iop_andn, Nat.reduceEqDiff, reduceIte, Nat.reduceAdd, Nat.reduceMul, Nat.reduceSub, Nat.reduceLT, Nat.reduceLeDiff]
  refine hKK _ _ (Wk.refl _ _ _) ?_; clear hKK KK
  obtain ⟨d57, hi6, h0⟩ := bnd h0
  refine awp_cut (fun z => d57 = z) (fun d57 : A4vw => hotspotref21_Encrypt_S4 d57) ?_ ?_
  ·
   refine awp_block1 ?_
   refine awp_loopS (fun n (d58 : (A4vw × Int)) => hotspotref21_Encrypt_L6 x51 a0 a1 n d58 = some d57) (fun d58 : (A4vw × Int) => hotspotref21_Encrypt_S5 x51 d58) big (d53, 0) (Wk.canonD [] [] [some 0, some 1, some 2] rfl trivial rfl (tmOU 2 (tmOU 1 (tmOU 0 tmO0 rfl List.not_mem_nil (by simp only [upd_get, ↓iop_and, Nat.reduceEqDiff, reduceIte, if_true, if_false] <;> rfl) (TmL.clean (e_A16vu_clean _))) rfl List.not_mem_nil (by simp only [upd_get, ↓iop_and, Nat.reduceEqDiff, reduceIte, if_true, if_false] <;> rfl) (TmL.clean (e_A36vw_clean _))) rfl List.not_mem_nil (by simp only [upd_get, ↓iop_and, Nat.reduceEqDiff, reduceIte, if_true, if_false] <;> rfl) (TmL.clean (e_A4vw_clean _))) (tmAllU 8 (tmAllU 6 (tmAllU 5 (tmAllU 4 tmAll0 (Tm.ptr rfl)) (Tm.ptr rfl)) (Tm.ptr rfl)) (Tm.v _))) hi6 ?_
   clear hi6
   rintro n d58 hl8
   rcases n with _ | n7
   ·
    (rw [hotspotref21_Encrypt_L6] at hl8; cases hl8)
   ·
    rw [hotspotref21_Encrypt_L6] at hl8
    unfold hotspotref21_Encrypt_S5
    refine awp_assoc ?_
    refine awp_nr [4,5,6,8] (fun _ => rfl) fun tz => ?_
    refine awp_regW fun KK hKK => ?_
    refine xw_id ?_
    try simp only [go_sem, ↓iop_and, ↓iop_or, ↓iop_xor, ↓iop_andn, Nat.reduceEqDiff, reduceIte, Nat.reduceAdd, Nat.reduceMul, Nat.reduceSub, Nat.reduceLT, Nat.reduceLeDiff]
    refine hKK _ _ (Wk.refl _ _ _) ?_; clear hKK KK
    refine awp_cond (b := (decide (d58.2 < 16))) rfl (fun h9 => ?_) (fun h9 => ?_)
    ·
     have hl8 := cT hl8 h9
     refine awp_skip ?_
     refine awp_blockW ?_
     refine awp_nr1 [4,5,6,8] (fun _ => rfl) fun tz => ?_
     refine awp_regD1 fun KK hKK all hall => ?_
     refine xd_id ?_
     try simp only [List.toList_toArray, List.map_cons, List.map_nil, List.size_toArray, List.length_cons, List.length_nil, Nat.zero_add]
     try simp only [Nat.reduceAdd]
     obtain ⟨x59, bx59, hl8⟩ := bnd hl8
     obtain ⟨fx59_0, fx59_1, fx59_2, fx59_3⟩ := idxA_some bx59
     have fx59_6 : (e_A36vw x51)[(IntKind.wrap .i64 (4 + (IntKind.wrap .i64 (2 * d58.2)))).toNat]? = some (vw x59) := by show (List.map vw [x51.a0, x51.a1, x51.a2, x51.a3, x51.a4, x51.a5, x51.a6, x51.a7, x51.a8, x51.a9, x51.a10, x51.a11, x51.a12, x51.a13, x51.a14, x51.a15, x51.a16, x51.a17, x51.a18, x51.a19, x51.a20, x51.a21, x51.a22, x51.a23, x51.a24, x51.a25, x51.a26, x51.a27, x51.a28, x51.a29, x51.a30, x51.a31, x51.a32, x51.a33, x51.a34, x51.a35])[(IntKind.wrap .i64 (4 + (IntKind.wrap .i64 (2 * d58.2)))).toNat]? = _; rw [List.getElem?_map, fx59_2]; rfl
     obtain ⟨x60, bx60, hl8⟩ := bnd hl8
     obtain ⟨fx60_0, fx60_1, fx60_2, fx60_3⟩ := idxA_some bx60
     have fx60_6 : (e_A36vw x51)[(IntKind.wrap .i64 (5 + (IntKind.wrap .i64 (2 * d58.2)))).toNat]? = some (vw x60) := by show (List.map vw [x51.a0, x51.a1, x51.a2, x51.a3, x51.a4, x51.a5, x51.a6, x51.a7, x51.a8, x51.a9, x51.a10, x51.a11, x51.a12, x51.a13, x51.a14, x51.a15, x51.a16, x51.a17, x51.a18, x51.a19, x51.a20, x51.a21, x51.a22, x51.a23, x51.a24, x51.a25, x51.a26, x51.a27, x51.a28, x51.a29, x51.a30, x51.a31, x51.a32, x51.a33, x51.a34, x51.a35])[(IntKind.wrap .i64 (5 + (IntKind.wrap .i64 (2 * d58.2)))).toNat]? = _; rw [List.getElem?_map, fx60_2]; rfl
     obtain ⟨x61, bx61, hl8⟩ := bnd hl8
     simp only [go_sem, ↓iop_and, ↓iop_or, ↓iop_xor, ↓iop_andn, Nat.reduceEqDiff, reduceIte, Nat.reduceMul, Nat.reduceSub, Nat.reduceLT, Nat.reduceLeDiff, Int.reduceToNat, Int.reduceBEq, Int.reduceBNe, Int.reduceLT, Int.reduceLE, Int.reduceAdd, Int.reduceSub, Int.reduceMul, fx59_0, fx59_1, fx59_6, fx60_0, fx60_1, fx60_6]
     try simp only [Nat.reduceAdd]
     try simp only [go_sem, ↓iop_and, ↓iop_or, ↓iop_xor, ↓iop_andn, Nat.reduceEqDiff, reduceIte, Nat.reduceMul, Nat.reduceSub, Nat.reduceLT, Nat.reduceLeDiff, Int.reduceToNat, Int.reduceBEq, Int.reduceBNe, Int.reduceLT, Int.reduceLE, Int.reduceAdd, Int.reduceSub, Int.reduceMul, fx59_0, fx59_1, fx59_6, fx60_0, fx60_1, fx60_6]
     try simp only [Nat.reduceAdd]
     try simp only [go_sem, ↓iop_and, ↓iop_or, ↓iop_xor, ↓iop_andn, Nat.reduceEqDiff, reduceIte, Nat.reduceMul, Nat.reduceSub, Nat.reduceLT, Nat.reduceLeDiff, Int.reduceToNat, Int.reduceBEq, Int.reduceBNe, Int.reduceLT, Int.reduceLE, Int.reduceAdd, Int.reduceSub, Int.reduceMul, fx59_0, fx59_1, fx59_6, fx60_0, fx60_1, fx60_6]
     refine xcallD_p (hotspotref21_Round_p d58.1 x59 x60 bx61) ?_; try dsimp only
     try refine xd_id ?_
     simp only [go_sem, ↓iop_and, ↓iop_or, ↓iop_xor, ↓iop_andn, Nat.reduceEqDiff, reduceIte, Nat.reduceMul, Nat.reduceSub, Nat.reduceLT, Nat.reduceLeDiff, Int.reduceToNat, Int.reduceBEq, Int.reduceBNe, Int.reduceLT, Int.reduceLE, Int.reduceAdd, Int.reduceSub, Int.reduceMul, fx59_0, fx59_1, fx59_6, fx60_0, fx60_1, fx60_6]
     try simp only [Nat.reduceAdd]
     try simp only [go_sem, ↓iop_and, ↓iop_or, ↓iop_xor, ↓iop_andn, Nat.reduceEqDiff, reduceIte, Nat.reduceMul, Nat.reduceSub, Nat.reduceLT, Nat.reduceLeDiff, Int.reduceToNat, Int.reduceBEq, Int.reduceBNe, Int.reduceLT, Int.reduceLE, Int.reduceAdd, Int.reduceSub, Int.reduceMul, fx59_0, fx59_1, fx59_6, fx60_0, fx60_1, fx60_6]
     try simp only [Nat.reduceAdd]
     try simp only [go_sem, ↓iop_and, ↓iop_or, ↓iop_xor, ↓iop_andn, Nat.reduceEqDiff, reduceIte, Nat.reduceMul, Nat.reduceSub, Nat.reduceLT, Nat.reduceLeDiff, Int.reduceToNat, Int.reduceBEq, Int.reduceBNe, Int.reduceLT, Int.reduceLE, Int.reduceAdd, Int.reduceSub, Int.reduceMul, fx59_0, fx59_1, fx59_6, fx60_0, fx60_1, fx60_6]
     refine And.intro ?_ (hKK _ ?_)
     ·
      subst hall
      clear hKK KK
      first | decide +kernel | (simp [printsOk, apartP, clash, meet]; done) | (simp [printsOk, apartP, clash, meet]; decide +kernel) | (simp [printsOk, apartP, clash, meet]; repeat (first | exact Or.inr (by decide +kernel) | (refine And.intro (Or.inr (by decide +kernel)) ?_)))
     ·
      clear hKK KK hall all
      refine bq_n ?_
      refine seqW_i ?_
      refine awp_nr1 [4,5,6,8] (fun _ => rfl) fun tz => ?_
      refine awp_reg1 fun KK hKK => ?_
      refine xw_id ?_
      try simp only [go_sem, ↓iop_and, ↓iop_or, ↓iop_xor, ↓iop_andn, Nat.reduceEqDiff, reduceIte, Nat.reduceAdd, Nat.reduceMul, Nat.reduceSub, Nat.reduceLT, Nat.reduceLeDiff, fx59_0, fx59_1, fx59_6, fx60_0, fx60_1, fx60_6]
      refine hKK _ ?_; clear hKK KK
      refine lq_n ?_
      exact ⟨n7, (x61, IntKind.wrap .i64 (d58.2 + 1)), rfl, hl8, (Wk.canonD [] [] [some 0, some 1, some 2] rfl trivial rfl (tmOU 2 (tmOU 1 (tmOU 0 tmO0 rfl List.not_mem_nil (by simp only [upd_get, ↓iop_and, Nat.reduceEqDiff, reduceIte, if_true, if_false] <;> rfl) (TmL.clean (e_A16vu_clean _))) rfl List.not_mem_nil (by simp only [upd_get, ↓iop_and, Nat.reduceEqDiff, reduceIte, if_true, if_false] <;> rfl) (TmL.clean (e_A36vw_clean _))) rfl List.not_mem_nil (by simp only [upd_get, ↓iop_and, Nat.reduceEqDiff, reduceIte, if_true, if_false] <;> rfl) (TmL.clean (e_A4vw_clean _))) (tmAllU 8 (tmAllU 6 (tmAllU 5 (tmAllU 4 tmAll0 (Tm.ptr rfl)) (Tm.ptr rfl)) (Tm.ptr rfl)) (Tm.v _)))⟩
    ·
     have hl8 := cF hl8 h9
     refine awp_exit ?_
     refine lq_e ?_
     refine bq_e ?_
     refine sq_n ?_
     obtain rfl := someInj hl8
     exact ⟨_, rfl, (Wk.canonD [] [] [some 0, some 2] rfl trivial rfl (tmOU 1 (tmOU 0 tmO0 rfl List.not_mem_nil (by simp only [upd_get, ↓iop_and, Nat.reduceEqDiff, reduceIte, if_true, if_false] <;> rfl) (TmL.clean (e_A16vu_clean _))) rfl List.not_mem_nil (by simp only [upd_get, ↓iop_and, Nat.reduceEqDiff, reduceIte, if_true, if_false] <;> rfl) (TmL.clean (e_A4vw_clean _))) (tmAllU 6 (tmAllU 4 tmAll0 (Tm.ptr rfl)) (Tm.ptr rfl)))⟩
  ·
   rintro _ rfl
   clear hi6
   unfold hotspotref21_Encrypt_S4
   refine awp_nr [4,6] (fun _ => rfl) fun tz => ?_
   refine awp_regW fun KK hKK => ?_
   refine xw_id ?_
   obtain ⟨x62, bx62, h0⟩ := bnd h0
   try simp only [go_sem, ↓iop_and, ↓iop_or, ↓iop_xor, ↓iop_andn, Nat.reduceEqDiff, reduceIte, Nat.reduceAdd, Nat.reduceMul, Nat.reduceSub, Nat.reduceLT, Nat.reduceLeDiff]
   refine xcall_p (hotspotref21_Join_p d57 bx62) ?_; try dsimp only
   try refine xw_id ?_
   try simp only [go_sem, ↓iop_and, ↓iop_or, ↓iop_xor, ↓iop_andn, Nat.reduceEqDiff, reduceIte, Nat.reduceAdd, Nat.reduceMul, Nat.reduceSub, Nat.reduceLT, Nat.reduceLeDiff]
   refine hKK _ _ (Wk.refl _ _ _) ?_; clear hKK KK
   refine awp_ret1 ?_
   obtain rfl := someInj h0
   refine endW_i ?_
   refine end_ret0 rs76 (by simp only [go_sem, resV, resAll, resOf, packR, ↓iop_and, ↓iop_or, ↓iop_xor, ↓iop_andn, Nat.reduceEqDiff, reduceIte, Nat.reduceAdd, Nat.reduceMul, Nat.reduceSub, Nat.reduceLT, Nat.reduceLeDiff]; rfl) ?_
   try simp only [go_sem, ↓iop_and, ↓iop_or, ↓iop_xor, ↓iop_andn, Nat.reduceEqDiff, reduceIte, Nat.reduceAdd, Nat.reduceMul, Nat.reduceSub, Nat.reduceLT, Nat.reduceLeDiff, fz, nilS, packR, List.take_nil, List.take_length, List.length_map, List.length_append, cond_true, cond_false, Nat.ble_eq, ble_self]
   all_goals first | rfl | (simp only [go_sem, ↓iop_and, ↓iop_or, ↓iop_xor, ↓iop_andn, Nat.reduceEqDiff, reduceIte, Nat.reduceAdd, Nat.reduceMul, Nat.reduceSub, Nat.reduceLT, Nat.reduceLeDiff, fz, nilS, packR, List.take_nil, List.take_length, List.length_map, List.length_append, cond_true, cond_false, Nat.ble_eq, ble_self, List.map_append] <;> rfl)

end Go.AX.Z.TW

/-! (TWW hotspotref23 Mac) -/

set_option linter.unusedSimpArgs false
set_option linter.unusedVariables false
set_option maxHeartbeats 4000000
set_option maxRecDepth 20000
namespace Go.AX.Z.TW
open Go.AX Go.Proofs
attribute [local irreducible] awp xw xop xcall gsp ob xd xdop xcallD seqQ loopQ blkQ endQ

def hotspotref23_Mac_S0 (a0 : A16vu) (a1 : (List Int)) : AS :=
 { objs := (upd (upd (upd (fun _ => .dead) 0 (.live (e_A16vu a0))) 1 (.live (e_A16vu A16vu.z))) 2 (.live (e_A16vu { A16vu.z with a0 := 3 }))), next := 3, tmps := (upd (upd (upd (upd (fun _ => .unk) 1 (.imm (List.map vu a1) a1.length)) 2 (.ptr 0 0)) 4 (.ptr 1 0)) 5 (.ptr 2 0)) }

def hotspotref23_Mac_S1 (a0 : A16vu) (a1 : (List Int)) (d44 : A16vu) : AS :=
 { objs := (upd (upd (upd (fun _ => .dead) 0 (.live (e_A16vu a0))) 1 (.live (e_A16vu A16vu.z))) 2 (.live (e_A16vu d44))), next := 3, tmps := (upd (upd (upd (upd (fun _ => .unk) 1 (.imm (List.map vu a1) a1.length)) 2 (.ptr 0 0)) 4 (.ptr 1 0)) 5 (.ptr 2 0)) }

def hotspotref23_Mac_S2 (a0 : A16vu) (a1 : (List Int)) (d45 : (A16vu × Int × Int)) : AS :=
 { objs := (upd (upd (upd (fun _ => .dead) 0 (.live (e_A16vu a0))) 1 (.live (e_A16vu A16vu.z))) 2 (.live (e_A16vu d45.1))), next := 3, tmps := (upd (upd (upd (upd (upd (upd (fun _ => .unk) 1 (.imm (List.map vu a1) a1.length)) 2 (.ptr 0 0)) 4 (.ptr 1 0)) 5 (.ptr 2 0)) 6 (vi d45.2.1)) 7 (vi d45.2.2)) }

def hotspotref23_Mac_S4 (a0 : A16vu) (d44 : A16vu) (d48 : (List Int)) : AS :=
 { objs := (upd (upd (upd (upd (fun _ => .dead) 0 (.live (e_A16vu a0))) 1 (.live (e_A16vu A16vu.z))) 2 (.live (e_A16vu d44))) 3 (.live (List.map vu d48))), next := 4, tmps := (upd (upd (upd (upd (fun _ => .unk) 2 (.ptr 0 0)) 4 (.ptr 1 0)) 5 (.ptr 2 0)) 8 (.ref 3 0 ((d48).length) 1)) }

def hotspotref23_Mac_S5 (a0 : A16vu) (d44 : A16vu) (d49 : (List Int)) : AS :=
 { objs := (upd (upd (upd (upd (fun _ => .dead) 0 (.live (e_A16vu a0))) 1 (.live (e_A16vu A16vu.z))) 2 (.live (e_A16vu d44))) 3 (.live (List.map vu d49))), next := 4, tmps := (upd (upd (upd (upd (fun _ => .unk) 2 (.ptr 0 0)) 4 (.ptr 1 0)) 5 (.ptr 2 0)) 8 (.ref 3 0 ((d49).length) 1)) }

def hotspotref23_Mac_S7 (d52 : A16vu) : AS :=
 { objs := (upd (upd (fun _ => .dead) 0 (.live (e_A16vu A16vu.z))) 1 (.live (e_A16vu d52))), next := 2, tmps := (upd (upd (fun _ => .unk) 4 (.ptr 0 0)) 5 (.ptr 1 0)) }

def hotspotref23_Mac_S8 (a0 : A16vu) (d48 : (List Int)) (d53 : (A16vu × Int)) : AS :=
 { objs := (upd (upd (upd (upd (fun _ => .dead) 0 (.live (e_A16vu a0))) 1 (.live (e_A16vu A16vu.z))) 2 (.live (e_A16vu d53.1))) 3 (.live (List.map vu d48))), next := 4, tmps := (upd (upd (upd (upd (upd (fun _ => .unk) 2 (.ptr 0 0)) 4 (.ptr 1 0)) 5 (.ptr 2 0)) 8 (.ref 3 0 d48.length 1)) 9 (vi d53.2)) }

def hotspotref23_Mac_S10 (a0 : A16vu) (d48 : (List Int)) (d53 : (A16vu × Int)) (d54 : A16vu) : AS :=
 { objs := (upd (upd (upd (upd (fun _ => .dead) 0 (.live (e_A16vu a0))) 1 (.live (e_A16vu A16vu.z))) 2 (.live (e_A16vu d54))) 3 (.live (List.map vu d48))), next := 4, tmps := (upd (upd (upd (upd (upd (fun _ => .unk) 2 (.ptr 0 0)) 4 (.ptr 1 0)) 5 (.ptr 2 0)) 8 (.ref 3 0 d48.length 1)) 9 (vi d53.2)) }

def hotspotref23_Mac_S11 (a0 : A16vu) (d48 : (List Int)) (d53 : (A16vu × Int)) (d55 : A16vu) : AS :=
 { objs := (upd (upd (upd (upd (fun _ => .dead) 0 (.live (e_A16vu a0))) 1 (.live (e_A16vu A16vu.z))) 2 (.live (e_A16vu d55))) 3 (.live (List.map vu d48))), next := 4, tmps := (upd (upd (upd (upd (upd (fun _ => .unk) 2 (.ptr 0 0)) 4 (.ptr 1 0)) 5 (.ptr 2 0)) 8 (.ref 3 0 d48.length 1)) 9 (vi d53.2)) }

def hotspotref23_Mac_S12 (a0 : A16vu) (d48 : (List Int)) (d53 : (A16vu × Int)) (d56 : (A16vu × Int)) : AS :=
 { objs := (upd (upd (upd (upd (fun _ => .dead) 0 (.live (e_A16vu a0))) 1 (.live (e_A16vu A16vu.z))) 2 (.live (e_A16vu d56.1))) 3 (.live (List.map vu d48))), next := 4, tmps := (upd (upd (upd (upd (upd (upd (fun _ => .unk) 2 (.ptr 0 0)) 4 (.ptr 1 0)) 5 (.ptr 2 0)) 8 (.ref 3 0 d48.length 1)) 9 (vi d53.2)) 10 (vi d56.2)) }

theorem hotspotref23_Mac_p (a0 : A16vu) (a1 : (List Int)) {r : A16vu} (h0 : hotspotref23_Mac a0 a1 = some r) : SndP K 66 [(.agg (e_A16vu a0)), (S_vu a1)] (.agg (e_A16vu r)) := by
 refine SndP.of_walkW hC (Clean.agg (e_A16vu_clean _)) (clean_cons (Clean.agg (e_A16vu_clean _)) (clean_cons (S_vu_clean _) clean_nil)) (show K.P.funcs[66]? = some Try.f66 from Try.func66) rfl rfl (by decide +kernel) (Nat.le_of_ble_eq_true rfl) ?_
 unfold hotspotref23_Mac at h0
 refine awp_nr [0,1] (fun _ => rfl) fun tz => ?_
 refine awp_regW fun KK hKK => ?_
 refine xw_id ?_
 try simp only [go_sem, ↓iop_and, ↓iop_or, ↓iop_xor, ↓iop_andn, Nat.reduceEqDiff, reduceIte, Nat.reduceAdd, Nat.reduceMul, Nat.reduceSub, Nat.reduceLT, Nat.reduceLeDiff]
 refine hKK _ _ (Wk.refl _ _ _) ?_; clear hKK KK
 refine awp_nr [1,2,4] (fun _ => rfl) fun tz => ?_
 refine awp_regW fun KK hKK => ?_
 refine xw_id ?_
 try simp only [go_sem, ↓iop_and, ↓iop_or, ↓iop_xor, ↓iop_andn, Nat.reduceEqDiff, reduceIte, Nat.reduceAdd, Nat.reduceMul, Nat.reduceSub, Nat.reduceLT, Nat.reduceLeDiff]
 refine hKK _ _ (Wk.refl _ _ _) ?_; clear hKK KK
 refine awp_nr [1,2,4,5] (fun _ => rfl) fun tz => ?_
 refine awp_regW fun KK hKK => ?_
 refine xw_id ?_
 try simp only [go_sem, ↓iop_and, ↓iop_or, ↓iop_xor, ↓iop_andn, Nat.reduceEqDiff, reduceIte, Nat.reduceAdd, Nat.reduceMul, Nat.reduceSub, Nat.reduceLT, Nat.reduceLeDiff, Int.reduceToNat, Int.reduceBEq, Int.reduceBNe, Int.reduceLT, Int.reduceLE, Int.reduceAdd, Int.reduceSub, Int.reduceMul, Int.reduceNeg, Int.reduceEq, Int.reduceNe]
 refine hKK _ (hotspotref23_Mac_S0 a0 a1) (Wk.canonD [] [] [some 0, some 1, some 2] rfl trivial rfl (tmOU 2 (tmOU 1 (tmOU 0 tmO0 rfl List.not_mem_nil (by simp only [upd_get, ↓iop_and, ↓iop_or, ↓iop_xor, ↓iop_andn, Nat.reduceEqDiff, reduceIte, Nat.reduceAdd, Nat.reduceMul, Nat.reduceSub, Nat.reduceLT, Nat.reduceLeDiff, if_true, if_false] <;> rfl) (TmL.clean (e_A16vu_clean _))) rfl List.not_mem_nil (by simp only [upd_get, ↓iop_and, ↓iop_or, ↓iop_xor, ↓iop_andn, Nat.reduceEqDiff, reduceIte, Nat.reduceAdd, Nat.reduceMul, Nat.reduceSub, Nat.reduceLT, Nat.reduceLeDiff, if_true, if_false] <;> rfl) (TmL.clean (e_A16vu_clean _))) rfl List.not_mem_nil (by simp only [upd_get, ↓iop_and, ↓iop_or, ↓iop_xor, ↓iop_andn, Nat.reduceEqDiff, reduceIte, Nat.reduceAdd, Nat.reduceMul, Nat.reduceSub, Nat.reduceLT, Nat.reduceLeDiff, if_true, if_false] <;> rfl) (TmL.clean (e_A16vu_clean _))) (tmAllU 5 (tmAllU 4 (tmAllU 2 (tmAllU 1 tmAll0 (Tm.clean (Clean.imm (vu_clean _)))) (Tm.ptr rfl)) (Tm.ptr rfl)) (Tm.ptr rfl))) ?_; clear hKK KK
 unfold hotspotref23_Mac_S0
 refine awp_nr [1,2,4,5] (fun _ => rfl) fun tz => ?_
 refine awp_regW fun KK hKK => ?_
 refine xw_id ?_
 try simp only [go_sem, ↓iop_and, ↓iop_or, ↓iop_xor, ↓iop_andn, Nat.reduceEqDiff, reduceIte, Nat.reduceAdd, Nat.reduceMul, Nat.reduceSub, Nat.reduceLT, Nat.reduceLeDiff, Int.reduceToNat, Int.reduceBEq, Int.reduceBNe, Int.reduceLT, Int.reduceLE, Int.reduceAdd, Int.reduceSub, Int.reduceMul, Int.reduceNeg, Int.reduceEq, Int.reduceNe]
 refine hKK _ _ (Wk.refl _ _ _) ?_; clear hKK KK
 refine awp_assoc ?_
 refine awp_nr [1,2,4,5,6] (fun _ => rfl) fun tz => ?_
 refine awp_regW fun KK hKK => ?_
 refine xw_id ?_
 try simp only [go_sem, ↓iop_and, ↓iop_or, ↓iop_xor, ↓iop_andn, Nat.reduceEqDiff, reduceIte, Nat.reduceAdd, Nat.reduceMul, Nat.reduceSub, Nat.reduceLT, Nat.reduceLeDiff]
 refine hKK _ _ (Wk.refl _ _ _) ?_; clear hKK KK
 obtain ⟨d44, hi1, h0⟩ := bnd h0
 refine awp_cut (fun z => d44 = z) (fun d44 : A16vu => hotspotref23_Mac_S1 a0 a1 d44) ?_ ?_
 ·
  refine awp_block1 ?_
  refine awp_loopS (fun n (d45 : (A16vu × Int × Int)) => hotspotref23_Mac_L3 a0 a1 n d45 = some d44) (fun d45 : (A16vu × Int × Int) => hotspotref23_Mac_S2 a0 a1 d45) big ({ A16vu.z with a0 := 3 }, (a1.length : Int), 1) (Wk.canonD [] [] [some 0, some 1, some 2] rfl trivial rfl (tmOU 2 (tmOU 1 (tmOU 0 tmO0 rfl List.not_mem_nil (by simp only [upd_get, ↓iop_and, ↓iop_or, ↓iop_xor, ↓iop_andn, Nat.reduceEqDiff, reduceIte, Nat.reduceAdd, Nat.reduceMul, Nat.reduceSub, Nat.reduceLT, Nat.reduceLeDiff, if_true, if_false] <;> rfl) (TmL.clean (e_A16vu_clean _))) rfl List.not_mem_nil (by simp only [upd_get, ↓iop_and, ↓iop_or, ↓iop_xor, ↓iop_andn, Nat.reduceEqDiff, reduceIte, Nat.reduceAdd, Nat.reduceMul, Nat.reduceSub, Nat.reduceLT, Nat.reduceLeDiff, if_true, if_false] <;> rfl) (TmL.clean (e_A16vu_clean _))) rfl List.not_mem_nil (by simp only [upd_get, ↓iop_and, ↓iop_or, ↓iop_xor, ↓iop_andn, Nat.reduceEqDiff, reduceIte, Nat.reduceAdd, Nat.reduceMul, Nat.reduceSub, Nat.reduceLT, Nat.reduceLeDiff, if_true, if_false] <;> rfl) (TmL.clean (e_A16vu_clean _))) (tmAllU 7 (tmAllU 6 (tmAllU 5 (tmAllU 4 (tmAllU 2 (tmAllU 1 tmAll0 (Tm.clean (Clean.imm (vu_clean _)))) (Tm.ptr rfl)) (Tm.ptr rfl)) (Tm.ptr rfl)) (Tm.v _)) (Tm.v _))) hi1 ?_
  clear hi1
  rintro n d45 hl3
  rcases n with _ | n2
  ·
   (rw [hotspotref23_Mac_L3] at hl3; cases hl3)
  ·
   rw [hotspotref23_Mac_L3] at hl3
   unfold hotspotref23_Mac_S2
   refine awp_assoc ?_
   refine awp_nr [1,2,4,5,6,7] (fun _ => rfl) fun tz => ?_
   refine awp_regW fun KK hKK => ?_
   refine xw_id ?_
   try simp only [go_sem, ↓iop_and, ↓iop_or, ↓iop_xor, ↓iop_andn, Nat.reduceEqDiff, reduceIte, Nat.reduceAdd, Nat.reduceMul, Nat.reduceSub, Nat.reduceLT, Nat.reduceLeDiff]
   refine hKK _ _ (Wk.refl _ _ _) ?_; clear hKK KK
   refine awp_cond (b := (decide (d45.2.2 ≤ 8))) rfl (fun h4 => ?_) (fun h4 => ?_)
   ·
    have hl3 := cT hl3 h4
    refine awp_skip ?_
    refine awp_blockW ?_
    refine awp_nr [1,2,4,5,6,7] (fun _ => rfl) fun tz => ?_
    refine awp_regW fun KK hKK => ?_
    refine xw_id ?_
    obtain ⟨x46, bx46, hl3⟩ := bnd hl3
    obtain ⟨fx46_0, fx46_1, fx46_2, fx46_3⟩ := idxA_some bx46
    have fx46_6 : (e_A16vu d45.1)[(d45.2.2).toNat]? = some (vu x46) := by show (List.map vu [d45.1.a0, d45.1.a1, d45.1.a2, d45.1.a3, d45.1.a4, d45.1.a5, d45.1.a6, d45.1.a7, d45.1.a8, d45.1.a9, d45.1.a10, d45.1.a11, d45.1.a12, d45.1.a13, d45.1.a14, d45.1.a15])[(d45.2.2).toNat]? = _; rw [List.getElem?_map, fx46_2]; rfl
    have gs5b : (d45.2.2).toNat < 16 := by have h0 := of_eq_true fx46_0; have h1 := of_eq_true fx46_1; omega
    have gs5 : (e_A16vu d45.1).set ((d45.2.2).toNat) (vu (IntKind.wrap .u8 ((d45.2.1).tmod 256))) = e_A16vu (d45.1.setA ((d45.2.2).toNat) (IntKind.wrap .u8 ((d45.2.1).tmod 256))) := e_A16vu_setA _ _ gs5b
    have gs5l : ((d45.2.2).toNat + 1 ≤ 16) = True := eq_true (by omega)
    try simp only [go_sem, ↓iop_and, ↓iop_or, ↓iop_xor, ↓iop_andn, Nat.reduceEqDiff, reduceIte, Nat.reduceAdd, Nat.reduceMul, Nat.reduceSub, Nat.reduceLT, Nat.reduceLeDiff, Int.reduceToNat, Int.reduceBEq, Int.reduceBNe, Int.reduceLT, Int.reduceLE, Int.reduceAdd, Int.reduceSub, Int.reduceMul, Int.reduceNeg, Int.reduceEq, Int.reduceNe, fx46_0, fx46_1, fx46_6, gs5, gs5l]
    refine hKK _ _ (Wk.refl _ _ _) ?_; clear hKK KK
    refine awp_nr1 [1,2,4,5,6,7] (fun _ => rfl) fun tz => ?_
    refine awp_reg1 fun KK hKK => ?_
    refine xw_id ?_
    try simp only [go_sem, ↓iop_and, ↓iop_or, ↓iop_xor, ↓iop_andn, Nat.reduceEqDiff, reduceIte, Nat.reduceAdd, Nat.reduceMul, Nat.reduceSub, Nat.reduceLT, Nat.reduceLeDiff, Int.reduceToNat, Int.reduceBEq, Int.reduceBNe, Int.reduceLT, Int.reduceLE, Int.reduceAdd, Int.reduceSub, Int.reduceMul, Int.reduceNeg, Int.reduceEq, Int.reduceNe, fx46_0, fx46_1, fx46_6]
    refine hKK _ ?_; clear hKK KK
    refine bq_n ?_
    refine seqW_i ?_
    refine awp_nr1 [1,2,4,5,6,7] (fun _ => rfl) fun tz => ?_
    refine awp_reg1 fun KK hKK => ?_
    refine xw_id ?_
    try simp only [go_sem, ↓iop_and, ↓iop_or, ↓iop_xor, ↓iop_andn, Nat.reduceEqDiff, reduceIte, Nat.reduceAdd, Nat.reduceMul, Nat.reduceSub, Nat.reduceLT, Nat.reduceLeDiff, fx46_0, fx46_1, fx46_6]
    refine hKK _ ?_; clear hKK KK
    refine lq_n ?_
    exact ⟨n2, ((d45.1.setA ((d45.2.2).toNat) (IntKind.wrap .u8 ((d45.2.1).tmod 256))), IntKind.wrap .i64 ((d45.2.1).tdiv 256), IntKind.wrap .i64 (d45.2.2 + 1)), rfl, hl3, (Wk.canonD [] [] [some 0, some 1, some 2] rfl trivial rfl (tmOU 2 (tmOU 1 (tmOU 0 tmO0 rfl List.not_mem_nil (by simp only [upd_get, ↓iop_and, ↓iop_or, ↓iop_xor, ↓iop_andn, Nat.reduceEqDiff, reduceIte, Nat.reduceAdd, Nat.reduceMul, Nat.reduceSub, Nat.reduceLT, Nat.reduceLeDiff, if_true, if_false] <;> rfl) (TmL.clean (e_A16vu_clean _))) rfl List.not_mem_nil (by simp only [upd_get, ↓iop_and, ↓iop_or, ↓iop_xor, ↓iop_andn, Nat.reduceEqDiff, reduceIte, Nat.reduceAdd, Nat.reduceMul, Nat.reduceSub, Nat.reduceLT, Nat.reduceLeDiff, if_true, if_false] <;> rfl) (TmL.clean (e_A16vu_clean _))) rfl List.not_mem_nil (by simp only [upd_get, ↓iop_and, ↓iop_or, ↓iop_xor, ↓iop_andn, Nat.reduceEqDiff, reduceIte, Nat.reduceAdd, Nat.reduceMul, Nat.reduceSub, Nat.reduceLT, Nat.reduceLeDiff, if_true, if_false] <;> rfl) (TmL.clean (e_A16vu_clean _))) (tmAllU 7 (tmAllU 6 (tmAllU 5 (tmAllU 4 (tmAllU 2 (tmAllU 1 tmAll0 (Tm.clean (Clean.imm (vu_clean _)))) (Tm.ptr rfl)) (Tm.ptr rfl)) (Tm.ptr rfl)) (Tm.v _)) (Tm.v _)))⟩
   ·
    have hl3 := cF hl3 h4
    refine awp_exit ?_
    refine lq_e ?_
    refine bq_e ?_
    refine sq_n ?_
    obtain rfl := someInj hl3
    exact ⟨_, rfl, (Wk.canonD [] [] [some 0, some 1, some 2] rfl trivial rfl (tmOU 2 (tmOU 1 (tmOU 0 tmO0 rfl List.not_mem_nil (by simp only [upd_get, ↓iop_and, ↓iop_or, ↓iop_xor, ↓iop_andn, Nat.reduceEqDiff, reduceIte, Nat.reduceAdd, Nat.reduceMul, Nat.reduceSub, Nat.reduceLT, Nat.reduceLeDiff, if_true, if_false] <;> rfl) (TmL.clean (e_A16vu_clean _))) rfl List.not_mem_nil (by simp only [upd_get, ↓iop_and, ↓iop_or, ↓iop_xor, ↓iop_andn, Nat.reduceEqDiff, reduceIte, Nat.reduceAdd, Nat.reduceMul, Nat.reduceSub, Nat.reduceLT, Nat.reduceLeDiff, if_true, if_false] <;> rfl) (TmL.clean (e_A16vu_clean _))) rfl List.not_mem_nil (by simp only [upd_get, ↓iop_and, ↓iop_or, ↓iop_xor, ↓iop_andn, Nat.reduceEqDiff, reduceIte, Nat.reduceAdd, Nat.reduceMul, Nat.reduceSub, Nat.reduceLT, Nat.reduceLeDiff, if_true, if_false] <;> rfl) (TmL.clean (e_A16vu_clean _))) (tmAllU 5 (tmAllU 4 (tmAllU 2 (tmAllU 1 tmAll0 (Tm.clean (Clean.imm (vu_clean _)))) (Tm.ptr rfl)) (Tm.ptr rfl)) (Tm.ptr rfl)))⟩
 ·
  rintro _ rfl
  clear hi1
  unfold hotspotref23_Mac_S1
  refine awp_nr [1,2,4,5] (fun _ => rfl) fun tz => ?_
  refine awp_regW fun KK hKK => ?_
  refine xw_id ?_
  obtain ⟨x47, bx47, h0⟩ := bnd h0
  have bx47 := chk_some bx47
  simp only [Bool.and_eq_true, decide_eq_true_eq] at bx47
  have gx47_0 := bx47
  try simp only [go_sem, ↓iop_and, ↓iop_or, ↓iop_xor, ↓iop_andn, Nat.reduceEqDiff, reduceIte, Nat.reduceAdd, Nat.reduceMul, Nat.reduceSub, Nat.reduceLT, Nat.reduceLeDiff, Int.reduceToNat, Int.reduceBEq, Int.reduceBNe, Int.reduceLT, Int.reduceLE, Int.reduceAdd, Int.reduceSub, Int.reduceMul, Int.reduceNeg, Int.reduceEq, Int.reduceNe, gx47_0]
  refine hKK _ _ (Wk.refl _ _ _) ?_; clear hKK KK
  obtain ⟨d48, hi6, h0⟩ := bnd h0
  refine awp_cut (fun z => d48 = z) (fun d48 : (List Int) => hotspotref23_Mac_S4 a0 d44 d48) ?_ ?_
  ·
   refine awp_block1 ?_
   refine awp_loopS (fun n (d49 : (List Int)) => hotspotref23_Mac_L6 n d49 = some d48) (fun d49 : (List Int) => hotspotref23_Mac_S5 a0 d44 d49) big a1 (by refine Wk.canonD [] [] [some 0, some 1, some 2, some 5] rfl trivial rfl (tmOU 3 (tmOU 2 (tmOU 1 (tmOU 0 tmO0 rfl List.not_mem_nil (by simp only [upd_get, ↓iop_and, ↓iop_or, ↓iop_xor, ↓iop_andn, Nat.reduceEqDiff, reduceIte, Nat.reduceAdd, Nat.reduceMul, Nat.reduceSub, Nat.reduceLT, Nat.reduceLeDiff, if_true, if_false] <;> rfl) (TmL.clean (e_A16vu_clean _))) rfl List.not_mem_nil (by simp only [upd_get, ↓iop_and, ↓iop_or, ↓iop_xor, ↓iop_andn, Nat.reduceEqDiff, reduceIte, Nat.reduceAdd, Nat.reduceMul, Nat.reduceSub, Nat.reduceLT, Nat.reduceLeDiff, if_true, if_false] <;> rfl) (TmL.clean (e_A16vu_clean _))) rfl List.not_mem_nil (by simp only [upd_get, ↓iop_and, ↓iop_or, ↓iop_xor, ↓iop_andn, Nat.reduceEqDiff, reduceIte, Nat.reduceAdd, Nat.reduceMul, Nat.reduceSub, Nat.reduceLT, Nat.reduceLeDiff, if_true, if_false] <;> rfl) (TmL.clean (e_A16vu_clean _))) rfl List.not_mem_nil (by simp only [upd_get, ↓iop_and, ↓iop_or, ↓iop_xor, ↓iop_andn, Nat.reduceEqDiff, reduceIte, Nat.reduceAdd, Nat.reduceMul, Nat.reduceSub, Nat.reduceLT, Nat.reduceLeDiff, if_true, if_false] <;> rfl) (TmL.of_eq (by first | rfl | (simp only [List.flatMap_append, List.flatMap_cons, List.flatMap_nil, List.map_append, List.map_cons, List.map_nil, List.append_nil, List.nil_append]; done) | (simp only [List.flatMap_append, List.flatMap_cons, List.flatMap_nil, List.map_append, List.map_cons, List.map_nil, List.append_nil, List.nil_append]; rfl)) (vu_clean _))) (tmAllU 8 (tmAllU 5 (tmAllU 4 (tmAllU 2 tmAll0 (Tm.ptr rfl)) (Tm.ptr rfl)) (Tm.ptr rfl)) (Tm.refL rfl ?_)); all_goals (first | rfl | (simp only [List.length_take]; omega) | (simp only [List.length_append, List.length_cons, List.length_nil, List.length_modify, List.length_set, Nat.zero_add]; done) | (simp only [List.length_append, List.length_take, List.length_drop, List.length_cons, List.length_nil, List.length_modify, List.length_set, Nat.zero_add]; omega) | (simp only [List.length_append, List.length_take, List.length_drop, List.length_cons, List.length_nil, List.length_modify, List.length_set, Nat.zero_add]; done) | omega)) hi6 ?_
   clear hi6
   rintro n d49 hl8
   rcases n with _ | n7
   ·
    (rw [hotspotref23_Mac_L6] at hl8; cases hl8)
   ·
    rw [hotspotref23_Mac_L6] at hl8
    unfold hotspotref23_Mac_S5
    refine awp_assoc ?_
    refine awp_nr [2,4,5,8] (fun _ => rfl) fun tz => ?_
    refine awp_regW fun KK hKK => ?_
    refine xw_id ?_
    try simp only [go_sem, ↓iop_and, ↓iop_or, ↓iop_xor, ↓iop_andn, Nat.reduceEqDiff, reduceIte, Nat.reduceAdd, Nat.reduceMul, Nat.reduceSub, Nat.reduceLT, Nat.reduceLeDiff, Int.reduceToNat, Int.reduceBEq, Int.reduceBNe, Int.reduceLT, Int.reduceLE, Int.reduceAdd, Int.reduceSub, Int.reduceMul, Int.reduceNeg, Int.reduceEq, Int.reduceNe]
    refine hKK _ _ (Wk.refl _ _ _) ?_; clear hKK KK
    refine awp_cond (b := ((((((d49).length : Nat) : Int)).tmod 16) != 0)) rfl (fun h9 => ?_) (fun h9 => ?_)
    ·
     have hl8 := cT hl8 h9
     refine awp_skip ?_
     refine awp_block1 ?_
     refine awp_nr1 [2,4,5,8] (fun _ => rfl) fun tz => ?_
     refine awp_reg1 fun KK hKK => ?_
     refine xw_id ?_
     obtain ⟨x50, bx50, hl8⟩ := bnd hl8
     have bx50 := chk_some bx50
     simp only [Bool.and_eq_true, decide_eq_true_eq] at bx50
     have gx50_0 := bx50
     try simp only [go_sem, ↓iop_and, ↓iop_or, ↓iop_xor, ↓iop_andn, Nat.reduceEqDiff, reduceIte, Nat.reduceAdd, Nat.reduceMul, Nat.reduceSub, Nat.reduceLT, Nat.reduceLeDiff, Int.reduceToNat, Int.reduceBEq, Int.reduceBNe, Int.reduceLT, Int.reduceLE, Int.reduceAdd, Int.reduceSub, Int.reduceMul, Int.reduceNeg, Int.reduceEq, Int.reduceNe, gx50_0]
     refine hKK _ ?_; clear hKK KK
     refine bq_n ?_
     refine lq_n ?_
     exact ⟨n7, (d49 ++ [0]), rfl, hl8, (by refine Wk.canonD [] [] [some 0, some 1, some 2, some 10] rfl trivial rfl (tmOU 3 (tmOU 2 (tmOU 1 (tmOU 0 tmO0 rfl List.not_mem_nil (by simp only [upd_get, ↓iop_and, ↓iop_or, ↓iop_xor, ↓iop_andn, Nat.reduceEqDiff, reduceIte, Nat.reduceAdd, Nat.reduceMul, Nat.reduceSub, Nat.reduceLT, Nat.reduceLeDiff, if_true, if_false] <;> rfl) (TmL.clean (e_A16vu_clean _))) rfl List.not_mem_nil (by simp only [upd_get, ↓iop_and, ↓iop_or, ↓iop_xor, ↓iop_andn, Nat.reduceEqDiff, reduceIte, Nat.reduceAdd, Nat.reduceMul, Nat.reduceSub, Nat.reduceLT, Nat.reduceLeDiff, if_true, if_false] <;> rfl) (TmL.clean (e_A16vu_clean _))) rfl List.not_mem_nil (by simp only [upd_get, ↓iop_and, ↓iop_or, ↓iop_xor, ↓iop_andn, Nat.reduceEqDiff, reduceIte, Nat.reduceAdd, Nat.reduceMul, Nat.reduceSub, Nat.reduceLT, Nat.reduceLeDiff, if_true, if_false] <;> rfl) (TmL.clean (e_A16vu_clean _))) rfl List.not_mem_nil (by simp only [upd_get, ↓iop_and, ↓iop_or, ↓iop_xor, ↓iop_andn, Nat.reduceEqDiff, reduceIte, Nat.reduceAdd, Nat.reduceMul, Nat.reduceSub, Nat.reduceLT, Nat.reduceLeDiff, if_true, if_false] <;> rfl) (TmL.of_eq (by first | rfl | (simp only [List.flatMap_append, List.flatMap_cons, List.flatMap_nil, List.map_append, List.map_cons, List.map_nil, List.append_nil, List.nil_append]; done) | (simp only [List.flatMap_append, List.flatMap_cons, List.flatMap_nil, List.map_append, List.map_cons, List.map_nil, List.append_nil, List.nil_append]; rfl)) (vu_clean _))) (tmAllU 8 (tmAllU 5 (tmAllU 4 (tmAllU 2 tmAll0 (Tm.ptr rfl)) (Tm.ptr rfl)) (Tm.ptr rfl)) (Tm.refL rfl ?_)); all_goals (first | rfl | (simp only [List.length_take]; omega) | (simp only [List.length_append, List.length_cons, List.length_nil, List.length_modify, List.length_set, Nat.zero_add]; done) | (simp only [List.length_append, List.length_take, List.length_drop, List.length_cons, List.length_nil, List.length_modify, List.length_set, Nat.zero_add]; omega) | (simp only [List.length_append, List.length_take, List.length_drop, List.length_cons, List.length_nil, List.length_modify, List.length_set, Nat.zero_add]; done) | omega))⟩
    ·
     have hl8 := cF hl8 h9
     refine awp_exit ?_
     refine lq_e ?_
     refine bq_e ?_
     refine sq_n ?_
     obtain rfl := someInj hl8
     exact ⟨_, rfl, (by refine Wk.canonD [] [] [some 0, some 1, some 2, some 3] rfl trivial rfl (tmOU 3 (tmOU 2 (tmOU 1 (tmOU 0 tmO0 rfl List.not_mem_nil (by simp only [upd_get, ↓iop_and, ↓iop_or, ↓iop_xor, ↓iop_andn, Nat.reduceEqDiff, reduceIte, Nat.reduceAdd, Nat.reduceMul, Nat.reduceSub, Nat.reduceLT, Nat.reduceLeDiff, if_true, if_false] <;> rfl) (TmL.clean (e_A16vu_clean _))) rfl List.not_mem_nil (by simp only [upd_get, ↓iop_and, ↓iop_or, ↓iop_xor, ↓iop_andn, Nat.reduceEqDiff, reduceIte, Nat.reduceAdd, Nat.reduceMul, Nat.reduceSub, Nat.reduceLT, Nat.reduceLeDiff, if_true, if_false] <;> rfl) (TmL.clean (e_A16vu_clean _))) rfl List.not_mem_nil (by simp only [upd_get, ↓iop_and, ↓iop_or, ↓iop_xor, ↓iop_andn, Nat.reduceEqDiff, reduceIte, Nat.reduceAdd, Nat.reduceMul, Nat.reduceSub, Nat.reduceLT, Nat.reduceLeDiff, if_true, if_false] <;> rfl) (TmL.clean (e_A16vu_clean _))) rfl List.not_mem_nil (by simp only [upd_get, ↓iop_and, ↓iop_or, ↓iop_xor, ↓iop_andn, Nat.reduceEqDiff, reduceIte, Nat.reduceAdd, Nat.reduceMul, Nat.reduceSub, Nat.reduceLT, Nat.reduceLeDiff, if_true, if_false] <;> rfl) (TmL.of_eq (by first | rfl | (simp only [List.flatMap_append, List.flatMap_cons, List.flatMap_nil, List.map_append, List.map_cons, List.map_nil, List.append_nil, List.nil_append]; done) | (simp only [List.flatMap_append, List.flatMap_cons, List.flatMap_nil, List.map_append, List.map_cons, List.map_nil, List.append_nil, List.nil_append]; rfl)) (vu_clean _))) (tmAllU 8 (tmAllU 5 (tmAllU 4 (tmAllU 2 tmAll0 (Tm.ptr rfl)) (Tm.ptr rfl)) (Tm.ptr rfl)) (Tm.refL rfl ?_)); all_goals (first | rfl | (simp only [List.length_take]; omega) | (simp only [List.length_append, List.length_cons, List.length_nil, List.length_modify, List.length_set, Nat.zero_add]; done) | (simp only [List.length_append, List.length_take, List.length_drop, List.length_cons, List.length_nil, List.length_modify, List.length_set, Nat.zero_add]; omega) | (simp only [List.length_append, List.length_take, List.length_drop, List.length_cons, List.length_nil, List.length_modify, List.length_set, Nat.zero_add]; done) | omega))⟩
  ·
   rintro _ rfl
   clear hi6
   unfold hotspotref23_Mac_S4
   refine awp_nr [2,4,5,8] (fun _ => rfl) fun tz => ?_
   refine awp_regW fun KK hKK => ?_
   refine xw_id ?_
   obtain ⟨x51, bx51, h0⟩ := bnd h0
   try simp only [go_sem, ↓iop_and, ↓iop_or, ↓iop_xor, ↓iop_andn, Nat.reduceEqDiff, reduceIte, Nat.reduceAdd, Nat.reduceMul, Nat.reduceSub, Nat.reduceLT, Nat.reduceLeDiff]
   refine xcall_p (hotspotref21_Encrypt_p a0 d44 bx51) ?_; try dsimp only
   try refine xw_id ?_
   try simp only [go_sem, ↓iop_and, ↓iop_or, ↓iop_xor, ↓iop_andn, Nat.reduceEqDiff, reduceIte, Nat.reduceAdd, Nat.reduceMul, Nat.reduceSub, Nat.reduceLT, Nat.reduceLeDiff]
   refine hKK _ _ (Wk.refl _ _ _) ?_; clear hKK KK
   refine awp_assoc ?_
   refine awp_nr [2,4,5,8] (fun _ => rfl) fun tz => ?_
   refine awp_regW fun KK hKK => ?_
   refine xw_id ?_
   try simp only [go_sem, ↓iop_and, ↓iop_or, ↓iop_xor, ↓iop_andn, Nat.reduceEqDiff, reduceIte, Nat.reduceAdd, Nat.reduceMul, Nat.reduceSub, Nat.reduceLT, Nat.reduceLeDiff]
   refine hKK _ _ (Wk.refl _ _ _) ?_; clear hKK KK
   obtain ⟨d52, hi10, h0⟩ := bnd h0
   refine awp_cut (fun z => d52 = z) (fun d52 : A16vu => hotspotref23_Mac_S7 d52) ?_ ?_
   ·
    refine awp_block1 ?_
    refine awp_loopS (fun n (d53 : (A16vu × Int)) => hotspotref23_Mac_L9 d48 a0 a1 n d53 = some d52) (fun d53 : (A16vu × Int) => hotspotref23_Mac_S8 a0 d48 d53) big (x51, 0) (by refine Wk.canonD [] [] [some 0, some 1, some 2, some 3] rfl trivial rfl (tmOU 3 (tmOU 2 (tmOU 1 (tmOU 0 tmO0 rfl List.not_mem_nil (by simp only [upd_get, ↓iop_and, ↓iop_or, ↓iop_xor, ↓iop_andn, Nat.reduceEqDiff, reduceIte, Nat.reduceAdd, Nat.reduceMul, Nat.reduceSub, Nat.reduceLT, Nat.reduceLeDiff, if_true, if_false] <;> rfl) (TmL.clean (e_A16vu_clean _))) rfl List.not_mem_nil (by simp only [upd_get, ↓iop_and, ↓iop_or, ↓iop_xor, ↓iop_andn, Nat.reduceEqDiff, reduceIte, Nat.reduceAdd, Nat.reduceMul, Nat.reduceSub, Nat.reduceLT, Nat.reduceLeDiff, if_true, if_false] <;> rfl) (TmL.clean (e_A16vu_clean _))) rfl List.not_mem_nil (by simp only [upd_get, ↓iop_and, ↓iop_or, ↓iop_xor, ↓iop_andn, Nat.reduceEqDiff, reduceIte, Nat.reduceAdd, Nat.reduceMul, Nat.reduceSub, Nat.reduceLT, Nat.reduceLeDiff, if_true, if_false] <;> rfl) (TmL.clean (e_A16vu_clean _))) rfl List.not_mem_nil (by simp only [upd_get, ↓iop_and, ↓iop_or, ↓iop_xor, ↓iop_andn, Nat.reduceEqDiff, reduceIte, Nat.reduceAdd, Nat.reduceMul, Nat.reduceSub, Nat.reduceLT, Nat.reduceLeDiff, if_true, if_false] <;> rfl) (TmL.of_eq (by first | rfl | (simp only [List.flatMap_append, List.flatMap_cons, List.flatMap_nil, List.map_append, List.map_cons, List.map_nil, List.append_nil, List.nil_append]; done) | (simp only [List.flatMap_append, List.flatMap_cons, List.flatMap_nil, List.map_append, List.map_cons, List.map_nil, List.append_nil, List.nil_append]; rfl)) (vu_clean _))) (tmAllU 9 (tmAllU 8 (tmAllU 5 (tmAllU 4 (tmAllU 2 tmAll0 (Tm.ptr rfl)) (Tm.ptr rfl)) (Tm.ptr rfl)) (Tm.refL rfl ?_)) (Tm.v _)); all_goals (first | rfl | (simp only [List.length_take]; omega) | (simp only [List.length_append, List.length_cons, List.length_nil, List.length_modify, List.length_set, Nat.zero_add]; done) | (simp only [List.length_append, List.length_take, List.length_drop, List.length_cons, List.length_nil, List.length_modify, List.length_set, Nat.zero_add]; omega) | (simp only [List.length_append, List.length_take, List.length_drop, List.length_cons, List.length_nil, List.length_modify, List.length_set, Nat.zero_add]; done) | omega)) hi10 ?_
    clear hi10
    rintro n d53 hl12
    rcases n with _ | n11
    ·
     (rw [hotspotref23_Mac_L9] at hl12; cases hl12)
    ·
     rw [hotspotref23_Mac_L9] at hl12
     unfold hotspotref23_Mac_S8
     refine awp_assoc ?_
     refine awp_nr [2,4,5,8,9] (fun _ => rfl) fun tz => ?_
     refine awp_regW fun KK hKK => ?_
     refine xw_id ?_
     try simp only [go_sem, ↓iop_and, ↓iop_or, ↓iop_xor, ↓iop_andn, Nat.reduceEqDiff, reduceIte, Nat.reduceAdd, Nat.reduceMul, Nat.reduceSub, Nat.reduceLT, Nat.reduceLeDiff, Int.reduceToNat, Int.reduceBEq, Int.reduceBNe, Int.reduceLT, Int.reduceLE, Int.reduceAdd, Int.reduceSub, Int.reduceMul, Int.reduceNeg, Int.reduceEq, Int.reduceNe]
     refine hKK _ _ (Wk.refl _ _ _) ?_; clear hKK KK
     refine awp_cond (b := (decide (d53.2 < ((d48.length : Nat) : Int)))) rfl (fun h13 => ?_) (fun h13 => ?_)
     ·
      have hl12 := cT hl12 h13
      refine awp_skip ?_
      obtain ⟨d54, hi14, hl12⟩ := bnd hl12
      refine awp_cut (fun z => d54 = z) (fun d54 : A16vu => hotspotref23_Mac_S10 a0 d48 d53 d54) ?_ ?_
      ·
       refine awp_block1 ?_
       refine awp_assoc ?_
       refine awp_nr [2,4,5,8,9] (fun _ => rfl) fun tz => ?_
       refine awp_regW fun KK hKK => ?_
       refine xw_id ?_
       try simp only [go_sem, ↓iop_and, ↓iop_or, ↓iop_xor, ↓iop_andn, Nat.reduceEqDiff, reduceIte, Nat.reduceAdd, Nat.reduceMul, Nat.reduceSub, Nat.reduceLT, Nat.reduceLeDiff]
       refine hKK _ _ (Wk.refl _ _ _) ?_; clear hKK KK
       obtain ⟨d55, hi15, hi14⟩ := bnd hi14
       refine awp_cut (fun z => d55 = z) (fun d55 : A16vu => hotspotref23_Mac_S11 a0 d48 d53 d55) ?_ ?_
       ·
        refine awp_block1 ?_
        refine awp_loopS (fun n (d56 : (A16vu × Int)) => hotspotref23_Mac_L13 a0 a1 d48 d53 n d56 = some d55) (fun d56 : (A16vu × Int) => hotspotref23_Mac_S12 a0 d48 d53 d56) big (d53.1, 0) (by refine Wk.canonD [] [] [some 0, some 1, some 2, some 3] rfl trivial rfl (tmOU 3 (tmOU 2 (tmOU 1 (tmOU 0 tmO0 rfl List.not_mem_nil (by simp only [upd_get, ↓iop_and, ↓iop_or, ↓iop_xor, ↓iop_andn, Nat.reduceEqDiff, reduceIte, Nat.reduceAdd, Nat.reduceMul, Nat.reduceSub, Nat.reduceLT, Nat.reduceLeDiff, if_true, if_false] <;> rfl) (TmL.clean (e_A16vu_clean _))) rfl List.not_mem_nil (by simp only [upd_get, ↓iop_and, ↓iop_or, ↓iop_xor, ↓iop_andn, Nat.reduceEqDiff, reduceIte, Nat.reduceAdd, Nat.reduceMul, Nat.reduceSub, Nat.reduceLT, Nat.reduceLeDiff, if_true, if_false] <;> rfl) (TmL.clean (e_A16vu_clean _))) rfl List.not_mem_nil (by simp only [upd_get, ↓iop_and, ↓iop_or, ↓iop_xor, ↓iop_andn, Nat.reduceEqDiff, reduceIte, Nat.reduceAdd, Nat.reduceMul, Nat.reduceSub, Nat.reduceLT, Nat.reduceLeDiff, if_true, if_false] <;> rfl) (TmL.clean (e_A16vu_clean _))) rfl List.not_mem_nil (by simp only [upd_get, ↓iop_and, ↓iop_or, ↓iop_xor, ↓iop_andn, Nat.reduceEqDiff, reduceIte, Nat.reduceAdd, Nat.reduceMul, Nat.reduceSub, Nat.reduceLT, Nat.reduceLeDiff, if_true, if_false] <;> rfl) (TmL.of_eq (by first | rfl | (simp only [List.flatMap_append, List.flatMap_cons, List.flatMap_nil, List.map_append, List.map_cons, List.map_nil, List.append_nil, List.nil_append]; done) | (simp only [List.flatMap_append, List.flatMap_cons, List.flatMap_nil, List.map_append, List.map_cons, List.map_nil, List.append_nil, List.nil_append]; rfl)) (vu_clean _))) (tmAllU 10 (tmAllU 9 (tmAllU 8 (tmAllU 5 (tmAllU 4 (tmAllU 2 tmAll0 (Tm.ptr rfl)) (Tm.ptr rfl)) (Tm.ptr rfl)) (Tm.refL rfl ?_)) (Tm.v _)) (Tm.v _)); all_goals (first | rfl | (simp only [List.length_take]; omega) | (simp only [List.length_append, List.length_cons, List.length_nil, List.length_modify, List.length_set, Nat.zero_add]; done) | (simp only [List.length_append, List.length_take, List.length_drop, List.length_cons, List.length_nil, List.length_modify, List.length_set, Nat.zero_add]; omega) | (simp only [List.length_append, List.length_take, List.length_drop, List.length_cons, List.length_nil, List.length_modify, List.length_set, Nat.zero_add]; done) | omega)) hi15 ?_
        clear hi15
        rintro n d56 hl17
        rcases n with _ | n16
        ·
         (rw [hotspotref23_Mac_L13] at hl17; cases hl17)
        ·
         rw [hotspotref23_Mac_L13] at hl17
         unfold hotspotref23_Mac_S12
         refine awp_assoc ?_
         refine awp_nr [2,4,5,8,9,10] (fun _ => rfl) fun tz => ?_
         refine awp_regW fun KK hKK => ?_
         refine xw_id ?_
         try simp only [go_sem, ↓iop_and, ↓iop_or, ↓iop_xor, ↓iop_andn, Nat.reduceEqDiff, reduceIte, Nat.reduceAdd, Nat.reduceMul, Nat.reduceSub, Nat.reduceLT, Nat.reduceLeDiff]
         refine hKK _ _ (Wk.refl _ _ _) ?_; clear hKK KK
         refine awp_cond (b := (decide (d56.2 < 16))) rfl (fun h18 => ?_) (fun h18 => ?_)
         ·
          have hl17 := cT hl17 h18
          refine awp_skip ?_
          refine awp_blockW ?_
          refine awp_nr1 [2,4,5,8,9,10] (fun _ => rfl) fun tz => ?_
          refine awp_regD1 fun KK hKK all hall => ?_
          refine xd_id ?_
          try simp only [List.toList_toArray, List.map_cons, List.map_nil, List.size_toArray, List.length_cons, List.length_nil, Nat.zero_add]
          try simp only [Nat.reduceAdd]
          obtain ⟨x57, bx57, hl17⟩ := bnd hl17
          obtain ⟨fx57_0, fx57_1, fx57_2, fx57_3⟩ := idxA_some bx57
          have fx57_6 : (e_A16vu d56.1)[(d56.2).toNat]? = some (vu x57) := by show (List.map vu [d56.1.a0, d56.1.a1, d56.1.a2, d56.1.a3, d56.1.a4, d56.1.a5, d56.1.a6, d56.1.a7, d56.1.a8, d56.1.a9, d56.1.a10, d56.1.a11, d56.1.a12, d56.1.a13, d56.1.a14, d56.1.a15])[(d56.2).toNat]? = _; rw [List.getElem?_map, fx57_2]; rfl
          obtain ⟨x58, bx58, hl17⟩ := bnd hl17
          obtain ⟨fx58_0, fx58_1, fx58_2, fx58_3⟩ := idx_some bx58
          have fx58_5 : ((IntKind.wrap .i64 (d53.2 + d56.2) : Int) < ((d48.length : Nat) : Int)) = True := by first | exact fx58_1 | (simp [List.length_modify, List.length_set]; omega)
          have gs19b : (d56.2).toNat < 16 := by have h0 := of_eq_true fx57_0; have h1 := of_eq_true fx57_1; omega
          have gs19 : (e_A16vu d56.1).set ((d56.2).toNat) (vu (bxor .u8 x57 x58)) = e_A16vu (d56.1.setA ((d56.2).toNat) (bxor .u8 x57 x58)) := e_A16vu_setA _ _ gs19b
          have gs19l : ((d56.2).toNat + 1 ≤ 16) = True := eq_true (by omega)
          simp only [go_sem, ↓iop_and, ↓iop_or, ↓iop_xor, ↓iop_andn, Nat.reduceEqDiff, reduceIte, Nat.reduceMul, Nat.reduceSub, Nat.reduceLT, Nat.reduceLeDiff, Int.reduceToNat, Int.reduceBEq, Int.reduceBNe, Int.reduceLT, Int.reduceLE, Int.reduceAdd, Int.reduceSub, Int.reduceMul, Int.reduceNeg, Int.reduceEq, Int.reduceNe, fx57_0, fx57_1, fx57_6, fx58_0, fx58_1, fx58_2, fx58_5, gs19, gs19l]
          try simp only [Nat.reduceAdd]
          try simp only [go_sem, ↓iop_and, ↓iop_or, ↓iop_xor, ↓iop_andn, Nat.reduceEqDiff, reduceIte, Nat.reduceMul, Nat.reduceSub, Nat.reduceLT, Nat.reduceLeDiff, Int.reduceToNat, Int.reduceBEq, Int.reduceBNe, Int.reduceLT, Int.reduceLE, Int.reduceAdd, Int.reduceSub, Int.reduceMul, Int.reduceNeg, Int.reduceEq, Int.reduceNe, fx57_0, fx57_1, fx57_6, fx58_0, fx58_1, fx58_2, fx58_5, gs19, gs19l]
          try simp only [Nat.reduceAdd]
          try simp only [go_sem, ↓iop_and, ↓iop_or, ↓iop_xor, ↓iop_andn, Nat.reduceEqDiff, reduceIte, Nat.reduceMul, Nat.reduceSub, Nat.reduceLT, Nat.reduceLeDiff, Int.reduceToNat, Int.reduceBEq, Int.reduceBNe, Int.reduceLT, Int.reduceLE, Int.reduceAdd, Int.reduceSub, Int.reduceMul, Int.reduceNeg, Int.reduceEq, Int.reduceNe, fx57_0, fx57_1, fx57_6, fx58_0, fx58_1, fx58_2, fx58_5, gs19, gs19l]
          refine And.intro ?_ (hKK _ ?_)
          ·
           subst hall
           clear hKK KK
           first | decide +kernel | (simp [printsOk, apartP, clash, meet]; done) | (simp [printsOk, apartP, clash, meet]; decide +kernel) | (simp [printsOk, apartP, clash, meet]; repeat (first | exact Or.inr (by decide +kernel) | (refine And.intro (Or.inr (by decide +kernel)) ?_)))
          ·
           clear hKK KK hall all
           refine bq_n ?_
           refine seqW_i ?_
           refine awp_nr1 [2,4,5,8,9,10] (fun _ => rfl) fun tz => ?_
           refine awp_reg1 fun KK hKK => ?_
           refine xw_id ?_
           try simp only [go_sem, ↓iop_and, ↓iop_or, ↓iop_xor, ↓iop_andn, Nat.reduceEqDiff, reduceIte, Nat.reduceAdd, Nat.reduceMul, Nat.reduceSub, Nat.reduceLT, Nat.reduceLeDiff, fx57_0, fx57_1, fx57_6, fx58_0, fx58_1, fx58_2, fx58_5]
           refine hKK _ ?_; clear hKK KK
           refine lq_n ?_
           exact ⟨n16, ((d56.1.setA ((d56.2).toNat) (bxor .u8 x57 x58)), IntKind.wrap .i64 (d56.2 + 1)), rfl, hl17, (by refine Wk.canonD [] [] [some 0, some 1, some 2, some 3] rfl trivial rfl (tmOU 3 (tmOU 2 (tmOU 1 (tmOU 0 tmO0 rfl List.not_mem_nil (by simp only [upd_get, ↓iop_and, ↓iop_or, ↓iop_xor, ↓iop_andn, Nat.reduceEqDiff, reduceIte, Nat.reduceAdd, Nat.reduceMul, Nat.reduceSub, Nat.reduceLT, Nat.reduceLeDiff, if_true, if_false] <;> rfl) (TmL.clean (e_A16vu_clean _))) rfl List.not_mem_nil (by simp only [upd_get, ↓iop_and, ↓iop_or, ↓iop_xor, ↓iop_andn, Nat.reduceEqDiff, reduceIte, Nat.reduceAdd, Nat.reduceMul, Nat.reduceSub, Nat.reduceLT, Nat.reduceLeDiff, if_true, if_false] <;> rfl) (TmL.clean (e_A16vu_clean _))) rfl List.not_mem_nil (by simp only [upd_get, ↓iop_and, ↓iop_or, ↓iop_xor, ↓iop_andn, Nat.reduceEqDiff, reduceIte, Nat.reduceAdd, Nat.reduceMul, Nat.reduceSub, Nat.reduceLT, Nat.reduceLeDiff, if_true, if_false] <;> rfl) (TmL.clean (e_A16vu_clean _))) rfl List.not_mem_nil (by simp only [upd_get, ↓iop_and, ↓iop_or, ↓iop_xor, ↓iop_andn, Nat.reduceEqDiff, reduceIte, Nat.reduceAdd, Nat.reduceMul, Nat.reduceSub, Nat.reduceLT, Nat.reduceLeDiff, if_true, if_false] <;> rfl) (TmL.of_eq (by first | rfl | (simp only [List.flatMap_append, List.flatMap_cons, List.flatMap_nil, List.map_append, List.map_cons, List.map_nil, List.append_nil, List.nil_append]; done) | (simp only [List.flatMap_append, List.flatMap_cons, List.flatMap_nil, List.map_append, List.map_cons, List.map_nil, List.append_nil, List.nil_append]; rfl)) (vu_clean _))) (tmAllU 10 (tmAllU 9 (tmAllU 8 (tmAllU 5 (tmAllU 4 (tmAllU 2 tmAll0 (Tm.ptr rfl)) (Tm.ptr rfl)) (Tm.ptr rfl)) (Tm.refL rfl ?_)) (Tm.v _)) (Tm.v _)); all_goals (first | rfl | (simp only [List.length_take]; omega) | (simp only [List.length_append, List.length_cons, List.length_nil, List.length_modify, List.length_set, Nat.zero_add]; done) | (simp only [List.length_append, List.length_take, List.length_drop, List.length_cons, List.length_nil, List.length_modify, List.length_set, Nat.zero_add]; omega) | (simp only [List.length_append, List.length_take, List.length_drop, List.length_cons, List.length_nil, List.length_modify, List.length_set, Nat.zero_add]; done) | omega))⟩
         ·
          have hl17 := cF hl17 h18
          refine awp_exit ?_
          refine lq_e ?_
          refine bq_e ?_
          refine sq_n ?_
          obtain rfl := someInj hl17
          exact ⟨_, rfl, (by refine Wk.canonD [] [] [some 0, some 1, some 2, some 3] rfl trivial rfl (tmOU 3 (tmOU 2 (tmOU 1 (tmOU 0 tmO0 rfl List.not_mem_nil (by simp only [upd_get, ↓iop_and, ↓iop_or, ↓iop_xor, ↓iop_andn, Nat.reduceEqDiff, reduceIte, Nat.reduceAdd, Nat.reduceMul, Nat.reduceSub, Nat.reduceLT, Nat.reduceLeDiff, if_true, if_false] <;> rfl) (TmL.clean (e_A16vu_clean _))) rfl List.not_mem_nil (by simp only [upd_get, ↓iop_and, ↓iop_or, ↓iop_xor, ↓iop_andn, Nat.reduceEqDiff, reduceIte, Nat.reduceAdd, Nat.reduceMul, Nat.reduceSub, Nat.reduceLT, Nat.reduceLeDiff, if_true, if_false] <;> rfl) (TmL.clean (e_A16vu_clean _))) rfl List.not_mem_nil (by simp only [upd_get, ↓iop_and, ↓iop_or, ↓iop_xor, ↓iop_andn, Nat.reduceEqDiff, reduceIte, Nat.reduceAdd, Nat.reduceMul, Nat.reduceSub, Nat.reduceLT, Nat.reduceLeDiff, if_true, if_false] <;> rfl) (TmL.clean (e_A16vu_clean _))) rfl List.not_mem_nil (by simp only [upd_get, ↓iop_and, ↓iop_or, ↓iop_xor, ↓iop_andn, Nat.reduceEqDiff, reduceIte, Nat.reduceAdd, Nat.reduceMul, Nat.reduceSub, Nat.reduceLT, Nat.reduceLeDiff, if_true, if_false] <;> rfl) (TmL.of_eq (by first | rfl | (simp only [List.flatMap_append, List.flatMap_cons, List.flatMap_nil, List.map_append, List.map_cons, List.map_nil, List.append_nil, List.nil_append]; done) | (simp only [List.flatMap_append, List.flatMap_cons, List.flatMap_nil, List.map_append, List.map_cons, List.map_nil, List.append_nil, List.nil_append]; rfl)) (vu_clean _))) (tmAllU 9 (tmAllU 8 (tmAllU 5 (tmAllU 4 (tmAllU 2 tmAll0 (Tm.ptr rfl)) (Tm.ptr rfl)) (Tm.ptr rfl)) (Tm.refL rfl ?_)) (Tm.v _)); all_goals (first | rfl | (simp only [List.length_take]; omega) | (simp only [List.length_append, List.length_cons, List.length_nil, List.length_modify, List.length_set, Nat.zero_add]; done) | (simp only [List.length_append, List.length_take, List.length_drop, List.length_cons, List.length_nil, List.length_modify, List.length_set, Nat.zero_add]; omega) | (simp only [List.length_append, List.length_take, List.length_drop, List.length_cons, List.length_nil, List.length_modify, List.length_set, Nat.zero_add]; done) | omega))⟩
       ·
        rintro _ rfl
        clear hi15
        unfold hotspotref23_Mac_S11
        refine awp_nr1 [2,4,5,8,9] (fun _ => rfl) fun tz => ?_
        refine awp_reg1 fun KK hKK => ?_
        refine xw_id ?_
        obtain ⟨x59, bx59, hi14⟩ := bnd hi14
        try simp only [go_sem, ↓iop_and, ↓iop_or, ↓iop_xor, ↓iop_andn, Nat.reduceEqDiff, reduceIte, Nat.reduceAdd, Nat.reduceMul, Nat.reduceSub, Nat.reduceLT, Nat.reduceLeDiff]
        refine xcall_p (hotspotref21_Encrypt_p a0 d55 bx59) ?_; try dsimp only
        try refine xw_id ?_
        try simp only [go_sem, ↓iop_and, ↓iop_or, ↓iop_xor, ↓iop_andn, Nat.reduceEqDiff, reduceIte, Nat.reduceAdd, Nat.reduceMul, Nat.reduceSub, Nat.reduceLT, Nat.reduceLeDiff]
        refine hKK _ ?_; clear hKK KK
        refine bq_n ?_
        refine sq_n ?_
        obtain rfl := someInj hi14
        exact ⟨_, rfl, (by refine Wk.canonD [] [] [some 0, some 1, some 2, some 3] rfl trivial rfl (tmOU 3 (tmOU 2 (tmOU 1 (tmOU 0 tmO0 rfl List.not_mem_nil (by simp only [upd_get, ↓iop_and, ↓iop_or, ↓iop_xor, ↓iop_andn, Nat.reduceEqDiff, reduceIte, Nat.reduceAdd, Nat.reduceMul, Nat.reduceSub, Nat.reduceLT, Nat.reduceLeDiff, if_true, if_false] <;> rfl) (TmL.clean (e_A16vu_clean _))) rfl List.not_mem_nil (by simp only [upd_get, ↓iop_and, ↓iop_or, ↓iop_xor, ↓iop_andn, Nat.reduceEqDiff, reduceIte, Nat.reduceAdd, Nat.reduceMul, Nat.reduceSub, Nat.reduceLT, Nat.reduceLeDiff, if_true, if_false] <;> rfl) (TmL.clean (e_A16vu_clean _))) rfl List.not_mem_nil (by simp only [upd_get, ↓iop_and, ↓iop_or, ↓iop_xor, ↓iop_andn, Nat.reduceEqDiff, reduceIte, Nat.reduceAdd, Nat.reduceMul, Nat.reduceSub, Nat.reduceLT, Nat.reduceLeDiff, if_true, if_false] <;> rfl) (TmL.clean (e_A16vu_clean _))) rfl List.not_mem_nil (by simp only [upd_get, ↓iop_and, ↓iop_or, ↓iop_xor, ↓iop_andn, Nat.reduceEqDiff, reduceIte, Nat.reduceAdd, Nat.reduceMul, Nat.reduceSub, Nat.reduceLT, Nat.reduceLeDiff, if_true, if_false] <;> rfl) (TmL.of_eq (by first | rfl | (simp only [List.flatMap_append, List.flatMap_cons, List.flatMap_nil, List.map_append, List.map_cons, List.map_nil, List.append_nil, List.nil_append]; done) | (simp only [List.flatMap_append, List.flatMap_cons, List.flatMap_nil, List.map_append, List.map_cons, List.map_nil, List.append_nil, List.nil_append]; rfl)) (vu_clean _))) (tmAllU 9 (tmAllU 8 (tmAllU 5 (tmAllU 4 (tmAllU 2 tmAll0 (Tm.ptr rfl)) (Tm.ptr rfl)) (Tm.ptr rfl)) (Tm.refL rfl ?_)) (Tm.v _)); all_goals (first | rfl | (simp only [List.length_take]; omega) | (simp only [List.length_append, List.length_cons, List.length_nil, List.length_modify, List.length_set, Nat.zero_add]; done) | (simp only [List.length_append, List.length_take, List.length_drop, List.length_cons, List.length_nil, List.length_modify, List.length_set, Nat.zero_add]; omega) | (simp only [List.length_append, List.length_take, List.length_drop, List.length_cons, List.length_nil, List.length_modify, List.length_set, Nat.zero_add]; done) | omega))⟩
      ·
       rintro _ rfl
       clear hi14
       unfold hotspotref23_Mac_S10
       refine awp_nr1 [2,4,5,8,9] (fun _ => rfl) fun tz => ?_
       refine awp_reg1 fun KK hKK => ?_
       refine xw_id ?_
       try simp only [go_sem, ↓iop_and, ↓iop_or, ↓iop_xor, ↓iop_andn, Nat.reduceEqDiff, reduceIte, Nat.reduceAdd, Nat.reduceMul, Nat.reduceSub, Nat.reduceLT, Nat.reduceLeDiff]
       refine hKK _ ?_; clear hKK KK
       refine lq_n ?_
       exact ⟨n11, (d54, IntKind.wrap .i64 (d53.2 + 16)), rfl, hl12, (by refine Wk.canonD [] [] [some 0, some 1, some 2, some 3] rfl trivial rfl (tmOU 3 (tmOU 2 (tmOU 1 (tmOU 0 tmO0 rfl List.not_mem_nil (by simp only [upd_get, ↓iop_and, ↓iop_or, ↓iop_xor, ↓iop_andn, Nat.reduceEqDiff, reduceIte, Nat.reduceAdd, Nat.reduceMul, Nat.reduceSub, Nat.reduceLT, Nat.reduceLeDiff, if_true, if_false] <;> rfl) (TmL.clean (e_A16vu_clean _))) rfl List.not_mem_nil (by simp only [upd_get, ↓iop_and, ↓iop_or, ↓iop_xor, ↓iop_andn, Nat.reduceEqDiff, reduceIte, Nat.reduceAdd, Nat.reduceMul, Nat.reduceSub, Nat.reduceLT, Nat.reduceLeDiff, if_true, if_false] <;> rfl) (TmL.clean (e_A16vu_clean _))) rfl List.not_mem_nil (by simp only [upd_get, ↓iop_and, ↓iop_or, ↓iop_xor, ↓iop_andn, Nat.reduceEqDiff, reduceIte, Nat.reduceAdd, Nat.reduceMul, Nat.reduceSub, Nat.reduceLT, Nat.reduceLeDiff, if_true, if_false] <;> rfl) (TmL.clean (e_A16vu_clean _))) rfl List.not_mem_nil (by simp only [upd_get, ↓iop_and, ↓iop_or, ↓iop_xor, ↓iop_andn, Nat.reduceEqDiff, reduceIte, Nat.reduceAdd, Nat.reduceMul, Nat.reduceSub, Nat.reduceLT, Nat.reduceLeDiff, if_true, if_false] <;> rfl) (TmL.of_eq (by first | rfl | (simp only [List.flatMap_append, List.flatMap_cons, List.flatMap_nil, List.map_append, List.map_cons, List.map_nil, List.append_nil, List.nil_append]; done) | (simp only [List.flatMap_append, List.flatMap_cons, List.flatMap_nil, List.map_append, List.map_cons, List.map_nil, List.append_nil, List.nil_append]; rfl)) (vu_clean _))) (tmAllU 9 (tmAllU 8 (tmAllU 5 (tmAllU 4 (tmAllU 2 tmAll0 (Tm.ptr rfl)) (Tm.ptr rfl)) (Tm.ptr rfl)) (Tm.refL rfl ?_)) (Tm.v _)); all_goals (first | rfl | (simp only [List.length_take]; omega) | (simp only [List.length_append, List.length_cons, List.length_nil, List.length_modify, List.length_set, Nat.zero_add]; done) | (simp only [List.length_append, List.length_take, List.length_drop, List.length_cons, List.length_nil, List.length_modify, List.length_set, Nat.zero_add]; omega) | (simp only [List.length_append, List.length_take, List.length_drop, List.length_cons, List.length_nil, List.length_modify, List.length_set, Nat.zero_add]; done) | omega))⟩
     ·
      have hl12 := cF hl12 h13
      refine awp_exit ?_
      refine lq_e ?_
      refine bq_e ?_
      refine sq_n ?_
      obtain rfl := someInj hl12
      exact ⟨_, rfl, (Wk.canonD [] [] [some 1, some 2] rfl trivial rfl (tmOU 1 (tmOU 0 tmO0 rfl List.not_mem_nil (by simp only [upd_get, ↓iop_and, ↓iop_or, ↓iop_xor, ↓iop_andn, Nat.reduceEqDiff, reduceIte, Nat.reduceAdd, Nat.reduceMul, Nat.reduceSub, Nat.reduceLT, Nat.reduceLeDiff, if_true, if_false] <;> rfl) (TmL.clean (e_A16vu_clean _))) rfl List.not_mem_nil (by simp only [upd_get, ↓iop_and, ↓iop_or, ↓iop_xor, ↓iop_andn, Nat.reduceEqDiff, reduceIte, Nat.reduceAdd, Nat.reduceMul, Nat.reduceSub, Nat.reduceLT, Nat.reduceLeDiff, if_true, if_false] <;> rfl) (TmL.clean (e_A16vu_clean _))) (tmAllU 5 (tmAllU 4 tmAll0 (Tm.ptr rfl)) (Tm.ptr rfl)))⟩
   ·
    rintro _ rfl
    clear hi10
    unfold hotspotref23_Mac_S7
    refine awp_nr [4,5] (fun _ => rfl) fun tz => ?_
    refine awp_regW fun KK hKK => ?_
    refine xw_id ?_
    try simp only [go_sem, ↓iop_and, ↓iop_or, ↓iop_xor, ↓iop_andn, Nat.reduceEqDiff, reduceIte, Nat.reduceAdd, Nat.reduceMul, Nat.reduceSub, Nat.reduceLT, Nat.reduceLeDiff]
    refine hKK _ _ (Wk.refl _ _ _) ?_; clear hKK KK
    refine awp_ret1 ?_
    obtain rfl := someInj h0
    refine endW_i ?_
    refine end_ret0 rs66 (by simp only [go_sem, resV, resAll, resOf, packR, ↓iop_and, ↓iop_or, ↓iop_xor, ↓iop_andn, Nat.reduceEqDiff, reduceIte, Nat.reduceAdd, Nat.reduceMul, Nat.reduceSub, Nat.reduceLT, Nat.reduceLeDiff]; rfl) ?_
    try simp only [go_sem, ↓iop_and, ↓iop_or, ↓iop_xor, ↓iop_andn, Nat.reduceEqDiff, reduceIte, Nat.reduceAdd, Nat.reduceMul, Nat.reduceSub, Nat.reduceLT, Nat.reduceLeDiff, fz, nilS, packR, List.take_nil, List.take_length, List.length_map, List.length_append, cond_true, cond_false, Nat.ble_eq, ble_self]
    all_goals first | rfl | (simp only [go_sem, ↓iop_and, ↓iop_or, ↓iop_xor, ↓iop_andn, Nat.reduceEqDiff, reduceIte, Nat.reduceAdd, Nat.reduceMul, Nat.reduceSub, Nat.reduceLT, Nat.reduceLeDiff, fz, nilS, packR, List.take_nil, List.take_length, List.length_map, List.length_append, cond_true, cond_false, Nat.ble_eq, ble_self, List.map_append] <;> rfl)

end Go.AX.Z.TW

/-! (TWW hotspotref23 Derived) -/

set_option linter.unusedSimpArgs false
set_option linter.unusedVariables false
set_option maxHeartbeats 4000000
set_option maxRecDepth 20000
namespace Go.AX.Z.TW
open Go.AX Go.Proofs
attribute [local irreducible] awp xw xop xcall gsp ob xd xdop xcallD seqQ loopQ blkQ endQ

def hotspotref23_Derived_S0 (d35 : (List Int)) : AS :=
 { objs := (upd (fun _ => .dead) 0 (.live (List.map vu d35))), next := 1, tmps := (upd (fun _ => .unk) 9 (.ref 0 0 ((d35).length) 1)) }

def hotspotref23_Derived_S1 (a0 : A16vu) (a1 : (List Int)) (a2 : Int) (d36 : (List Int × Int)) : AS :=
 { objs := (upd (upd (fun _ => .dead) 0 (.live (e_A16vu a0))) 1 (.live (List.map vu d36.1))), next := 2, tmps := (upd (upd (upd (upd (upd (upd (fun _ => .unk) 1 (.v (.string ⟨#[116, 111, 107, 101, 110]⟩))) 2 (.imm (List.map vu a1) a1.length)) 3 (vi a2)) 4 (.ptr 0 0)) 9 (.ref 1 0 ((d36.1).length) 1)) 10 (vi d36.2)) }

def hotspotref23_Derived_S3 (a0 : A16vu) (d36 : (List Int × Int)) (x38 : A16vu) (a1 : (List Int)) (a2 : Int) : AS :=
 { objs := (upd (upd (upd (fun _ => .dead) 0 (.live (e_A16vu a0))) 1 (.live (List.map vu d36.1))) 2 (.live (e_A16vu x38))), next := 3, tmps := (upd (upd (upd (upd (upd (upd (upd (fun _ => .unk) 1 (.v (.string ⟨#[116, 111, 107, 101, 110]⟩))) 2 (.imm (List.map vu a1) a1.length)) 3 (vi a2)) 4 (.ptr 0 0)) 9 (.ref 1 0 d36.1.length 1)) 10 (vi d36.2)) 11 (.ptr 2 0)) }

theorem hotspotref23_Derived_r (a0 : A16vu) (a1 : (List Int)) (a2 : Int) {r : (List Int)} (h0 : hotspotref23_Derived a0 a1 a2 = some r) : SndR K 45 [(.agg (e_A16vu a0)), (.v (.string ⟨#[116, 111, 107, 101, 110]⟩)), (S_vu a1), (vi a2)] (fun q => (.ref (q 0) 0 r.length 1)) [(List.map vu r)] := by
 refine SndR.of_walkW hC (show K.P.funcs[45]? = some Try.f45 from Try.func45) rfl rfl (by decide +kernel) (Nat.le_of_ble_eq_true rfl) ?_
 unfold hotspotref23_Derived at h0
 refine awp_nr [0,1,2,3] (fun _ => rfl) fun tz => ?_
 refine awp_regW fun KK hKK => ?_
 refine xw_id ?_
 try simp only [go_sem, Nat.reduceEqDiff, reduceIte, Nat.reduceAdd, Nat.reduceMul, Nat.reduceSub, Nat.reduceLT, Nat.reduceLeDiff]
 refine hKK _ _ (Wk.refl _ _ _) ?_; clear hKK KK
 refine awp_nr [1,2,3,4] (fun _ => rfl) fun tz => ?_
 refine awp_regW fun KK hKK => ?_
 refine xw_id ?_
 try simp only [go_sem, Nat.reduceEqDiff, reduceIte, Nat.reduceAdd, Nat.reduceMul, Nat.reduceSub, Nat.reduceLT, Nat.reduceLeDiff]
 refine hKK _ _ (Wk.refl _ _ _) ?_; clear hKK KK
 refine awp_assoc ?_
 refine awp_nr [1,2,3,4,9] (fun _ => rfl) fun tz => ?_
 refine awp_regW fun KK hKK => ?_
 refine xw_id ?_
 try simp only [go_sem, Nat.reduceEqDiff, reduceIte, Nat.reduceAdd, Nat.reduceMul, Nat.reduceSub, Nat.reduceLT, Nat.reduceLeDiff]
 refine hKK _ _ (Wk.refl _ _ _) ?_; clear hKK KK
 obtain ⟨d35, hi1, h0⟩ := bnd h0
 refine awp_cut (fun z => d35 = z) (fun d35 : (List Int) => hotspotref23_Derived_S0 d35) ?_ ?_
 ·
  refine awp_block1 ?_
  refine awp_loopS (fun n (d36 : (List Int × Int)) => hotspotref23_Derived_L2 a2 a1 a0 n d36 = some d35) (fun d36 : (List Int × Int) => hotspotref23_Derived_S1 a0 a1 a2 d36) big (([] : List Int), 0) (by refine Wk.canonD [] [] [some 0, some 2] rfl trivial rfl (tmOU 1 (tmOU 0 tmO0 rfl List.not_mem_nil (by simp only [upd_get, Nat.reduceEqDiff, reduceIte, Nat.reduceAdd, Nat.reduceMul, Nat.reduceSub, Nat.reduceLT, Nat.reduceLeDiff, if_true, if_false] <;> rfl) (TmL.clean (e_A16vu_clean _))) rfl List.not_mem_nil (by simp only [upd_get, Nat.reduceEqDiff, reduceIte, Nat.reduceAdd, Nat.reduceMul, Nat.reduceSub, Nat.reduceLT, Nat.reduceLeDiff, if_true, if_false] <;> rfl) (TmL.of_eq (by first | rfl | (simp only [List.flatMap_append, List.flatMap_cons, List.flatMap_nil, List.map_append, List.map_cons, List.map_nil, List.append_nil, List.nil_append]; done) | (simp only [List.flatMap_append, List.flatMap_cons, List.flatMap_nil, List.map_append, List.map_cons, List.map_nil, List.append_nil, List.nil_append]; rfl)) (vu_clean _))) (tmAllU 10 (tmAllU 9 (tmAllU 4 (tmAllU 3 (tmAllU 2 (tmAllU 1 tmAll0 (Tm.v _)) (Tm.clean (Clean.imm (vu_clean _)))) (Tm.v _)) (Tm.ptr rfl)) (Tm.refL rfl ?_)) (Tm.v _)); all_goals (first | rfl | (simp only [List.length_take]; omega) | (simp only [List.length_append, List.length_cons, List.length_nil, List.length_modify, List.length_set, Nat.zero_add]; done) | (simp only [List.length_append, List.length_take, List.length_drop, List.length_cons, List.length_nil, List.length_modify, List.length_set, Nat.zero_add]; omega) | (simp only [List.length_append, List.length_take, List.length_drop, List.length_cons, List.length_nil, List.length_modify, List.length_set, Nat.zero_add]; done) | omega)) hi1 ?_
  clear hi1
  rintro n d36 hl3
  rcases n with _ | n2
  ·
   (rw [hotspotref23_Derived_L2] at hl3; cases hl3)
  ·
   rw [hotspotref23_Derived_L2] at hl3
   unfold hotspotref23_Derived_S1
   refine awp_assoc ?_
   refine awp_nr [1,2,3,4,9,10] (fun _ => rfl) fun tz => ?_
   refine awp_regW fun KK hKK => ?_
   refine xw_id ?_
   try simp only [go_sem, Nat.reduceEqDiff, reduceIte, Nat.reduceAdd, Nat.reduceMul, Nat.reduceSub, Nat.reduceLT, Nat.reduceLeDiff]
   refine hKK _ _ (Wk.refl _ _ _) ?_; clear hKK KK
   refine awp_cond (b := (decide (d36.2 < a2))) rfl (fun h4 => ?_) (fun h4 => ?_)
   ·
    have hl3 := cT hl3 h4
    refine awp_skip ?_
    refine awp_blockW ?_
    refine awp_nr [1,2,3,4,9,10] (fun _ => rfl) fun tz => ?_
    refine awp_regDW fun KK hKK all hall => ?_
    refine xd_id ?_
    try simp only [List.toList_toArray, List.map_cons, List.map_nil, List.size_toArray, List.length_cons, List.length_nil, Nat.zero_add]
    try simp only [Nat.reduceAdd]
    obtain ⟨x37, bx37, hl3⟩ := bnd hl3
    simp only [go_sem, Nat.reduceEqDiff, reduceIte, Nat.reduceMul, Nat.reduceSub, Nat.reduceLT, Nat.reduceLeDiff, Int.reduceToNat, Int.reduceBEq, Int.reduceBNe, Int.reduceLT, Int.reduceLE, Int.reduceAdd, Int.reduceSub, Int.reduceMul, Int.reduceNeg, Int.reduceEq, Int.reduceNe]
    try simp only [Nat.reduceAdd]
    try simp only [go_sem, Nat.reduceEqDiff, reduceIte, Nat.reduceMul, Nat.reduceSub, Nat.reduceLT, Nat.reduceLeDiff, Int.reduceToNat, Int.reduceBEq, Int.reduceBNe, Int.reduceLT, Int.reduceLE, Int.reduceAdd, Int.reduceSub, Int.reduceMul, Int.reduceNeg, Int.reduceEq, Int.reduceNe]
    try simp only [Nat.reduceAdd]
    try simp only [go_sem, Nat.reduceEqDiff, reduceIte, Nat.reduceMul, Nat.reduceSub, Nat.reduceLT, Nat.reduceLeDiff, Int.reduceToNat, Int.reduceBEq, Int.reduceBNe, Int.reduceLT, Int.reduceLE, Int.reduceAdd, Int.reduceSub, Int.reduceMul, Int.reduceNeg, Int.reduceEq, Int.reduceNe]
    refine xcallD_E (hotspotref23_Input_e a1 (IntKind.wrap .i64 ((d36.2).tdiv 16)) bx37 _) ?_; try dsimp only
    try refine xd_id ?_
    obtain ⟨x38, bx38, hl3⟩ := bnd hl3
    simp only [go_sem, Nat.reduceEqDiff, reduceIte, Nat.reduceMul, Nat.reduceSub, Nat.reduceLT, Nat.reduceLeDiff, Int.reduceToNat, Int.reduceBEq, Int.reduceBNe, Int.reduceLT, Int.reduceLE, Int.reduceAdd, Int.reduceSub, Int.reduceMul, Int.reduceNeg, Int.reduceEq, Int.reduceNe]
    try simp only [Nat.reduceAdd]
    try simp only [go_sem, Nat.reduceEqDiff, reduceIte, Nat.reduceMul, Nat.reduceSub, Nat.reduceLT, Nat.reduceLeDiff, Int.reduceToNat, Int.reduceBEq, Int.reduceBNe, Int.reduceLT, Int.reduceLE, Int.reduceAdd, Int.reduceSub, Int.reduceMul, Int.reduceNeg, Int.reduceEq, Int.reduceNe]
    try simp only [Nat.reduceAdd]
    try simp only [go_sem, Nat.reduceEqDiff, reduceIte, Nat.reduceMul, Nat.reduceSub, Nat.reduceLT, Nat.reduceLeDiff, Int.reduceToNat, Int.reduceBEq, Int.reduceBNe, Int.reduceLT, Int.reduceLE, Int.reduceAdd, Int.reduceSub, Int.reduceMul, Int.reduceNeg, Int.reduceEq, Int.reduceNe]
    refine xcallD_L (by first | (simp only [go_sem, fz, Nat.reduceEqDiff, reduceIte, Nat.reduceAdd, Nat.reduceMul, Nat.reduceSub, Nat.reduceLT, Nat.reduceLeDiff]; done) | (simp only [go_sem, fz, Nat.reduceEqDiff, reduceIte, Nat.reduceAdd, Nat.reduceMul, Nat.reduceSub, Nat.reduceLT, Nat.reduceLeDiff]; rfl) | (simp only [go_sem, fz, List.length_set, ble_self, take_set, cond_true, cond_false, Nat.reduceEqDiff, reduceIte, Nat.reduceAdd, Nat.reduceMul, Nat.reduceSub, Nat.reduceLT, Nat.reduceLeDiff]; done) | (simp only [go_sem, fz, List.length_set, ble_self, take_set, cond_true, cond_false, Nat.reduceEqDiff, reduceIte, Nat.reduceAdd, Nat.reduceMul, Nat.reduceSub, Nat.reduceLT, Nat.reduceLeDiff]; rfl)) (by first | (simp only [go_sem, reach, Nat.reduceEqDiff, reduceIte, Nat.reduceAdd, Nat.reduceMul, Nat.reduceSub, Nat.reduceLT, Nat.reduceLeDiff]; done) | (simp only [go_sem, reach, Nat.reduceEqDiff, reduceIte, Nat.reduceAdd, Nat.reduceMul, Nat.reduceSub, Nat.reduceLT, Nat.reduceLeDiff]; rfl)) (hotspotref23_Mac_p a0 x37 bx38) (bare_ok (by rfl)) ?_; try dsimp only
    try refine xd_id ?_
    simp only [go_sem, Nat.reduceEqDiff, reduceIte, Nat.reduceMul, Nat.reduceSub, Nat.reduceLT, Nat.reduceLeDiff, Int.reduceToNat, Int.reduceBEq, Int.reduceBNe, Int.reduceLT, Int.reduceLE, Int.reduceAdd, Int.reduceSub, Int.reduceMul, Int.reduceNeg, Int.reduceEq, Int.reduceNe]
    try simp only [Nat.reduceAdd]
    try simp only [go_sem, Nat.reduceEqDiff, reduceIte, Nat.reduceMul, Nat.reduceSub, Nat.reduceLT, Nat.reduceLeDiff, Int.reduceToNat, Int.reduceBEq, Int.reduceBNe, Int.reduceLT, Int.reduceLE, Int.reduceAdd, Int.reduceSub, Int.reduceMul, Int.reduceNeg, Int.reduceEq, Int.reduceNe]
    try simp only [Nat.reduceAdd]
    try simp only [go_sem, Nat.reduceEqDiff, reduceIte, Nat.reduceMul, Nat.reduceSub, Nat.reduceLT, Nat.reduceLeDiff, Int.reduceToNat, Int.reduceBEq, Int.reduceBNe, Int.reduceLT, Int.reduceLE, Int.reduceAdd, Int.reduceSub, Int.reduceMul, Int.reduceNeg, Int.reduceEq, Int.reduceNe]
    refine And.intro ?_ (hKK _ (hotspotref23_Derived_S3 a0 d36 x38 a1 a2) (by refine Wk.canonD [] [] [some 0, some 1, some 12] rfl trivial rfl (tmOU 2 (tmOU 1 (tmOU 0 tmO0 rfl List.not_mem_nil (by simp only [upd_get, Nat.reduceEqDiff, reduceIte, Nat.reduceAdd, Nat.reduceMul, Nat.reduceSub, Nat.reduceLT, Nat.reduceLeDiff, if_true, if_false] <;> rfl) (TmL.clean (e_A16vu_clean _))) rfl List.not_mem_nil (by simp only [upd_get, Nat.reduceEqDiff, reduceIte, Nat.reduceAdd, Nat.reduceMul, Nat.reduceSub, Nat.reduceLT, Nat.reduceLeDiff, if_true, if_false] <;> rfl) (TmL.of_eq (by first | rfl | (simp only [List.flatMap_append, List.flatMap_cons, List.flatMap_nil, List.map_append, List.map_cons, List.map_nil, List.append_nil, List.nil_append]; done) | (simp only [List.flatMap_append, List.flatMap_cons, List.flatMap_nil, List.map_append, List.map_cons, List.map_nil, List.append_nil, List.nil_append]; rfl)) (vu_clean _))) rfl List.not_mem_nil (by simp only [upd_get, Nat.reduceEqDiff, reduceIte, Nat.reduceAdd, Nat.reduceMul, Nat.reduceSub, Nat.reduceLT, Nat.reduceLeDiff, if_true, if_false] <;> rfl) (TmL.clean (e_A16vu_clean _))) (tmAllU 11 (tmAllU 10 (tmAllU 9 (tmAllU 4 (tmAllU 3 (tmAllU 2 (tmAllU 1 tmAll0 (Tm.v _)) (Tm.clean (Clean.imm (vu_clean _)))) (Tm.v _)) (Tm.ptr rfl)) (Tm.refL rfl ?_)) (Tm.v _)) (Tm.ptr rfl)); all_goals (first | rfl | (simp only [List.length_take]; omega) | (simp only [List.length_append, List.length_cons, List.length_nil, List.length_modify, List.length_set, Nat.zero_add]; done) | (simp only [List.length_append, List.length_take, List.length_drop, List.length_cons, List.length_nil, List.length_modify, List.length_set, Nat.zero_add]; omega) | (simp only [List.length_append, List.length_take, List.length_drop, List.length_cons, List.length_nil, List.length_modify, List.length_set, Nat.zero_add]; done) | omega)) ?_)
    ·
     subst hall
     clear hKK KK
     first | decide +kernel | (simp [printsOk, apartP, clash, meet]; done) | (simp [printsOk, apartP, clash, meet]; decide +kernel) | (simp [printsOk, apartP, clash, meet]; repeat (first | exact Or.inr (by decide +kernel) | (refine And.intro (Or.inr (by decide +kernel)) ?_)))
    ·
     clear hKK KK hall all
     unfold hotspotref23_Derived_S3
     refine awp_nr1 [1,2,3,4,9,10,11] (fun _ => rfl) fun tz => ?_
     refine awp_reg1 fun KK hKK => ?_
     refine xw_id ?_
     obtain ⟨x39, bx39, hl3⟩ := bnd hl3
     obtain ⟨fx39_0, fx39_1, fx39_2, fx39_3⟩ := idxA_some bx39
     have fx39_6 : (e_A16vu x38)[((d36.2).tmod 16).toNat]? = some (vu x39) := by show (List.map vu [x38.a0, x38.a1, x38.a2, x38.a3, x38.a4, x38.a5, x38.a6, x38.a7, x38.a8, x38.a9, x38.a10, x38.a11, x38.a12, x38.a13, x38.a14, x38.a15])[((d36.2).tmod 16).toNat]? = _; rw [List.getElem?_map, fx39_2]; rfl
     obtain ⟨x40, bx40, hl3⟩ := bnd hl3
     have bx40 := chk_some bx40
     simp only [Bool.and_eq_true, decide_eq_true_eq] at bx40
     have gx40_0 := bx40
     try simp only [go_sem, Nat.reduceEqDiff, reduceIte, Nat.reduceAdd, Nat.reduceMul, Nat.reduceSub, Nat.reduceLT, Nat.reduceLeDiff, Int.reduceToNat, Int.reduceBEq, Int.reduceBNe, Int.reduceLT, Int.reduceLE, Int.reduceAdd, Int.reduceSub, Int.reduceMul, Int.reduceNeg, Int.reduceEq, Int.reduceNe, fx39_0, fx39_1, fx39_6, gx40_0]
     refine hKK _ ?_; clear hKK KK
     refine bq_n ?_
     refine seqW_i ?_
     refine awp_nr1 [1,2,3,4,9,10] (fun _ => rfl) fun tz => ?_
     refine awp_reg1 fun KK hKK => ?_
     refine xw_id ?_
     try simp only [go_sem, Nat.reduceEqDiff, reduceIte, Nat.reduceAdd, Nat.reduceMul, Nat.reduceSub, Nat.reduceLT, Nat.reduceLeDiff, fx39_0, fx39_1, fx39_6]
     refine hKK _ ?_; clear hKK KK
     refine lq_n ?_
     exact ⟨n2, ((d36.1 ++ [x39]), IntKind.wrap .i64 (d36.2 + 1)), rfl, hl3, (by refine Wk.canonD [] [] [some 0, some 9] rfl trivial rfl (tmOU 1 (tmOU 0 tmO0 rfl List.not_mem_nil (by simp only [upd_get, Nat.reduceEqDiff, reduceIte, Nat.reduceAdd, Nat.reduceMul, Nat.reduceSub, Nat.reduceLT, Nat.reduceLeDiff, if_true, if_false] <;> rfl) (TmL.clean (e_A16vu_clean _))) rfl List.not_mem_nil (by simp only [upd_get, Nat.reduceEqDiff, reduceIte, Nat.reduceAdd, Nat.reduceMul, Nat.reduceSub, Nat.reduceLT, Nat.reduceLeDiff, if_true, if_false] <;> rfl) (TmL.of_eq (by first | rfl | (simp only [List.flatMap_append, List.flatMap_cons, List.flatMap_nil, List.map_append, List.map_cons, List.map_nil, List.append_nil, List.nil_append]; done) | (simp only [List.flatMap_append, List.flatMap_cons, List.flatMap_nil, List.map_append, List.map_cons, List.map_nil, List.append_nil, List.nil_append]; rfl)) (vu_clean _))) (tmAllU 10 (tmAllU 9 (tmAllU 4 (tmAllU 3 (tmAllU 2 (tmAllU 1 tmAll0 (Tm.v _)) (Tm.clean (Clean.imm (vu_clean _)))) (Tm.v _)) (Tm.ptr rfl)) (Tm.refL rfl ?_)) (Tm.v _)); all_goals (first | rfl | (simp only [List.length_take]; omega) | (simp only [List.length_append, List.length_cons, List.length_nil, List.length_modify, List.length_set, Nat.zero_add]; done) | (simp only [List.length_append, List.length_take, List.length_drop, List.length_cons, List.length_nil, List.length_modify, List.length_set, Nat.zero_add]; omega) | (simp only [List.length_append, List.length_take, List.length_drop, List.length_cons, List.length_nil, List.length_modify, List.length_set, Nat.zero_add]; done) | omega))⟩
   ·
    have hl3 := cF hl3 h4
    refine awp_exit ?_
    refine lq_e ?_
    refine bq_e ?_
    refine sq_n ?_
    obtain rfl := someInj hl3
    exact ⟨_, rfl, (by refine Wk.canonD [] [] [some 1] rfl trivial rfl (tmOU 0 tmO0 rfl List.not_mem_nil (by simp only [upd_get, Nat.reduceEqDiff, reduceIte, Nat.reduceAdd, Nat.reduceMul, Nat.reduceSub, Nat.reduceLT, Nat.reduceLeDiff, if_true, if_false] <;> rfl) (TmL.of_eq (by first | rfl | (simp only [List.flatMap_append, List.flatMap_cons, List.flatMap_nil, List.map_append, List.map_cons, List.map_nil, List.append_nil, List.nil_append]; done) | (simp only [List.flatMap_append, List.flatMap_cons, List.flatMap_nil, List.map_append, List.map_cons, List.map_nil, List.append_nil, List.nil_append]; rfl)) (vu_clean _))) (tmAllU 9 tmAll0 (Tm.refL rfl ?_)); all_goals (first | rfl | (simp only [List.length_take]; omega) | (simp only [List.length_append, List.length_cons, List.length_nil, List.length_modify, List.length_set, Nat.zero_add]; done) | (simp only [List.length_append, List.length_take, List.length_drop, List.length_cons, List.length_nil, List.length_modify, List.length_set, Nat.zero_add]; omega) | (simp only [List.length_append, List.length_take, List.length_drop, List.length_cons, List.length_nil, List.length_modify, List.length_set, Nat.zero_add]; done) | omega))⟩
 ·
  rintro _ rfl
  clear hi1
  unfold hotspotref23_Derived_S0
  refine awp_nr [9] (fun _ => rfl) fun tz => ?_
  refine awp_regW fun KK hKK => ?_
  refine xw_id ?_
  try simp only [go_sem, Nat.reduceEqDiff, reduceIte, Nat.reduceAdd, Nat.reduceMul, Nat.reduceSub, Nat.reduceLT, Nat.reduceLeDiff]
  refine hKK _ _ (Wk.refl _ _ _) ?_; clear hKK KK
  refine awp_ret1 ?_
  obtain rfl := someInj h0
  refine endW_i ?_
  refine end_ret0 rs45 (rfl) ?_
  refine Res.mk [] [some 0] rfl (resOU List.not_mem_nil (by simp only [upd_get, Nat.reduceEqDiff, reduceIte, Nat.reduceAdd, Nat.reduceMul, Nat.reduceSub, Nat.reduceLT, Nat.reduceLeDiff, if_true, if_false] <;> rfl) (TmL.of_eq (by first | rfl | (simp only [List.flatMap_append, List.flatMap_cons, List.flatMap_nil, List.map_append, List.map_cons, List.map_nil, List.append_nil, List.nil_append]; done) | (simp only [List.flatMap_append, List.flatMap_cons, List.flatMap_nil, List.map_append, List.map_cons, List.map_nil, List.append_nil, List.nil_append]; rfl)) (vu_clean _)) resO0) (Tm.refL rfl ?_)
  all_goals (first | rfl | (simp only [List.length_take]; omega) | (simp only [List.length_append, List.length_cons, List.length_nil, List.length_modify, List.length_set, Nat.zero_add]; done) | (simp only [List.length_append, List.length_take, List.length_drop, List.length_cons, List.length_nil, List.length_modify, List.length_set, Nat.zero_add]; omega) | (simp only [List.length_append, List.length_take, List.length_drop, List.length_cons, List.length_nil, List.length_modify, List.length_set, Nat.zero_add]; done) | omega)

theorem hotspotref23_Derived_m (a0 : A16vu) (a1 : (List Int)) (a2 : Int) {r : (List Int)} (h0 : hotspotref23_Derived a0 a1 a2 = some r) : SndM K 45 [(.agg (e_A16vu a0)), (.v (.string ⟨#[116, 111, 107, 101, 110]⟩)), (S_vu a1), (vi a2)] (fun q => (.ref (q 0) 0 r.length 1)) [(List.map vu r)] :=
 fun hs => Snd.of_newM (RenM.ref 0 0 _ _) (rows_all_cons (vu_clean _) rows_all_nil) (clean_cons (Clean.agg (e_A16vu_clean _)) (clean_cons (Clean.v _) (clean_cons (S_vu_clean _) (clean_cons (Clean.v _) clean_nil)))) (hotspotref23_Derived_r a0 a1 a2 h0) hs

theorem hotspotref23_Derived_e (a0 : A16vu) (a1 : (List Int)) (a2 : Int) {r : (List Int)} (h0 : hotspotref23_Derived a0 a1 a2 = some r) (fr : Nat) (hs : HS) : SndE K 45 [(.agg (e_A16vu a0)), (.v (.string ⟨#[116, 111, 107, 101, 110]⟩)), (S_vu a1), (vi a2)] hs fr ⟨(fun q : Nat → Nat => (.ref (q 0) 0 r.length 1)) fun _ => fr, .new (List.map vu r)⟩ :=
 SndE.of_res (RenM.ref 0 0 _ _) (vu_clean _) (clean_cons (Clean.agg (e_A16vu_clean _)) (clean_cons (Clean.v _) (clean_cons (S_vu_clean _) (clean_cons (Clean.v _) clean_nil)))) (fun a b h => by simp only [h]) (hotspotref23_Derived_r a0 a1 a2 h0) hs fr

theorem hotspotref23_Derived_p (a0 : A16vu) (a1 : (List Int)) (a2 : Int) {r : (List Int)} (h0 : hotspotref23_Derived a0 a1 a2 = some r) : SndP K 45 [(.agg (e_A16vu a0)), (.v (.string ⟨#[116, 111, 107, 101, 110]⟩)), (S_vu a1), (vi a2)] (S_vu r) :=
 SndM.pure (hotspotref23_Derived_m a0 a1 a2 h0) (S_vu_clean _) (clean_cons (Clean.agg (e_A16vu_clean _)) (clean_cons (Clean.v _) (clean_cons (S_vu_clean _) (clean_cons (Clean.v _) clean_nil)))) (by simp only [go_sem, newL_n, newL_c, upd_get, fz, nilS, cond_true, cond_false, List.drop_zero, List.take_length, List.length_map, ble_self, Nat.reduceEqDiff, reduceIte, Nat.reduceAdd, Nat.reduceMul, Nat.reduceSub, Nat.reduceLT, Nat.reduceLeDiff] <;> rfl)

end Go.AX.Z.TW

/-! (TWW hotspotref29 Token) -/

set_option linter.unusedSimpArgs false
set_option linter.unusedVariables false
set_option maxHeartbeats 4000000
set_option maxRecDepth 20000
namespace Go.AX.Z.TW
open Go.AX Go.Proofs
attribute [local irreducible] awp xw xop xcall gsp ob xd xdop xcallD seqQ loopQ blkQ endQ


theorem hotspotref29_Token_p (a0 : AuthDoor) (a1 : A6vu) {r : Int} (h0 : hotspotref29_Token a0 a1 = some r) : SndP K 19 [(.agg (E_AuthDoor a0)), (.agg (e_A6vu a1))] (vq r) := by
 refine SndP.of_walkW hC (Clean.v _) (clean_cons (Clean.agg (E_AuthDoor_clean _)) (clean_cons (Clean.agg (e_A6vu_clean _)) clean_nil)) (show K.P.funcs[19]? = some Try.f19 from Try.func19) rfl rfl (by decide +kernel) (Nat.le_of_ble_eq_true rfl) ?_
 unfold hotspotref29_Token at h0
 refine awp_nr [0,1] (fun _ => rfl) fun tz => ?_
 refine awp_regW fun KK hKK => ?_
 refine xw_id ?_
 try simp only [go_sem, Nat.reduceEqDiff, reduceIte, Nat.reduceAdd, Nat.reduceMul, Nat.reduceSub, Nat.reduceLT, Nat.reduceLeDiff]
 refine hKK _ _ (Wk.refl _ _ _) ?_; clear hKK KK
 refine awp_nr [2,3] (fun _ => rfl) fun tz => ?_
 refine awp_regDW fun KK hKK all hall => ?_
 refine xd_id ?_
 try simp only [List.toList_toArray, List.map_cons, List.map_nil, List.size_toArray, List.length_cons, List.length_nil, Nat.zero_add]
 try simp only [Nat.reduceAdd]
 obtain ⟨x35, bx35, h0⟩ := bnd h0
 simp only [go_sem, Nat.reduceEqDiff, reduceIte, Nat.reduceMul, Nat.reduceSub, Nat.reduceLT, Nat.reduceLeDiff, Int.reduceToNat, Int.reduceBEq, Int.reduceBNe, Int.reduceLT, Int.reduceLE, Int.reduceAdd, Int.reduceSub, Int.reduceMul, Int.sub_zero]
 try simp only [Nat.reduceAdd]
 try simp only [go_sem, Nat.reduceEqDiff, reduceIte, Nat.reduceMul, Nat.reduceSub, Nat.reduceLT, Nat.reduceLeDiff, Int.reduceToNat, Int.reduceBEq, Int.reduceBNe, Int.reduceLT, Int.reduceLE, Int.reduceAdd, Int.reduceSub, Int.reduceMul, Int.sub_zero]
 try simp only [Nat.reduceAdd]
 try simp only [go_sem, Nat.reduceEqDiff, reduceIte, Nat.reduceMul, Nat.reduceSub, Nat.reduceLT, Nat.reduceLeDiff, Int.reduceToNat, Int.reduceBEq, Int.reduceBNe, Int.reduceLT, Int.reduceLE, Int.reduceAdd, Int.reduceSub, Int.reduceMul, Int.sub_zero]
 refine xcallD_EL (by first | (simp only [go_sem, fz, nilS, cond_true, cond_false, Nat.reduceEqDiff, reduceIte, Nat.reduceAdd, Nat.reduceMul, Nat.reduceSub, Nat.reduceLT, Nat.reduceLeDiff, Int.sub_zero]; done) | (simp only [go_sem, fz, nilS, cond_true, cond_false, Nat.reduceEqDiff, reduceIte, Nat.reduceAdd, Nat.reduceMul, Nat.reduceSub, Nat.reduceLT, Nat.reduceLeDiff, Int.sub_zero]; rfl) | (simp only [go_sem, fz, List.length_set, ble_self, take_set, cond_true, cond_false, Nat.reduceEqDiff, reduceIte, Nat.reduceAdd, Nat.reduceMul, Nat.reduceSub, Nat.reduceLT, Nat.reduceLeDiff, Int.sub_zero]; done) | (simp only [go_sem, fz, List.length_set, ble_self, take_set, cond_true, cond_false, Nat.reduceEqDiff, reduceIte, Nat.reduceAdd, Nat.reduceMul, Nat.reduceSub, Nat.reduceLT, Nat.reduceLeDiff, Int.sub_zero]; rfl)) (by first | (simp only [go_sem, reach, Nat.reduceEqDiff, reduceIte, Nat.reduceAdd, Nat.reduceMul, Nat.reduceSub, Nat.reduceLT, Nat.reduceLeDiff, Int.sub_zero]; done) | (simp only [go_sem, reach, Nat.reduceEqDiff, reduceIte, Nat.reduceAdd, Nat.reduceMul, Nat.reduceSub, Nat.reduceLT, Nat.reduceLeDiff, Int.sub_zero]; rfl)) (hotspotref23_Derived_e a0.Secret [a1.a0, a1.a1, a1.a2, a1.a3, a1.a4, a1.a5] 8 bx35 _) (by repeat' (first | exact NoV.v _ | exact NoV.ref _ _ _ _ | exact NoV.onil | refine NoV.ocons ?_ ?_ | exact NoV.nil | refine NoV.tup ?_ | refine NoV.agg ?_ | refine NoV.rows (fun _ => ?_) _ | refine NoV.maps (fun _ => ?_) _ | refine NoV.cons ?_ ?_)) (by repeat' (first | exact NoV.v _ | exact NoV.ref _ _ _ _ | exact NoV.onil | refine NoV.ocons ?_ ?_ | exact NoV.nil | refine NoV.tup ?_ | refine NoV.agg ?_ | refine NoV.rows (fun _ => ?_) _ | refine NoV.maps (fun _ => ?_) _ | refine NoV.cons ?_ ?_)) ?_; try dsimp only
 try refine xd_id ?_
 obtain ⟨x36, bx36, h0⟩ := bnd h0
 simp only [go_sem, Nat.reduceEqDiff, reduceIte, Nat.reduceMul, Nat.reduceSub, Nat.reduceLT, Nat.reduceLeDiff, Int.reduceToNat, Int.reduceBEq, Int.reduceBNe, Int.reduceLT, Int.reduceLE, Int.reduceAdd, Int.reduceSub, Int.reduceMul, Int.sub_zero]
 try simp only [Nat.reduceAdd]
 try simp only [go_sem, Nat.reduceEqDiff, reduceIte, Nat.reduceMul, Nat.reduceSub, Nat.reduceLT, Nat.reduceLeDiff, Int.reduceToNat, Int.reduceBEq, Int.reduceBNe, Int.reduceLT, Int.reduceLE, Int.reduceAdd, Int.reduceSub, Int.reduceMul, Int.sub_zero]
 try simp only [Nat.reduceAdd]
 try simp only [go_sem, Nat.reduceEqDiff, reduceIte, Nat.reduceMul, Nat.reduceSub, Nat.reduceLT, Nat.reduceLeDiff, Int.reduceToNat, Int.reduceBEq, Int.reduceBNe, Int.reduceLT, Int.reduceLE, Int.reduceAdd, Int.reduceSub, Int.reduceMul, Int.sub_zero]
 refine xcallD_L (by first | (simp only [go_sem, fz, Nat.reduceEqDiff, reduceIte, Nat.reduceAdd, Nat.reduceMul, Nat.reduceSub, Nat.reduceLT, Nat.reduceLeDiff, Int.sub_zero]; done) | (simp only [go_sem, fz, Nat.reduceEqDiff, reduceIte, Nat.reduceAdd, Nat.reduceMul, Nat.reduceSub, Nat.reduceLT, Nat.reduceLeDiff, Int.sub_zero]; rfl) | (simp only [go_sem, fz, List.length_set, ble_self, take_set, cond_true, cond_false, Nat.reduceEqDiff, reduceIte, Nat.reduceAdd, Nat.reduceMul, Nat.reduceSub, Nat.reduceLT, Nat.reduceLeDiff, Int.sub_zero]; done) | (simp only [go_sem, fz, List.length_set, ble_self, take_set, cond_true, cond_false, Nat.reduceEqDiff, reduceIte, Nat.reduceAdd, Nat.reduceMul, Nat.reduceSub, Nat.reduceLT, Nat.reduceLeDiff, Int.sub_zero]; rfl)) (by first | (simp only [go_sem, reach, Nat.reduceEqDiff, reduceIte, Nat.reduceAdd, Nat.reduceMul, Nat.reduceSub, Nat.reduceLT, Nat.reduceLeDiff, Int.sub_zero]; done) | (simp only [go_sem, reach, Nat.reduceEqDiff, reduceIte, Nat.reduceAdd, Nat.reduceMul, Nat.reduceSub, Nat.reduceLT, Nat.reduceLeDiff, Int.sub_zero]; rfl)) (hotspotref29_Number_p x35 bx36) (Bare.v _) ?_; try dsimp only
 try refine xd_id ?_
 simp only [go_sem, Nat.reduceEqDiff, reduceIte, Nat.reduceMul, Nat.reduceSub, Nat.reduceLT, Nat.reduceLeDiff, Int.reduceToNat, Int.reduceBEq, Int.reduceBNe, Int.reduceLT, Int.reduceLE, Int.reduceAdd, Int.reduceSub, Int.reduceMul, Int.sub_zero]
 try simp only [Nat.reduceAdd]
 try simp only [go_sem, Nat.reduceEqDiff, reduceIte, Nat.reduceMul, Nat.reduceSub, Nat.reduceLT, Nat.reduceLeDiff, Int.reduceToNat, Int.reduceBEq, Int.reduceBNe, Int.reduceLT, Int.reduceLE, Int.reduceAdd, Int.reduceSub, Int.reduceMul, Int.sub_zero]
 try simp only [Nat.reduceAdd]
 try simp only [go_sem, Nat.reduceEqDiff, reduceIte, Nat.reduceMul, Nat.reduceSub, Nat.reduceLT, Nat.reduceLeDiff, Int.reduceToNat, Int.reduceBEq, Int.reduceBNe, Int.reduceLT, Int.reduceLE, Int.reduceAdd, Int.reduceSub, Int.reduceMul, Int.sub_zero]
 refine And.intro ?_ (hKK _ _ (Wk.refl _ _ _) ?_)
 ·
  subst hall
  clear hKK KK
  first | decide +kernel | (simp [printsOk, apartP, clash, meet]; done) | (simp [printsOk, apartP, clash, meet]; decide +kernel) | (simp [printsOk, apartP, clash, meet]; repeat (first | exact Or.inr (by decide +kernel) | (refine And.intro (Or.inr (by decide +kernel)) ?_)))
 ·
  clear hKK KK hall all
  refine awp_ret1 ?_
  obtain rfl := someInj h0
  refine endW_i ?_
  refine end_ret0 rs19 (rfl) ?_
  try simp only [go_sem, Nat.reduceEqDiff, reduceIte, Nat.reduceAdd, Nat.reduceMul, Nat.reduceSub, Nat.reduceLT, Nat.reduceLeDiff, fz, nilS, packR, List.take_nil, List.take_length, List.length_map, List.length_append, cond_true, cond_false, Nat.ble_eq, ble_self]
  all_goals first | rfl | (simp only [go_sem, Nat.reduceEqDiff, reduceIte, Nat.reduceAdd, Nat.reduceMul, Nat.reduceSub, Nat.reduceLT, Nat.reduceLeDiff, fz, nilS, packR, List.take_nil, List.take_length, List.length_map, List.length_append, cond_true, cond_false, Nat.ble_eq, ble_self, List.map_append] <;> rfl)

end Go.AX.Z.TW

/-! (TWW hotspotref29 form) -/

set_option linter.unusedSimpArgs false
set_option linter.unusedVariables false
set_option maxHeartbeats 4000000
set_option maxRecDepth 20000
namespace Go.AX.Z.TW
open Go.AX Go.Proofs
attribute [local irreducible] awp xw xop xcall gsp ob xd xdop xcallD seqQ loopQ blkQ endQ


theorem hotspotref29_form_p (a0 : (List Int)) {r : (Int × Int)} (h0 : hotspotref29_form a0 = some r) : SndP K 38 [(S_vu a0)] (.tup [(vi r.1), (vi r.2)]) := by
 refine SndP.of_walkW hC (Clean.tup (clean_cons (Clean.v _) (clean_cons (Clean.v _) clean_nil))) (clean_cons (S_vu_clean _) clean_nil) (show K.P.funcs[38]? = some Try.f38 from Try.func38) rfl rfl (by decide +kernel) (Nat.le_of_ble_eq_true rfl) ?_
 unfold hotspotref29_form at h0
 refine awp_nr [0] (fun _ => rfl) fun tz => ?_
 refine awp_regW fun KK hKK => ?_
 refine xw_id ?_
 try simp only [go_sem, Nat.reduceEqDiff, reduceIte, Nat.reduceAdd, Nat.reduceMul, Nat.reduceSub, Nat.reduceLT, Nat.reduceLeDiff]
 refine hKK _ _ (Wk.refl _ _ _) ?_; clear hKK KK
 refine awp_assoc ?_
 refine awp_nr [0] (fun _ => rfl) fun tz => ?_
 refine awp_regW fun KK hKK => ?_
 refine xw_id ?_
 try simp only [go_sem, Nat.reduceEqDiff, reduceIte, Nat.reduceAdd, Nat.reduceMul, Nat.reduceSub, Nat.reduceLT, Nat.reduceLeDiff, Int.reduceToNat, Int.reduceBEq, Int.reduceBNe, Int.reduceLT, Int.reduceLE, Int.reduceAdd, Int.reduceSub, Int.reduceMul]
 refine hKK _ _ (Wk.refl _ _ _) ?_; clear hKK KK
 refine awp_cond (b := ((a0.length : Int) == 0)) rfl (fun h1 => ?_) (fun h1 => ?_)
 ·
  have h0 := cT h0 h1
  refine awp_assoc ?_
  refine awp_nr [] (fun _ => rfl) fun tz => ?_
  refine awp_regW fun KK hKK => ?_
  refine xw_id ?_
  try simp only [go_sem, Nat.reduceEqDiff, reduceIte, Nat.reduceAdd, Nat.reduceMul, Nat.reduceSub, Nat.reduceLT, Nat.reduceLeDiff]
  refine hKK _ _ (Wk.refl _ _ _) ?_; clear hKK KK
  refine awp_ret ?_
  obtain rfl := someInj h0
  refine endW_i ?_
  refine end_ret0 rs38 (rfl) ?_
  try simp only [go_sem, Nat.reduceEqDiff, reduceIte, Nat.reduceAdd, Nat.reduceMul, Nat.reduceSub, Nat.reduceLT, Nat.reduceLeDiff, fz, nilS, packR, List.take_nil, List.take_length, List.length_map, List.length_append, cond_true, cond_false, Nat.ble_eq, ble_self]
  all_goals first | rfl | (simp only [go_sem, Nat.reduceEqDiff, reduceIte, Nat.reduceAdd, Nat.reduceMul, Nat.reduceSub, Nat.reduceLT, Nat.reduceLeDiff, fz, nilS, packR, List.take_nil, List.take_length, List.length_map, List.length_append, cond_true, cond_false, Nat.ble_eq, ble_self, List.map_append] <;> rfl)
 ·
  have h0 := cF h0 h1
  refine awp_skip ?_
  refine awp_nr [0] (fun _ => rfl) fun tz => ?_
  refine awp_regW fun KK hKK => ?_
  refine xw_id ?_
  refine xw_stop 4 (by (try simp only [go_sem]); rfl) (by (try simp only [go_sem]); rfl) (by rfl) fun K1 hK1 => ?_
  refine xw_id ?_
  try simp only [go_sem, Nat.reduceEqDiff, reduceIte, Nat.reduceAdd, Nat.reduceMul, Nat.reduceSub, Nat.reduceLT, Nat.reduceLeDiff, Int.reduceToNat, Int.reduceBEq, Int.reduceBNe, Int.reduceLT, Int.reduceLE, Int.reduceAdd, Int.reduceSub, Int.reduceMul]
  refine hK1 _ ?_; clear hK1 K1
  obtain ⟨x23, hvh2, h0⟩ := bnd h0
  refine xw_cut 5 [(0, (.imm (List.map vu a0) a0.length)), (17, (vb x23))] (by (try simp only [go_sem]); rfl) (by (try simp only [go_sem]); rfl) (by rfl) (fun K1 hK1 => ?_) fun tz => ?_
  ·
   refine xw_id ?_
   rcases Bool.eq_false_or_eq_true ((a0.length : Int) == 18) with h2 | h2
   ·
    have hvh2 := cT hvh2 h2
    obtain ⟨x22, bx22, hvh2⟩ := bnd hvh2
    obtain ⟨fx22_0, fx22_1, fx22_2, fx22_3⟩ := idx_some bx22
    simp only [Int.reduceToNat] at fx22_2 fx22_3
    try simp only [go_sem, Nat.reduceEqDiff, reduceIte, Nat.reduceAdd, Nat.reduceMul, Nat.reduceSub, Nat.reduceLT, Nat.reduceLeDiff, Int.reduceToNat, Int.reduceBEq, Int.reduceBNe, Int.reduceLT, Int.reduceLE, Int.reduceAdd, Int.reduceSub, Int.reduceMul, h2, fx22_0, fx22_1, fx22_2]
    obtain rfl := someInj hvh2
    exact hK1 _ ⟨rfl, rfl, (by first | rfl | (rw [h2]; rfl) | (simp only [h2, Bool.true_and, Bool.false_and, Bool.true_or, Bool.false_or, cond_true, cond_false]; done)), trivial⟩
   ·
    have hvh2 := cF hvh2 h2
    try simp only [go_sem, Nat.reduceEqDiff, reduceIte, Nat.reduceAdd, Nat.reduceMul, Nat.reduceSub, Nat.reduceLT, Nat.reduceLeDiff, Int.reduceToNat, Int.reduceBEq, Int.reduceBNe, Int.reduceLT, Int.reduceLE, Int.reduceAdd, Int.reduceSub, Int.reduceMul, h2]
    obtain rfl := someInj hvh2
    exact hK1 _ ⟨rfl, rfl, (by first | rfl | (rw [h2]; rfl) | (simp only [h2, Bool.true_and, Bool.false_and, Bool.true_or, Bool.false_or, cond_true, cond_false]; done)), trivial⟩
  ·
   refine xw_id ?_
   try simp only [go_sem, Nat.reduceEqDiff, reduceIte, Nat.reduceAdd, Nat.reduceMul, Nat.reduceSub, Nat.reduceLT, Nat.reduceLeDiff, Int.reduceToNat, Int.reduceBEq, Int.reduceBNe, Int.reduceLT, Int.reduceLE, Int.reduceAdd, Int.reduceSub, Int.reduceMul]
   refine hKK _ _ (Wk.refl _ _ _) ?_; clear hKK KK
   refine awp_nr [0,4] (fun _ => rfl) fun tz => ?_
   refine awp_regW fun KK hKK => ?_
   refine xw_id ?_
   refine xw_stop 4 (by (try simp only [go_sem]); rfl) (by (try simp only [go_sem]); rfl) (by rfl) fun K1 hK1 => ?_
   refine xw_id ?_
   try simp only [go_sem, Nat.reduceEqDiff, reduceIte, Nat.reduceAdd, Nat.reduceMul, Nat.reduceSub, Nat.reduceLT, Nat.reduceLeDiff, Int.reduceToNat, Int.reduceBEq, Int.reduceBNe, Int.reduceLT, Int.reduceLE, Int.reduceAdd, Int.reduceSub, Int.reduceMul]
   refine hK1 _ ?_; clear hK1 K1
   obtain ⟨x25, hvh3, h0⟩ := bnd h0
   refine xw_cut 5 [(0, (.imm (List.map vu a0) a0.length)), (4, (vb x23)), (26, (vb x25))] (by (try simp only [go_sem]); rfl) (by (try simp only [go_sem]); rfl) (by rfl) (fun K1 hK1 => ?_) fun tz => ?_
   ·
    refine xw_id ?_
    rcases Bool.eq_false_or_eq_true ((a0.length : Int) == 26) with h3 | h3
    ·
     have hvh3 := cT hvh3 h3
     obtain ⟨x24, bx24, hvh3⟩ := bnd hvh3
     obtain ⟨fx24_0, fx24_1, fx24_2, fx24_3⟩ := idx_some bx24
     simp only [Int.reduceToNat] at fx24_2 fx24_3
     try simp only [go_sem, Nat.reduceEqDiff, reduceIte, Nat.reduceAdd, Nat.reduceMul, Nat.reduceSub, Nat.reduceLT, Nat.reduceLeDiff, Int.reduceToNat, Int.reduceBEq, Int.reduceBNe, Int.reduceLT, Int.reduceLE, Int.reduceAdd, Int.reduceSub, Int.reduceMul, h3, fx24_0, fx24_1, fx24_2]
     obtain rfl := someInj hvh3
     exact hK1 _ ⟨rfl, rfl, rfl, (by first | rfl | (rw [h3]; rfl) | (simp only [h3, Bool.true_and, Bool.false_and, Bool.true_or, Bool.false_or, cond_true, cond_false]; done)), trivial⟩
    ·
     have hvh3 := cF hvh3 h3
     try simp only [go_sem, Nat.reduceEqDiff, reduceIte, Nat.reduceAdd, Nat.reduceMul, Nat.reduceSub, Nat.reduceLT, Nat.reduceLeDiff, Int.reduceToNat, Int.reduceBEq, Int.reduceBNe, Int.reduceLT, Int.reduceLE, Int.reduceAdd, Int.reduceSub, Int.reduceMul, h3]
     obtain rfl := someInj hvh3
     exact hK1 _ ⟨rfl, rfl, rfl, (by first | rfl | (rw [h3]; rfl) | (simp only [h3, Bool.true_and, Bool.false_and, Bool.true_or, Bool.false_or, cond_true, cond_false]; done)), trivial⟩
   ·
    refine xw_id ?_
    try simp only [go_sem, Nat.reduceEqDiff, reduceIte, Nat.reduceAdd, Nat.reduceMul, Nat.reduceSub, Nat.reduceLT, Nat.reduceLeDiff, Int.reduceToNat, Int.reduceBEq, Int.reduceBNe, Int.reduceLT, Int.reduceLE, Int.reduceAdd, Int.reduceSub, Int.reduceMul]
    refine hKK _ _ (Wk.refl _ _ _) ?_; clear hKK KK
    refine awp_assoc ?_
    refine awp_nr [0,4,5] (fun _ => rfl) fun tz => ?_
    refine awp_regW fun KK hKK => ?_
    refine xw_id ?_
    try simp only [List.append_eq, Array.toList_append, List.append_toArray, List.toList_toArray, List.cons_append, List.nil_append]
    obtain ⟨x26, bx26, h0⟩ := bnd h0
    obtain ⟨fx26_0, fx26_1, fx26_2, fx26_3⟩ := idx_some bx26
    simp only [Int.reduceToNat] at fx26_2 fx26_3
    refine xw_stop 5 (by (try simp only [go_sem]); rfl) (by (try simp only [go_sem]); rfl) (by rfl) fun K1 hK1 => ?_
    refine xw_id ?_
    try simp only [go_sem, Nat.reduceEqDiff, reduceIte, Nat.reduceAdd, Nat.reduceMul, Nat.reduceSub, Nat.reduceLT, Nat.reduceLeDiff, Int.reduceToNat, Int.reduceBEq, Int.reduceBNe, Int.reduceLT, Int.reduceLE, Int.reduceAdd, Int.reduceSub, Int.reduceMul, fx26_0, fx26_1, fx26_2]
    refine hK1 _ ?_; clear hK1 K1
    refine xw_cut 5 [(0, (.imm (List.map vu a0) a0.length)), (36, (vb ((x26 == 1) && (x23 || x25))))] (by (try simp only [go_sem]); rfl) (by (try simp only [go_sem]); rfl) (by rfl) (fun K1 hK1 => ?_) fun tz => ?_
    ·
     refine xw_id ?_
     rcases Bool.eq_false_or_eq_true (x26 == 1) with h4 | h4
     ·
      refine xw_stop 2 (by (try simp only [go_sem]); rfl) (by (try simp only [go_sem]); rfl) (by rfl) fun K1 hK1 => ?_
      refine xw_id ?_
      try simp only [go_sem, Nat.reduceEqDiff, reduceIte, Nat.reduceAdd, Nat.reduceMul, Nat.reduceSub, Nat.reduceLT, Nat.reduceLeDiff, Int.reduceToNat, Int.reduceBEq, Int.reduceBNe, Int.reduceLT, Int.reduceLE, Int.reduceAdd, Int.reduceSub, Int.reduceMul, fx26_0, fx26_1, fx26_2, h4]
      refine hK1 _ ?_; clear hK1 K1
      refine xw_cut 2 [(0, (.imm (List.map vu a0) a0.length)), (31, (vb true)), (35, (vb (x23 || x25)))] (by (try simp only [go_sem]); rfl) (by (try simp only [go_sem]); rfl) (by rfl) (fun K1 hK1 => ?_) fun tz => ?_
      ·
       refine xw_id ?_
       rcases Bool.eq_false_or_eq_true x23 with h5 | h5
       ·
        try simp only [go_sem, Nat.reduceEqDiff, reduceIte, Nat.reduceAdd, Nat.reduceMul, Nat.reduceSub, Nat.reduceLT, Nat.reduceLeDiff, Int.reduceToNat, Int.reduceBEq, Int.reduceBNe, Int.reduceLT, Int.reduceLE, Int.reduceAdd, Int.reduceSub, Int.reduceMul, fx26_0, fx26_1, fx26_2, h4, h5]
        exact hK1 _ ⟨rfl, rfl, rfl, (by first | rfl | (rw [h5]; rfl) | (simp only [h5, Bool.true_and, Bool.false_and, Bool.true_or, Bool.false_or, cond_true, cond_false]; done)), trivial⟩
       ·
        try simp only [go_sem, Nat.reduceEqDiff, reduceIte, Nat.reduceAdd, Nat.reduceMul, Nat.reduceSub, Nat.reduceLT, Nat.reduceLeDiff, Int.reduceToNat, Int.reduceBEq, Int.reduceBNe, Int.reduceLT, Int.reduceLE, Int.reduceAdd, Int.reduceSub, Int.reduceMul, fx26_0, fx26_1, fx26_2, h4, h5]
        exact hK1 _ ⟨rfl, rfl, rfl, (by first | rfl | (rw [h5]; rfl) | (simp only [h5, Bool.true_and, Bool.false_and, Bool.true_or, Bool.false_or, cond_true, cond_false]; done)), trivial⟩
      ·
       refine xw_id ?_
       try simp only [go_sem, Nat.reduceEqDiff, reduceIte, Nat.reduceAdd, Nat.reduceMul, Nat.reduceSub, Nat.reduceLT, Nat.reduceLeDiff, Int.reduceToNat, Int.reduceBEq, Int.reduceBNe, Int.reduceLT, Int.reduceLE, Int.reduceAdd, Int.reduceSub, Int.reduceMul, fx26_0, fx26_1, fx26_2, h4]
       exact hK1 _ ⟨rfl, rfl, (by first | rfl | (rw [h4]; rfl) | (simp only [h4, Bool.true_and, Bool.false_and, Bool.true_or, Bool.false_or, cond_true, cond_false]; done)), trivial⟩
     ·
      try simp only [go_sem, Nat.reduceEqDiff, reduceIte, Nat.reduceAdd, Nat.reduceMul, Nat.reduceSub, Nat.reduceLT, Nat.reduceLeDiff, Int.reduceToNat, Int.reduceBEq, Int.reduceBNe, Int.reduceLT, Int.reduceLE, Int.reduceAdd, Int.reduceSub, Int.reduceMul, fx26_0, fx26_1, fx26_2, h4]
      exact hK1 _ ⟨rfl, rfl, (by first | rfl | (rw [h4]; rfl) | (simp only [h4, Bool.true_and, Bool.false_and, Bool.true_or, Bool.false_or, cond_true, cond_false]; done)), trivial⟩
    ·
     refine xw_id ?_
     refine xw_stop 1 (by (try simp only [go_sem]); rfl) (by (try simp only [go_sem]); rfl) (by rfl) fun K1 hK1 => ?_
     refine xw_id ?_
     try simp only [go_sem, Nat.reduceEqDiff, reduceIte, Nat.reduceAdd, Nat.reduceMul, Nat.reduceSub, Nat.reduceLT, Nat.reduceLeDiff, Int.reduceToNat, Int.reduceBEq, Int.reduceBNe, Int.reduceLT, Int.reduceLE, Int.reduceAdd, Int.reduceSub, Int.reduceMul, fx26_0, fx26_1, fx26_2]
     refine hK1 _ ?_; clear hK1 K1
     refine xw_cut 10 [(0, (.imm (List.map vu a0) a0.length)), (47, (vb (((x26 == 1) && (x23 || x25)) || ((x26 == 2) && ((a0.length : Int) == 19)))))] (by (try simp only [go_sem]); rfl) (by (try simp only [go_sem]); rfl) (by rfl) (fun K1 hK1 => ?_) fun tz => ?_
     ·
      refine xw_id ?_
      rcases Bool.eq_false_or_eq_true ((x26 == 1) && (x23 || x25)) with h6 | h6
      ·
       have h6_0 : (x26 == 1) = true := by simp only [Bool.and_eq_true] at h6; exact h6.1
       have h6_1 : (x23 || x25) = true := by simp only [Bool.and_eq_true] at h6; exact h6.2
       try simp only [go_sem, Nat.reduceEqDiff, reduceIte, Nat.reduceAdd, Nat.reduceMul, Nat.reduceSub, Nat.reduceLT, Nat.reduceLeDiff, Int.reduceToNat, Int.reduceBEq, Int.reduceBNe, Int.reduceLT, Int.reduceLE, Int.reduceAdd, Int.reduceSub, Int.reduceMul, fx26_0, fx26_1, fx26_2, h6, h6_0, h6_1]
       exact hK1 _ ⟨rfl, (by first | rfl | (rw [h6_0]; rfl) | (rw [h6_1]; rfl)), (by first | rfl | (rw [h6]; rfl) | (simp only [h6, Bool.true_and, Bool.false_and, Bool.true_or, Bool.false_or, cond_true, cond_false]; done)), trivial⟩
      ·
       refine xw_stop 5 (by (try simp only [go_sem]); rfl) (by (try simp only [go_sem]); rfl) (by rfl) fun K1 hK1 => ?_
       refine xw_id ?_
       try simp only [go_sem, Nat.reduceEqDiff, reduceIte, Nat.reduceAdd, Nat.reduceMul, Nat.reduceSub, Nat.reduceLT, Nat.reduceLeDiff, Int.reduceToNat, Int.reduceBEq, Int.reduceBNe, Int.reduceLT, Int.reduceLE, Int.reduceAdd, Int.reduceSub, Int.reduceMul, fx26_0, fx26_1, fx26_2, h6]
       refine hK1 _ ?_; clear hK1 K1
       refine xw_cut 4 [(0, (.imm (List.map vu a0) a0.length)), (37, (vb false)), (46, (vb ((x26 == 2) && ((a0.length : Int) == 19))))] (by (try simp only [go_sem]); rfl) (by (try simp only [go_sem]); rfl) (by rfl) (fun K1 hK1 => ?_) fun tz => ?_
       ·
        refine xw_id ?_
        rcases Bool.eq_false_or_eq_true (x26 == 2) with h7 | h7
        ·
         try simp only [go_sem, Nat.reduceEqDiff, reduceIte, Nat.reduceAdd, Nat.reduceMul, Nat.reduceSub, Nat.reduceLT, Nat.reduceLeDiff, Int.reduceToNat, Int.reduceBEq, Int.reduceBNe, Int.reduceLT, Int.reduceLE, Int.reduceAdd, Int.reduceSub, Int.reduceMul, fx26_0, fx26_1, fx26_2, h6, h7]
         exact hK1 _ ⟨rfl, rfl, rfl, (by first | rfl | (rw [h7]; rfl) | (simp only [h7, Bool.true_and, Bool.false_and, Bool.true_or, Bool.false_or, cond_true, cond_false]; done)), trivial⟩
        ·
         try simp only [go_sem, Nat.reduceEqDiff, reduceIte, Nat.reduceAdd, Nat.reduceMul, Nat.reduceSub, Nat.reduceLT, Nat.reduceLeDiff, Int.reduceToNat, Int.reduceBEq, Int.reduceBNe, Int.reduceLT, Int.reduceLE, Int.reduceAdd, Int.reduceSub, Int.reduceMul, fx26_0, fx26_1, fx26_2, h6, h7]
         exact hK1 _ ⟨rfl, rfl, rfl, (by first | rfl | (rw [h7]; rfl) | (simp only [h7, Bool.true_and, Bool.false_and, Bool.true_or, Bool.false_or, cond_true, cond_false]; done)), trivial⟩
       ·
        refine xw_id ?_
        try simp only [go_sem, Nat.reduceEqDiff, reduceIte, Nat.reduceAdd, Nat.reduceMul, Nat.reduceSub, Nat.reduceLT, Nat.reduceLeDiff, Int.reduceToNat, Int.reduceBEq, Int.reduceBNe, Int.reduceLT, Int.reduceLE, Int.reduceAdd, Int.reduceSub, Int.reduceMul, fx26_0, fx26_1, fx26_2, h6]
        exact hK1 _ ⟨rfl, rfl, (by first | rfl | (rw [h6]; rfl) | (simp only [h6, Bool.true_and, Bool.false_and, Bool.true_or, Bool.false_or, cond_true, cond_false]; done)), trivial⟩
     ·
      refine xw_id ?_
      refine xw_stop 1 (by (try simp only [go_sem]); rfl) (by (try simp only [go_sem]); rfl) (by rfl) fun K1 hK1 => ?_
      refine xw_id ?_
      try simp only [go_sem, Nat.reduceEqDiff, reduceIte, Nat.reduceAdd, Nat.reduceMul, Nat.reduceSub, Nat.reduceLT, Nat.reduceLeDiff, Int.reduceToNat, Int.reduceBEq, Int.reduceBNe, Int.reduceLT, Int.reduceLE, Int.reduceAdd, Int.reduceSub, Int.reduceMul, fx26_0, fx26_1, fx26_2]
      refine hK1 _ ?_; clear hK1 K1
      refine xw_cut 10 [(0, (.imm (List.map vu a0) a0.length)), (58, (vb ((((x26 == 1) && (x23 || x25)) || ((x26 == 2) && ((a0.length : Int) == 19))) || ((x26 == 3) && ((a0.length : Int) == 9)))))] (by (try simp only [go_sem]); rfl) (by (try simp only [go_sem]); rfl) (by rfl) (fun K1 hK1 => ?_) fun tz => ?_
      ·
       refine xw_id ?_
       rcases Bool.eq_false_or_eq_true (((x26 == 1) && (x23 || x25)) || ((x26 == 2) && ((a0.length : Int) == 19))) with h8 | h8
       ·
        try simp only [go_sem, Nat.reduceEqDiff, reduceIte, Nat.reduceAdd, Nat.reduceMul, Nat.reduceSub, Nat.reduceLT, Nat.reduceLeDiff, Int.reduceToNat, Int.reduceBEq, Int.reduceBNe, Int.reduceLT, Int.reduceLE, Int.reduceAdd, Int.reduceSub, Int.reduceMul, fx26_0, fx26_1, fx26_2, h8]
        exact hK1 _ ⟨rfl, rfl, (by first | rfl | (rw [h8]; rfl) | (simp only [h8, Bool.true_and, Bool.false_and, Bool.true_or, Bool.false_or, cond_true, cond_false]; done)), trivial⟩
       ·
        refine xw_stop 5 (by (try simp only [go_sem]); rfl) (by (try simp only [go_sem]); rfl) (by rfl) fun K1 hK1 => ?_
        refine xw_id ?_
        try simp only [go_sem, Nat.reduceEqDiff, reduceIte, Nat.reduceAdd, Nat.reduceMul, Nat.reduceSub, Nat.reduceLT, Nat.reduceLeDiff, Int.reduceToNat, Int.reduceBEq, Int.reduceBNe, Int.reduceLT, Int.reduceLE, Int.reduceAdd, Int.reduceSub, Int.reduceMul, fx26_0, fx26_1, fx26_2, h8]
        refine hK1 _ ?_; clear hK1 K1
        refine xw_cut 4 [(0, (.imm (List.map vu a0) a0.length)), (48, (vb false)), (57, (vb ((x26 == 3) && ((a0.length : Int) == 9))))] (by (try simp only [go_sem]); rfl) (by (try simp only [go_sem]); rfl) (by rfl) (fun K1 hK1 => ?_) fun tz => ?_
        ·
         refine xw_id ?_
         rcases Bool.eq_false_or_eq_true (x26 == 3) with h9 | h9
         ·
          try simp only [go_sem, Nat.reduceEqDiff, reduceIte, Nat.reduceAdd, Nat.reduceMul, Nat.reduceSub, Nat.reduceLT, Nat.reduceLeDiff, Int.reduceToNat, Int.reduceBEq, Int.reduceBNe, Int.reduceLT, Int.reduceLE, Int.reduceAdd, Int.reduceSub, Int.reduceMul, fx26_0, fx26_1, fx26_2, h8, h9]
          exact hK1 _ ⟨rfl, rfl, rfl, (by first | rfl | (rw [h9]; rfl) | (simp only [h9, Bool.true_and, Bool.false_and, Bool.true_or, Bool.false_or, cond_true, cond_false]; done)), trivial⟩
         ·
          try simp only [go_sem, Nat.reduceEqDiff, reduceIte, Nat.reduceAdd, Nat.reduceMul, Nat.reduceSub, Nat.reduceLT, Nat.reduceLeDiff, Int.reduceToNat, Int.reduceBEq, Int.reduceBNe, Int.reduceLT, Int.reduceLE, Int.reduceAdd, Int.reduceSub, Int.reduceMul, fx26_0, fx26_1, fx26_2, h8, h9]
          exact hK1 _ ⟨rfl, rfl, rfl, (by first | rfl | (rw [h9]; rfl) | (simp only [h9, Bool.true_and, Bool.false_and, Bool.true_or, Bool.false_or, cond_true, cond_false]; done)), trivial⟩
        ·
         refine xw_id ?_
         try simp only [go_sem, Nat.reduceEqDiff, reduceIte, Nat.reduceAdd, Nat.reduceMul, Nat.reduceSub, Nat.reduceLT, Nat.reduceLeDiff, Int.reduceToNat, Int.reduceBEq, Int.reduceBNe, Int.reduceLT, Int.reduceLE, Int.reduceAdd, Int.reduceSub, Int.reduceMul, fx26_0, fx26_1, fx26_2, h8]
         exact hK1 _ ⟨rfl, rfl, (by first | rfl | (rw [h8]; rfl) | (simp only [h8, Bool.true_and, Bool.false_and, Bool.true_or, Bool.false_or, cond_true, cond_false]; done)), trivial⟩
      ·
       refine xw_id ?_
       try simp only [go_sem, Nat.reduceEqDiff, reduceIte, Nat.reduceAdd, Nat.reduceMul, Nat.reduceSub, Nat.reduceLT, Nat.reduceLeDiff, Int.reduceToNat, Int.reduceBEq, Int.reduceBNe, Int.reduceLT, Int.reduceLE, Int.reduceAdd, Int.reduceSub, Int.reduceMul, fx26_0, fx26_1, fx26_2]
       refine hKK _ _ (Wk.refl _ _ _) ?_; clear hKK KK
       refine awp_cond (b := ((((x26 == 1) && (x23 || x25)) || ((x26 == 2) && ((a0.length : Int) == 19))) || ((x26 == 3) && ((a0.length : Int) == 9)))) rfl (fun h10 => ?_) (fun h10 => ?_)
       ·
        have h0 := cT h0 h10
        refine awp_assoc ?_
        refine awp_nr [0] (fun _ => rfl) fun tz => ?_
        refine awp_regW fun KK hKK => ?_
        refine xw_id ?_
        try simp only [go_sem, Nat.reduceEqDiff, reduceIte, Nat.reduceAdd, Nat.reduceMul, Nat.reduceSub, Nat.reduceLT, Nat.reduceLeDiff, Int.reduceToNat, Int.reduceBEq, Int.reduceBNe, Int.reduceLT, Int.reduceLE, Int.reduceAdd, Int.reduceSub, Int.reduceMul, fx26_0, fx26_1, fx26_2]
        refine hKK _ _ (Wk.refl _ _ _) ?_; clear hKK KK
        refine awp_ret ?_
        obtain rfl := someInj h0
        refine endW_i ?_
        refine end_ret0 rs38 (rfl) ?_
        try simp only [go_sem, Nat.reduceEqDiff, reduceIte, Nat.reduceAdd, Nat.reduceMul, Nat.reduceSub, Nat.reduceLT, Nat.reduceLeDiff, fz, nilS, packR, List.take_nil, List.take_length, List.length_map, List.length_append, cond_true, cond_false, Nat.ble_eq, ble_self]
        all_goals first | rfl | (simp only [go_sem, Nat.reduceEqDiff, reduceIte, Nat.reduceAdd, Nat.reduceMul, Nat.reduceSub, Nat.reduceLT, Nat.reduceLeDiff, fz, nilS, packR, List.take_nil, List.take_length, List.length_map, List.length_append, cond_true, cond_false, Nat.ble_eq, ble_self, List.map_append] <;> rfl)
       ·
        have h0 := cF h0 h10
        refine awp_skip ?_
        refine awp_nr [] (fun _ => rfl) fun tz => ?_
        refine awp_regW fun KK hKK => ?_
        refine xw_id ?_
        try simp only [go_sem, Nat.reduceEqDiff, reduceIte, Nat.reduceAdd, Nat.reduceMul, Nat.reduceSub, Nat.reduceLT, Nat.reduceLeDiff, fx26_0, fx26_1, fx26_2]
        refine hKK _ _ (Wk.refl _ _ _) ?_; clear hKK KK
        refine awp_ret1 ?_
        obtain rfl := someInj h0
        refine endW_i ?_
        refine end_ret0 rs38 (rfl) ?_
        try simp only [go_sem, Nat.reduceEqDiff, reduceIte, Nat.reduceAdd, Nat.reduceMul, Nat.reduceSub, Nat.reduceLT, Nat.reduceLeDiff, fz, nilS, packR, List.take_nil, List.take_length, List.length_map, List.length_append, cond_true, cond_false, Nat.ble_eq, ble_self]
        all_goals first | rfl | (simp only [go_sem, Nat.reduceEqDiff, reduceIte, Nat.reduceAdd, Nat.reduceMul, Nat.reduceSub, Nat.reduceLT, Nat.reduceLeDiff, fz, nilS, packR, List.take_nil, List.take_length, List.length_map, List.length_append, cond_true, cond_false, Nat.ble_eq, ble_self, List.map_append] <;> rfl)

end Go.AX.Z.TW

/-! (TWW hotspotref29 Eight) -/

set_option linter.unusedSimpArgs false
set_option linter.unusedVariables false
set_option maxHeartbeats 4000000
set_option maxRecDepth 20000
namespace Go.AX.Z.TW
open Go.AX Go.Proofs
attribute [local irreducible] awp xw xop xcall gsp ob xd xdop xcallD seqQ loopQ blkQ endQ

def hotspotref29_Eight_S0 (d42 : (List Int)) : AS :=
 { objs := (upd (fun _ => .dead) 0 (.live (List.map vu d42))), next := 1, tmps := (upd (fun _ => .unk) 3 (.ref 0 0 ((d42).length) 1)) }

def hotspotref29_Eight_S1 (d43 : (Int × List Int × Int)) : AS :=
 { objs := (upd (fun _ => .dead) 0 (.live (List.map vu d43.2.1))), next := 1, tmps := (upd (upd (upd (fun _ => .unk) 0 (vq d43.1)) 3 (.ref 0 0 ((d43.2.1).length) 1)) 4 (vi d43.2.2)) }

theorem hotspotref29_Eight_r (a0 : Int) {r : (List Int)} (h0 : hotspotref29_Eight a0 = some r) : SndR K 41 [(vq a0)] (fun q => (.ref (q 0) 0 r.length 1)) [(List.map vu r)] := by
 refine SndR.of_walkW hC (show K.P.funcs[41]? = some Try.f41 from Try.func41) rfl rfl (by decide +kernel) (Nat.le_of_ble_eq_true rfl) ?_
 unfold hotspotref29_Eight at h0
 refine awp_nr [0] (fun _ => rfl) fun tz => ?_
 refine awp_regW fun KK hKK => ?_
 refine xw_id ?_
 try simp only [go_sem, Nat.reduceEqDiff, reduceIte, Nat.reduceAdd, Nat.reduceMul, Nat.reduceSub, Nat.reduceLT, Nat.reduceLeDiff]
 refine hKK _ _ (Wk.refl _ _ _) ?_; clear hKK KK
 refine awp_nr [0] (fun _ => rfl) fun tz => ?_
 refine awp_regW fun KK hKK => ?_
 refine xw_id ?_
 try simp only [go_sem, Nat.reduceEqDiff, reduceIte, Nat.reduceAdd, Nat.reduceMul, Nat.reduceSub, Nat.reduceLT, Nat.reduceLeDiff]
 refine hKK _ _ (Wk.refl _ _ _) ?_; clear hKK KK
 refine awp_assoc ?_
 refine awp_nr [0,3] (fun _ => rfl) fun tz => ?_
 refine awp_regW fun KK hKK => ?_
 refine xw_id ?_
 try simp only [go_sem, Nat.reduceEqDiff, reduceIte, Nat.reduceAdd, Nat.reduceMul, Nat.reduceSub, Nat.reduceLT, Nat.reduceLeDiff]
 refine hKK _ _ (Wk.refl _ _ _) ?_; clear hKK KK
 obtain ⟨d42, hi1, h0⟩ := bnd h0
 refine awp_cut (fun z => d42 = z) (fun d42 : (List Int) => hotspotref29_Eight_S0 d42) ?_ ?_
 ·
  refine awp_block1 ?_
  refine awp_loopS (fun n (d43 : (Int × List Int × Int)) => hotspotref29_Eight_L2 n d43 = some d42) (fun d43 : (Int × List Int × Int) => hotspotref29_Eight_S1 d43) big (a0, [], 0) (Wk.canonD [] [] [none] rfl trivial rfl (tmON 0 tmO0 rfl) (tmAllU 4 (tmAllU 3 (tmAllU 0 tmAll0 (Tm.v _)) (Tm.thaw _ _ _)) (Tm.v _))) hi1 ?_
  clear hi1
  rintro n d43 hl3
  rcases n with _ | n2
  ·
   (rw [hotspotref29_Eight_L2] at hl3; cases hl3)
  ·
   rw [hotspotref29_Eight_L2] at hl3
   unfold hotspotref29_Eight_S1
   refine awp_assoc ?_
   refine awp_nr [0,3,4] (fun _ => rfl) fun tz => ?_
   refine awp_regW fun KK hKK => ?_
   refine xw_id ?_
   try simp only [go_sem, Nat.reduceEqDiff, reduceIte, Nat.reduceAdd, Nat.reduceMul, Nat.reduceSub, Nat.reduceLT, Nat.reduceLeDiff]
   refine hKK _ _ (Wk.refl _ _ _) ?_; clear hKK KK
   refine awp_cond (b := (decide (d43.2.2 < 8))) rfl (fun h4 => ?_) (fun h4 => ?_)
   ·
    have hl3 := cT hl3 h4
    refine awp_skip ?_
    refine awp_blockW ?_
    refine awp_nr [0,3,4] (fun _ => rfl) fun tz => ?_
    refine awp_regW fun KK hKK => ?_
    refine xw_id ?_
    obtain ⟨x44, bx44, hl3⟩ := bnd hl3
    have bx44 := chk_some bx44
    simp only [Bool.and_eq_true, decide_eq_true_eq] at bx44
    have gx44_0 := bx44
    try simp only [go_sem, Nat.reduceEqDiff, reduceIte, Nat.reduceAdd, Nat.reduceMul, Nat.reduceSub, Nat.reduceLT, Nat.reduceLeDiff, Int.reduceToNat, Int.reduceBEq, Int.reduceBNe, Int.reduceLT, Int.reduceLE, Int.reduceAdd, Int.reduceSub, Int.reduceMul, Int.reduceNeg, Int.reduceEq, Int.reduceNe, gx44_0]
    refine hKK _ _ (Wk.refl _ _ _) ?_; clear hKK KK
    refine awp_nr1 [0,3,4] (fun _ => rfl) fun tz => ?_
    refine awp_reg1 fun KK hKK => ?_
    refine xw_id ?_
    try simp only [go_sem, Nat.reduceEqDiff, reduceIte, Nat.reduceAdd, Nat.reduceMul, Nat.reduceSub, Nat.reduceLT, Nat.reduceLeDiff, Int.reduceToNat, Int.reduceBEq, Int.reduceBNe, Int.reduceLT, Int.reduceLE, Int.reduceAdd, Int.reduceSub, Int.reduceMul, Int.reduceNeg, Int.reduceEq, Int.reduceNe]
    refine hKK _ ?_; clear hKK KK
    refine bq_n ?_
    refine seqW_i ?_
    refine awp_nr1 [0,3,4] (fun _ => rfl) fun tz => ?_
    refine awp_reg1 fun KK hKK => ?_
    refine xw_id ?_
    try simp only [go_sem, Nat.reduceEqDiff, reduceIte, Nat.reduceAdd, Nat.reduceMul, Nat.reduceSub, Nat.reduceLT, Nat.reduceLeDiff]
    refine hKK _ ?_; clear hKK KK
    refine lq_n ?_
    exact ⟨n2, (IntKind.wrap .u64 ((d43.1).tdiv 256), (d43.2.1 ++ [IntKind.wrap .u8 ((d43.1).tmod 256)]), IntKind.wrap .i64 (d43.2.2 + 1)), rfl, hl3, (by refine Wk.canonD [] [] [some 8] rfl trivial rfl (tmOU 0 tmO0 rfl List.not_mem_nil (by simp only [upd_get, Nat.reduceEqDiff, reduceIte, Nat.reduceAdd, Nat.reduceMul, Nat.reduceSub, Nat.reduceLT, Nat.reduceLeDiff, if_true, if_false] <;> rfl) (TmL.of_eq (by first | rfl | (simp only [List.flatMap_append, List.flatMap_cons, List.flatMap_nil, List.map_append, List.map_cons, List.map_nil, List.append_nil, List.nil_append]; done) | (simp only [List.flatMap_append, List.flatMap_cons, List.flatMap_nil, List.map_append, List.map_cons, List.map_nil, List.append_nil, List.nil_append]; rfl)) (vu_clean _))) (tmAllU 4 (tmAllU 3 (tmAllU 0 tmAll0 (Tm.v _)) (Tm.refL rfl ?_)) (Tm.v _)); all_goals (first | rfl | (simp only [List.length_take]; omega) | (simp only [List.length_append, List.length_cons, List.length_nil, List.length_modify, List.length_set, Nat.zero_add]; done) | (simp only [List.length_append, List.length_take, List.length_drop, List.length_cons, List.length_nil, List.length_modify, List.length_set, Nat.zero_add]; omega) | (simp only [List.length_append, List.length_take, List.length_drop, List.length_cons, List.length_nil, List.length_modify, List.length_set, Nat.zero_add]; done) | omega))⟩
   ·
    have hl3 := cF hl3 h4
    refine awp_exit ?_
    refine lq_e ?_
    refine bq_e ?_
    refine sq_n ?_
    obtain rfl := someInj hl3
    exact ⟨_, rfl, (by refine Wk.canonD [] [] [some 0] rfl trivial rfl (tmOU 0 tmO0 rfl List.not_mem_nil (by simp only [upd_get, Nat.reduceEqDiff, reduceIte, Nat.reduceAdd, Nat.reduceMul, Nat.reduceSub, Nat.reduceLT, Nat.reduceLeDiff, if_true, if_false] <;> rfl) (TmL.of_eq (by first | rfl | (simp only [List.flatMap_append, List.flatMap_cons, List.flatMap_nil, List.map_append, List.map_cons, List.map_nil, List.append_nil, List.nil_append]; done) | (simp only [List.flatMap_append, List.flatMap_cons, List.flatMap_nil, List.map_append, List.map_cons, List.map_nil, List.append_nil, List.nil_append]; rfl)) (vu_clean _))) (tmAllU 3 tmAll0 (Tm.refL rfl ?_)); all_goals (first | rfl | (simp only [List.length_take]; omega) | (simp only [List.length_append, List.length_cons, List.length_nil, List.length_modify, List.length_set, Nat.zero_add]; done) | (simp only [List.length_append, List.length_take, List.length_drop, List.length_cons, List.length_nil, List.length_modify, List.length_set, Nat.zero_add]; omega) | (simp only [List.length_append, List.length_take, List.length_drop, List.length_cons, List.length_nil, List.length_modify, List.length_set, Nat.zero_add]; done) | omega))⟩
 ·
  rintro _ rfl
  clear hi1
  unfold hotspotref29_Eight_S0
  refine awp_nr [3] (fun _ => rfl) fun tz => ?_
  refine awp_regW fun KK hKK => ?_
  refine xw_id ?_
  try simp only [go_sem, Nat.reduceEqDiff, reduceIte, Nat.reduceAdd, Nat.reduceMul, Nat.reduceSub, Nat.reduceLT, Nat.reduceLeDiff]
  refine hKK _ _ (Wk.refl _ _ _) ?_; clear hKK KK
  refine awp_ret1 ?_
  obtain rfl := someInj h0
  refine endW_i ?_
  refine end_ret0 rs41 (rfl) ?_
  refine Res.mk [] [some 0] rfl (resOU List.not_mem_nil (by simp only [upd_get, Nat.reduceEqDiff, reduceIte, Nat.reduceAdd, Nat.reduceMul, Nat.reduceSub, Nat.reduceLT, Nat.reduceLeDiff, if_true, if_false] <;> rfl) (TmL.of_eq (by first | rfl | (simp only [List.flatMap_append, List.flatMap_cons, List.flatMap_nil, List.map_append, List.map_cons, List.map_nil, List.append_nil, List.nil_append]; done) | (simp only [List.flatMap_append, List.flatMap_cons, List.flatMap_nil, List.map_append, List.map_cons, List.map_nil, List.append_nil, List.nil_append]; rfl)) (vu_clean _)) resO0) (Tm.refL rfl ?_)
  all_goals (first | rfl | (simp only [List.length_take]; omega) | (simp only [List.length_append, List.length_cons, List.length_nil, List.length_modify, List.length_set, Nat.zero_add]; done) | (simp only [List.length_append, List.length_take, List.length_drop, List.length_cons, List.length_nil, List.length_modify, List.length_set, Nat.zero_add]; omega) | (simp only [List.length_append, List.length_take, List.length_drop, List.length_cons, List.length_nil, List.length_modify, List.length_set, Nat.zero_add]; done) | omega)

theorem hotspotref29_Eight_m (a0 : Int) {r : (List Int)} (h0 : hotspotref29_Eight a0 = some r) : SndM K 41 [(vq a0)] (fun q => (.ref (q 0) 0 r.length 1)) [(List.map vu r)] :=
 fun hs => Snd.of_newM (RenM.ref 0 0 _ _) (rows_all_cons (vu_clean _) rows_all_nil) (clean_cons (Clean.v _) clean_nil) (hotspotref29_Eight_r a0 h0) hs

theorem hotspotref29_Eight_e (a0 : Int) {r : (List Int)} (h0 : hotspotref29_Eight a0 = some r) (fr : Nat) (hs : HS) : SndE K 41 [(vq a0)] hs fr ⟨(fun q : Nat → Nat => (.ref (q 0) 0 r.length 1)) fun _ => fr, .new (List.map vu r)⟩ :=
 SndE.of_res (RenM.ref 0 0 _ _) (vu_clean _) (clean_cons (Clean.v _) clean_nil) (fun a b h => by simp only [h]) (hotspotref29_Eight_r a0 h0) hs fr

theorem hotspotref29_Eight_p (a0 : Int) {r : (List Int)} (h0 : hotspotref29_Eight a0 = some r) : SndP K 41 [(vq a0)] (S_vu r) :=
 SndM.pure (hotspotref29_Eight_m a0 h0) (S_vu_clean _) (clean_cons (Clean.v _) clean_nil) (by simp only [go_sem, newL_n, newL_c, upd_get, fz, nilS, cond_true, cond_false, List.drop_zero, List.take_length, List.length_map, ble_self, Nat.reduceEqDiff, reduceIte, Nat.reduceAdd, Nat.reduceMul, Nat.reduceSub, Nat.reduceLT, Nat.reduceLeDiff] <;> rfl)

end Go.AX.Z.TW

/-! (TWW hotspotref29 Admit) -/

set_option linter.unusedSimpArgs false
set_option linter.unusedVariables false
set_option maxHeartbeats 4000000
set_option maxRecDepth 20000
namespace Go.AX.Z.TW
open Go.AX Go.Proofs
attribute [local irreducible] awp xw xop xcall gsp ob xd xdop xcallD seqQ loopQ blkQ endQ

def hotspotref29_Admit_S0 (a0 : AuthDoor) (a1 : A6vu) (a2 : (List Int)) (x15 : Int) : AS :=
 { objs := (upd (upd (upd (fun _ => .dead) 0 (.live (e_AuthDoor a0 (.imm (List.flatMap e_A6vu a0.Open) a0.Open.length)))) 1 (.live (e_A6vu a1))) 2 (.live (e_AuthDoor AuthDoor.z vnil))), next := 3, tmps := (upd (upd (upd (upd (upd (fun _ => .unk) 2 (.imm (List.map vu a2) a2.length)) 3 (.ptr 0 0)) 4 (.ptr 1 0)) 6 (.ptr 2 0)) 14 (vb (x15 != 0))) }

def hotspotref29_Admit_S1 (a0 : AuthDoor) (a1 : A6vu) (a2 : (List Int)) (d17 : Int) : AS :=
 { objs := (upd (upd (upd (fun _ => .dead) 0 (.live (e_AuthDoor a0 (.imm (List.flatMap e_A6vu a0.Open) a0.Open.length)))) 1 (.live (e_A6vu a1))) 2 (.live (e_AuthDoor AuthDoor.z vnil))), next := 3, tmps := (upd (upd (upd (upd (upd (fun _ => .unk) 2 (.imm (List.map vu a2) a2.length)) 3 (.ptr 0 0)) 4 (.ptr 1 0)) 6 (.ptr 2 0)) 10 (vi d17)) }

theorem hotspotref29_Admit_r (a0 : AuthDoor) (a1 : A6vu) (a2 : (List Int)) {r : (AuthDoor × (List Int) × Int)} (h0 : hotspotref29_Admit a0 a1 a2 = some r) : SndR K 9 [(.agg (E_AuthDoor a0)), (.agg (e_A6vu a1)), (S_vu a2)] (fun q => (.tup [(.agg (E_AuthDoor r.1)), (.ref (q 0) 0 r.2.1.length 1), (vi r.2.2)])) [(List.map vu r.2.1)] := by
 refine SndR.of_walkW hC (show K.P.funcs[9]? = some Try.f9 from Try.func9) rfl rfl (by decide +kernel) (Nat.le_of_ble_eq_true rfl) ?_
 unfold hotspotref29_Admit at h0
 refine awp_nr [0,1,2] (fun _ => rfl) fun tz => ?_
 refine awp_regW fun KK hKK => ?_
 refine xw_id ?_
 try simp only [go_sem, Nat.reduceEqDiff, reduceIte, Nat.reduceAdd, Nat.reduceMul, Nat.reduceSub, Nat.reduceLT, Nat.reduceLeDiff]
 refine hKK _ _ (Wk.refl _ _ _) ?_; clear hKK KK
 refine awp_assoc ?_
 refine awp_nr [2,3,4,6] (fun _ => rfl) fun tz => ?_
 refine awp_regW fun KK hKK => ?_
 refine xw_id ?_
 obtain ⟨x15, bx15, h0⟩ := bnd h0
 try simp only [go_sem, Nat.reduceEqDiff, reduceIte, Nat.reduceAdd, Nat.reduceMul, Nat.reduceSub, Nat.reduceLT, Nat.reduceLeDiff]
 refine xcall_p (hotspotref29_CheckDoor_p a0 bx15) ?_; try dsimp only
 try refine xw_id ?_
 try simp only [go_sem, Nat.reduceEqDiff, reduceIte, Nat.reduceAdd, Nat.reduceMul, Nat.reduceSub, Nat.reduceLT, Nat.reduceLeDiff]
 refine hKK _ (hotspotref29_Admit_S0 a0 a1 a2 x15) (Wk.canonD [] [] [some 0, some 1, some 2] rfl trivial rfl (tmOU 2 (tmOU 1 (tmOU 0 tmO0 rfl List.not_mem_nil (by simp only [upd_get, ↓iop_and, Nat.reduceEqDiff, reduceIte, if_true, if_false] <;> rfl) (e_AuthDoor_tmx (by rfl) (Tm.clean (Clean.imm (c_A6vu _))))) rfl List.not_mem_nil (by simp only [upd_get, ↓iop_and, Nat.reduceEqDiff, reduceIte, if_true, if_false] <;> rfl) (TmL.clean (e_A6vu_clean _))) rfl List.not_mem_nil (by simp only [upd_get, ↓iop_and, Nat.reduceEqDiff, reduceIte, if_true, if_false] <;> rfl) (e_AuthDoor_tmx (by rfl) (Tm.v _))) (tmAllU 14 (tmAllU 6 (tmAllU 4 (tmAllU 3 (tmAllU 2 tmAll0 (Tm.clean (Clean.imm (vu_clean _)))) (Tm.ptr rfl)) (Tm.ptr rfl)) (Tm.ptr rfl)) (Tm.v _))) ?_; clear hKK KK
 unfold hotspotref29_Admit_S0
 refine awp_cond (b := (x15 != 0)) rfl (fun h1 => ?_) (fun h1 => ?_)
 ·
  have h0 := cT h0 h1
  refine awp_assoc ?_
  refine awp_nr [6] (fun _ => rfl) fun tz => ?_
  refine awp_regW fun KK hKK => ?_
  refine xw_id ?_
  try simp only [go_sem, Nat.reduceEqDiff, reduceIte, Nat.reduceAdd, Nat.reduceMul, Nat.reduceSub, Nat.reduceLT, Nat.reduceLeDiff]
  refine hKK _ _ (Wk.refl _ _ _) ?_; clear hKK KK
  refine awp_ret ?_
  obtain rfl := someInj h0
  refine endW_i ?_
  refine end_ret0 rs9 (by simp only [go_sem, resV, resAll, resOf, packR, Nat.reduceEqDiff, reduceIte, Nat.reduceAdd, Nat.reduceMul, Nat.reduceSub, Nat.reduceLT, Nat.reduceLeDiff]; rfl) ?_
  refine Res.mk [] [none] rfl (resON resO0) (Tm.tup (TmL.cons (Tm.agg (e_AuthDoor_tmx (by rfl) (Tm.nil))) (TmL.cons (Tm.thaw _ _ _) (TmL.cons (Tm.v _) TmL.nil))))
 ·
  have h0 := cF h0 h1
  refine awp_skip ?_
  refine awp_nr [2,3,4,6] (fun _ => rfl) fun tz => ?_
  refine awp_regW fun KK hKK => ?_
  refine xw_id ?_
  obtain ⟨x16, bx16, h0⟩ := bnd h0
  try simp only [go_sem, Nat.reduceEqDiff, reduceIte, Nat.reduceAdd, Nat.reduceMul, Nat.reduceSub, Nat.reduceLT, Nat.reduceLeDiff]
  refine xcall_p (hotspotref29_form_p a2 bx16) ?_; try dsimp only
  try refine xw_id ?_
  try simp only [go_sem, Nat.reduceEqDiff, reduceIte, Nat.reduceAdd, Nat.reduceMul, Nat.reduceSub, Nat.reduceLT, Nat.reduceLeDiff]
  refine hKK _ _ (Wk.refl _ _ _) ?_; clear hKK KK
  refine awp_assoc ?_
  refine awp_nr [2,3,4,6,9,10] (fun _ => rfl) fun tz => ?_
  refine awp_regW fun KK hKK => ?_
  refine xw_id ?_
  refine xw_stop 3 (by (try simp only [go_sem]); rfl) (by (try simp only [go_sem]); rfl) (by rfl) fun K1 hK1 => ?_
  refine xw_id ?_
  try simp only [go_sem, Nat.reduceEqDiff, reduceIte, Nat.reduceAdd, Nat.reduceMul, Nat.reduceSub, Nat.reduceLT, Nat.reduceLeDiff]
  refine hK1 _ ?_; clear hK1 K1
  refine xw_cut 3 [(2, (.imm (List.map vu a2) a2.length)), (3, (.ptr 0 0)), (4, (.ptr 1 0)), (6, (.ptr 2 0)), (10, (vi x16.2)), (26, (vb ((x16.2 == 0) && (x16.1 != 1))))] (by (try simp only [go_sem]); rfl) (by (try simp only [go_sem]); rfl) (by rfl) (fun K1 hK1 => ?_) fun tz => ?_
  ·
   refine xw_id ?_
   rcases Bool.eq_false_or_eq_true (x16.2 == 0) with h2 | h2
   ·
    try simp only [go_sem, Nat.reduceEqDiff, reduceIte, Nat.reduceAdd, Nat.reduceMul, Nat.reduceSub, Nat.reduceLT, Nat.reduceLeDiff, h2]
    exact hK1 _ ⟨rfl, rfl, rfl, rfl, rfl, rfl, (by first | rfl | (rw [h2]; rfl) | (simp only [h2, Bool.true_and, Bool.false_and, Bool.true_or, Bool.false_or, cond_true, cond_false]; done)), trivial⟩
   ·
    try simp only [go_sem, Nat.reduceEqDiff, reduceIte, Nat.reduceAdd, Nat.reduceMul, Nat.reduceSub, Nat.reduceLT, Nat.reduceLeDiff, h2]
    exact hK1 _ ⟨rfl, rfl, rfl, rfl, rfl, rfl, (by first | rfl | (rw [h2]; rfl) | (simp only [h2, Bool.true_and, Bool.false_and, Bool.true_or, Bool.false_or, cond_true, cond_false]; done)), trivial⟩
  ·
   refine xw_id ?_
   try simp only [go_sem, Nat.reduceEqDiff, reduceIte, Nat.reduceAdd, Nat.reduceMul, Nat.reduceSub, Nat.reduceLT, Nat.reduceLeDiff]
   refine hKK _ _ (Wk.refl _ _ _) ?_; clear hKK KK
   obtain ⟨d17, hi3, h0⟩ := bnd h0
   refine awp_cut (fun z => d17 = z) (fun d17 : Int => hotspotref29_Admit_S1 a0 a1 a2 d17) ?_ ?_
   ·
    refine awp_cond1 (b := ((x16.2 == 0) && (x16.1 != 1))) rfl (fun h4 => ?_) (fun h4 => ?_)
    ·
     have hi3 := cT hi3 h4
     refine awp_nr1 [2,3,4,6] (fun _ => rfl) fun tz => ?_
     refine awp_reg1 fun KK hKK => ?_
     refine xw_id ?_
     try simp only [go_sem, Nat.reduceEqDiff, reduceIte, Nat.reduceAdd, Nat.reduceMul, Nat.reduceSub, Nat.reduceLT, Nat.reduceLeDiff]
     refine hKK _ ?_; clear hKK KK
     refine sq_n ?_
     obtain rfl := someInj hi3
     exact ⟨_, rfl, (Wk.canonD [] [] [some 0, some 1, some 2] rfl trivial rfl (tmOU 2 (tmOU 1 (tmOU 0 tmO0 rfl List.not_mem_nil (by simp only [upd_get, ↓iop_and, Nat.reduceEqDiff, reduceIte, if_true, if_false] <;> rfl) (e_AuthDoor_tmx (by rfl) (Tm.clean (Clean.imm (c_A6vu _))))) rfl List.not_mem_nil (by simp only [upd_get, ↓iop_and, Nat.reduceEqDiff, reduceIte, if_true, if_false] <;> rfl) (TmL.clean (e_A6vu_clean _))) rfl List.not_mem_nil (by simp only [upd_get, ↓iop_and, Nat.reduceEqDiff, reduceIte, if_true, if_false] <;> rfl) (e_AuthDoor_tmx (by rfl) (Tm.v _))) (tmAllU 10 (tmAllU 6 (tmAllU 4 (tmAllU 3 (tmAllU 2 tmAll0 (Tm.clean (Clean.imm (vu_clean _)))) (Tm.ptr rfl)) (Tm.ptr rfl)) (Tm.ptr rfl)) (Tm.v _)))⟩
    ·
     have hi3 := cF hi3 h4
     refine awp_skip1 ?_
     refine sq_n ?_
     obtain rfl := someInj hi3
     exact ⟨_, rfl, (Wk.canonD [] [] [some 0, some 1, some 2] rfl trivial rfl (tmOU 2 (tmOU 1 (tmOU 0 tmO0 rfl List.not_mem_nil (by simp only [upd_get, ↓iop_and, Nat.reduceEqDiff, reduceIte, if_true, if_false] <;> rfl) (e_AuthDoor_tmx (by rfl) (Tm.clean (Clean.imm (c_A6vu _))))) rfl List.not_mem_nil (by simp only [upd_get, ↓iop_and, Nat.reduceEqDiff, reduceIte, if_true, if_false] <;> rfl) (TmL.clean (e_A6vu_clean _))) rfl List.not_mem_nil (by simp only [upd_get, ↓iop_and, Nat.reduceEqDiff, reduceIte, if_true, if_false] <;> rfl) (e_AuthDoor_tmx (by rfl) (Tm.v _))) (tmAllU 10 (tmAllU 6 (tmAllU 4 (tmAllU 3 (tmAllU 2 tmAll0 (Tm.clean (Clean.imm (vu_clean _)))) (Tm.ptr rfl)) (Tm.ptr rfl)) (Tm.ptr rfl)) (Tm.v _)))⟩
   ·
    rintro _ rfl
    clear hi3
    unfold hotspotref29_Admit_S1
    refine awp_assoc ?_
    refine awp_nr [2,3,4,6,10] (fun _ => rfl) fun tz => ?_
    refine awp_regW fun KK hKK => ?_
    refine xw_id ?_
    try simp only [go_sem, Nat.reduceEqDiff, reduceIte, Nat.reduceAdd, Nat.reduceMul, Nat.reduceSub, Nat.reduceLT, Nat.reduceLeDiff]
    refine hKK _ _ (Wk.refl _ _ _) ?_; clear hKK KK
    refine awp_cond (b := (d17 != 0)) rfl (fun h5 => ?_) (fun h5 => ?_)
    ·
     have h0 := cT h0 h5
     refine awp_assoc ?_
     refine awp_nr [6,10] (fun _ => rfl) fun tz => ?_
     refine awp_regW fun KK hKK => ?_
     refine xw_id ?_
     try simp only [go_sem, Nat.reduceEqDiff, reduceIte, Nat.reduceAdd, Nat.reduceMul, Nat.reduceSub, Nat.reduceLT, Nat.reduceLeDiff]
     refine hKK _ _ (Wk.refl _ _ _) ?_; clear hKK KK
     refine awp_ret ?_
     obtain rfl := someInj h0
     refine endW_i ?_
     refine end_ret0 rs9 (by simp only [go_sem, resV, resAll, resOf, packR, Nat.reduceEqDiff, reduceIte, Nat.reduceAdd, Nat.reduceMul, Nat.reduceSub, Nat.reduceLT, Nat.reduceLeDiff]; rfl) ?_
     refine Res.mk [] [none] rfl (resON resO0) (Tm.tup (TmL.cons (Tm.agg (e_AuthDoor_tmx (by rfl) (Tm.nil))) (TmL.cons (Tm.thaw _ _ _) (TmL.cons (Tm.v _) TmL.nil))))
    ·
     have h0 := cF h0 h5
     refine awp_skip ?_
     refine awp_assoc ?_
     refine awp_nr [2,3,4,6] (fun _ => rfl) fun tz => ?_
     refine awp_regW fun KK hKK => ?_
     refine xw_id ?_
     obtain ⟨x18, bx18, h0⟩ := bnd h0
     try simp only [go_sem, Nat.reduceEqDiff, reduceIte, Nat.reduceAdd, Nat.reduceMul, Nat.reduceSub, Nat.reduceLT, Nat.reduceLeDiff]
     refine xcall_p (hotspotref29_in_p a0.Open a1 bx18) ?_; try dsimp only
     try refine xw_id ?_
     try simp only [go_sem, Nat.reduceEqDiff, reduceIte, Nat.reduceAdd, Nat.reduceMul, Nat.reduceSub, Nat.reduceLT, Nat.reduceLeDiff]
     refine hKK _ _ (Wk.refl _ _ _) ?_; clear hKK KK
     refine awp_cond (b := (decide (0 ≤ x18))) rfl (fun h6 => ?_) (fun h6 => ?_)
     ·
      have h0 := cT h0 h6
      refine awp_assoc ?_
      refine awp_nr [3,6] (fun _ => rfl) fun tz => ?_
      refine awp_regW fun KK hKK => ?_
      refine xw_id ?_
      try simp only [go_sem, Nat.reduceEqDiff, reduceIte, Nat.reduceAdd, Nat.reduceMul, Nat.reduceSub, Nat.reduceLT, Nat.reduceLeDiff]
      refine hKK _ _ (Wk.refl _ _ _) ?_; clear hKK KK
      refine awp_ret ?_
      obtain rfl := someInj h0
      refine endW_i ?_
      refine end_ret0 rs9 (by simp only [go_sem, resV, resAll, resOf, packR, Nat.reduceEqDiff, reduceIte, Nat.reduceAdd, Nat.reduceMul, Nat.reduceSub, Nat.reduceLT, Nat.reduceLeDiff]; rfl) ?_
      refine Res.mk [] [none] rfl (resON resO0) (Tm.tup (TmL.cons (Tm.agg (e_AuthDoor_tmx (by rfl) (Tm.clean (Clean.imm (c_A6vu _))))) (TmL.cons (Tm.thaw _ _ _) (TmL.cons (Tm.v _) TmL.nil))))
     ·
      have h0 := cF h0 h6
      refine awp_skip ?_
      refine awp_nr [2,3,4,6] (fun _ => rfl) fun tz => ?_
      refine awp_regW fun KK hKK => ?_
      refine xw_id ?_
      refine xw_stop 4 (by (try simp only [go_sem]); rfl) (by (try simp only [go_sem]); rfl) (by rfl) fun K1 hK1 => ?_
      refine xw_id ?_
      try simp only [go_sem, Nat.reduceEqDiff, reduceIte, Nat.reduceAdd, Nat.reduceMul, Nat.reduceSub, Nat.reduceLT, Nat.reduceLeDiff, Int.reduceToNat, Int.reduceBEq, Int.reduceBNe, Int.reduceLT, Int.reduceLE, Int.reduceAdd, Int.reduceSub, Int.reduceMul]
      refine hK1 _ ?_; clear hK1 K1
      obtain ⟨x22, hvh7, h0⟩ := bnd h0
      refine xw_cut 8 [(3, (.ptr 0 0)), (4, (.ptr 1 0)), (6, (.ptr 2 0)), (48, (vb x22))] (by (try simp only [go_sem]); rfl) (by (try simp only [go_sem]); rfl) (by rfl) (fun K1 hK1 => ?_) fun tz => ?_
      ·
       refine xw_id ?_
       rcases Bool.eq_false_or_eq_true ((a2.length : Int) == 26) with h7 | h7
       ·
        have hvh7 := cT hvh7 h7
        obtain ⟨x19, bx19, hvh7⟩ := bnd hvh7
        have bx19 := chk_some bx19
        simp only [Bool.and_eq_true, decide_eq_true_eq] at bx19
        obtain ⟨gx19_0, gx19_1⟩ := bx19
        have g8 : AV.imm (List.map vu (List.take 8 (List.drop 18 a2))) 8 = AV.imm (List.map vu (List.take 8 (List.drop 18 a2))) (List.take 8 (List.drop 18 a2)).length := by congr 1; simp only [List.length_take, List.length_drop]; omega
        obtain ⟨x20, bx20, hvh7⟩ := bnd hvh7
        try simp only [go_sem, Nat.reduceEqDiff, reduceIte, Nat.reduceAdd, Nat.reduceMul, Nat.reduceSub, Nat.reduceLT, Nat.reduceLeDiff, Int.reduceToNat, Int.reduceBEq, Int.reduceBNe, Int.reduceLT, Int.reduceLE, Int.reduceAdd, Int.reduceSub, Int.reduceMul, h7, gx19_0, gx19_1, g8, Int.sub_zero]
        refine xcall_p (hotspotref29_Number_p (List.take 8 (List.drop 18 a2)) bx20) ?_; try dsimp only
        try refine xw_id ?_
        obtain ⟨x21, bx21, hvh7⟩ := bnd hvh7
        try simp only [go_sem, Nat.reduceEqDiff, reduceIte, Nat.reduceAdd, Nat.reduceMul, Nat.reduceSub, Nat.reduceLT, Nat.reduceLeDiff, Int.reduceToNat, Int.reduceBEq, Int.reduceBNe, Int.reduceLT, Int.reduceLE, Int.reduceAdd, Int.reduceSub, Int.reduceMul, h7, gx19_0, gx19_1, g8, Int.sub_zero]
        refine xcall_p (hotspotref29_Token_p a0 a1 bx21) ?_; try dsimp only
        try refine xw_id ?_
        try simp only [go_sem, Nat.reduceEqDiff, reduceIte, Nat.reduceAdd, Nat.reduceMul, Nat.reduceSub, Nat.reduceLT, Nat.reduceLeDiff, Int.reduceToNat, Int.reduceBEq, Int.reduceBNe, Int.reduceLT, Int.reduceLE, Int.reduceAdd, Int.reduceSub, Int.reduceMul, h7, gx19_0, gx19_1, g8, Int.sub_zero]
        obtain rfl := someInj hvh7
        exact hK1 _ ⟨rfl, rfl, rfl, rfl, (by first | rfl | (rw [h7]; rfl) | (simp only [h7, Bool.true_and, Bool.false_and, Bool.true_or, Bool.false_or, cond_true, cond_false]; done)), trivial⟩
       ·
        have hvh7 := cF hvh7 h7
        try simp only [go_sem, Nat.reduceEqDiff, reduceIte, Nat.reduceAdd, Nat.reduceMul, Nat.reduceSub, Nat.reduceLT, Nat.reduceLeDiff, Int.reduceToNat, Int.reduceBEq, Int.reduceBNe, Int.reduceLT, Int.reduceLE, Int.reduceAdd, Int.reduceSub, Int.reduceMul, h7]
        obtain rfl := someInj hvh7
        exact hK1 _ ⟨rfl, rfl, rfl, rfl, (by first | rfl | (rw [h7]; rfl) | (simp only [h7, Bool.true_and, Bool.false_and, Bool.true_or, Bool.false_or, cond_true, cond_false]; done)), trivial⟩
      ·
       refine xw_id ?_
       try simp only [go_sem, Nat.reduceEqDiff, reduceIte, Nat.reduceAdd, Nat.reduceMul, Nat.reduceSub, Nat.reduceLT, Nat.reduceLeDiff, Int.reduceToNat, Int.reduceBEq, Int.reduceBNe, Int.reduceLT, Int.reduceLE, Int.reduceAdd, Int.reduceSub, Int.reduceMul]
       refine hKK _ _ (Wk.refl _ _ _) ?_; clear hKK KK
       refine awp_assoc ?_
       refine awp_nr [3,4,6,11] (fun _ => rfl) fun tz => ?_
       refine awp_regW fun KK hKK => ?_
       refine xw_id ?_
       refine xw_stop 5 (by (try simp only [go_sem]); rfl) (by (try simp only [go_sem]); rfl) (by rfl) fun K1 hK1 => ?_
       refine xw_id ?_
       try simp only [go_sem, Nat.reduceEqDiff, reduceIte, Nat.reduceAdd, Nat.reduceMul, Nat.reduceSub, Nat.reduceLT, Nat.reduceLeDiff, Int.reduceToNat, Int.reduceBEq, Int.reduceBNe, Int.reduceLT, Int.reduceLE, Int.reduceAdd, Int.reduceSub, Int.reduceMul]
       refine hK1 _ ?_; clear hK1 K1
       refine xw_cut 8 [(3, (.ptr 0 0)), (4, (.ptr 1 0)), (6, (.ptr 2 0)), (61, (vb ((decide ((a0.Open.length : Int) < 8)) || ((decide ((a0.Open.length : Int) < 16)) && x22))))] (by (try simp only [go_sem]); rfl) (by (try simp only [go_sem]); rfl) (by rfl) (fun K1 hK1 => ?_) fun tz => ?_
       ·
        refine xw_id ?_
        rcases Bool.eq_false_or_eq_true (decide ((a0.Open.length : Int) < 8)) with h9 | h9
        ·
         try simp only [go_sem, Nat.reduceEqDiff, reduceIte, Nat.reduceAdd, Nat.reduceMul, Nat.reduceSub, Nat.reduceLT, Nat.reduceLeDiff, Int.reduceToNat, Int.reduceBEq, Int.reduceBNe, Int.reduceLT, Int.reduceLE, Int.reduceAdd, Int.reduceSub, Int.reduceMul, h9]
         exact hK1 _ ⟨rfl, rfl, rfl, rfl, (by first | rfl | (rw [h9]; rfl) | (simp only [h9, Bool.true_and, Bool.false_and, Bool.true_or, Bool.false_or, cond_true, cond_false]; done)), trivial⟩
        ·
         refine xw_stop 5 (by (try simp only [go_sem]); rfl) (by (try simp only [go_sem]); rfl) (by rfl) fun K1 hK1 => ?_
         refine xw_id ?_
         try simp only [go_sem, Nat.reduceEqDiff, reduceIte, Nat.reduceAdd, Nat.reduceMul, Nat.reduceSub, Nat.reduceLT, Nat.reduceLeDiff, Int.reduceToNat, Int.reduceBEq, Int.reduceBNe, Int.reduceLT, Int.reduceLE, Int.reduceAdd, Int.reduceSub, Int.reduceMul, h9]
         refine hK1 _ ?_; clear hK1 K1
         refine xw_cut 2 [(3, (.ptr 0 0)), (4, (.ptr 1 0)), (6, (.ptr 2 0)), (53, (vb false)), (60, (vb ((decide ((a0.Open.length : Int) < 16)) && x22)))] (by (try simp only [go_sem]); rfl) (by (try simp only [go_sem]); rfl) (by rfl) (fun K1 hK1 => ?_) fun tz => ?_
         ·
          refine xw_id ?_
          rcases Bool.eq_false_or_eq_true (decide ((a0.Open.length : Int) < 16)) with h10 | h10
          ·
           try simp only [go_sem, Nat.reduceEqDiff, reduceIte, Nat.reduceAdd, Nat.reduceMul, Nat.reduceSub, Nat.reduceLT, Nat.reduceLeDiff, Int.reduceToNat, Int.reduceBEq, Int.reduceBNe, Int.reduceLT, Int.reduceLE, Int.reduceAdd, Int.reduceSub, Int.reduceMul, h9, h10]
           exact hK1 _ ⟨rfl, rfl, rfl, rfl, rfl, (by first | rfl | (rw [h10]; rfl) | (simp only [h10, Bool.true_and, Bool.false_and, Bool.true_or, Bool.false_or, cond_true, cond_false]; done)), trivial⟩
          ·
           try simp only [go_sem, Nat.reduceEqDiff, reduceIte, Nat.reduceAdd, Nat.reduceMul, Nat.reduceSub, Nat.reduceLT, Nat.reduceLeDiff, Int.reduceToNat, Int.reduceBEq, Int.reduceBNe, Int.reduceLT, Int.reduceLE, Int.reduceAdd, Int.reduceSub, Int.reduceMul, h9, h10]
           exact hK1 _ ⟨rfl, rfl, rfl, rfl, rfl, (by first | rfl | (rw [h10]; rfl) | (simp only [h10, Bool.true_and, Bool.false_and, Bool.true_or, Bool.false_or, cond_true, cond_false]; done)), trivial⟩
         ·
          refine xw_id ?_
          try simp only [go_sem, Nat.reduceEqDiff, reduceIte, Nat.reduceAdd, Nat.reduceMul, Nat.reduceSub, Nat.reduceLT, Nat.reduceLeDiff, Int.reduceToNat, Int.reduceBEq, Int.reduceBNe, Int.reduceLT, Int.reduceLE, Int.reduceAdd, Int.reduceSub, Int.reduceMul, h9]
          exact hK1 _ ⟨rfl, rfl, rfl, rfl, (by first | rfl | (rw [h9]; rfl) | (simp only [h9, Bool.true_and, Bool.false_and, Bool.true_or, Bool.false_or, cond_true, cond_false]; done)), trivial⟩
       ·
        refine xw_id ?_
        try simp only [go_sem, Nat.reduceEqDiff, reduceIte, Nat.reduceAdd, Nat.reduceMul, Nat.reduceSub, Nat.reduceLT, Nat.reduceLeDiff, Int.reduceToNat, Int.reduceBEq, Int.reduceBNe, Int.reduceLT, Int.reduceLE, Int.reduceAdd, Int.reduceSub, Int.reduceMul]
        refine hKK _ _ (Wk.refl _ _ _) ?_; clear hKK KK
        refine awp_cond (b := ((decide ((a0.Open.length : Int) < 8)) || ((decide ((a0.Open.length : Int) < 16)) && x22))) rfl (fun h11 => ?_) (fun h11 => ?_)
        ·
         have h0 := cT h0 h11
         refine awp_assoc ?_
         refine awp_nr [3,4,6] (fun _ => rfl) fun tz => ?_
         refine awp_regDW fun KK hKK all hall => ?_
         refine xd_id ?_
         try simp only [List.toList_toArray, List.map_cons, List.map_nil, List.size_toArray, List.length_cons, List.length_nil, Nat.zero_add]
         try simp only [Nat.reduceAdd]
         obtain ⟨x23, bx23, h0⟩ := bnd h0
         have bx23 := chk_some bx23
         simp only [Bool.and_eq_true, decide_eq_true_eq] at bx23
         have gx23_0 := bx23
         obtain ⟨x24, bx24, h0⟩ := bnd h0
         have bx24 := chk_some bx24
         simp only [Bool.and_eq_true, decide_eq_true_eq] at bx24
         have gx24_0 := bx24
         simp only [go_sem, Nat.reduceEqDiff, reduceIte, Nat.reduceMul, Nat.reduceSub, Nat.reduceLT, Nat.reduceLeDiff, Int.reduceToNat, Int.reduceBEq, Int.reduceBNe, Int.reduceLT, Int.reduceLE, Int.reduceAdd, Int.reduceSub, Int.reduceMul, gx23_0, gx24_0]
         try simp only [Nat.reduceAdd]
         try simp only [go_sem, Nat.reduceEqDiff, reduceIte, Nat.reduceMul, Nat.reduceSub, Nat.reduceLT, Nat.reduceLeDiff, Int.reduceToNat, Int.reduceBEq, Int.reduceBNe, Int.reduceLT, Int.reduceLE, Int.reduceAdd, Int.reduceSub, Int.reduceMul, gx23_0, gx24_0]
         try simp only [Nat.reduceAdd]
         try simp only [go_sem, Nat.reduceEqDiff, reduceIte, Nat.reduceMul, Nat.reduceSub, Nat.reduceLT, Nat.reduceLeDiff, Int.reduceToNat, Int.reduceBEq, Int.reduceBNe, Int.reduceLT, Int.reduceLE, Int.reduceAdd, Int.reduceSub, Int.reduceMul, gx23_0, gx24_0]
         refine And.intro ?_ (hKK _ _ (Wk.refl _ _ _) ?_)
         ·
          subst hall
          clear hKK KK
          first | decide +kernel | (simp [printsOk, apartP, clash, meet]; done) | (simp [printsOk, apartP, clash, meet]; decide +kernel) | (simp [printsOk, apartP, clash, meet]; repeat (first | exact Or.inr (by decide +kernel) | (refine And.intro (Or.inr (by decide +kernel)) ?_)))
         ·
          clear hKK KK hall all
          refine awp_assoc ?_
          refine awp_nr [3,6] (fun _ => rfl) fun tz => ?_
          refine awp_regW fun KK hKK => ?_
          refine xw_id ?_
          try simp only [go_sem, Nat.reduceEqDiff, reduceIte, Nat.reduceAdd, Nat.reduceMul, Nat.reduceSub, Nat.reduceLT, Nat.reduceLeDiff]
          refine hKK _ _ (Wk.refl _ _ _) ?_; clear hKK KK
          refine awp_ret ?_
          obtain rfl := someInj h0
          refine endW_i ?_
          refine end_ret0 rs9 (by simp only [go_sem, resV, resAll, resOf, packR, Nat.reduceEqDiff, reduceIte, Nat.reduceAdd, Nat.reduceMul, Nat.reduceSub, Nat.reduceLT, Nat.reduceLeDiff]; rfl) ?_
          refine Res.mk [42] [none] rfl (resON resO0) (Tm.tup (TmL.cons (Tm.agg (e_AuthDoor_tmx (by rfl) (Tm.frzK ?_ (by simp) (by simp only [upd_get, ↓iop_and, Nat.reduceEqDiff, reduceIte, if_true, if_false] <;> rfl) (by first | (simp only [r_A6vu_len, e_A6vu_len, List.length_append, List.length_cons, List.length_nil, List.length_modify, List.length_set, Nat.zero_add, Nat.mul_one]; done) | (simp only [r_A6vu_len, e_A6vu_len, List.length_append, List.length_cons, List.length_nil, List.length_modify, List.length_set, Nat.zero_add, Nat.mul_one]; omega)) (TmL.of_eq (by first | rfl | (simp only [List.flatMap_append, List.flatMap_cons, List.flatMap_nil, List.map_append, List.map_cons, List.map_nil, List.append_nil, List.nil_append]; done) | (simp only [List.flatMap_append, List.flatMap_cons, List.flatMap_nil, List.map_append, List.map_cons, List.map_nil, List.append_nil, List.nil_append]; rfl)) (c_A6vu _))))) (TmL.cons (Tm.thaw _ _ _) (TmL.cons (Tm.v _) TmL.nil))))
          all_goals (first | rfl | (simp only [List.length_take]; omega) | (simp only [List.length_append, List.length_cons, List.length_nil, List.length_modify, List.length_set, Nat.zero_add]; done) | (simp only [List.length_append, List.length_take, List.length_drop, List.length_cons, List.length_nil, List.length_modify, List.length_set, Nat.zero_add]; omega) | (simp only [List.length_append, List.length_take, List.length_drop, List.length_cons, List.length_nil, List.length_modify, List.length_set, Nat.zero_add]; done) | omega)
        ·
         have h0 := cF h0 h11
         refine awp_skip ?_
         refine awp_assoc ?_
         refine awp_nr [3,4,6] (fun _ => rfl) fun tz => ?_
         refine awp_regW fun KK hKK => ?_
         refine xw_id ?_
         try simp only [go_sem, Nat.reduceEqDiff, reduceIte, Nat.reduceAdd, Nat.reduceMul, Nat.reduceSub, Nat.reduceLT, Nat.reduceLeDiff, Int.reduceToNat, Int.reduceBEq, Int.reduceBNe, Int.reduceLT, Int.reduceLE, Int.reduceAdd, Int.reduceSub, Int.reduceMul]
         refine hKK _ _ (Wk.refl _ _ _) ?_; clear hKK KK
         refine awp_cond (b := (decide (16 ≤ (a0.Open.length : Int)))) rfl (fun h12 => ?_) (fun h12 => ?_)
         ·
          have h0 := cT h0 h12
          refine awp_assoc ?_
          refine awp_nr [6] (fun _ => rfl) fun tz => ?_
          refine awp_regW fun KK hKK => ?_
          refine xw_id ?_
          try simp only [go_sem, Nat.reduceEqDiff, reduceIte, Nat.reduceAdd, Nat.reduceMul, Nat.reduceSub, Nat.reduceLT, Nat.reduceLeDiff]
          refine hKK _ _ (Wk.refl _ _ _) ?_; clear hKK KK
          refine awp_ret ?_
          obtain rfl := someInj h0
          refine endW_i ?_
          refine end_ret0 rs9 (by simp only [go_sem, resV, resAll, resOf, packR, Nat.reduceEqDiff, reduceIte, Nat.reduceAdd, Nat.reduceMul, Nat.reduceSub, Nat.reduceLT, Nat.reduceLeDiff]; rfl) ?_
          refine Res.mk [] [none] rfl (resON resO0) (Tm.tup (TmL.cons (Tm.agg (e_AuthDoor_tmx (by rfl) (Tm.nil))) (TmL.cons (Tm.thaw _ _ _) (TmL.cons (Tm.v _) TmL.nil))))
         ·
          have h0 := cF h0 h12
          refine awp_skip ?_
          refine awp_nr [3,4,6] (fun _ => rfl) fun tz => ?_
          refine awp_regDW fun KK hKK all hall => ?_
          refine xd_id ?_
          try simp only [List.toList_toArray, List.map_cons, List.map_nil, List.size_toArray, List.length_cons, List.length_nil, Nat.zero_add]
          try simp only [Nat.reduceAdd]
          obtain ⟨x25, bx25, h0⟩ := bnd h0
          simp only [go_sem, Nat.reduceEqDiff, reduceIte, Nat.reduceMul, Nat.reduceSub, Nat.reduceLT, Nat.reduceLeDiff]
          try simp only [Nat.reduceAdd]
          try simp only [go_sem, Nat.reduceEqDiff, reduceIte, Nat.reduceMul, Nat.reduceSub, Nat.reduceLT, Nat.reduceLeDiff]
          try simp only [Nat.reduceAdd]
          try simp only [go_sem, Nat.reduceEqDiff, reduceIte, Nat.reduceMul, Nat.reduceSub, Nat.reduceLT, Nat.reduceLeDiff]
          refine xcallD_p (hotspotref29_Token_p a0 a1 bx25) ?_; try dsimp only
          try refine xd_id ?_
          obtain ⟨x26, bx26, h0⟩ := bnd h0
          simp only [go_sem, Nat.reduceEqDiff, reduceIte, Nat.reduceMul, Nat.reduceSub, Nat.reduceLT, Nat.reduceLeDiff]
          try simp only [Nat.reduceAdd]
          try simp only [go_sem, Nat.reduceEqDiff, reduceIte, Nat.reduceMul, Nat.reduceSub, Nat.reduceLT, Nat.reduceLeDiff]
          try simp only [Nat.reduceAdd]
          try simp only [go_sem, Nat.reduceEqDiff, reduceIte, Nat.reduceMul, Nat.reduceSub, Nat.reduceLT, Nat.reduceLeDiff]
          refine xcallD_E (hotspotref29_Eight_e x25 bx26 _) ?_; try dsimp only
          try refine xd_id ?_
          obtain ⟨x27, bx27, h0⟩ := bnd h0
          have bx27 := chk_some bx27
          simp only [Bool.and_eq_true, decide_eq_true_eq] at bx27
          have gx27_0 := bx27
          simp only [go_sem, Nat.reduceEqDiff, reduceIte, Nat.reduceMul, Nat.reduceSub, Nat.reduceLT, Nat.reduceLeDiff, Int.reduceToNat, Int.reduceBEq, Int.reduceBNe, Int.reduceLT, Int.reduceLE, Int.reduceAdd, Int.reduceSub, Int.reduceMul, gx27_0]
          try simp only [Nat.reduceAdd]
          try simp only [go_sem, Nat.reduceEqDiff, reduceIte, Nat.reduceMul, Nat.reduceSub, Nat.reduceLT, Nat.reduceLeDiff, Int.reduceToNat, Int.reduceBEq, Int.reduceBNe, Int.reduceLT, Int.reduceLE, Int.reduceAdd, Int.reduceSub, Int.reduceMul, gx27_0]
          try simp only [Nat.reduceAdd]
          try simp only [go_sem, Nat.reduceEqDiff, reduceIte, Nat.reduceMul, Nat.reduceSub, Nat.reduceLT, Nat.reduceLeDiff, Int.reduceToNat, Int.reduceBEq, Int.reduceBNe, Int.reduceLT, Int.reduceLE, Int.reduceAdd, Int.reduceSub, Int.reduceMul, gx27_0]
          refine And.intro ?_ (hKK _ _ (Wk.refl _ _ _) ?_)
          ·
           subst hall
           clear hKK KK
           first | decide +kernel | (simp [printsOk, apartP, clash, meet]; done) | (simp [printsOk, apartP, clash, meet]; decide +kernel) | (simp [printsOk, apartP, clash, meet]; repeat (first | exact Or.inr (by decide +kernel) | (refine And.intro (Or.inr (by decide +kernel)) ?_)))
          ·
           clear hKK KK hall all
           refine awp_ret1 ?_
           obtain rfl := someInj h0
           refine endW_i ?_
           refine end_ret0 rs9 (by simp only [go_sem, resV, resAll, resOf, packR, Nat.reduceEqDiff, reduceIte, Nat.reduceAdd, Nat.reduceMul, Nat.reduceSub, Nat.reduceLT, Nat.reduceLeDiff]; rfl) ?_
           refine Res.mk [] [some 46] rfl (resOU List.not_mem_nil (by simp only [upd_get, ↓iop_and, Nat.reduceEqDiff, reduceIte, if_true, if_false] <;> rfl) (TmL.of_eq (by first | rfl | (simp only [List.flatMap_append, List.flatMap_cons, List.flatMap_nil, List.map_append, List.map_cons, List.map_nil, List.append_nil, List.nil_append]; done) | (simp only [List.flatMap_append, List.flatMap_cons, List.flatMap_nil, List.map_append, List.map_cons, List.map_nil, List.append_nil, List.nil_append]; rfl)) (vu_clean _)) resO0) (Tm.tup (TmL.cons (Tm.agg (e_AuthDoor_tmx (by rfl) (Tm.clean (Clean.imm (c_A6vu _))))) (TmL.cons (Tm.refL rfl ?_) (TmL.cons (Tm.v _) TmL.nil))))
           all_goals (first | rfl | (simp only [List.length_take]; omega) | (simp only [List.length_append, List.length_cons, List.length_nil, List.length_modify, List.length_set, Nat.zero_add]; done) | (simp only [List.length_append, List.length_take, List.length_drop, List.length_cons, List.length_nil, List.length_modify, List.length_set, Nat.zero_add]; omega) | (simp only [List.length_append, List.length_take, List.length_drop, List.length_cons, List.length_nil, List.length_modify, List.length_set, Nat.zero_add]; done) | omega)

theorem hotspotref29_Admit_m (a0 : AuthDoor) (a1 : A6vu) (a2 : (List Int)) {r : (AuthDoor × (List Int) × Int)} (h0 : hotspotref29_Admit a0 a1 a2 = some r) : SndM K 9 [(.agg (E_AuthDoor a0)), (.agg (e_A6vu a1)), (S_vu a2)] (fun q => (.tup [(.agg (E_AuthDoor r.1)), (.ref (q 0) 0 r.2.1.length 1), (vi r.2.2)])) [(List.map vu r.2.1)] :=
 fun hs => Snd.of_newM (RenM.tup (RenML.cons (RenM.const (Clean.agg (E_AuthDoor_clean _))) (RenML.cons (RenM.ref 0 0 _ _) (RenML.cons (RenM.const (Clean.v _)) RenML.nil)))) (rows_all_cons (vu_clean _) rows_all_nil) (clean_cons (Clean.agg (E_AuthDoor_clean _)) (clean_cons (Clean.agg (e_A6vu_clean _)) (clean_cons (S_vu_clean _) clean_nil))) (hotspotref29_Admit_r a0 a1 a2 h0) hs

theorem hotspotref29_Admit_e (a0 : AuthDoor) (a1 : A6vu) (a2 : (List Int)) {r : (AuthDoor × (List Int) × Int)} (h0 : hotspotref29_Admit a0 a1 a2 = some r) (fr : Nat) (hs : HS) : SndE K 9 [(.agg (E_AuthDoor a0)), (.agg (e_A6vu a1)), (S_vu a2)] hs fr ⟨(fun q : Nat → Nat => (.tup [(.agg (E_AuthDoor r.1)), (.ref (q 0) 0 r.2.1.length 1), (vi r.2.2)])) fun _ => fr, .new (List.map vu r.2.1)⟩ :=
 SndE.of_res (RenM.tup (RenML.cons (RenM.const (Clean.agg (E_AuthDoor_clean _))) (RenML.cons (RenM.ref 0 0 _ _) (RenML.cons (RenM.const (Clean.v _)) RenML.nil)))) (vu_clean _) (clean_cons (Clean.agg (E_AuthDoor_clean _)) (clean_cons (Clean.agg (e_A6vu_clean _)) (clean_cons (S_vu_clean _) clean_nil))) (fun a b h => by simp only [h]) (hotspotref29_Admit_r a0 a1 a2 h0) hs fr

theorem hotspotref29_Admit_p (a0 : AuthDoor) (a1 : A6vu) (a2 : (List Int)) {r : (AuthDoor × (List Int) × Int)} (h0 : hotspotref29_Admit a0 a1 a2 = some r) : SndP K 9 [(.agg (E_AuthDoor a0)), (.agg (e_A6vu a1)), (S_vu a2)] (.tup [(.agg (E_AuthDoor r.1)), (S_vu r.2.1), (vi r.2.2)]) :=
 SndM.pure (hotspotref29_Admit_m a0 a1 a2 h0) (Clean.tup (clean_cons (Clean.agg (E_AuthDoor_clean _)) (clean_cons (S_vu_clean _) (clean_cons (Clean.v _) clean_nil)))) (clean_cons (Clean.agg (E_AuthDoor_clean _)) (clean_cons (Clean.agg (e_A6vu_clean _)) (clean_cons (S_vu_clean _) clean_nil))) (by simp only [go_sem, newL_n, newL_c, upd_get, fz, nilS, cond_true, cond_false, List.drop_zero, List.take_length, List.length_map, ble_self, Nat.reduceEqDiff, reduceIte, Nat.reduceAdd, Nat.reduceMul, Nat.reduceSub, Nat.reduceLT, Nat.reduceLeDiff] <;> rfl)

end Go.AX.Z.TW

/-! (TWW hotspotref29 SameDoor) -/

set_option linter.unusedSimpArgs false
set_option linter.unusedVariables false
set_option maxHeartbeats 4000000
set_option maxRecDepth 20000
namespace Go.AX.Z.TW
open Go.AX Go.Proofs
attribute [local irreducible] awp xw xop xcall gsp ob xd xdop xcallD seqQ loopQ blkQ endQ

def hotspotref29_SameDoor_S0 (d29 : Unit) : AS :=
 { objs := (fun _ => .dead), next := 0, tmps := (fun _ => .unk) }

def hotspotref29_SameDoor_S1 (a0 : AuthDoor) (a1 : AuthDoor) (d31 : Int) : AS :=
 { objs := (upd (upd (fun _ => .dead) 0 (.live (e_AuthDoor a0 (.imm (List.flatMap e_A6vu a0.Open) a0.Open.length)))) 1 (.live (e_AuthDoor a1 (.imm (List.flatMap e_A6vu a1.Open) a1.Open.length)))), next := 2, tmps := (upd (upd (upd (fun _ => .unk) 2 (.ptr 0 0)) 3 (.ptr 1 0)) 5 (vi d31)) }

theorem hotspotref29_SameDoor_p (a0 : AuthDoor) (a1 : AuthDoor) {r : Bool} (h0 : hotspotref29_SameDoor a0 a1 = some r) : SndP K 10 [(.agg (E_AuthDoor a0)), (.agg (E_AuthDoor a1))] (vb r) := by
 refine SndP.of_walkW hC (Clean.v _) (clean_cons (Clean.agg (E_AuthDoor_clean _)) (clean_cons (Clean.agg (E_AuthDoor_clean _)) clean_nil)) (show K.P.funcs[10]? = some Try.f10 from Try.func10) rfl rfl (by decide +kernel) (Nat.le_of_ble_eq_true rfl) ?_
 unfold hotspotref29_SameDoor at h0
 refine awp_nr [0,1] (fun _ => rfl) fun tz => ?_
 refine awp_regW fun KK hKK => ?_
 refine xw_id ?_
 try simp only [go_sem, Nat.reduceEqDiff, reduceIte, Nat.reduceAdd, Nat.reduceMul, Nat.reduceSub, Nat.reduceLT, Nat.reduceLeDiff]
 refine hKK _ _ (Wk.refl _ _ _) ?_; clear hKK KK
 refine awp_assoc ?_
 refine awp_nr [2,3] (fun _ => rfl) fun tz => ?_
 refine awp_regW fun KK hKK => ?_
 refine xw_id ?_
 refine xw_stop 6 (by (try simp only [go_sem]); rfl) (by (try simp only [go_sem]); rfl) (by rfl) fun K1 hK1 => ?_
 refine xw_id ?_
 try simp only [go_sem, Nat.reduceEqDiff, reduceIte, Nat.reduceAdd, Nat.reduceMul, Nat.reduceSub, Nat.reduceLT, Nat.reduceLeDiff]
 refine hK1 _ ?_; clear hK1 K1
 refine xw_cut 8 [(2, (.ptr 0 0)), (3, (.ptr 1 0)), (19, (vb ((!decide (a0.Secret = a1.Secret)) || ((a0.Open.length : Int) != (a1.Open.length : Int)))))] (by (try simp only [go_sem]); rfl) (by (try simp only [go_sem]); rfl) (by rfl) (fun K1 hK1 => ?_) fun tz => ?_
 ·
  refine xw_id ?_
  rcases Bool.eq_false_or_eq_true (!decide (a0.Secret = a1.Secret)) with h1 | h1
  ·
   try simp only [go_sem, Nat.reduceEqDiff, reduceIte, Nat.reduceAdd, Nat.reduceMul, Nat.reduceSub, Nat.reduceLT, Nat.reduceLeDiff, h1]
   exact hK1 _ ⟨rfl, rfl, rfl, (by first | rfl | (rw [h1]; rfl) | (simp only [h1, Bool.true_and, Bool.false_and, Bool.true_or, Bool.false_or, cond_true, cond_false]; done)), trivial⟩
  ·
   try simp only [go_sem, Nat.reduceEqDiff, reduceIte, Nat.reduceAdd, Nat.reduceMul, Nat.reduceSub, Nat.reduceLT, Nat.reduceLeDiff, Int.reduceToNat, Int.reduceBEq, Int.reduceBNe, Int.reduceLT, Int.reduceLE, Int.reduceAdd, Int.reduceSub, Int.reduceMul, h1]
   exact hK1 _ ⟨rfl, rfl, rfl, (by first | rfl | (rw [h1]; rfl) | (simp only [h1, Bool.true_and, Bool.false_and, Bool.true_or, Bool.false_or, cond_true, cond_false]; done)), trivial⟩
 ·
  refine xw_id ?_
  try simp only [go_sem, Nat.reduceEqDiff, reduceIte, Nat.reduceAdd, Nat.reduceMul, Nat.reduceSub, Nat.reduceLT, Nat.reduceLeDiff]
  refine hKK _ _ (Wk.refl _ _ _) ?_; clear hKK KK
  refine awp_cond (b := ((!decide (a0.Secret = a1.Secret)) || ((a0.Open.length : Int) != (a1.Open.length : Int)))) rfl (fun h2 => ?_) (fun h2 => ?_)
  ·
   have h0 := cT h0 h2
   refine awp_assoc ?_
   refine awp_nr [] (fun _ => rfl) fun tz => ?_
   refine awp_regW fun KK hKK => ?_
   refine xw_id ?_
   try simp only [go_sem, Nat.reduceEqDiff, reduceIte, Nat.reduceAdd, Nat.reduceMul, Nat.reduceSub, Nat.reduceLT, Nat.reduceLeDiff]
   refine hKK _ _ (Wk.refl _ _ _) ?_; clear hKK KK
   refine awp_ret ?_
   obtain rfl := someInj h0
   refine endW_i ?_
   refine end_ret0 rs10 (rfl) ?_
   try simp only [go_sem, Nat.reduceEqDiff, reduceIte, Nat.reduceAdd, Nat.reduceMul, Nat.reduceSub, Nat.reduceLT, Nat.reduceLeDiff, fz, nilS, packR, List.take_nil, List.take_length, List.length_map, List.length_append, cond_true, cond_false, Nat.ble_eq, ble_self]
   all_goals first | rfl | (simp only [go_sem, Nat.reduceEqDiff, reduceIte, Nat.reduceAdd, Nat.reduceMul, Nat.reduceSub, Nat.reduceLT, Nat.reduceLeDiff, fz, nilS, packR, List.take_nil, List.take_length, List.length_map, List.length_append, cond_true, cond_false, Nat.ble_eq, ble_self, List.map_append] <;> rfl)
  ·
   have h0 := cF h0 h2
   refine awp_skip ?_
   refine awp_assoc ?_
   refine awp_nr [2,3] (fun _ => rfl) fun tz => ?_
   refine awp_regW fun KK hKK => ?_
   refine xw_id ?_
   try simp only [go_sem, Nat.reduceEqDiff, reduceIte, Nat.reduceAdd, Nat.reduceMul, Nat.reduceSub, Nat.reduceLT, Nat.reduceLeDiff]
   refine hKK _ _ (Wk.refl _ _ _) ?_; clear hKK KK
   obtain ⟨o30, hi3, h0⟩ := bnd h0
   refine awp_cut (fun d29 : Unit => o30 = Ex.go d29) (fun d29 : Unit => hotspotref29_SameDoor_S0 d29) ?_ ?_
   ·
    refine awp_block1 ?_
    refine awp_loopS (fun n (d31 : Int) => hotspotref29_SameDoor_L2 a0 a1 n d31 = some o30) (fun d31 : Int => hotspotref29_SameDoor_S1 a0 a1 d31) big 0 (Wk.canonD [] [] [some 0, some 1] rfl trivial rfl (tmOU 1 (tmOU 0 tmO0 rfl List.not_mem_nil (by simp only [upd_get, ↓iop_and, Nat.reduceEqDiff, reduceIte, if_true, if_false] <;> rfl) (e_AuthDoor_tmx (by rfl) (Tm.clean (Clean.imm (c_A6vu _))))) rfl List.not_mem_nil (by simp only [upd_get, ↓iop_and, Nat.reduceEqDiff, reduceIte, if_true, if_false] <;> rfl) (e_AuthDoor_tmx (by rfl) (Tm.clean (Clean.imm (c_A6vu _))))) (tmAllU 5 (tmAllU 3 (tmAllU 2 tmAll0 (Tm.ptr rfl)) (Tm.ptr rfl)) (Tm.v _))) hi3 ?_
    clear hi3
    rintro n d31 hl5
    rcases n with _ | n4
    ·
     (rw [hotspotref29_SameDoor_L2] at hl5; cases hl5)
    ·
     rw [hotspotref29_SameDoor_L2] at hl5
     unfold hotspotref29_SameDoor_S1
     refine awp_assoc ?_
     refine awp_nr [2,3,5] (fun _ => rfl) fun tz => ?_
     refine awp_regW fun KK hKK => ?_
     refine xw_id ?_
     try simp only [go_sem, Nat.reduceEqDiff, reduceIte, Nat.reduceAdd, Nat.reduceMul, Nat.reduceSub, Nat.reduceLT, Nat.reduceLeDiff, Int.reduceToNat, Int.reduceBEq, Int.reduceBNe, Int.reduceLT, Int.reduceLE, Int.reduceAdd, Int.reduceSub, Int.reduceMul]
     refine hKK _ _ (Wk.refl _ _ _) ?_; clear hKK KK
     refine awp_cond (b := (decide (d31 < (a0.Open.length : Int)))) rfl (fun h6 => ?_) (fun h6 => ?_)
     ·
      have hl5 := cT hl5 h6
      refine awp_skip ?_
      refine awp_blockW ?_
      refine awp_nr [2,3,5] (fun _ => rfl) fun tz => ?_
      refine awp_regW fun KK hKK => ?_
      refine xw_id ?_
      obtain ⟨x32, bx32, hl5⟩ := bnd hl5
      obtain ⟨fx32_0, fx32_1, fx32_2, fx32_3⟩ := idx_some bx32
      obtain ⟨x33, bx33, hl5⟩ := bnd hl5
      obtain ⟨fx33_0, fx33_1, fx33_2, fx33_3⟩ := idx_some bx33
      try simp only [go_sem, Nat.reduceEqDiff, reduceIte, Nat.reduceAdd, Nat.reduceMul, Nat.reduceSub, Nat.reduceLT, Nat.reduceLeDiff, fx32_0, fx32_1, fx32_2, fx33_0, fx33_1, fx33_2]
      refine hKK _ _ (Wk.refl _ _ _) ?_; clear hKK KK
      refine awp_cond1 (b := (!decide (x32 = x33))) rfl (fun h7 => ?_) (fun h7 => ?_)
      ·
       have hl5 := cT hl5 h7
       refine awp_nr [] (fun _ => rfl) fun tz => ?_
       refine awp_regW fun KK hKK => ?_
       refine xw_id ?_
       try simp only [go_sem, Nat.reduceEqDiff, reduceIte, Nat.reduceAdd, Nat.reduceMul, Nat.reduceSub, Nat.reduceLT, Nat.reduceLeDiff, fx32_0, fx32_1, fx32_2, fx33_0, fx33_1, fx33_2]
       refine hKK _ _ (Wk.refl _ _ _) ?_; clear hKK KK
       refine awp_ret1 ?_
       refine bq_r ?_
       refine sq_r ?_
       refine lq_r ?_
       refine bq_r ?_
       refine sq_r ?_
       obtain rfl := someInj hl5
       obtain rfl := Ex.k_ret h0
       refine endW_i ?_
       refine end_ret0 rs10 (rfl) ?_
       try simp only [go_sem, Nat.reduceEqDiff, reduceIte, Nat.reduceAdd, Nat.reduceMul, Nat.reduceSub, Nat.reduceLT, Nat.reduceLeDiff, fz, nilS, packR, List.take_nil, List.take_length, List.length_map, List.length_append, cond_true, cond_false, Nat.ble_eq, ble_self]
       all_goals first | rfl | (simp only [go_sem, Nat.reduceEqDiff, reduceIte, Nat.reduceAdd, Nat.reduceMul, Nat.reduceSub, Nat.reduceLT, Nat.reduceLeDiff, fz, nilS, packR, List.take_nil, List.take_length, List.length_map, List.length_append, cond_true, cond_false, Nat.ble_eq, ble_self, List.map_append] <;> rfl)
      ·
       have hl5 := cF hl5 h7
       refine awp_skip1 ?_
       refine bq_n ?_
       refine seqW_i ?_
       refine awp_nr1 [2,3,5] (fun _ => rfl) fun tz => ?_
       refine awp_reg1 fun KK hKK => ?_
       refine xw_id ?_
       try simp only [go_sem, Nat.reduceEqDiff, reduceIte, Nat.reduceAdd, Nat.reduceMul, Nat.reduceSub, Nat.reduceLT, Nat.reduceLeDiff, fx32_0, fx32_1, fx32_2, fx33_0, fx33_1, fx33_2]
       refine hKK _ ?_; clear hKK KK
       refine lq_n ?_
       exact ⟨n4, IntKind.wrap .i64 (d31 + 1), rfl, hl5, (Wk.canonD [] [] [some 0, some 1] rfl trivial rfl (tmOU 1 (tmOU 0 tmO0 rfl List.not_mem_nil (by simp only [upd_get, ↓iop_and, Nat.reduceEqDiff, reduceIte, if_true, if_false] <;> rfl) (e_AuthDoor_tmx (by rfl) (Tm.clean (Clean.imm (c_A6vu _))))) rfl List.not_mem_nil (by simp only [upd_get, ↓iop_and, Nat.reduceEqDiff, reduceIte, if_true, if_false] <;> rfl) (e_AuthDoor_tmx (by rfl) (Tm.clean (Clean.imm (c_A6vu _))))) (tmAllU 5 (tmAllU 3 (tmAllU 2 tmAll0 (Tm.ptr rfl)) (Tm.ptr rfl)) (Tm.v _)))⟩
     ·
      have hl5 := cF hl5 h6
      refine awp_exit ?_
      refine lq_e ?_
      refine bq_e ?_
      refine sq_n ?_
      obtain rfl := someInj hl5
      exact ⟨_, rfl, (Wk.canonD [] [] [] rfl trivial rfl tmO0 tmAll0)⟩
   ·
    rintro d29 rfl
    have h0 := Ex.k_go h0
    clear hi3
    unfold hotspotref29_SameDoor_S0
    refine awp_nr [] (fun _ => rfl) fun tz => ?_
    refine awp_regW fun KK hKK => ?_
    refine xw_id ?_
    try simp only [go_sem, Nat.reduceEqDiff, reduceIte, Nat.reduceAdd, Nat.reduceMul, Nat.reduceSub, Nat.reduceLT, Nat.reduceLeDiff]
    refine hKK _ _ (Wk.refl _ _ _) ?_; clear hKK KK
    refine awp_ret1 ?_
    obtain rfl := someInj h0
    refine endW_i ?_
    refine end_ret0 rs10 (rfl) ?_
    try simp only [go_sem, Nat.reduceEqDiff, reduceIte, Nat.reduceAdd, Nat.reduceMul, Nat.reduceSub, Nat.reduceLT, Nat.reduceLeDiff, fz, nilS, packR, List.take_nil, List.take_length, List.length_map, List.length_append, cond_true, cond_false, Nat.ble_eq, ble_self]
    all_goals first | rfl | (simp only [go_sem, Nat.reduceEqDiff, reduceIte, Nat.reduceAdd, Nat.reduceMul, Nat.reduceSub, Nat.reduceLT, Nat.reduceLeDiff, fz, nilS, packR, List.take_nil, List.take_length, List.length_map, List.length_append, cond_true, cond_false, Nat.ble_eq, ble_self, List.map_append] <;> rfl)

end Go.AX.Z.TW

/-! (TWW hotspotref22 Same) -/

set_option linter.unusedSimpArgs false
set_option linter.unusedVariables false
set_option maxHeartbeats 4000000
set_option maxRecDepth 20000
namespace Go.AX.Z.TW
open Go.AX Go.Proofs
attribute [local irreducible] awp xw xop xcall gsp ob xd xdop xcallD seqQ loopQ blkQ endQ

def hotspotref22_Same_S0 (d35 : Unit) : AS :=
 { objs := (fun _ => .dead), next := 0, tmps := (fun _ => .unk) }

def hotspotref22_Same_S1 (a0 : (List Int)) (a1 : (List Int)) (d37 : Int) : AS :=
 { objs := (fun _ => .dead), next := 0, tmps := (upd (upd (upd (fun _ => .unk) 0 (.imm (List.map vu a0) a0.length)) 1 (.imm (List.map vu a1) a1.length)) 5 (vi d37)) }

theorem hotspotref22_Same_p (a0 : (List Int)) (a1 : (List Int)) {r : Bool} (h0 : hotspotref22_Same a0 a1 = some r) : SndP K 11 [(S_vu a0), (S_vu a1)] (vb r) := by
 refine SndP.of_walkW hC (Clean.v _) (clean_cons (S_vu_clean _) (clean_cons (S_vu_clean _) clean_nil)) (show K.P.funcs[11]? = some Try.f11 from Try.func11) rfl rfl (by decide +kernel) (Nat.le_of_ble_eq_true rfl) ?_
 unfold hotspotref22_Same at h0
 refine awp_nr [0,1] (fun _ => rfl) fun tz => ?_
 refine awp_regW fun KK hKK => ?_
 refine xw_id ?_
 try simp only [go_sem, Nat.reduceEqDiff, reduceIte, Nat.reduceAdd, Nat.reduceMul, Nat.reduceSub, Nat.reduceLT, Nat.reduceLeDiff]
 refine hKK _ _ (Wk.refl _ _ _) ?_; clear hKK KK
 refine awp_assoc ?_
 refine awp_nr [0,1] (fun _ => rfl) fun tz => ?_
 refine awp_regW fun KK hKK => ?_
 refine xw_id ?_
 try simp only [go_sem, Nat.reduceEqDiff, reduceIte, Nat.reduceAdd, Nat.reduceMul, Nat.reduceSub, Nat.reduceLT, Nat.reduceLeDiff, Int.reduceToNat, Int.reduceBEq, Int.reduceBNe, Int.reduceLT, Int.reduceLE, Int.reduceAdd, Int.reduceSub, Int.reduceMul]
 refine hKK _ _ (Wk.refl _ _ _) ?_; clear hKK KK
 refine awp_cond (b := ((a0.length : Int) != (a1.length : Int))) rfl (fun h1 => ?_) (fun h1 => ?_)
 ·
  have h0 := cT h0 h1
  refine awp_assoc ?_
  refine awp_nr [] (fun _ => rfl) fun tz => ?_
  refine awp_regW fun KK hKK => ?_
  refine xw_id ?_
  try simp only [go_sem, Nat.reduceEqDiff, reduceIte, Nat.reduceAdd, Nat.reduceMul, Nat.reduceSub, Nat.reduceLT, Nat.reduceLeDiff]
  refine hKK _ _ (Wk.refl _ _ _) ?_; clear hKK KK
  refine awp_ret ?_
  obtain rfl := someInj h0
  refine endW_i ?_
  refine end_ret0 rs11 (rfl) ?_
  try simp only [go_sem, Nat.reduceEqDiff, reduceIte, Nat.reduceAdd, Nat.reduceMul, Nat.reduceSub, Nat.reduceLT, Nat.reduceLeDiff, fz, nilS, packR, List.take_nil, List.take_length, List.length_map, List.length_append, cond_true, cond_false, Nat.ble_eq, ble_self]
  all_goals first | rfl | (simp only [go_sem, Nat.reduceEqDiff, reduceIte, Nat.reduceAdd, Nat.reduceMul, Nat.reduceSub, Nat.reduceLT, Nat.reduceLeDiff, fz, nilS, packR, List.take_nil, List.take_length, List.length_map, List.length_append, cond_true, cond_false, Nat.ble_eq, ble_self, List.map_append] <;> rfl)
 ·
  have h0 := cF h0 h1
  refine awp_skip ?_
  refine awp_assoc ?_
  refine awp_nr [0,1] (fun _ => rfl) fun tz => ?_
  refine awp_regW fun KK hKK => ?_
  refine xw_id ?_
  try simp only [go_sem, Nat.reduceEqDiff, reduceIte, Nat.reduceAdd, Nat.reduceMul, Nat.reduceSub, Nat.reduceLT, Nat.reduceLeDiff]
  refine hKK _ _ (Wk.refl _ _ _) ?_; clear hKK KK
  obtain ⟨o36, hi2, h0⟩ := bnd h0
  refine awp_cut (fun d35 : Unit => o36 = Ex.go d35) (fun d35 : Unit => hotspotref22_Same_S0 d35) ?_ ?_
  ·
   refine awp_block1 ?_
   refine awp_loopS (fun n (d37 : Int) => hotspotref22_Same_L2 a0 a1 n d37 = some o36) (fun d37 : Int => hotspotref22_Same_S1 a0 a1 d37) big 0 (Wk.canonD [] [] [] rfl trivial rfl tmO0 (tmAllU 5 (tmAllU 1 (tmAllU 0 tmAll0 (Tm.clean (Clean.imm (vu_clean _)))) (Tm.clean (Clean.imm (vu_clean _)))) (Tm.v _))) hi2 ?_
   clear hi2
   rintro n d37 hl4
   rcases n with _ | n3
   ·
    (rw [hotspotref22_Same_L2] at hl4; cases hl4)
   ·
    rw [hotspotref22_Same_L2] at hl4
    unfold hotspotref22_Same_S1
    refine awp_assoc ?_
    refine awp_nr [0,1,5] (fun _ => rfl) fun tz => ?_
    refine awp_regW fun KK hKK => ?_
    refine xw_id ?_
    try simp only [go_sem, Nat.reduceEqDiff, reduceIte, Nat.reduceAdd, Nat.reduceMul, Nat.reduceSub, Nat.reduceLT, Nat.reduceLeDiff, Int.reduceToNat, Int.reduceBEq, Int.reduceBNe, Int.reduceLT, Int.reduceLE, Int.reduceAdd, Int.reduceSub, Int.reduceMul]
    refine hKK _ _ (Wk.refl _ _ _) ?_; clear hKK KK
    refine awp_cond (b := (decide (d37 < (a0.length : Int)))) rfl (fun h5 => ?_) (fun h5 => ?_)
    ·
     have hl4 := cT hl4 h5
     refine awp_skip ?_
     refine awp_blockW ?_
     refine awp_nr [0,1,5] (fun _ => rfl) fun tz => ?_
     refine awp_regW fun KK hKK => ?_
     refine xw_id ?_
     obtain ⟨x38, bx38, hl4⟩ := bnd hl4
     obtain ⟨fx38_0, fx38_1, fx38_2, fx38_3⟩ := idx_some bx38
     obtain ⟨x39, bx39, hl4⟩ := bnd hl4
     obtain ⟨fx39_0, fx39_1, fx39_2, fx39_3⟩ := idx_some bx39
     try simp only [go_sem, Nat.reduceEqDiff, reduceIte, Nat.reduceAdd, Nat.reduceMul, Nat.reduceSub, Nat.reduceLT, Nat.reduceLeDiff, fx38_0, fx38_1, fx38_2, fx39_0, fx39_1, fx39_2]
     refine hKK _ _ (Wk.refl _ _ _) ?_; clear hKK KK
     refine awp_cond1 (b := (x38 != x39)) rfl (fun h6 => ?_) (fun h6 => ?_)
     ·
      have hl4 := cT hl4 h6
      refine awp_nr [] (fun _ => rfl) fun tz => ?_
      refine awp_regW fun KK hKK => ?_
      refine xw_id ?_
      try simp only [go_sem, Nat.reduceEqDiff, reduceIte, Nat.reduceAdd, Nat.reduceMul, Nat.reduceSub, Nat.reduceLT, Nat.reduceLeDiff, fx38_0, fx38_1, fx38_2, fx39_0, fx39_1, fx39_2]
      refine hKK _ _ (Wk.refl _ _ _) ?_; clear hKK KK
      refine awp_ret1 ?_
      refine bq_r ?_
      refine sq_r ?_
      refine lq_r ?_
      refine bq_r ?_
      refine sq_r ?_
      obtain rfl := someInj hl4
      obtain rfl := Ex.k_ret h0
      refine endW_i ?_
      refine end_ret0 rs11 (rfl) ?_
      try simp only [go_sem, Nat.reduceEqDiff, reduceIte, Nat.reduceAdd, Nat.reduceMul, Nat.reduceSub, Nat.reduceLT, Nat.reduceLeDiff, fz, nilS, packR, List.take_nil, List.take_length, List.length_map, List.length_append, cond_true, cond_false, Nat.ble_eq, ble_self]
      all_goals first | rfl | (simp only [go_sem, Nat.reduceEqDiff, reduceIte, Nat.reduceAdd, Nat.reduceMul, Nat.reduceSub, Nat.reduceLT, Nat.reduceLeDiff, fz, nilS, packR, List.take_nil, List.take_length, List.length_map, List.length_append, cond_true, cond_false, Nat.ble_eq, ble_self, List.map_append] <;> rfl)
     ·
      have hl4 := cF hl4 h6
      refine awp_skip1 ?_
      refine bq_n ?_
      refine seqW_i ?_
      refine awp_nr1 [0,1,5] (fun _ => rfl) fun tz => ?_
      refine awp_reg1 fun KK hKK => ?_
      refine xw_id ?_
      try simp only [go_sem, Nat.reduceEqDiff, reduceIte, Nat.reduceAdd, Nat.reduceMul, Nat.reduceSub, Nat.reduceLT, Nat.reduceLeDiff, fx38_0, fx38_1, fx38_2, fx39_0, fx39_1, fx39_2]
      refine hKK _ ?_; clear hKK KK
      refine lq_n ?_
      exact ⟨n3, IntKind.wrap .i64 (d37 + 1), rfl, hl4, (Wk.canonD [] [] [] rfl trivial rfl tmO0 (tmAllU 5 (tmAllU 1 (tmAllU 0 tmAll0 (Tm.clean (Clean.imm (vu_clean _)))) (Tm.clean (Clean.imm (vu_clean _)))) (Tm.v _)))⟩
    ·
     have hl4 := cF hl4 h5
     refine awp_exit ?_
     refine lq_e ?_
     refine bq_e ?_
     refine sq_n ?_
     obtain rfl := someInj hl4
     exact ⟨_, rfl, (Wk.canonD [] [] [] rfl trivial rfl tmO0 tmAll0)⟩
  ·
   rintro d35 rfl
   have h0 := Ex.k_go h0
   clear hi2
   unfold hotspotref22_Same_S0
   refine awp_nr [] (fun _ => rfl) fun tz => ?_
   refine awp_regW fun KK hKK => ?_
   refine xw_id ?_
   try simp only [go_sem, Nat.reduceEqDiff, reduceIte, Nat.reduceAdd, Nat.reduceMul, Nat.reduceSub, Nat.reduceLT, Nat.reduceLeDiff]
   refine hKK _ _ (Wk.refl _ _ _) ?_; clear hKK KK
   refine awp_ret1 ?_
   obtain rfl := someInj h0
   refine endW_i ?_
   refine end_ret0 rs11 (rfl) ?_
   try simp only [go_sem, Nat.reduceEqDiff, reduceIte, Nat.reduceAdd, Nat.reduceMul, Nat.reduceSub, Nat.reduceLT, Nat.reduceLeDiff, fz, nilS, packR, List.take_nil, List.take_length, List.length_map, List.length_append, cond_true, cond_false, Nat.ble_eq, ble_self]
   all_goals first | rfl | (simp only [go_sem, Nat.reduceEqDiff, reduceIte, Nat.reduceAdd, Nat.reduceMul, Nat.reduceSub, Nat.reduceLT, Nat.reduceLeDiff, fz, nilS, packR, List.take_nil, List.take_length, List.length_map, List.length_append, cond_true, cond_false, Nat.ble_eq, ble_self, List.map_append] <;> rfl)

end Go.AX.Z.TW

/-! (TWW slices Delete api Addr api Addr) -/

set_option linter.unusedSimpArgs false
set_option linter.unusedVariables false
set_option maxHeartbeats 4000000
set_option maxRecDepth 20000
namespace Go.AX.Z.TW
open Go.AX Go.Proofs
attribute [local irreducible] awp xw xop xcall gsp ob xd xdop xcallD seqQ loopQ blkQ endQ


theorem slices_Delete_api_Addr_api_Addr_io (a0 : Int) (a1 : Int) (a2 : List A6vu) {r : (List A6vu)} (h0 : slices_Delete_api_Addr_api_Addr a0 a1 a2 = some r) : SndIO K 43 1 (fun q => [(.ref (q 0) 0 a2.length 6), (vi a0), (vi a1)]) [(fun q => (List.flatMap e_A6vu a2))] (fun q => (.ref (q 0) 0 ((r).length) 6)) [(some (fun q => (List.flatMap e_A6vu r)))] := by
 unfold slices_Delete_api_Addr_api_Addr at h0
 obtain ⟨x13, bx13, h0⟩ := bnd h0
 have bx13 := chk_some bx13
 simp only [Bool.and_eq_true, decide_eq_true_eq] at bx13
 obtain ⟨⟨gx0, gx1⟩, gx2⟩ := bx13
 obtain ⟨i, rfl⟩ : ∃ i : Nat, a0 = (i : Int) := ⟨a0.toNat, by omega⟩
 obtain ⟨j, rfl⟩ : ∃ j : Nat, a1 = (j : Int) := ⟨a1.toNat, by omega⟩
 obtain rfl := someInj h0
 simp only [Int.toNat_natCast]
 have hj : j ≤ a2.length := by omega
 have g0 : (0 ≤ (i : Int)) = True := eq_true (by omega)
 have g1 : ((i : Int) ≤ (j : Int)) = True := eq_true (by omega)
 have g2 : ((j : Int) ≤ (a2.length : Int)) = True := eq_true (by omega)
 have hLr : ∀ l : List A6vu, (List.flatMap e_A6vu l).length = l.length * 6 := fun l => r_A6vu_len l
 rcases Bool.eq_false_or_eq_true (((i : Nat) : Int) == ((j : Nat) : Int)) with h3 | h3
 ·
  obtain rfl : i = j := by
   have : ((i : Nat) : Int) = (j : Int) := by simpa using h3
   omega
  refine SndIO.of_walkW hC (RenML.cons (RenM.ref 0 0 _ _) (RenML.cons (RenM.const (Clean.v _)) (RenML.cons (RenM.const (Clean.v _)) RenML.nil))) (tpl_cons (RenML.const (c_A6vu _)) tpl_nil) (otpl_some (RenML.const (c_A6vu _)) otpl_nil) (RenM.ref 0 0 _ _) rfl (Nat.le_of_ble_eq_true rfl) (show K.P.funcs[43]? = some Try.f43 from Try.func43) rfl rfl (by decide +kernel) (Nat.le_of_ble_eq_true rfl) ?_
  repeat refine awp_assoc ?_
  refine awp_nr [0,1,2] (fun _ => rfl) fun tz => ?_
  refine awp_regW fun KK hKK => ?_
  refine xw_id ?_
  try simp only [go_sem, Nat.reduceEqDiff, reduceIte, Nat.reduceMul, Nat.reduceSub, Nat.reduceLT, Nat.reduceLeDiff, Int.reduceToNat, Int.reduceBEq, Int.reduceBNe, Int.reduceLT, Int.reduceLE, Int.reduceAdd, Int.reduceSub, Int.reduceMul, Nat.reduceAdd, g0, g1, g2, Int.toNat_natCast]
  refine hKK _ _ (Wk.refl _ _ _) ?_; clear hKK KK
  repeat refine awp_assoc ?_
  refine awp_nr [0,1,2] (fun _ => rfl) fun tz => ?_
  refine awp_regW fun KK hKK => ?_
  refine xw_id ?_
  try simp only [go_sem, Nat.reduceEqDiff, reduceIte, Nat.reduceMul, Nat.reduceSub, Nat.reduceLT, Nat.reduceLeDiff, Int.reduceToNat, Int.reduceBEq, Int.reduceBNe, Int.reduceLT, Int.reduceLE, Int.reduceAdd, Int.reduceSub, Int.reduceMul, Nat.reduceAdd, g0, g1, g2, Int.le_refl, hLr, Int.toNat_natCast]
  refine hKK _ _ (Wk.refl _ _ _) ?_; clear hKK KK
  repeat refine awp_assoc ?_
  refine awp_nr [0,1,2] (fun _ => rfl) fun tz => ?_
  refine awp_regW fun KK hKK => ?_
  refine xw_id ?_
  try simp only [go_sem, Nat.reduceEqDiff, reduceIte, Nat.reduceMul, Nat.reduceSub, Nat.reduceLT, Nat.reduceLeDiff, Int.reduceToNat, Int.reduceBEq, Int.reduceBNe, Int.reduceLT, Int.reduceLE, Int.reduceAdd, Int.reduceSub, Int.reduceMul, Nat.reduceAdd, Int.toNat_natCast]
  refine hKK _ _ (Wk.refl _ _ _) ?_; clear hKK KK
  refine awp_cond (b := true) rfl (fun _ => ?_) (fun h => by cases h)
  repeat refine awp_assoc ?_
  refine awp_nr [0] (fun _ => rfl) fun tz => ?_
  refine awp_regW fun KK hKK => ?_
  refine xw_id ?_
  try simp only [go_sem, Nat.reduceEqDiff, reduceIte, Nat.reduceMul, Nat.reduceSub, Nat.reduceLT, Nat.reduceLeDiff, Int.reduceToNat, Int.reduceBEq, Int.reduceBNe, Int.reduceLT, Int.reduceLE, Int.reduceAdd, Int.reduceSub, Int.reduceMul, Nat.reduceAdd, Int.toNat_natCast]
  refine hKK _ _ (Wk.refl _ _ _) ?_; clear hKK KK
  repeat refine awp_assoc ?_
  first | refine awp_ret ?_ | refine awp_ret1 ?_
  refine endW_i ?_
  refine end_ret0 rs43 (rfl) ?_
  refine ResIO.mk [] [some 0] rfl (resEU List.not_mem_nil (by simp only [upd_get, Nat.reduceEqDiff, reduceIte, Nat.reduceMul, Nat.reduceSub, Nat.reduceLT, Nat.reduceLeDiff, Int.reduceToNat, Int.reduceBEq, Int.reduceBNe, Int.reduceLT, Int.reduceLE, Int.reduceAdd, Int.reduceSub, Int.reduceMul, Nat.reduceAdd, if_true, if_false] <;> rfl) (TmL.of_eq (by rw [List.take_append_drop]) (c_A6vu _)) resE0) (Tm.refL rfl ?_)
  all_goals (first | rfl | (simp only [List.length_append, List.length_take, List.length_drop]; omega))
 ·
  have hij : i < j := by
   have : ¬ ((i : Nat) : Int) = (j : Int) := by simpa using h3
   omega
  refine SndIO.of_walkC hC (RenML.cons (RenM.ref 0 0 _ _) (RenML.cons (RenM.const (Clean.v _)) (RenML.cons (RenM.const (Clean.v _)) RenML.nil))) (tpl_cons (RenML.const (c_A6vu _)) tpl_nil) (otpl_some (RenML.const (c_A6vu _)) otpl_nil) (RenM.ref 0 0 _ _) rfl (Nat.le_of_ble_eq_true rfl) (show K.P.funcs[43]? = some Try.f43 from Try.func43) rfl rfl (by decide +kernel) (Nat.le_of_ble_eq_true rfl) rfl (by omega) fun cap hcap => ?_
  have g3 : ((a2.length : Int) ≤ (cap : Int)) = True := eq_true (by omega)
  have g4 : ((i : Int) ≤ (cap : Int)) = True := eq_true (by omega)
  have k0 : ((0 : Int) < (cap : Int)) = True := eq_true (by omega)
  have k2 : (0 ≤ (j : Int)) = True := eq_true (by omega)
  have k1 : ((j : Int) ≤ (a2.length : Int)) = True := eq_true (by omega)
  repeat refine awp_assoc ?_
  refine awp_nr [0,1,2] (fun _ => rfl) fun tz => ?_
  refine awp_regW fun KK hKK => ?_
  refine xw_id ?_
  try simp only [go_sem, Nat.reduceEqDiff, reduceIte, Nat.reduceMul, Nat.reduceSub, Nat.reduceLT, Nat.reduceLeDiff, Int.reduceToNat, Int.reduceBEq, Int.reduceBNe, Int.reduceLT, Int.reduceLE, Int.reduceAdd, Int.reduceSub, Int.reduceMul, Nat.reduceAdd, g0, g1, g2, g3, g4, hLr, Int.sub_zero, Int.toNat_natCast, Nat.sub_zero]
  refine hKK _ _ (Wk.refl _ _ _) ?_; clear hKK KK
  repeat refine awp_assoc ?_
  refine awp_nr [0,1,2] (fun _ => rfl) fun tz => ?_
  refine awp_regW fun KK hKK => ?_
  refine xw_id ?_
  try simp only [go_sem, Nat.reduceEqDiff, reduceIte, Nat.reduceMul, Nat.reduceSub, Nat.reduceLT, Nat.reduceLeDiff, Int.reduceToNat, Int.reduceBEq, Int.reduceBNe, Int.reduceLT, Int.reduceLE, Int.reduceAdd, Int.reduceSub, Int.reduceMul, Nat.reduceAdd, g0, g1, g2, g3, g4, hLr, Int.sub_zero, Int.toNat_natCast, Nat.sub_zero]
  refine hKK _ _ (Wk.refl _ _ _) ?_; clear hKK KK
  repeat refine awp_assoc ?_
  refine awp_nr [0,1,2] (fun _ => rfl) fun tz => ?_
  refine awp_regW fun KK hKK => ?_
  refine xw_id ?_
  try simp only [go_sem, Nat.reduceEqDiff, reduceIte, Nat.reduceMul, Nat.reduceSub, Nat.reduceLT, Nat.reduceLeDiff, Int.reduceToNat, Int.reduceBEq, Int.reduceBNe, Int.reduceLT, Int.reduceLE, Int.reduceAdd, Int.reduceSub, Int.reduceMul, Nat.reduceAdd, g0, g1, g2, g3, g4, hLr, Int.sub_zero, Int.toNat_natCast, Nat.sub_zero]
  refine hKK _ _ (Wk.refl _ _ _) ?_; clear hKK KK
  refine awp_cond (b := (((i : Nat) : Int) == ((j : Nat) : Int))) rfl (fun h => absurd h (by simp only [beq_iff_eq]; omega)) (fun _ => ?_)
  refine awp_skip ?_
  repeat refine awp_assoc ?_
  refine awp_nr [0,1,2] (fun _ => rfl) fun tz => ?_
  refine awp_regW fun KK hKK => ?_
  refine xw_id ?_
  try simp only [go_sem, Nat.reduceEqDiff, reduceIte, Nat.reduceMul, Nat.reduceSub, Nat.reduceLT, Nat.reduceLeDiff, Int.reduceToNat, Int.reduceBEq, Int.reduceBNe, Int.reduceLT, Int.reduceLE, Int.reduceAdd, Int.reduceSub, Int.reduceMul, Nat.reduceAdd, g0, g1, g2, g3, g4, hLr, Int.sub_zero, Int.toNat_natCast, Nat.sub_zero]
  refine hKK _ _ (Wk.refl _ _ _) ?_; clear hKK KK
  obtain ⟨c1, hc1⟩ : ∃ c, c = List.take (i * 6) (List.flatMap e_A6vu a2) ++ (List.flatMap e_A6vu (List.drop j a2)) ++ List.drop (i * 6 + (a2.length - j) * 6) (List.flatMap e_A6vu a2) := ⟨_, rfl⟩
  obtain ⟨hl1, hfin⟩ := del_rows (fun l => (List.flatMap e_A6vu l)) 6 (fun l => r_A6vu_len l) (fun x y => List.flatMap_append) (fun x n => rows_take l_A6vu x n) a2 i j hij hj (c1 := c1) (by exact hc1)
  have q1 : (i * 6 ≤ a2.length * 6) = True := eq_true (by omega)
  have q2 : (i + (a2.length - j) ≤ cap) = True := eq_true (by omega)
  have hn0 : 0 < a2.length - (i + (a2.length - j)) := by omega
  have hj2 : ((a2.length : Int) - (j : Int)).toNat = a2.length - j := by omega
  have s3 : sub? (List.flatMap e_A6vu a2) (j * 6) ((a2.length - j) * 6) = some (List.flatMap e_A6vu (List.drop j a2)) := rows_subD l_A6vu a2 j (by omega)
  rcases Nat.lt_or_ge j cap with hjc | hjc
  ·
   have hj1 : ((j : Int) < (cap : Int)) = True := eq_true (by omega)
   have hc2 : (List.flatMap e_A6vu (List.take i a2 ++ List.drop j a2)) ++ List.drop (i * 6 + (a2.length - j) * 6) (List.flatMap e_A6vu a2) = c1 := by rw [hc1, List.flatMap_append, rows_take l_A6vu]
   repeat refine awp_assoc ?_
   refine awp_nr [0,1,2,7] (fun _ => rfl) fun tz => ?_
   refine awp_regDW fun KK hKK all hall => ?_
   refine xd_id ?_
   try simp only [go_sem, Nat.reduceEqDiff, reduceIte, Nat.reduceMul, Nat.reduceSub, Nat.reduceLT, Nat.reduceLeDiff, Int.reduceToNat, Int.reduceBEq, Int.reduceBNe, Int.reduceLT, Int.reduceLE, Int.reduceAdd, Int.reduceSub, Int.reduceMul, Nat.reduceAdd, g0, g1, g2, g3, g4, hLr, Int.sub_zero, Int.toNat_natCast, Nat.sub_zero, k0, k1, k2, q1, q2, hj1, hj2, s3, hc2]
   refine And.intro ?_ (hKK _ _ (Wk.refl _ _ _) ?_)
   ·
    subst hall
    clear hKK KK
    first | (simp [printsOk, apartP, clash, meet]; done) | (simp [printsOk, apartP, clash, meet]; decide +kernel) | decide +kernel
   ·
    clear hKK KK hall all
    have f1 : (0 ≤ ((i + (a2.length - j) : Nat) : Int)) = True := eq_true (by omega)
    have f2 : (((i + (a2.length - j) : Nat) : Int) ≤ (a2.length : Int)) = True := eq_true (by omega)
    have f3 : (((i + (a2.length - j) : Nat) : Int) < (cap : Int)) = True := eq_true (by omega)
    have f4 : ((a2.length : Int) - ((i + (a2.length - j) : Nat) : Int)).toNat = a2.length - (i + (a2.length - j)) := by omega
    have q3 : ((i + (a2.length - j)) * 6 ≤ c1.length) = True := eq_true (by rw [hl1]; omega)
    repeat refine awp_assoc ?_
    refine awp_nr [0,7] (fun _ => rfl) fun tz => ?_
    refine awp_regW fun KK hKK => ?_
    refine xw_id ?_
    try simp only [go_sem, Nat.reduceEqDiff, reduceIte, Nat.reduceMul, Nat.reduceSub, Nat.reduceLT, Nat.reduceLeDiff, Int.reduceToNat, Int.reduceBEq, Int.reduceBNe, Int.reduceLT, Int.reduceLE, Int.reduceAdd, Int.reduceSub, Int.reduceMul, Nat.reduceAdd, g0, g1, g2, g3, g4, hLr, Int.sub_zero, Int.toNat_natCast, Nat.sub_zero, f1, f2, f3, f4, q3, hfin]
    refine hKK _ _ (Wk.refl _ _ _) ?_; clear hKK KK
    repeat refine awp_assoc ?_
    refine awp_nr [0] (fun _ => rfl) fun tz => ?_
    refine awp_regW fun KK hKK => ?_
    refine xw_id ?_
    try simp only [go_sem, Nat.reduceEqDiff, reduceIte, Nat.reduceMul, Nat.reduceSub, Nat.reduceLT, Nat.reduceLeDiff, Int.reduceToNat, Int.reduceBEq, Int.reduceBNe, Int.reduceLT, Int.reduceLE, Int.reduceAdd, Int.reduceSub, Int.reduceMul, Nat.reduceAdd, g0, g1, g2, g3, g4, hLr, Int.sub_zero, Int.toNat_natCast, Nat.sub_zero]
    refine hKK _ _ (Wk.trans (Wk.cap 6 (by simp only [upd_get, Nat.reduceEqDiff, reduceIte]; rfl)) (Wk.trim 0 (by simp only [upd_get, Nat.reduceEqDiff, reduceIte]; rfl) (List.append_assoc _ _ _))) ?_; clear hKK KK
    repeat refine awp_assoc ?_
    first | refine awp_ret ?_ | refine awp_ret1 ?_
    refine endW_i ?_
    refine end_ret0 rs43 (rfl) ?_
    refine ResIO.mk [] [some 0] rfl (resEU List.not_mem_nil (by simp only [upd_get, Nat.reduceEqDiff, reduceIte, Nat.reduceMul, Nat.reduceSub, Nat.reduceLT, Nat.reduceLeDiff, Int.reduceToNat, Int.reduceBEq, Int.reduceBNe, Int.reduceLT, Int.reduceLE, Int.reduceAdd, Int.reduceSub, Int.reduceMul, Nat.reduceAdd, if_true, if_false] <;> rfl) (TmL.of_eq rfl (c_A6vu _)) resE0) (Tm.refL rfl ?_)
    all_goals (first | rfl | (simp only [List.length_append, List.length_take, List.length_drop]; omega))
  ·
   have hjn : j = a2.length := by omega
   have hcn : cap = a2.length := by omega
   have hj1 : ((j : Int) < (cap : Int)) = False := eq_false (by omega)
   have hj3 : (((cap : Nat) : Int) - (j : Int)).toNat = 0 := by omega
   have hj4 : i = i + (a2.length - j) := by omega
   have s0 : sub? (List.flatMap e_A6vu a2) 0 0 = some [] := by unfold sub?; rw [if_pos (by omega)]; rfl
   have hc2 : List.take (i * 6) (List.flatMap e_A6vu a2) ++ [] ++ List.drop (i * 6) (List.flatMap e_A6vu a2) = c1 := by rw [hc1, show a2.length - j = 0 by omega, show List.drop j a2 = [] from List.drop_of_length_le (by omega)]; simp
   have hc3 : (List.flatMap e_A6vu (List.take i a2)) ++ List.drop (i * 6) (List.flatMap e_A6vu a2) = c1 := by rw [← hc2, List.append_nil, rows_take l_A6vu]
   have hc3b : (List.flatMap e_A6vu (List.take i a2 ++ List.drop i a2)) = c1 := by rw [List.take_append_drop, ← hc2, List.append_nil, List.take_append_drop]
   have q4 : (i ≤ cap) = True := eq_true (by omega)
   have hfin : List.take (i * 6) c1 = (List.flatMap e_A6vu (List.take i a2 ++ List.drop j a2)) := by have := hfin; rw [show i + (a2.length - j) = i by omega] at this; exact this
   repeat refine awp_assoc ?_
   refine awp_nr [0,1,2,7] (fun _ => rfl) fun tz => ?_
   refine awp_regDW fun KK hKK all hall => ?_
   refine xd_id ?_
   try simp only [go_sem, Nat.reduceEqDiff, reduceIte, Nat.reduceMul, Nat.reduceSub, Nat.reduceLT, Nat.reduceLeDiff, Int.reduceToNat, Int.reduceBEq, Int.reduceBNe, Int.reduceLT, Int.reduceLE, Int.reduceAdd, Int.reduceSub, Int.reduceMul, Nat.reduceAdd, g0, g1, g2, g3, g4, hLr, Int.sub_zero, Int.toNat_natCast, Nat.sub_zero, k0, k1, k2, q1, q4, hj1, s0, hc3, hc3b]
   refine And.intro ?_ (hKK _ _ (Wk.refl _ _ _) ?_)
   ·
    subst hall
    clear hKK KK
    first | (simp [printsOk, apartP, clash, meet]; done) | (simp [printsOk, apartP, clash, meet]; decide +kernel) | decide +kernel
   ·
    clear hKK KK hall all
    have f1 : (0 ≤ ((i : Nat) : Int)) = True := eq_true (by omega)
    have f2 : (((i : Nat) : Int) ≤ (a2.length : Int)) = True := eq_true (by omega)
    have f3 : (((i : Nat) : Int) < (cap : Int)) = True := eq_true (by omega)
    have f4 : ((a2.length : Int) - ((i : Nat) : Int)).toNat = a2.length - (i) := by omega
    have q3 : (i * 6 ≤ c1.length) = True := eq_true (by rw [hl1]; omega)
    repeat refine awp_assoc ?_
    refine awp_nr [0,7] (fun _ => rfl) fun tz => ?_
    refine awp_regW fun KK hKK => ?_
    refine xw_id ?_
    try simp only [go_sem, Nat.reduceEqDiff, reduceIte, Nat.reduceMul, Nat.reduceSub, Nat.reduceLT, Nat.reduceLeDiff, Int.reduceToNat, Int.reduceBEq, Int.reduceBNe, Int.reduceLT, Int.reduceLE, Int.reduceAdd, Int.reduceSub, Int.reduceMul, Nat.reduceAdd, g0, g1, g2, g3, g4, hLr, Int.sub_zero, Int.toNat_natCast, Nat.sub_zero, f1, f2, f3, f4, q3, hfin]
    refine hKK _ _ (Wk.refl _ _ _) ?_; clear hKK KK
    repeat refine awp_assoc ?_
    refine awp_nr [0] (fun _ => rfl) fun tz => ?_
    refine awp_regW fun KK hKK => ?_
    refine xw_id ?_
    try simp only [go_sem, Nat.reduceEqDiff, reduceIte, Nat.reduceMul, Nat.reduceSub, Nat.reduceLT, Nat.reduceLeDiff, Int.reduceToNat, Int.reduceBEq, Int.reduceBNe, Int.reduceLT, Int.reduceLE, Int.reduceAdd, Int.reduceSub, Int.reduceMul, Nat.reduceAdd, g0, g1, g2, g3, g4, hLr, Int.sub_zero, Int.toNat_natCast, Nat.sub_zero]
    refine hKK _ _ (Wk.trans (Wk.cap 6 (by simp only [upd_get, Nat.reduceEqDiff, reduceIte]; rfl)) (Wk.trim 0 (by simp only [upd_get, Nat.reduceEqDiff, reduceIte]; rfl) (List.append_assoc _ _ _))) ?_; clear hKK KK
    repeat refine awp_assoc ?_
    first | refine awp_ret ?_ | refine awp_ret1 ?_
    refine endW_i ?_
    refine end_ret0 rs43 (rfl) ?_
    refine ResIO.mk [] [some 0] rfl (resEU List.not_mem_nil (by simp only [upd_get, Nat.reduceEqDiff, reduceIte, Nat.reduceMul, Nat.reduceSub, Nat.reduceLT, Nat.reduceLeDiff, Int.reduceToNat, Int.reduceBEq, Int.reduceBNe, Int.reduceLT, Int.reduceLE, Int.reduceAdd, Int.reduceSub, Int.reduceMul, Nat.reduceAdd, if_true, if_false] <;> rfl) (TmL.of_eq rfl (c_A6vu _)) resE0) (Tm.refL rfl ?_)
    all_goals (first | rfl | (simp only [List.length_append, List.length_take, List.length_drop]; omega))

end Go.AX.Z.TW
