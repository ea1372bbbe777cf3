/- A part of the proof: walks through the functions that the statement reaches. -/
import Derived.Test.YtjijidmbpfjioaaWalka
set_option linter.unusedVariables false
set_option linter.unusedSimpArgs false

/-! (TSW sender Acked) -/

set_option linter.unusedSimpArgs false
set_option linter.unusedVariables false
set_option maxHeartbeats 4000000
namespace Go.AX.Z.TS
open Go.AX Go.Proofs
attribute [local irreducible] awp xw xop xcall gsp ob xd xdop xcallD seqQ loopQ blkQ endQ

def sender_Acked_S0 (x28 : (Sender × Int)) (a1 : Window) : AS :=
 { objs := (upd (upd (upd (upd (fun _ => .dead) 0 (.live (e_Sender x28.1 (.ref 1 0 x28.1.Out.length 44)))) 1 (.live (List.flatMap E_Unacked x28.1.Out))) 2 (.live (e_Window a1))) 3 (.live (e_Sender Sender.z vnil))), next := 4, tmps := (upd (upd (upd (upd (fun _ => .unk) 2 (.ptr 0 0)) 3 (.ptr 2 0)) 5 (.ptr 3 0)) 6 (vi x28.2)) }

theorem sender_Acked_r (a0 : Sender) (a1 : Window) {r : ((List Int) × Sender × Int)} (h0 : sender_Acked a0 a1 = some r) : SndR K 22 [(.agg (E_Sender a0)), (.agg (e_Window a1))] (fun q => (.tup [(.ref (q 0) 0 r.1.length 1), (.agg (e_Sender r.2.1 (.ref (q 1) 0 r.2.1.Out.length 44))), (vi r.2.2)])) [(List.map vi r.1), (List.flatMap E_Unacked r.2.1.Out)] := by
 refine SndR.of_walkW hC (show K.P.funcs[22]? = some Try.f22 from Try.func22) rfl rfl (by decide +kernel) (Nat.le_of_ble_eq_true rfl) ?_
 unfold sender_Acked at h0
 refine awp_nr [0,1] (fun _ => rfl) fun tz => ?_
 refine awp_regW fun KK hKK => ?_
 refine xw_id ?_
 try simp only [go_sem, Nat.reduceEqDiff, reduceIte, Nat.reduceAdd, Nat.reduceMul, Nat.reduceSub, Nat.reduceLT, Nat.reduceLeDiff]
 refine hKK _ _ (Wk.refl _ _ _) ?_; clear hKK KK
 refine awp_nr [2,3,5] (fun _ => rfl) fun tz => ?_
 refine awp_regDW fun KK hKK all hall => ?_
 refine xd_id ?_
 try simp only [List.toList_toArray, List.map_cons, List.map_nil, List.size_toArray, List.length_cons, List.length_nil, Nat.zero_add]
 try simp only [Nat.reduceAdd]
 obtain ⟨x27, bx27, h0⟩ := bnd h0
 simp only [go_sem, Nat.reduceEqDiff, reduceIte, Nat.reduceMul, Nat.reduceSub, Nat.reduceLT, Nat.reduceLeDiff]
 try simp only [Nat.reduceAdd]
 try simp only [go_sem, Nat.reduceEqDiff, reduceIte, Nat.reduceMul, Nat.reduceSub, Nat.reduceLT, Nat.reduceLeDiff]
 try simp only [Nat.reduceAdd]
 try simp only [go_sem, Nat.reduceEqDiff, reduceIte, Nat.reduceMul, Nat.reduceSub, Nat.reduceLT, Nat.reduceLeDiff]
 refine xcallD_p (window_Check_p a1 bx27) ?_; try dsimp only
 try refine xd_id ?_
 obtain ⟨x28, bx28, h0⟩ := bnd h0
 simp only [go_sem, Nat.reduceEqDiff, reduceIte, Nat.reduceMul, Nat.reduceSub, Nat.reduceLT, Nat.reduceLeDiff]
 try simp only [Nat.reduceAdd]
 try simp only [go_sem, Nat.reduceEqDiff, reduceIte, Nat.reduceMul, Nat.reduceSub, Nat.reduceLT, Nat.reduceLeDiff]
 try simp only [Nat.reduceAdd]
 try simp only [go_sem, Nat.reduceEqDiff, reduceIte, Nat.reduceMul, Nat.reduceSub, Nat.reduceLT, Nat.reduceLeDiff]
 refine xcallD_E (sender_open_e a0 (x27 == 0) bx28 _) ?_; try dsimp only
 try refine xd_id ?_
 simp only [go_sem, Nat.reduceEqDiff, reduceIte, Nat.reduceMul, Nat.reduceSub, Nat.reduceLT, Nat.reduceLeDiff]
 try simp only [Nat.reduceAdd]
 try simp only [go_sem, Nat.reduceEqDiff, reduceIte, Nat.reduceMul, Nat.reduceSub, Nat.reduceLT, Nat.reduceLeDiff]
 try simp only [Nat.reduceAdd]
 try simp only [go_sem, Nat.reduceEqDiff, reduceIte, Nat.reduceMul, Nat.reduceSub, Nat.reduceLT, Nat.reduceLeDiff]
 refine And.intro ?_ (hKK _ (sender_Acked_S0 x28 a1) (by refine Wk.canonD [] [] [some 0, some 9, some 1, some 3] rfl trivial rfl (tmOU 3 (tmOU 2 (tmOU 1 (tmOU 0 tmO0 rfl List.not_mem_nil (by simp only [upd_get, Nat.reduceEqDiff, reduceIte, Nat.reduceAdd, Nat.reduceMul, Nat.reduceSub, Nat.reduceLT, Nat.reduceLeDiff, if_true, if_false] <;> rfl) (e_Sender_tmx (by rfl) (Tm.refL rfl ?_))) rfl List.not_mem_nil (by simp only [upd_get, Nat.reduceEqDiff, reduceIte, Nat.reduceAdd, Nat.reduceMul, Nat.reduceSub, Nat.reduceLT, Nat.reduceLeDiff, if_true, if_false] <;> rfl) (TmL.of_eq (by first | rfl | (simp only [List.flatMap_append, List.flatMap_cons, List.flatMap_nil, List.map_append, List.map_cons, List.map_nil, List.append_nil, List.nil_append]; done) | (simp only [List.flatMap_append, List.flatMap_cons, List.flatMap_nil, List.map_append, List.map_cons, List.map_nil, List.append_nil, List.nil_append]; rfl)) (c_Unacked _))) rfl List.not_mem_nil (by simp only [upd_get, Nat.reduceEqDiff, reduceIte, Nat.reduceAdd, Nat.reduceMul, Nat.reduceSub, Nat.reduceLT, Nat.reduceLeDiff, if_true, if_false] <;> rfl) (TmL.clean (e_Window_clean _))) rfl List.not_mem_nil (by simp only [upd_get, Nat.reduceEqDiff, reduceIte, Nat.reduceAdd, Nat.reduceMul, Nat.reduceSub, Nat.reduceLT, Nat.reduceLeDiff, if_true, if_false] <;> rfl) (e_Sender_tmx (by rfl) (Tm.v _))) (tmAllU 6 (tmAllU 5 (tmAllU 3 (tmAllU 2 tmAll0 (Tm.ptr rfl)) (Tm.ptr rfl)) (Tm.ptr rfl)) (Tm.v _)); all_goals (first | rfl | (simp only [List.length_take]; omega) | (simp only [List.length_append, List.length_cons, List.length_nil, List.length_modify, List.length_set, Nat.zero_add]; done) | (simp only [List.length_append, List.length_take, List.length_drop, List.length_cons, List.length_nil, List.length_modify, List.length_set, Nat.zero_add]; omega))) ?_)
 ·
  subst hall
  clear hKK KK
  first | (simp [printsOk, apartP, clash, meet]; done) | (simp [printsOk, apartP, clash, meet]; decide +kernel) | decide +kernel
 ·
  clear hKK KK hall all
  unfold sender_Acked_S0
  refine awp_assoc ?_
  refine awp_nr [2,3,5,6] (fun _ => rfl) fun tz => ?_
  refine awp_regW fun KK hKK => ?_
  refine xw_id ?_
  try simp only [go_sem, Nat.reduceEqDiff, reduceIte, Nat.reduceAdd, Nat.reduceMul, Nat.reduceSub, Nat.reduceLT, Nat.reduceLeDiff]
  refine hKK _ _ (Wk.refl _ _ _) ?_; clear hKK KK
  refine awp_cond (b := (x28.2 != 0)) rfl (fun h1 => ?_) (fun h1 => ?_)
  ·
   have h0 := cT h0 h1
   refine awp_assoc ?_
   refine awp_nr [5,6] (fun _ => rfl) fun tz => ?_
   refine awp_regW fun KK hKK => ?_
   refine xw_id ?_
   try simp only [go_sem, Nat.reduceEqDiff, reduceIte, Nat.reduceAdd, Nat.reduceMul, Nat.reduceSub, Nat.reduceLT, Nat.reduceLeDiff]
   refine hKK _ _ (Wk.refl _ _ _) ?_; clear hKK KK
   refine awp_ret ?_
   obtain rfl := someInj h0
   refine endW_i ?_
   refine end_ret0 rs22 (by simp only [go_sem, resV, resAll, resOf, packR, Nat.reduceEqDiff, reduceIte, Nat.reduceAdd, Nat.reduceMul, Nat.reduceSub, Nat.reduceLT, Nat.reduceLeDiff]; rfl) ?_
   refine Res.mk [] [none, none] rfl (resON (resON resO0)) (Tm.tup (TmL.cons (Tm.thaw _ _ _) (TmL.cons (Tm.agg (e_Sender_tmx (by rfl) (Tm.thaw _ _ _))) (TmL.cons (Tm.v _) TmL.nil))))
  ·
   have h0 := cF h0 h1
   refine awp_skip ?_
   refine awp_nr [2,3,5] (fun _ => rfl) fun tz => ?_
   refine awp_regW fun KK hKK => ?_
   refine xw_id ?_
   obtain ⟨x29, bx29, h0⟩ := bnd h0
   try simp only [go_sem, Nat.reduceEqDiff, reduceIte, Nat.reduceAdd, Nat.reduceMul, Nat.reduceSub, Nat.reduceLT, Nat.reduceLeDiff]
   refine xcall_O [0, 2, 1] (sender_remove_io x28.1 a1 bx29) (by decide) (by decide) ⟨(by first | rfl | (simp only [go_sem, Nat.reduceEqDiff, reduceIte, Nat.reduceAdd, Nat.reduceMul, Nat.reduceSub, Nat.reduceLT, Nat.reduceLeDiff]; done) | (simp only [go_sem, Nat.reduceEqDiff, reduceIte, Nat.reduceAdd, Nat.reduceMul, Nat.reduceSub, Nat.reduceLT, Nat.reduceLeDiff]; rfl)), (by first | rfl | (simp only [go_sem, Nat.reduceEqDiff, reduceIte, Nat.reduceAdd, Nat.reduceMul, Nat.reduceSub, Nat.reduceLT, Nat.reduceLeDiff]; done) | (simp only [go_sem, Nat.reduceEqDiff, reduceIte, Nat.reduceAdd, Nat.reduceMul, Nat.reduceSub, Nat.reduceLT, Nat.reduceLeDiff]; rfl)), (by first | rfl | (simp only [go_sem, Nat.reduceEqDiff, reduceIte, Nat.reduceAdd, Nat.reduceMul, Nat.reduceSub, Nat.reduceLT, Nat.reduceLeDiff]; done) | (simp only [go_sem, Nat.reduceEqDiff, reduceIte, Nat.reduceAdd, Nat.reduceMul, Nat.reduceSub, Nat.reduceLT, Nat.reduceLeDiff]; rfl)), trivial⟩ (by first | rfl | (simp only [go_sem, Nat.reduceEqDiff, reduceIte, Nat.reduceAdd, Nat.reduceMul, Nat.reduceSub, Nat.reduceLT, Nat.reduceLeDiff]; done) | (simp only [go_sem, Nat.reduceEqDiff, reduceIte, Nat.reduceAdd, Nat.reduceMul, Nat.reduceSub, Nat.reduceLT, Nat.reduceLeDiff]; rfl)) ?_; try dsimp only
   try refine xw_id ?_
   try simp only [go_sem, Nat.reduceEqDiff, reduceIte, Nat.reduceAdd, Nat.reduceMul, Nat.reduceSub, Nat.reduceLT, Nat.reduceLeDiff, List.length_cons, List.length_nil]
   refine hKK _ _ (Wk.refl _ _ _) ?_; clear hKK KK
   refine awp_nr [2,4,5] (fun _ => rfl) fun tz => ?_
   refine awp_regW fun KK hKK => ?_
   refine xw_id ?_
   obtain ⟨x30, bx30, h0⟩ := bnd h0
   try simp only [go_sem, Nat.reduceEqDiff, reduceIte, Nat.reduceAdd, Nat.reduceMul, Nat.reduceSub, Nat.reduceLT, Nat.reduceLeDiff]
   refine xcall_O [0, 1] (sender_land_io { x28.1 with Out := x29.2 } bx30) (by decide) (by decide) ⟨(by first | rfl | (simp only [go_sem, Nat.reduceEqDiff, reduceIte, Nat.reduceAdd, Nat.reduceMul, Nat.reduceSub, Nat.reduceLT, Nat.reduceLeDiff]; done) | (simp only [go_sem, Nat.reduceEqDiff, reduceIte, Nat.reduceAdd, Nat.reduceMul, Nat.reduceSub, Nat.reduceLT, Nat.reduceLeDiff]; rfl)), (by first | rfl | (simp only [go_sem, Nat.reduceEqDiff, reduceIte, Nat.reduceAdd, Nat.reduceMul, Nat.reduceSub, Nat.reduceLT, Nat.reduceLeDiff]; done) | (simp only [go_sem, Nat.reduceEqDiff, reduceIte, Nat.reduceAdd, Nat.reduceMul, Nat.reduceSub, Nat.reduceLT, Nat.reduceLeDiff]; rfl)), trivial⟩ (by first | rfl | (simp only [go_sem, Nat.reduceEqDiff, reduceIte, Nat.reduceAdd, Nat.reduceMul, Nat.reduceSub, Nat.reduceLT, Nat.reduceLeDiff]; done) | (simp only [go_sem, Nat.reduceEqDiff, reduceIte, Nat.reduceAdd, Nat.reduceMul, Nat.reduceSub, Nat.reduceLT, Nat.reduceLeDiff]; rfl)) ?_; try dsimp only
   try refine xw_id ?_
   try simp only [go_sem, Nat.reduceEqDiff, reduceIte, Nat.reduceAdd, Nat.reduceMul, Nat.reduceSub, Nat.reduceLT, Nat.reduceLeDiff, List.length_cons, List.length_nil]
   refine hKK _ _ (Wk.refl _ _ _) ?_; clear hKK KK
   refine awp_nr [2,4,5] (fun _ => rfl) fun tz => ?_
   refine awp_regDW fun KK hKK all hall => ?_
   refine xd_id ?_
   try simp only [List.toList_toArray, List.map_cons, List.map_nil, List.size_toArray, List.length_cons, List.length_nil, Nat.zero_add]
   try simp only [Nat.reduceAdd]
   simp only [go_sem, Nat.reduceEqDiff, reduceIte, Nat.reduceMul, Nat.reduceSub, Nat.reduceLT, Nat.reduceLeDiff]
   try simp only [Nat.reduceAdd]
   try simp only [go_sem, Nat.reduceEqDiff, reduceIte, Nat.reduceMul, Nat.reduceSub, Nat.reduceLT, Nat.reduceLeDiff]
   try simp only [Nat.reduceAdd]
   try simp only [go_sem, Nat.reduceEqDiff, reduceIte, Nat.reduceMul, Nat.reduceSub, Nat.reduceLT, Nat.reduceLeDiff]
   refine And.intro ?_ (hKK _ _ (Wk.refl _ _ _) ?_)
   ·
    subst hall
    clear hKK KK
    first | (simp [printsOk, apartP, clash, meet]; done) | (simp [printsOk, apartP, clash, meet]; decide +kernel) | decide +kernel
   ·
    clear hKK KK hall all
    refine awp_ret1 ?_
    obtain rfl := someInj h0
    refine endW_i ?_
    refine end_ret0 rs22 (by simp only [go_sem, resV, resAll, resOf, packR, Nat.reduceEqDiff, reduceIte, Nat.reduceAdd, Nat.reduceMul, Nat.reduceSub, Nat.reduceLT, Nat.reduceLeDiff]; rfl) ?_
    refine Res.mk [] [some 9, some 1] rfl (resOU List.not_mem_nil (by simp only [upd_get, Nat.reduceEqDiff, reduceIte, Nat.reduceAdd, Nat.reduceMul, Nat.reduceSub, Nat.reduceLT, Nat.reduceLeDiff, if_true, if_false] <;> rfl) (TmL.of_eq (by first | rfl | (simp only [List.flatMap_append, List.flatMap_cons, List.flatMap_nil, List.map_append, List.map_cons, List.map_nil, List.append_nil, List.nil_append]; done) | (simp only [List.flatMap_append, List.flatMap_cons, List.flatMap_nil, List.map_append, List.map_cons, List.map_nil, List.append_nil, List.nil_append]; rfl)) (vi_clean _)) (resOU List.not_mem_nil (by simp only [upd_get, Nat.reduceEqDiff, reduceIte, Nat.reduceAdd, Nat.reduceMul, Nat.reduceSub, Nat.reduceLT, Nat.reduceLeDiff, if_true, if_false] <;> rfl) (TmL.of_eq (by first | rfl | (simp only [List.flatMap_append, List.flatMap_cons, List.flatMap_nil, List.map_append, List.map_cons, List.map_nil, List.append_nil, List.nil_append]; done) | (simp only [List.flatMap_append, List.flatMap_cons, List.flatMap_nil, List.map_append, List.map_cons, List.map_nil, List.append_nil, List.nil_append]; rfl)) (c_Unacked _)) resO0)) (Tm.tup (TmL.cons (Tm.refL rfl ?_) (TmL.cons (Tm.agg (e_Sender_tmx (by rfl) (Tm.refL rfl ?_))) (TmL.cons (Tm.v _) TmL.nil))))
    all_goals (first | rfl | (simp only [List.length_take]; omega) | (simp only [List.length_append, List.length_cons, List.length_nil, List.length_modify, List.length_set, Nat.zero_add]; done) | (simp only [List.length_append, List.length_take, List.length_drop, List.length_cons, List.length_nil, List.length_modify, List.length_set, Nat.zero_add]; omega))

theorem sender_Acked_m (a0 : Sender) (a1 : Window) {r : ((List Int) × Sender × Int)} (h0 : sender_Acked a0 a1 = some r) : SndM K 22 [(.agg (E_Sender a0)), (.agg (e_Window a1))] (fun q => (.tup [(.ref (q 0) 0 r.1.length 1), (.agg (e_Sender r.2.1 (.ref (q 1) 0 r.2.1.Out.length 44))), (vi r.2.2)])) [(List.map vi r.1), (List.flatMap E_Unacked r.2.1.Out)] :=
 fun hs => Snd.of_newM (RenM.tup (RenML.cons (RenM.ref 0 0 _ _) (RenML.cons (RenM.agg (e_Sender_ren _ (RenM.ref 1 0 _ _))) (RenML.cons (RenM.const (Clean.v _)) RenML.nil)))) (rows_all_cons (vi_clean _) (rows_all_cons (c_Unacked _) rows_all_nil)) (clean_cons (Clean.agg (E_Sender_clean _)) (clean_cons (Clean.agg (e_Window_clean _)) clean_nil)) (sender_Acked_r a0 a1 h0) hs

theorem sender_Acked_p (a0 : Sender) (a1 : Window) {r : ((List Int) × Sender × Int)} (h0 : sender_Acked a0 a1 = some r) : SndP K 22 [(.agg (E_Sender a0)), (.agg (e_Window a1))] (.tup [(S_vi r.1), (.agg (E_Sender r.2.1)), (vi r.2.2)]) :=
 SndM.pure (sender_Acked_m a0 a1 h0) (Clean.tup (clean_cons (S_vi_clean _) (clean_cons (Clean.agg (E_Sender_clean _)) (clean_cons (Clean.v _) clean_nil)))) (clean_cons (Clean.agg (E_Sender_clean _)) (clean_cons (Clean.agg (e_Window_clean _)) clean_nil)) (by simp only [go_sem, newL_n, newL_c, upd_get, fz, nilS, cond_true, cond_false, List.drop_zero, List.take_length, List.length_map, ble_self, Nat.reduceEqDiff, reduceIte, Nat.reduceAdd, Nat.reduceMul, Nat.reduceSub, Nat.reduceLT, Nat.reduceLeDiff] <;> rfl)

end Go.AX.Z.TS

/-! (TSW hotspotref17 SameInts) -/

set_option linter.unusedSimpArgs false
set_option linter.unusedVariables false
set_option maxHeartbeats 4000000
namespace Go.AX.Z.TS
open Go.AX Go.Proofs
attribute [local irreducible] awp xw xop xcall gsp ob xd xdop xcallD seqQ loopQ blkQ endQ

def hotspotref17_SameInts_S0 (d36 : Unit) : AS :=
 { objs := (fun _ => .dead), next := 0, tmps := (fun _ => .unk) }

def hotspotref17_SameInts_S1 (a0 : (List Int)) (a1 : (List Int)) (d38 : Int) : AS :=
 { objs := (fun _ => .dead), next := 0, tmps := (upd (upd (upd (fun _ => .unk) 0 (.imm (List.map vi a0) a0.length)) 1 (.imm (List.map vi a1) a1.length)) 5 (vi d38)) }

theorem hotspotref17_SameInts_p (a0 : (List Int)) (a1 : (List Int)) {r : Bool} (h0 : hotspotref17_SameInts a0 a1 = some r) : SndP K 38 [(S_vi a0), (S_vi a1)] (vb r) := by
 refine SndP.of_walkW hC (Clean.v _) (clean_cons (S_vi_clean _) (clean_cons (S_vi_clean _) clean_nil)) (show K.P.funcs[38]? = some Try.f38 from Try.func38) rfl rfl (by decide +kernel) (Nat.le_of_ble_eq_true rfl) ?_
 unfold hotspotref17_SameInts at h0
 refine awp_nr [0,1] (fun _ => rfl) fun tz => ?_
 refine awp_regW fun KK hKK => ?_
 refine xw_id ?_
 try simp only [go_sem, Nat.reduceEqDiff, reduceIte, Nat.reduceAdd, Nat.reduceMul, Nat.reduceSub, Nat.reduceLT, Nat.reduceLeDiff]
 refine hKK _ _ (Wk.refl _ _ _) ?_; clear hKK KK
 refine awp_assoc ?_
 refine awp_nr [0,1] (fun _ => rfl) fun tz => ?_
 refine awp_regW fun KK hKK => ?_
 refine xw_id ?_
 try simp only [go_sem, Nat.reduceEqDiff, reduceIte, Nat.reduceAdd, Nat.reduceMul, Nat.reduceSub, Nat.reduceLT, Nat.reduceLeDiff, Int.reduceToNat, Int.reduceBEq, Int.reduceBNe, Int.reduceLT, Int.reduceLE, Int.reduceAdd, Int.reduceSub, Int.reduceMul, Int.reduceNeg, Int.reduceEq, Int.reduceNe]
 refine hKK _ _ (Wk.refl _ _ _) ?_; clear hKK KK
 refine awp_cond (b := ((a0.length : Int) != (a1.length : Int))) rfl (fun h1 => ?_) (fun h1 => ?_)
 ·
  have h0 := cT h0 h1
  refine awp_assoc ?_
  refine awp_nr [] (fun _ => rfl) fun tz => ?_
  refine awp_regW fun KK hKK => ?_
  refine xw_id ?_
  try simp only [go_sem, Nat.reduceEqDiff, reduceIte, Nat.reduceAdd, Nat.reduceMul, Nat.reduceSub, Nat.reduceLT, Nat.reduceLeDiff]
  refine hKK _ _ (Wk.refl _ _ _) ?_; clear hKK KK
  refine awp_ret ?_
  obtain rfl := someInj h0
  refine endW_i ?_
  refine end_ret0 rs38 (rfl) ?_
  try simp only [go_sem, Nat.reduceEqDiff, reduceIte, Nat.reduceAdd, Nat.reduceMul, Nat.reduceSub, Nat.reduceLT, Nat.reduceLeDiff, fz, nilS, packR, List.take_nil, List.take_length, List.length_map, List.length_append, cond_true, cond_false, Nat.ble_eq, ble_self, List.map_append]
  all_goals rfl
 ·
  have h0 := cF h0 h1
  refine awp_skip ?_
  refine awp_assoc ?_
  refine awp_nr [0,1] (fun _ => rfl) fun tz => ?_
  refine awp_regW fun KK hKK => ?_
  refine xw_id ?_
  try simp only [go_sem, Nat.reduceEqDiff, reduceIte, Nat.reduceAdd, Nat.reduceMul, Nat.reduceSub, Nat.reduceLT, Nat.reduceLeDiff]
  refine hKK _ _ (Wk.refl _ _ _) ?_; clear hKK KK
  obtain ⟨o37, hi2, h0⟩ := bnd h0
  refine awp_cut (fun d36 : Unit => o37 = Ex.go d36) (fun d36 : Unit => hotspotref17_SameInts_S0 d36) ?_ ?_
  ·
   refine awp_block1 ?_
   refine awp_loopS (fun n (d38 : Int) => hotspotref17_SameInts_L2 a0 a1 n d38 = some o37) (fun d38 : Int => hotspotref17_SameInts_S1 a0 a1 d38) big 0 (Wk.canonD [] [] [] rfl trivial rfl tmO0 (tmAllU 5 (tmAllU 1 (tmAllU 0 tmAll0 (Tm.clean (Clean.imm (vi_clean _)))) (Tm.clean (Clean.imm (vi_clean _)))) (Tm.v _))) hi2 ?_
   clear hi2
   rintro n d38 hl4
   rcases n with _ | n3
   ·
    (rw [hotspotref17_SameInts_L2] at hl4; cases hl4)
   ·
    rw [hotspotref17_SameInts_L2] at hl4
    unfold hotspotref17_SameInts_S1
    refine awp_assoc ?_
    refine awp_nr [0,1,5] (fun _ => rfl) fun tz => ?_
    refine awp_regW fun KK hKK => ?_
    refine xw_id ?_
    try simp only [go_sem, Nat.reduceEqDiff, reduceIte, Nat.reduceAdd, Nat.reduceMul, Nat.reduceSub, Nat.reduceLT, Nat.reduceLeDiff, Int.reduceToNat, Int.reduceBEq, Int.reduceBNe, Int.reduceLT, Int.reduceLE, Int.reduceAdd, Int.reduceSub, Int.reduceMul, Int.reduceNeg, Int.reduceEq, Int.reduceNe]
    refine hKK _ _ (Wk.refl _ _ _) ?_; clear hKK KK
    refine awp_cond (b := (decide (d38 < (a0.length : Int)))) rfl (fun h5 => ?_) (fun h5 => ?_)
    ·
     have hl4 := cT hl4 h5
     refine awp_skip ?_
     refine awp_blockW ?_
     refine awp_nr [0,1,5] (fun _ => rfl) fun tz => ?_
     refine awp_regW fun KK hKK => ?_
     refine xw_id ?_
     obtain ⟨x39, bx39, hl4⟩ := bnd hl4
     obtain ⟨fx39_0, fx39_1, fx39_2, fx39_3⟩ := idx_some bx39
     obtain ⟨x40, bx40, hl4⟩ := bnd hl4
     obtain ⟨fx40_0, fx40_1, fx40_2, fx40_3⟩ := idx_some bx40
     try simp only [go_sem, Nat.reduceEqDiff, reduceIte, Nat.reduceAdd, Nat.reduceMul, Nat.reduceSub, Nat.reduceLT, Nat.reduceLeDiff, fx39_0, fx39_1, fx39_2, fx40_0, fx40_1, fx40_2]
     refine hKK _ _ (Wk.refl _ _ _) ?_; clear hKK KK
     refine awp_cond1 (b := (x39 != x40)) rfl (fun h6 => ?_) (fun h6 => ?_)
     ·
      have hl4 := cT hl4 h6
      refine awp_nr [] (fun _ => rfl) fun tz => ?_
      refine awp_regW fun KK hKK => ?_
      refine xw_id ?_
      try simp only [go_sem, Nat.reduceEqDiff, reduceIte, Nat.reduceAdd, Nat.reduceMul, Nat.reduceSub, Nat.reduceLT, Nat.reduceLeDiff, fx39_0, fx39_1, fx39_2, fx40_0, fx40_1, fx40_2]
      refine hKK _ _ (Wk.refl _ _ _) ?_; clear hKK KK
      refine awp_ret1 ?_
      refine bq_r ?_
      refine sq_r ?_
      refine lq_r ?_
      refine bq_r ?_
      refine sq_r ?_
      obtain rfl := someInj hl4
      obtain rfl := Ex.k_ret h0
      refine endW_i ?_
      refine end_ret0 rs38 (rfl) ?_
      try simp only [go_sem, Nat.reduceEqDiff, reduceIte, Nat.reduceAdd, Nat.reduceMul, Nat.reduceSub, Nat.reduceLT, Nat.reduceLeDiff, fz, nilS, packR, List.take_nil, List.take_length, List.length_map, List.length_append, cond_true, cond_false, Nat.ble_eq, ble_self, List.map_append]
      all_goals rfl
     ·
      have hl4 := cF hl4 h6
      refine awp_skip1 ?_
      refine bq_n ?_
      refine seqW_i ?_
      refine awp_nr1 [0,1,5] (fun _ => rfl) fun tz => ?_
      refine awp_reg1 fun KK hKK => ?_
      refine xw_id ?_
      try simp only [go_sem, Nat.reduceEqDiff, reduceIte, Nat.reduceAdd, Nat.reduceMul, Nat.reduceSub, Nat.reduceLT, Nat.reduceLeDiff, fx39_0, fx39_1, fx39_2, fx40_0, fx40_1, fx40_2]
      refine hKK _ ?_; clear hKK KK
      refine lq_n ?_
      exact ⟨n3, IntKind.wrap .i64 (d38 + 1), rfl, hl4, (Wk.canonD [] [] [] rfl trivial rfl tmO0 (tmAllU 5 (tmAllU 1 (tmAllU 0 tmAll0 (Tm.clean (Clean.imm (vi_clean _)))) (Tm.clean (Clean.imm (vi_clean _)))) (Tm.v _)))⟩
    ·
     have hl4 := cF hl4 h5
     refine awp_exit ?_
     refine lq_e ?_
     refine bq_e ?_
     refine sq_n ?_
     obtain rfl := someInj hl4
     exact ⟨_, rfl, (Wk.canonD [] [] [] rfl trivial rfl tmO0 tmAll0)⟩
  ·
   rintro d36 rfl
   have h0 := Ex.k_go h0
   clear hi2
   unfold hotspotref17_SameInts_S0
   refine awp_nr [] (fun _ => rfl) fun tz => ?_
   refine awp_regW fun KK hKK => ?_
   refine xw_id ?_
   try simp only [go_sem, Nat.reduceEqDiff, reduceIte, Nat.reduceAdd, Nat.reduceMul, Nat.reduceSub, Nat.reduceLT, Nat.reduceLeDiff]
   refine hKK _ _ (Wk.refl _ _ _) ?_; clear hKK KK
   refine awp_ret1 ?_
   obtain rfl := someInj h0
   refine endW_i ?_
   refine end_ret0 rs38 (rfl) ?_
   try simp only [go_sem, Nat.reduceEqDiff, reduceIte, Nat.reduceAdd, Nat.reduceMul, Nat.reduceSub, Nat.reduceLT, Nat.reduceLeDiff, fz, nilS, packR, List.take_nil, List.take_length, List.length_map, List.length_append, cond_true, cond_false, Nat.ble_eq, ble_self, List.map_append]
   all_goals rfl

end Go.AX.Z.TS

/-! (TSW sender Start) -/

set_option linter.unusedSimpArgs false
set_option linter.unusedVariables false
set_option maxHeartbeats 4000000
namespace Go.AX.Z.TS
open Go.AX Go.Proofs
attribute [local irreducible] awp xw xop xcall gsp ob xd xdop xcallD seqQ loopQ blkQ endQ


theorem sender_Start_p (a0 : Sender) {r : Int} (h0 : sender_Start a0 = some r) : SndP K 14 [(.agg (E_Sender a0))] (vi r) := by
 refine SndP.of_walkW hC (Clean.v _) (clean_cons (Clean.agg (E_Sender_clean _)) clean_nil) (show K.P.funcs[14]? = some Try.f14 from Try.func14) rfl rfl (by decide +kernel) (Nat.le_of_ble_eq_true rfl) ?_
 unfold sender_Start at h0
 refine awp_nr [0] (fun _ => rfl) fun tz => ?_
 refine awp_regW fun KK hKK => ?_
 refine xw_id ?_
 try simp only [go_sem, Nat.reduceEqDiff, reduceIte, Nat.reduceAdd, Nat.reduceMul, Nat.reduceSub, Nat.reduceLT, Nat.reduceLeDiff]
 refine hKK _ _ (Wk.refl _ _ _) ?_; clear hKK KK
 refine awp_assoc ?_
 refine awp_nr [1] (fun _ => rfl) fun tz => ?_
 refine awp_regW fun KK hKK => ?_
 refine xw_id ?_
 obtain ⟨x42, bx42, h0⟩ := bnd h0
 try simp only [go_sem, Nat.reduceEqDiff, reduceIte, Nat.reduceAdd, Nat.reduceMul, Nat.reduceSub, Nat.reduceLT, Nat.reduceLeDiff]
 refine xcall_p (sender_Check_p a0 bx42) ?_; try dsimp only
 try refine xw_id ?_
 try simp only [go_sem, Nat.reduceEqDiff, reduceIte, Nat.reduceAdd, Nat.reduceMul, Nat.reduceSub, Nat.reduceLT, Nat.reduceLeDiff]
 refine hKK _ _ (Wk.refl _ _ _) ?_; clear hKK KK
 refine awp_cond (b := (x42 != 0)) rfl (fun h1 => ?_) (fun h1 => ?_)
 ·
  have h0 := cT h0 h1
  refine awp_assoc ?_
  refine awp_nr [] (fun _ => rfl) fun tz => ?_
  refine awp_regW fun KK hKK => ?_
  refine xw_id ?_
  try simp only [go_sem, Nat.reduceEqDiff, reduceIte, Nat.reduceAdd, Nat.reduceMul, Nat.reduceSub, Nat.reduceLT, Nat.reduceLeDiff]
  refine hKK _ _ (Wk.refl _ _ _) ?_; clear hKK KK
  refine awp_ret ?_
  obtain rfl := someInj h0
  refine endW_i ?_
  refine end_ret0 rs14 (rfl) ?_
  try simp only [go_sem, Nat.reduceEqDiff, reduceIte, Nat.reduceAdd, Nat.reduceMul, Nat.reduceSub, Nat.reduceLT, Nat.reduceLeDiff, fz, nilS, packR, List.take_nil, List.take_length, List.length_map, List.length_append, cond_true, cond_false, Nat.ble_eq, ble_self, List.map_append]
  all_goals rfl
 ·
  have h0 := cF h0 h1
  refine awp_skip ?_
  refine awp_nr [1] (fun _ => rfl) fun tz => ?_
  refine awp_regW fun KK hKK => ?_
  refine xw_id ?_
  obtain ⟨x43, bx43, h0⟩ := bnd h0
  try simp only [go_sem, Nat.reduceEqDiff, reduceIte, Nat.reduceAdd, Nat.reduceMul, Nat.reduceSub, Nat.reduceLT, Nat.reduceLeDiff]
  refine xcall_p (sender_start_p a0 bx43) ?_; try dsimp only
  try refine xw_id ?_
  try simp only [go_sem, Nat.reduceEqDiff, reduceIte, Nat.reduceAdd, Nat.reduceMul, Nat.reduceSub, Nat.reduceLT, Nat.reduceLeDiff]
  refine hKK _ _ (Wk.refl _ _ _) ?_; clear hKK KK
  refine awp_ret1 ?_
  obtain rfl := someInj h0
  refine endW_i ?_
  refine end_ret0 rs14 (rfl) ?_
  try simp only [go_sem, Nat.reduceEqDiff, reduceIte, Nat.reduceAdd, Nat.reduceMul, Nat.reduceSub, Nat.reduceLT, Nat.reduceLeDiff, fz, nilS, packR, List.take_nil, List.take_length, List.length_map, List.length_append, cond_true, cond_false, Nat.ble_eq, ble_self, List.map_append]
  all_goals rfl

end Go.AX.Z.TS

/-! (TSW hotspotlaw19 alive) -/

set_option linter.unusedSimpArgs false
set_option linter.unusedVariables false
set_option maxHeartbeats 4000000
namespace Go.AX.Z.TS
open Go.AX Go.Proofs
attribute [local irreducible] awp xw xop xcall gsp ob xd xdop xcallD seqQ loopQ blkQ endQ

def hotspotlaw19_alive_S0 (x2 : (BlockAsk × Sender × Int)) (x1 : (Sender × Int)) : AS :=
 { objs := (upd (upd (fun _ => .dead) 0 (.live (e_Sender x2.2.1 (.imm (List.flatMap E_Unacked x2.2.1.Out) x2.2.1.Out.length)))) 1 (.live (e_BlockAsk x2.1))), next := 2, tmps := (upd (upd (upd (upd (fun _ => .unk) 1 (.ptr 0 0)) 2 (vi x1.2)) 3 (.ptr 1 0)) 4 (vi x2.2.2)) }

def hotspotlaw19_alive_S1 (d4 : Sender) : AS :=
 { objs := (upd (fun _ => .dead) 0 (.live (e_Sender d4 (.imm (List.flatMap E_Unacked ((d4).Out)) ((d4).Out).length)))), next := 1, tmps := (upd (fun _ => .unk) 1 (.ptr 0 0)) }

def hotspotlaw19_alive_S2 (d6 : (Sender × Int)) : AS :=
 { objs := (upd (upd (fun _ => .dead) 0 (.live (e_Sender d6.1 (.imm (List.flatMap E_Unacked ((d6.1).Out)) ((d6.1).Out).length)))) 1 (.live (List.map vi [4095, 0, 1, 2]))), next := 2, tmps := (upd (upd (upd (fun _ => .unk) 1 (.ptr 0 0)) 6 (.ref 1 0 [4095, 0, 1, 2].length 1)) 7 (vi d6.2)) }

def hotspotlaw19_alive_S4 (d6 : (Sender × Int)) (x7 : (Frame × Sender × Int)) : AS :=
 { objs := (upd (upd (upd (upd (fun _ => .dead) 0 (.live (e_Sender d6.1 (.imm (List.flatMap E_Unacked ((d6.1).Out)) ((d6.1).Out).length)))) 1 (.live (List.map vi [4095, 0, 1, 2]))) 2 (.live (e_Frame x7.1 (.imm (List.map vu x7.1.Body) x7.1.Body.length)))) 3 (.live (e_Sender x7.2.1 (.imm (List.flatMap E_Unacked x7.2.1.Out) x7.2.1.Out.length)))), next := 4, tmps := (upd (upd (upd (upd (upd (upd (fun _ => .unk) 1 (.ptr 0 0)) 6 (.ref 1 0 [4095, 0, 1, 2].length 1)) 7 (vi d6.2)) 8 (.ptr 2 0)) 9 (.ptr 3 0)) 10 (vi x7.2.2)) }

def hotspotlaw19_alive_S5 (d4 : Sender) (x10 : (Frame × Sender × Int)) : AS :=
 { objs := (upd (fun _ => .dead) 0 (.live (e_Sender d4 (.imm (List.flatMap E_Unacked ((d4).Out)) ((d4).Out).length)))), next := 1, tmps := (upd (upd (fun _ => .unk) 1 (.ptr 0 0)) 13 (vi x10.2.2)) }

def hotspotlaw19_alive_S6 (x12 : ((List Int) × Sender × Int)) (x10 : (Frame × Sender × Int)) (x11 : ((List Frame) × Sender × Int)) : AS :=
 { objs := (upd (fun _ => .dead) 0 (.live (e_Sender x12.2.1 (.imm (List.flatMap E_Unacked x12.2.1.Out) x12.2.1.Out.length)))), next := 1, tmps := (upd (upd (upd (upd (upd (upd (fun _ => .unk) 1 (.ptr 0 0)) 13 (vi x10.2.2)) 14 (.imm (List.flatMap E_Frame x11.1) x11.1.length)) 15 (vi x11.2.2)) 16 (.imm (List.map vi x12.1) x12.1.length)) 17 (vi x12.2.2)) }

theorem hotspotlaw19_alive_p {r : Bool} (h0 : hotspotlaw19_alive = some r) : SndP K 16 [] (vb r) := by
 refine SndP.of_walkW hC (Clean.v _) clean_nil (show K.P.funcs[16]? = some Try.f16 from Try.func16) rfl rfl (by decide +kernel) (Nat.le_of_ble_eq_true rfl) ?_
 unfold hotspotlaw19_alive at h0
 refine awp_nr [] (fun _ => rfl) fun tz => ?_
 refine awp_regW fun KK hKK => ?_
 refine xw_id ?_
 try simp only [go_sem, Nat.reduceEqDiff, reduceIte, Nat.reduceAdd, Nat.reduceMul, Nat.reduceSub, Nat.reduceLT, Nat.reduceLeDiff]
 refine hKK _ _ (Wk.refl _ _ _) ?_; clear hKK KK
 refine awp_nr [] (fun _ => rfl) fun tz => ?_
 refine awp_regW fun KK hKK => ?_
 refine xw_id ?_
 obtain ⟨x1, bx1, h0⟩ := bnd h0
 try simp only [go_sem, Nat.reduceEqDiff, reduceIte, Nat.reduceAdd, Nat.reduceMul, Nat.reduceSub, Nat.reduceLT, Nat.reduceLeDiff]
 refine xcall_p (sender_New_p 3 4095 2 1000 bx1) ?_; try dsimp only
 try refine xw_id ?_
 try simp only [go_sem, Nat.reduceEqDiff, reduceIte, Nat.reduceAdd, Nat.reduceMul, Nat.reduceSub, Nat.reduceLT, Nat.reduceLeDiff]
 refine hKK _ _ (Wk.refl _ _ _) ?_; clear hKK KK
 refine awp_nr [1,2] (fun _ => rfl) fun tz => ?_
 refine awp_regW fun KK hKK => ?_
 refine xw_id ?_
 obtain ⟨x2, bx2, h0⟩ := bnd h0
 try simp only [go_sem, Nat.reduceEqDiff, reduceIte, Nat.reduceAdd, Nat.reduceMul, Nat.reduceSub, Nat.reduceLT, Nat.reduceLeDiff]
 refine xcall_p (sender_Ask_p x1.1 8 bx2) ?_; try dsimp only
 try refine xw_id ?_
 try simp only [go_sem, Nat.reduceEqDiff, reduceIte, Nat.reduceAdd, Nat.reduceMul, Nat.reduceSub, Nat.reduceLT, Nat.reduceLeDiff]
 refine hKK _ (hotspotlaw19_alive_S0 x2 x1) (Wk.canonD [] [] [some 5, some 14] rfl trivial rfl (tmOU 1 (tmOU 0 tmO0 rfl List.not_mem_nil (by simp only [upd_get, Nat.reduceEqDiff, reduceIte, Nat.reduceAdd, Nat.reduceMul, Nat.reduceSub, Nat.reduceLT, Nat.reduceLeDiff, if_true, if_false] <;> rfl) (e_Sender_tmx (by rfl) (Tm.clean (Clean.imm (c_Unacked _))))) rfl List.not_mem_nil (by simp only [upd_get, Nat.reduceEqDiff, reduceIte, Nat.reduceAdd, Nat.reduceMul, Nat.reduceSub, Nat.reduceLT, Nat.reduceLeDiff, if_true, if_false] <;> rfl) (TmL.clean (e_BlockAsk_clean _))) (tmAllU 4 (tmAllU 3 (tmAllU 2 (tmAllU 1 tmAll0 (Tm.ptr rfl)) (Tm.v _)) (Tm.ptr rfl)) (Tm.v _))) ?_; clear hKK KK
 unfold hotspotlaw19_alive_S0
 refine awp_nr [1,2,3,4] (fun _ => rfl) fun tz => ?_
 refine awp_regW fun KK hKK => ?_
 refine xw_id ?_
 obtain ⟨x3, bx3, h0⟩ := bnd h0
 try simp only [go_sem, Nat.reduceEqDiff, reduceIte, Nat.reduceAdd, Nat.reduceMul, Nat.reduceSub, Nat.reduceLT, Nat.reduceLeDiff]
 refine xcall_p (sender_Answer_p x2.2.1 { BlockAnswer.z with Size := 4, Tid := 3, Token := 1 } bx3) ?_; try dsimp only
 try refine xw_id ?_
 try simp only [go_sem, Nat.reduceEqDiff, reduceIte, Nat.reduceAdd, Nat.reduceMul, Nat.reduceSub, Nat.reduceLT, Nat.reduceLeDiff]
 refine hKK _ _ (Wk.refl _ _ _) ?_; clear hKK KK
 refine awp_assoc ?_
 refine awp_nr [1,2,3,4,5] (fun _ => rfl) fun tz => ?_
 refine awp_regW fun KK hKK => ?_
 refine xw_id ?_
 refine xw_stop 3 (by simp only [go_sem]; rfl) (by simp only [go_sem]; rfl) (by rfl) fun K1 hK1 => ?_
 refine xw_id ?_
 try simp only [go_sem, Nat.reduceEqDiff, reduceIte, Nat.reduceAdd, Nat.reduceMul, Nat.reduceSub, Nat.reduceLT, Nat.reduceLeDiff]
 refine hK1 _ ?_; clear hK1 K1
 refine xw_cut 3 [(1, (.ptr 0 0)), (3, (.ptr 1 0)), (5, (vi x3.2)), (39, (vb ((x1.2 != 0) || (x2.2.2 != 0))))] (by simp only [go_sem]; rfl) (by simp only [go_sem]; rfl) (by rfl) (fun K1 hK1 => ?_) fun tz => ?_
 ·
  refine xw_id ?_
  rcases Bool.eq_false_or_eq_true (x1.2 != 0) with h1 | h1
  ·
   try simp only [go_sem, Nat.reduceEqDiff, reduceIte, Nat.reduceAdd, Nat.reduceMul, Nat.reduceSub, Nat.reduceLT, Nat.reduceLeDiff, h1]
   exact hK1 _ ⟨rfl, rfl, rfl, rfl, (by first | rfl | (rw [h1]; rfl) | (simp only [h1, Bool.true_and, Bool.false_and, Bool.true_or, Bool.false_or, cond_true, cond_false]; done)), trivial⟩
  ·
   try simp only [go_sem, Nat.reduceEqDiff, reduceIte, Nat.reduceAdd, Nat.reduceMul, Nat.reduceSub, Nat.reduceLT, Nat.reduceLeDiff, h1]
   exact hK1 _ ⟨rfl, rfl, rfl, rfl, (by first | rfl | (rw [h1]; rfl) | (simp only [h1, Bool.true_and, Bool.false_and, Bool.true_or, Bool.false_or, cond_true, cond_false]; done)), trivial⟩
 ·
  refine xw_id ?_
  refine xw_stop 1 (by simp only [go_sem]; rfl) (by simp only [go_sem]; rfl) (by rfl) fun K1 hK1 => ?_
  refine xw_id ?_
  try simp only [go_sem, Nat.reduceEqDiff, reduceIte, Nat.reduceAdd, Nat.reduceMul, Nat.reduceSub, Nat.reduceLT, Nat.reduceLeDiff]
  refine hK1 _ ?_; clear hK1 K1
  refine xw_cut 3 [(1, (.ptr 0 0)), (3, (.ptr 1 0)), (43, (vb (((x1.2 != 0) || (x2.2.2 != 0)) || (x3.2 != 0))))] (by simp only [go_sem]; rfl) (by simp only [go_sem]; rfl) (by rfl) (fun K1 hK1 => ?_) fun tz => ?_
  ·
   refine xw_id ?_
   rcases Bool.eq_false_or_eq_true ((x1.2 != 0) || (x2.2.2 != 0)) with h2 | h2
   ·
    try simp only [go_sem, Nat.reduceEqDiff, reduceIte, Nat.reduceAdd, Nat.reduceMul, Nat.reduceSub, Nat.reduceLT, Nat.reduceLeDiff, h2]
    exact hK1 _ ⟨rfl, rfl, rfl, (by first | rfl | (rw [h2]; rfl) | (simp only [h2, Bool.true_and, Bool.false_and, Bool.true_or, Bool.false_or, cond_true, cond_false]; done)), trivial⟩
   ·
    try simp only [go_sem, Nat.reduceEqDiff, reduceIte, Nat.reduceAdd, Nat.reduceMul, Nat.reduceSub, Nat.reduceLT, Nat.reduceLeDiff, h2]
    exact hK1 _ ⟨rfl, rfl, rfl, (by first | rfl | (rw [h2]; rfl) | (simp only [h2, Bool.true_and, Bool.false_and, Bool.true_or, Bool.false_or, cond_true, cond_false]; done)), trivial⟩
  ·
   refine xw_id ?_
   refine xw_stop 1 (by simp only [go_sem]; rfl) (by simp only [go_sem]; rfl) (by rfl) fun K1 hK1 => ?_
   refine xw_id ?_
   try simp only [go_sem, Nat.reduceEqDiff, reduceIte, Nat.reduceAdd, Nat.reduceMul, Nat.reduceSub, Nat.reduceLT, Nat.reduceLeDiff]
   refine hK1 _ ?_; clear hK1 K1
   refine xw_cut 4 [(1, (.ptr 0 0)), (48, (vb ((((x1.2 != 0) || (x2.2.2 != 0)) || (x3.2 != 0)) || (!decide (x2.1 = { BlockAsk.z with Size := 8, Start := 4095, Tid := 3, Token := 1 })))))] (by simp only [go_sem]; rfl) (by simp only [go_sem]; rfl) (by rfl) (fun K1 hK1 => ?_) fun tz => ?_
   ·
    refine xw_id ?_
    rcases Bool.eq_false_or_eq_true (((x1.2 != 0) || (x2.2.2 != 0)) || (x3.2 != 0)) with h3 | h3
    ·
     try simp only [go_sem, Nat.reduceEqDiff, reduceIte, Nat.reduceAdd, Nat.reduceMul, Nat.reduceSub, Nat.reduceLT, Nat.reduceLeDiff, h3]
     exact hK1 _ ⟨rfl, rfl, (by first | rfl | (rw [h3]; rfl) | (simp only [h3, Bool.true_and, Bool.false_and, Bool.true_or, Bool.false_or, cond_true, cond_false]; done)), trivial⟩
    ·
     try simp only [go_sem, Nat.reduceEqDiff, reduceIte, Nat.reduceAdd, Nat.reduceMul, Nat.reduceSub, Nat.reduceLT, Nat.reduceLeDiff, h3]
     exact hK1 _ ⟨rfl, rfl, (by first | rfl | (rw [h3]; rfl) | (simp only [h3, Bool.true_and, Bool.false_and, Bool.true_or, Bool.false_or, cond_true, cond_false]; done)), trivial⟩
   ·
    refine xw_id ?_
    try simp only [go_sem, Nat.reduceEqDiff, reduceIte, Nat.reduceAdd, Nat.reduceMul, Nat.reduceSub, Nat.reduceLT, Nat.reduceLeDiff]
    refine hKK _ _ (Wk.refl _ _ _) ?_; clear hKK KK
    refine awp_cond (b := ((((x1.2 != 0) || (x2.2.2 != 0)) || (x3.2 != 0)) || (!decide (x2.1 = { BlockAsk.z with Size := 8, Start := 4095, Tid := 3, Token := 1 })))) rfl (fun h4 => ?_) (fun h4 => ?_)
    ·
     have h0 := cT h0 h4
     refine awp_assoc ?_
     refine awp_nr [] (fun _ => rfl) fun tz => ?_
     refine awp_regW fun KK hKK => ?_
     refine xw_id ?_
     try simp only [go_sem, Nat.reduceEqDiff, reduceIte, Nat.reduceAdd, Nat.reduceMul, Nat.reduceSub, Nat.reduceLT, Nat.reduceLeDiff]
     refine hKK _ _ (Wk.refl _ _ _) ?_; clear hKK KK
     refine awp_ret ?_
     obtain rfl := someInj h0
     refine endW_i ?_
     refine end_ret0 rs16 (rfl) ?_
     try simp only [go_sem, Nat.reduceEqDiff, reduceIte, Nat.reduceAdd, Nat.reduceMul, Nat.reduceSub, Nat.reduceLT, Nat.reduceLeDiff, fz, nilS, packR, List.take_nil, List.take_length, List.length_map, List.length_append, cond_true, cond_false, Nat.ble_eq, ble_self, List.map_append]
     all_goals rfl
    ·
     have h0 := cF h0 h4
     refine awp_skip ?_
     refine awp_nr [1] (fun _ => rfl) fun tz => ?_
     refine awp_regW fun KK hKK => ?_
     refine xw_id ?_
     try simp only [go_sem, Nat.reduceEqDiff, reduceIte, Nat.reduceAdd, Nat.reduceMul, Nat.reduceSub, Nat.reduceLT, Nat.reduceLeDiff]
     refine hKK _ _ (Wk.refl _ _ _) ?_; clear hKK KK
     refine awp_assoc ?_
     refine awp_nr [1,6] (fun _ => rfl) fun tz => ?_
     refine awp_regW fun KK hKK => ?_
     refine xw_id ?_
     try simp only [go_sem, Nat.reduceEqDiff, reduceIte, Nat.reduceAdd, Nat.reduceMul, Nat.reduceSub, Nat.reduceLT, Nat.reduceLeDiff]
     refine hKK _ _ (Wk.refl _ _ _) ?_; clear hKK KK
     obtain ⟨o5, hi5, h0⟩ := bnd h0
     refine awp_cut (fun d4 : Sender => o5 = Ex.go d4) (fun d4 : Sender => hotspotlaw19_alive_S1 d4) ?_ ?_
     ·
      refine awp_block1 ?_
      refine awp_loopS (fun n (d6 : (Sender × Int)) => hotspotlaw19_alive_L3 n d6 = some o5) (fun d6 : (Sender × Int) => hotspotlaw19_alive_S2 d6) big (x3.1, 0) (by refine Wk.canonD [] [] [some 0, some 25] rfl trivial rfl (tmOU 1 (tmOU 0 tmO0 rfl List.not_mem_nil (by simp only [upd_get, Nat.reduceEqDiff, reduceIte, Nat.reduceAdd, Nat.reduceMul, Nat.reduceSub, Nat.reduceLT, Nat.reduceLeDiff, if_true, if_false] <;> rfl) (e_Sender_tmx (by rfl) (Tm.clean (Clean.imm (c_Unacked _))))) rfl List.not_mem_nil (by simp only [upd_get, Nat.reduceEqDiff, reduceIte, Nat.reduceAdd, Nat.reduceMul, Nat.reduceSub, Nat.reduceLT, Nat.reduceLeDiff, if_true, if_false] <;> rfl) (TmL.of_eq (by first | rfl | (simp only [List.flatMap_append, List.flatMap_cons, List.flatMap_nil, List.map_append, List.map_cons, List.map_nil, List.append_nil, List.nil_append]; done) | (simp only [List.flatMap_append, List.flatMap_cons, List.flatMap_nil, List.map_append, List.map_cons, List.map_nil, List.append_nil, List.nil_append]; rfl)) (vi_clean _))) (tmAllU 7 (tmAllU 6 (tmAllU 1 tmAll0 (Tm.ptr rfl)) (Tm.refL rfl ?_)) (Tm.v _)); all_goals (first | rfl | (simp only [List.length_take]; omega) | (simp only [List.length_append, List.length_cons, List.length_nil, List.length_modify, List.length_set, Nat.zero_add]; done) | (simp only [List.length_append, List.length_take, List.length_drop, List.length_cons, List.length_nil, List.length_modify, List.length_set, Nat.zero_add]; omega))) hi5 ?_
      clear hi5
      rintro n d6 hl7
      rcases n with _ | n6
      ·
       (rw [hotspotlaw19_alive_L3] at hl7; cases hl7)
      ·
       rw [hotspotlaw19_alive_L3] at hl7
       unfold hotspotlaw19_alive_S2
       refine awp_assoc ?_
       refine awp_nr [1,6,7] (fun _ => rfl) fun tz => ?_
       refine awp_regW fun KK hKK => ?_
       refine xw_id ?_
       try simp only [go_sem, Nat.reduceEqDiff, reduceIte, Nat.reduceAdd, Nat.reduceMul, Nat.reduceSub, Nat.reduceLT, Nat.reduceLeDiff]
       refine hKK _ _ (Wk.refl _ _ _) ?_; clear hKK KK
       refine awp_cond (b := (decide (d6.2 < 4))) rfl (fun h8 => ?_) (fun h8 => ?_)
       ·
        have hl7 := cT hl7 h8
        refine awp_skip ?_
        refine awp_blockW ?_
        refine awp_nr [1,6,7] (fun _ => rfl) fun tz => ?_
        refine awp_regW fun KK hKK => ?_
        refine xw_id ?_
        obtain ⟨x7, bx7, hl7⟩ := bnd hl7
        try simp only [go_sem, Nat.reduceEqDiff, reduceIte, Nat.reduceAdd, Nat.reduceMul, Nat.reduceSub, Nat.reduceLT, Nat.reduceLeDiff]
        refine xcall_N (by first | (simp only [go_sem, fz, nilS, cond_true, cond_false, Nat.reduceEqDiff, reduceIte, Nat.reduceAdd, Nat.reduceMul, Nat.reduceSub, Nat.reduceLT, Nat.reduceLeDiff]; done) | (simp only [go_sem, fz, nilS, cond_true, cond_false, Nat.reduceEqDiff, reduceIte, Nat.reduceAdd, Nat.reduceMul, Nat.reduceSub, Nat.reduceLT, Nat.reduceLeDiff]; rfl)) (sender_Offer_p { d6.1 with Out := (d6.1).Out } Frame.z d6.2 bx7) ?_; try dsimp only
        try refine xw_id ?_
        try simp only [go_sem, Nat.reduceEqDiff, reduceIte, Nat.reduceAdd, Nat.reduceMul, Nat.reduceSub, Nat.reduceLT, Nat.reduceLeDiff]
        refine hKK _ (hotspotlaw19_alive_S4 d6 x7) (by refine Wk.canonD [] [] [some 0, some 1, some 12, some 13] rfl trivial rfl (tmOU 3 (tmOU 2 (tmOU 1 (tmOU 0 tmO0 rfl List.not_mem_nil (by simp only [upd_get, Nat.reduceEqDiff, reduceIte, Nat.reduceAdd, Nat.reduceMul, Nat.reduceSub, Nat.reduceLT, Nat.reduceLeDiff, if_true, if_false] <;> rfl) (e_Sender_tmx (by rfl) (Tm.clean (Clean.imm (c_Unacked _))))) rfl List.not_mem_nil (by simp only [upd_get, Nat.reduceEqDiff, reduceIte, Nat.reduceAdd, Nat.reduceMul, Nat.reduceSub, Nat.reduceLT, Nat.reduceLeDiff, if_true, if_false] <;> rfl) (TmL.of_eq (by first | rfl | (simp only [List.flatMap_append, List.flatMap_cons, List.flatMap_nil, List.map_append, List.map_cons, List.map_nil, List.append_nil, List.nil_append]; done) | (simp only [List.flatMap_append, List.flatMap_cons, List.flatMap_nil, List.map_append, List.map_cons, List.map_nil, List.append_nil, List.nil_append]; rfl)) (vi_clean _))) rfl List.not_mem_nil (by simp only [upd_get, Nat.reduceEqDiff, reduceIte, Nat.reduceAdd, Nat.reduceMul, Nat.reduceSub, Nat.reduceLT, Nat.reduceLeDiff, if_true, if_false] <;> rfl) (e_Frame_tmx (by rfl) (Tm.clean (Clean.imm (vu_clean _))))) rfl List.not_mem_nil (by simp only [upd_get, Nat.reduceEqDiff, reduceIte, Nat.reduceAdd, Nat.reduceMul, Nat.reduceSub, Nat.reduceLT, Nat.reduceLeDiff, if_true, if_false] <;> rfl) (e_Sender_tmx (by rfl) (Tm.clean (Clean.imm (c_Unacked _))))) (tmAllU 10 (tmAllU 9 (tmAllU 8 (tmAllU 7 (tmAllU 6 (tmAllU 1 tmAll0 (Tm.ptr rfl)) (Tm.refL rfl ?_)) (Tm.v _)) (Tm.ptr rfl)) (Tm.ptr rfl)) (Tm.v _)); all_goals (first | rfl | (simp only [List.length_take]; omega) | (simp only [List.length_append, List.length_cons, List.length_nil, List.length_modify, List.length_set, Nat.zero_add]; done) | (simp only [List.length_append, List.length_take, List.length_drop, List.length_cons, List.length_nil, List.length_modify, List.length_set, Nat.zero_add]; omega))) ?_; clear hKK KK
        unfold hotspotlaw19_alive_S4
        refine awp_assoc ?_
        refine awp_nr [1,6,7,8,9,10] (fun _ => rfl) fun tz => ?_
        refine awp_regW fun KK hKK => ?_
        refine xw_id ?_
        refine xw_stop 3 (by simp only [go_sem]; rfl) (by simp only [go_sem]; rfl) (by rfl) fun K1 hK1 => ?_
        refine xw_id ?_
        try simp only [go_sem, Nat.reduceEqDiff, reduceIte, Nat.reduceAdd, Nat.reduceMul, Nat.reduceSub, Nat.reduceLT, Nat.reduceLeDiff]
        refine hK1 _ ?_; clear hK1 K1
        obtain ⟨x9, hvh9, hl7⟩ := bnd hl7
        refine xw_cut 9 [(1, (.ptr 0 0)), (6, (.ref 1 0 [4095, 0, 1, 2].length 1)), (7, (vi d6.2)), (8, (.ptr 2 0)), (9, (.ptr 3 0)), (73, (vb x9))] (by simp only [go_sem]; rfl) (by simp only [go_sem]; rfl) (by rfl) (fun K1 hK1 => ?_) fun tz => ?_
        ·
         refine xw_id ?_
         rcases Bool.eq_false_or_eq_true (x7.2.2 != 0) with h9 | h9
         ·
          have hvh9 := cT hvh9 h9
          try simp only [go_sem, Nat.reduceEqDiff, reduceIte, Nat.reduceAdd, Nat.reduceMul, Nat.reduceSub, Nat.reduceLT, Nat.reduceLeDiff, h9]
          obtain rfl := someInj hvh9
          exact hK1 _ ⟨rfl, rfl, rfl, rfl, rfl, rfl, (by first | rfl | (rw [h9]; rfl) | (simp only [h9, Bool.true_and, Bool.false_and, Bool.true_or, Bool.false_or, cond_true, cond_false]; done)), trivial⟩
         ·
          have hvh9 := cF hvh9 h9
          obtain ⟨x8, bx8, hvh9⟩ := bnd hvh9
          obtain ⟨fx8_0, fx8_1, fx8_2, fx8_3⟩ := idx_some bx8
          have fx8_5 : ((d6.2 : Int) < (([4095, 0, 1, 2].length : Nat) : Int)) = True := by first | exact fx8_1 | (simp [List.length_modify, List.length_set]; omega)
          have fx8_6 : (List.map vi [4095, 0, 1, 2])[(d6.2).toNat]? = some (vi x8) := by rw [List.getElem?_map, fx8_2]; rfl
          simp only [List.map_cons, List.map_nil] at fx8_6
          have fx8_7 : ((d6.2 : Int) < ((4 : Nat) : Int)) = True := fx8_1
          have fx8_8 : ((d6.2 : Int) < 4) = True := fx8_1
          try simp only [go_sem, Nat.reduceEqDiff, reduceIte, Nat.reduceAdd, Nat.reduceMul, Nat.reduceSub, Nat.reduceLT, Nat.reduceLeDiff, h9, fx8_0, fx8_1, fx8_2, fx8_5, fx8_6, fx8_7, fx8_8]
          obtain rfl := someInj hvh9
          exact hK1 _ ⟨rfl, rfl, rfl, rfl, rfl, rfl, (by first | rfl | (rw [h9]; rfl) | (simp only [h9, Bool.true_and, Bool.false_and, Bool.true_or, Bool.false_or, cond_true, cond_false]; done)), trivial⟩
        ·
         refine xw_id ?_
         refine xw_stop 1 (by simp only [go_sem]; rfl) (by simp only [go_sem]; rfl) (by rfl) fun K1 hK1 => ?_
         refine xw_id ?_
         try simp only [go_sem, Nat.reduceEqDiff, reduceIte, Nat.reduceAdd, Nat.reduceMul, Nat.reduceSub, Nat.reduceLT, Nat.reduceLeDiff]
         refine hK1 _ ?_; clear hK1 K1
         refine xw_cut 5 [(1, (.ptr 0 0)), (6, (.ref 1 0 [4095, 0, 1, 2].length 1)), (7, (vi d6.2)), (9, (.ptr 3 0)), (79, (vb (x9 || (x7.1.Head.Tid != 3))))] (by simp only [go_sem]; rfl) (by simp only [go_sem]; rfl) (by rfl) (fun K1 hK1 => ?_) fun tz => ?_
         ·
          refine xw_id ?_
          rcases Bool.eq_false_or_eq_true x9 with h10 | h10
          ·
           try simp only [go_sem, Nat.reduceEqDiff, reduceIte, Nat.reduceAdd, Nat.reduceMul, Nat.reduceSub, Nat.reduceLT, Nat.reduceLeDiff, h10]
           exact hK1 _ ⟨rfl, rfl, rfl, rfl, rfl, (by first | rfl | (rw [h10]; rfl) | (simp only [h10, Bool.true_and, Bool.false_and, Bool.true_or, Bool.false_or, cond_true, cond_false]; done)), trivial⟩
          ·
           try simp only [go_sem, Nat.reduceEqDiff, reduceIte, Nat.reduceAdd, Nat.reduceMul, Nat.reduceSub, Nat.reduceLT, Nat.reduceLeDiff, h10]
           exact hK1 _ ⟨rfl, rfl, rfl, rfl, rfl, (by first | rfl | (rw [h10]; rfl) | (simp only [h10, Bool.true_and, Bool.false_and, Bool.true_or, Bool.false_or, cond_true, cond_false]; done)), trivial⟩
         ·
          refine xw_id ?_
          try simp only [go_sem, Nat.reduceEqDiff, reduceIte, Nat.reduceAdd, Nat.reduceMul, Nat.reduceSub, Nat.reduceLT, Nat.reduceLeDiff]
          refine hKK _ _ (Wk.refl _ _ _) ?_; clear hKK KK
          refine awp_cond (b := (x9 || (x7.1.Head.Tid != 3))) rfl (fun h11 => ?_) (fun h11 => ?_)
          ·
           have hl7 := cT hl7 h11
           refine awp_assoc ?_
           refine awp_nr [] (fun _ => rfl) fun tz => ?_
           refine awp_regW fun KK hKK => ?_
           refine xw_id ?_
           try simp only [go_sem, Nat.reduceEqDiff, reduceIte, Nat.reduceAdd, Nat.reduceMul, Nat.reduceSub, Nat.reduceLT, Nat.reduceLeDiff]
           refine hKK _ _ (Wk.refl _ _ _) ?_; clear hKK KK
           refine awp_ret ?_
           refine bq_r ?_
           refine sq_r ?_
           refine lq_r ?_
           refine bq_r ?_
           refine sq_r ?_
           obtain rfl := someInj hl7
           obtain rfl := Ex.k_ret h0
           refine endW_i ?_
           refine end_ret0 rs16 (rfl) ?_
           try simp only [go_sem, Nat.reduceEqDiff, reduceIte, Nat.reduceAdd, Nat.reduceMul, Nat.reduceSub, Nat.reduceLT, Nat.reduceLeDiff, fz, nilS, packR, List.take_nil, List.take_length, List.length_map, List.length_append, cond_true, cond_false, Nat.ble_eq, ble_self, List.map_append]
           all_goals rfl
          ·
           have hl7 := cF hl7 h11
           refine awp_skip ?_
           refine awp_nr1 [1,6,7,9] (fun _ => rfl) fun tz => ?_
           refine awp_reg1 fun KK hKK => ?_
           refine xw_id ?_
           try simp only [go_sem, Nat.reduceEqDiff, reduceIte, Nat.reduceAdd, Nat.reduceMul, Nat.reduceSub, Nat.reduceLT, Nat.reduceLeDiff]
           refine hKK _ ?_; clear hKK KK
           refine bq_n ?_
           refine seqW_i ?_
           refine awp_nr1 [1,6,7] (fun _ => rfl) fun tz => ?_
           refine awp_reg1 fun KK hKK => ?_
           refine xw_id ?_
           try simp only [go_sem, Nat.reduceEqDiff, reduceIte, Nat.reduceAdd, Nat.reduceMul, Nat.reduceSub, Nat.reduceLT, Nat.reduceLeDiff]
           refine hKK _ ?_; clear hKK KK
           refine lq_n ?_
           exact ⟨n6, (x7.2.1, IntKind.wrap .i64 (d6.2 + 1)), rfl, hl7, (by refine Wk.canonD [] [] [some 0, some 1] rfl trivial rfl (tmOU 1 (tmOU 0 tmO0 rfl List.not_mem_nil (by simp only [upd_get, Nat.reduceEqDiff, reduceIte, Nat.reduceAdd, Nat.reduceMul, Nat.reduceSub, Nat.reduceLT, Nat.reduceLeDiff, if_true, if_false] <;> rfl) (e_Sender_tmx (by rfl) (Tm.clean (Clean.imm (c_Unacked _))))) rfl List.not_mem_nil (by simp only [upd_get, Nat.reduceEqDiff, reduceIte, Nat.reduceAdd, Nat.reduceMul, Nat.reduceSub, Nat.reduceLT, Nat.reduceLeDiff, if_true, if_false] <;> rfl) (TmL.of_eq (by first | rfl | (simp only [List.flatMap_append, List.flatMap_cons, List.flatMap_nil, List.map_append, List.map_cons, List.map_nil, List.append_nil, List.nil_append]; done) | (simp only [List.flatMap_append, List.flatMap_cons, List.flatMap_nil, List.map_append, List.map_cons, List.map_nil, List.append_nil, List.nil_append]; rfl)) (vi_clean _))) (tmAllU 7 (tmAllU 6 (tmAllU 1 tmAll0 (Tm.ptr rfl)) (Tm.refL rfl ?_)) (Tm.v _)); all_goals (first | rfl | (simp only [List.length_take]; omega) | (simp only [List.length_append, List.length_cons, List.length_nil, List.length_modify, List.length_set, Nat.zero_add]; done) | (simp only [List.length_append, List.length_take, List.length_drop, List.length_cons, List.length_nil, List.length_modify, List.length_set, Nat.zero_add]; omega)))⟩
       ·
        have hl7 := cF hl7 h8
        refine awp_exit ?_
        refine lq_e ?_
        refine bq_e ?_
        refine sq_n ?_
        obtain rfl := someInj hl7
        exact ⟨_, rfl, (Wk.canonD [] [] [some 0] rfl trivial rfl (tmOU 0 tmO0 rfl List.not_mem_nil (by simp only [upd_get, Nat.reduceEqDiff, reduceIte, Nat.reduceAdd, Nat.reduceMul, Nat.reduceSub, Nat.reduceLT, Nat.reduceLeDiff, if_true, if_false] <;> rfl) (e_Sender_tmx (by rfl) (Tm.clean (Clean.imm (c_Unacked _))))) (tmAllU 1 tmAll0 (Tm.ptr rfl)))⟩
     ·
      rintro d4 rfl
      have h0 := Ex.k_go h0
      clear hi5
      unfold hotspotlaw19_alive_S1
      refine awp_nr [1] (fun _ => rfl) fun tz => ?_
      refine awp_regW fun KK hKK => ?_
      refine xw_id ?_
      obtain ⟨x10, bx10, h0⟩ := bnd h0
      try simp only [go_sem, Nat.reduceEqDiff, reduceIte, Nat.reduceAdd, Nat.reduceMul, Nat.reduceSub, Nat.reduceLT, Nat.reduceLeDiff]
      refine xcall_N (by first | (simp only [go_sem, fz, nilS, cond_true, cond_false, Nat.reduceEqDiff, reduceIte, Nat.reduceAdd, Nat.reduceMul, Nat.reduceSub, Nat.reduceLT, Nat.reduceLeDiff]; done) | (simp only [go_sem, fz, nilS, cond_true, cond_false, Nat.reduceEqDiff, reduceIte, Nat.reduceAdd, Nat.reduceMul, Nat.reduceSub, Nat.reduceLT, Nat.reduceLeDiff]; rfl)) (sender_Offer_p { d4 with Out := (d4).Out } Frame.z 9 bx10) ?_; try dsimp only
      try refine xw_id ?_
      try simp only [go_sem, Nat.reduceEqDiff, reduceIte, Nat.reduceAdd, Nat.reduceMul, Nat.reduceSub, Nat.reduceLT, Nat.reduceLeDiff]
      refine hKK _ (hotspotlaw19_alive_S5 d4 x10) (Wk.canonD [] [] [some 0] rfl trivial rfl (tmOU 0 tmO0 rfl List.not_mem_nil (by simp only [upd_get, Nat.reduceEqDiff, reduceIte, Nat.reduceAdd, Nat.reduceMul, Nat.reduceSub, Nat.reduceLT, Nat.reduceLeDiff, if_true, if_false] <;> rfl) (e_Sender_tmx (by rfl) (Tm.clean (Clean.imm (c_Unacked _))))) (tmAllU 13 (tmAllU 1 tmAll0 (Tm.ptr rfl)) (Tm.v _))) ?_; clear hKK KK
      unfold hotspotlaw19_alive_S5
      refine awp_nr [1,13] (fun _ => rfl) fun tz => ?_
      refine awp_regW fun KK hKK => ?_
      refine xw_id ?_
      obtain ⟨x11, bx11, h0⟩ := bnd h0
      try simp only [go_sem, Nat.reduceEqDiff, reduceIte, Nat.reduceAdd, Nat.reduceMul, Nat.reduceSub, Nat.reduceLT, Nat.reduceLeDiff]
      refine xcall_p (sender_Pick_p { d4 with Out := (d4).Out } 2 bx11) ?_; try dsimp only
      try refine xw_id ?_
      try simp only [go_sem, Nat.reduceEqDiff, reduceIte, Nat.reduceAdd, Nat.reduceMul, Nat.reduceSub, Nat.reduceLT, Nat.reduceLeDiff]
      refine hKK _ _ (Wk.refl _ _ _) ?_; clear hKK KK
      refine awp_nr [1,13,14,15] (fun _ => rfl) fun tz => ?_
      refine awp_regW fun KK hKK => ?_
      refine xw_id ?_
      obtain ⟨x12, bx12, h0⟩ := bnd h0
      try simp only [go_sem, Nat.reduceEqDiff, reduceIte, Nat.reduceAdd, Nat.reduceMul, Nat.reduceSub, Nat.reduceLT, Nat.reduceLeDiff]
      refine xcall_p (sender_Acked_p x11.2.1 { Window.z with Bits := 1 } bx12) ?_; try dsimp only
      try refine xw_id ?_
      try simp only [go_sem, Nat.reduceEqDiff, reduceIte, Nat.reduceAdd, Nat.reduceMul, Nat.reduceSub, Nat.reduceLT, Nat.reduceLeDiff]
      refine hKK _ (hotspotlaw19_alive_S6 x12 x10 x11) (Wk.canonD [] [] [some 0] rfl trivial rfl (tmOU 0 tmO0 rfl List.not_mem_nil (by simp only [upd_get, Nat.reduceEqDiff, reduceIte, Nat.reduceAdd, Nat.reduceMul, Nat.reduceSub, Nat.reduceLT, Nat.reduceLeDiff, if_true, if_false] <;> rfl) (e_Sender_tmx (by rfl) (Tm.clean (Clean.imm (c_Unacked _))))) (tmAllU 17 (tmAllU 16 (tmAllU 15 (tmAllU 14 (tmAllU 13 (tmAllU 1 tmAll0 (Tm.ptr rfl)) (Tm.v _)) (Tm.clean (Clean.imm (c_Frame _)))) (Tm.v _)) (Tm.clean (Clean.imm (vi_clean _)))) (Tm.v _))) ?_; clear hKK KK
      unfold hotspotlaw19_alive_S6
      refine awp_nr [1,13,14,15,16,17] (fun _ => rfl) fun tz => ?_
      refine awp_regW fun KK hKK => ?_
      refine xw_id ?_
      refine xw_stop 3 (by simp only [go_sem]; rfl) (by simp only [go_sem]; rfl) (by rfl) fun K1 hK1 => ?_
      refine xw_id ?_
      try simp only [go_sem, Nat.reduceEqDiff, reduceIte, Nat.reduceAdd, Nat.reduceMul, Nat.reduceSub, Nat.reduceLT, Nat.reduceLeDiff]
      refine hK1 _ ?_; clear hK1 K1
      refine xw_cut 3 [(1, (.ptr 0 0)), (14, (.imm (List.flatMap E_Frame x11.1) x11.1.length)), (16, (.imm (List.map vi x12.1) x12.1.length)), (17, (vi x12.2.2)), (106, (vb ((x10.2.2 == 22) && (x11.2.2 == 0))))] (by simp only [go_sem]; rfl) (by simp only [go_sem]; rfl) (by rfl) (fun K1 hK1 => ?_) fun tz => ?_
      ·
       refine xw_id ?_
       rcases Bool.eq_false_or_eq_true (x10.2.2 == 22) with h12 | h12
       ·
        try simp only [go_sem, Nat.reduceEqDiff, reduceIte, Nat.reduceAdd, Nat.reduceMul, Nat.reduceSub, Nat.reduceLT, Nat.reduceLeDiff, h12]
        exact hK1 _ ⟨rfl, rfl, rfl, rfl, rfl, (by first | rfl | (rw [h12]; rfl) | (simp only [h12, Bool.true_and, Bool.false_and, Bool.true_or, Bool.false_or, cond_true, cond_false]; done)), trivial⟩
       ·
        try simp only [go_sem, Nat.reduceEqDiff, reduceIte, Nat.reduceAdd, Nat.reduceMul, Nat.reduceSub, Nat.reduceLT, Nat.reduceLeDiff, h12]
        exact hK1 _ ⟨rfl, rfl, rfl, rfl, rfl, (by first | rfl | (rw [h12]; rfl) | (simp only [h12, Bool.true_and, Bool.false_and, Bool.true_or, Bool.false_or, cond_true, cond_false]; done)), trivial⟩
      ·
       refine xw_id ?_
       refine xw_stop 1 (by simp only [go_sem]; rfl) (by simp only [go_sem]; rfl) (by rfl) fun K1 hK1 => ?_
       refine xw_id ?_
       try simp only [go_sem, Nat.reduceEqDiff, reduceIte, Nat.reduceAdd, Nat.reduceMul, Nat.reduceSub, Nat.reduceLT, Nat.reduceLeDiff]
       refine hK1 _ ?_; clear hK1 K1
       refine xw_cut 4 [(1, (.ptr 0 0)), (14, (.imm (List.flatMap E_Frame x11.1) x11.1.length)), (16, (.imm (List.map vi x12.1) x12.1.length)), (17, (vi x12.2.2)), (111, (vb (((x10.2.2 == 22) && (x11.2.2 == 0)) && ((x11.1.length : Int) == 2))))] (by simp only [go_sem]; rfl) (by simp only [go_sem]; rfl) (by rfl) (fun K1 hK1 => ?_) fun tz => ?_
       ·
        refine xw_id ?_
        rcases Bool.eq_false_or_eq_true ((x10.2.2 == 22) && (x11.2.2 == 0)) with h13 | h13
        ·
         try simp only [go_sem, Nat.reduceEqDiff, reduceIte, Nat.reduceAdd, Nat.reduceMul, Nat.reduceSub, Nat.reduceLT, Nat.reduceLeDiff, Int.reduceToNat, Int.reduceBEq, Int.reduceBNe, Int.reduceLT, Int.reduceLE, Int.reduceAdd, Int.reduceSub, Int.reduceMul, Int.reduceNeg, Int.reduceEq, Int.reduceNe, h13]
         exact hK1 _ ⟨rfl, rfl, rfl, rfl, rfl, (by first | rfl | (rw [h13]; rfl) | (simp only [h13, Bool.true_and, Bool.false_and, Bool.true_or, Bool.false_or, cond_true, cond_false]; done)), trivial⟩
        ·
         try simp only [go_sem, Nat.reduceEqDiff, reduceIte, Nat.reduceAdd, Nat.reduceMul, Nat.reduceSub, Nat.reduceLT, Nat.reduceLeDiff, h13]
         exact hK1 _ ⟨rfl, rfl, rfl, rfl, rfl, (by first | rfl | (rw [h13]; rfl) | (simp only [h13, Bool.true_and, Bool.false_and, Bool.true_or, Bool.false_or, cond_true, cond_false]; done)), trivial⟩
       ·
        refine xw_id ?_
        refine xw_stop 1 (by simp only [go_sem]; rfl) (by simp only [go_sem]; rfl) (by rfl) fun K1 hK1 => ?_
        refine xw_id ?_
        try simp only [go_sem, Nat.reduceEqDiff, reduceIte, Nat.reduceAdd, Nat.reduceMul, Nat.reduceSub, Nat.reduceLT, Nat.reduceLeDiff]
        refine hK1 _ ?_; clear hK1 K1
        obtain ⟨x14, hvh14, h0⟩ := bnd h0
        refine xw_cut 7 [(1, (.ptr 0 0)), (14, (.imm (List.flatMap E_Frame x11.1) x11.1.length)), (16, (.imm (List.map vi x12.1) x12.1.length)), (17, (vi x12.2.2)), (119, (vb x14))] (by simp only [go_sem]; rfl) (by simp only [go_sem]; rfl) (by rfl) (fun K1 hK1 => ?_) fun tz => ?_
        ·
         refine xw_id ?_
         rcases Bool.eq_false_or_eq_true (((x10.2.2 == 22) && (x11.2.2 == 0)) && ((x11.1.length : Int) == 2)) with h14 | h14
         ·
          have hvh14 := cT hvh14 h14
          obtain ⟨x13, bx13, hvh14⟩ := bnd hvh14
          obtain ⟨fx13_0, fx13_1, fx13_2, fx13_3⟩ := idx_some bx13
          simp only [Int.reduceToNat] at fx13_2 fx13_3
          try simp only [go_sem, Nat.reduceEqDiff, reduceIte, Nat.reduceAdd, Nat.reduceMul, Nat.reduceSub, Nat.reduceLT, Nat.reduceLeDiff, Int.reduceToNat, Int.reduceBEq, Int.reduceBNe, Int.reduceLT, Int.reduceLE, Int.reduceAdd, Int.reduceSub, Int.reduceMul, Int.reduceNeg, Int.reduceEq, Int.reduceNe, h14, fx13_0, fx13_1, fx13_2, r_Frame_getL, r_Frame_subL, Nat.reduceDiv, Nat.reduceMod]
          obtain rfl := someInj hvh14
          exact hK1 _ ⟨rfl, rfl, rfl, rfl, rfl, (by first | rfl | (rw [h14]; rfl) | (simp only [h14, Bool.true_and, Bool.false_and, Bool.true_or, Bool.false_or, cond_true, cond_false]; done)), trivial⟩
         ·
          have hvh14 := cF hvh14 h14
          try simp only [go_sem, Nat.reduceEqDiff, reduceIte, Nat.reduceAdd, Nat.reduceMul, Nat.reduceSub, Nat.reduceLT, Nat.reduceLeDiff, h14]
          obtain rfl := someInj hvh14
          exact hK1 _ ⟨rfl, rfl, rfl, rfl, rfl, (by first | rfl | (rw [h14]; rfl) | (simp only [h14, Bool.true_and, Bool.false_and, Bool.true_or, Bool.false_or, cond_true, cond_false]; done)), trivial⟩
        ·
         refine xw_id ?_
         refine xw_stop 1 (by simp only [go_sem]; rfl) (by simp only [go_sem]; rfl) (by rfl) fun K1 hK1 => ?_
         refine xw_id ?_
         try simp only [go_sem, Nat.reduceEqDiff, reduceIte, Nat.reduceAdd, Nat.reduceMul, Nat.reduceSub, Nat.reduceLT, Nat.reduceLeDiff]
         refine hK1 _ ?_; clear hK1 K1
         obtain ⟨x16, hvh15, h0⟩ := bnd h0
         refine xw_cut 7 [(1, (.ptr 0 0)), (16, (.imm (List.map vi x12.1) x12.1.length)), (17, (vi x12.2.2)), (127, (vb x16))] (by simp only [go_sem]; rfl) (by simp only [go_sem]; rfl) (by rfl) (fun K1 hK1 => ?_) fun tz => ?_
         ·
          refine xw_id ?_
          rcases Bool.eq_false_or_eq_true x14 with h15 | h15
          ·
           have hvh15 := cT hvh15 h15
           obtain ⟨x15, bx15, hvh15⟩ := bnd hvh15
           obtain ⟨fx15_0, fx15_1, fx15_2, fx15_3⟩ := idx_some bx15
           simp only [Int.reduceToNat] at fx15_2 fx15_3
           try simp only [go_sem, Nat.reduceEqDiff, reduceIte, Nat.reduceAdd, Nat.reduceMul, Nat.reduceSub, Nat.reduceLT, Nat.reduceLeDiff, Int.reduceToNat, Int.reduceBEq, Int.reduceBNe, Int.reduceLT, Int.reduceLE, Int.reduceAdd, Int.reduceSub, Int.reduceMul, Int.reduceNeg, Int.reduceEq, Int.reduceNe, h15, fx15_0, fx15_1, fx15_2, r_Frame_getL, r_Frame_subL, Nat.reduceDiv, Nat.reduceMod]
           obtain rfl := someInj hvh15
           exact hK1 _ ⟨rfl, rfl, rfl, rfl, (by first | rfl | (rw [h15]; rfl) | (simp only [h15, Bool.true_and, Bool.false_and, Bool.true_or, Bool.false_or, cond_true, cond_false]; done)), trivial⟩
          ·
           have hvh15 := cF hvh15 h15
           try simp only [go_sem, Nat.reduceEqDiff, reduceIte, Nat.reduceAdd, Nat.reduceMul, Nat.reduceSub, Nat.reduceLT, Nat.reduceLeDiff, h15]
           obtain rfl := someInj hvh15
           exact hK1 _ ⟨rfl, rfl, rfl, rfl, (by first | rfl | (rw [h15]; rfl) | (simp only [h15, Bool.true_and, Bool.false_and, Bool.true_or, Bool.false_or, cond_true, cond_false]; done)), trivial⟩
         ·
          refine xw_id ?_
          refine xw_stop 1 (by simp only [go_sem]; rfl) (by simp only [go_sem]; rfl) (by rfl) fun K1 hK1 => ?_
          refine xw_id ?_
          try simp only [go_sem, Nat.reduceEqDiff, reduceIte, Nat.reduceAdd, Nat.reduceMul, Nat.reduceSub, Nat.reduceLT, Nat.reduceLeDiff]
          refine hK1 _ ?_; clear hK1 K1
          refine xw_cut 3 [(1, (.ptr 0 0)), (16, (.imm (List.map vi x12.1) x12.1.length)), (131, (vb (x16 && (x12.2.2 == 0))))] (by simp only [go_sem]; rfl) (by simp only [go_sem]; rfl) (by rfl) (fun K1 hK1 => ?_) fun tz => ?_
          ·
           refine xw_id ?_
           rcases Bool.eq_false_or_eq_true x16 with h16 | h16
           ·
            try simp only [go_sem, Nat.reduceEqDiff, reduceIte, Nat.reduceAdd, Nat.reduceMul, Nat.reduceSub, Nat.reduceLT, Nat.reduceLeDiff, h16]
            exact hK1 _ ⟨rfl, rfl, rfl, (by first | rfl | (rw [h16]; rfl) | (simp only [h16, Bool.true_and, Bool.false_and, Bool.true_or, Bool.false_or, cond_true, cond_false]; done)), trivial⟩
           ·
            try simp only [go_sem, Nat.reduceEqDiff, reduceIte, Nat.reduceAdd, Nat.reduceMul, Nat.reduceSub, Nat.reduceLT, Nat.reduceLeDiff, h16]
            exact hK1 _ ⟨rfl, rfl, rfl, (by first | rfl | (rw [h16]; rfl) | (simp only [h16, Bool.true_and, Bool.false_and, Bool.true_or, Bool.false_or, cond_true, cond_false]; done)), trivial⟩
          ·
           refine xw_id ?_
           rcases Bool.eq_false_or_eq_true (x16 && (x12.2.2 == 0)) with h17 | h17
           ·
            have h0 := cT h0 h17
            obtain ⟨x17, bx17, h0⟩ := bnd h0
            try simp only [go_sem, Nat.reduceEqDiff, reduceIte, Nat.reduceAdd, Nat.reduceMul, Nat.reduceSub, Nat.reduceLT, Nat.reduceLeDiff, h17]
            refine xcall_L (by first | (simp only [go_sem, fz, Nat.reduceEqDiff, reduceIte, Nat.reduceAdd, Nat.reduceMul, Nat.reduceSub, Nat.reduceLT, Nat.reduceLeDiff, h17]; done) | (simp only [go_sem, fz, Nat.reduceEqDiff, reduceIte, Nat.reduceAdd, Nat.reduceMul, Nat.reduceSub, Nat.reduceLT, Nat.reduceLeDiff, h17]; rfl)) (hotspotref17_SameInts_p x12.1 [0] bx17) (Bare.v _) ?_; try dsimp only
            try refine xw_id ?_
            refine xw_stop 2 (by simp only [go_sem]; rfl) (by simp only [go_sem]; rfl) (by rfl) fun K1 hK1 => ?_
            refine xw_id ?_
            try simp only [go_sem, Nat.reduceEqDiff, reduceIte, Nat.reduceAdd, Nat.reduceMul, Nat.reduceSub, Nat.reduceLT, Nat.reduceLeDiff, h17]
            refine hK1 _ ?_; clear hK1 K1
            obtain ⟨x19, hvh18, h0⟩ := bnd h0
            refine xw_cut 4 [(1, (.ptr 0 0)), (141, (vb x19))] (by simp only [go_sem]; rfl) (by simp only [go_sem]; rfl) (by rfl) (fun K1 hK1 => ?_) fun tz => ?_
            ·
             refine xw_id ?_
             rcases Bool.eq_false_or_eq_true x17 with h18 | h18
             ·
              have hvh18 := cT hvh18 h18
              obtain ⟨x18, bx18, hvh18⟩ := bnd hvh18
              try simp only [go_sem, Nat.reduceEqDiff, reduceIte, Nat.reduceAdd, Nat.reduceMul, Nat.reduceSub, Nat.reduceLT, Nat.reduceLeDiff, h17, h18]
              refine xcall_p (sender_Start_p x12.2.1 bx18) ?_; try dsimp only
              try refine xw_id ?_
              try simp only [go_sem, Nat.reduceEqDiff, reduceIte, Nat.reduceAdd, Nat.reduceMul, Nat.reduceSub, Nat.reduceLT, Nat.reduceLeDiff, h17, h18]
              obtain rfl := someInj hvh18
              exact hK1 _ ⟨rfl, rfl, (by first | rfl | (rw [h18]; rfl) | (simp only [h18, Bool.true_and, Bool.false_and, Bool.true_or, Bool.false_or, cond_true, cond_false]; done)), trivial⟩
             ·
              have hvh18 := cF hvh18 h18
              try simp only [go_sem, Nat.reduceEqDiff, reduceIte, Nat.reduceAdd, Nat.reduceMul, Nat.reduceSub, Nat.reduceLT, Nat.reduceLeDiff, h17, h18]
              obtain rfl := someInj hvh18
              exact hK1 _ ⟨rfl, rfl, (by first | rfl | (rw [h18]; rfl) | (simp only [h18, Bool.true_and, Bool.false_and, Bool.true_or, Bool.false_or, cond_true, cond_false]; done)), trivial⟩
            ·
             refine xw_id ?_
             refine xw_stop 1 (by simp only [go_sem]; rfl) (by simp only [go_sem]; rfl) (by rfl) fun K1 hK1 => ?_
             refine xw_id ?_
             try simp only [go_sem, Nat.reduceEqDiff, reduceIte, Nat.reduceAdd, Nat.reduceMul, Nat.reduceSub, Nat.reduceLT, Nat.reduceLeDiff, h17]
             refine hK1 _ ?_; clear hK1 K1
             refine xw_cut 5 [(147, (vb (x19 && ((x12.2.1.Out.length : Int) == 3))))] (by simp only [go_sem]; rfl) (by simp only [go_sem]; rfl) (by rfl) (fun K1 hK1 => ?_) fun tz => ?_
             ·
              refine xw_id ?_
              rcases Bool.eq_false_or_eq_true x19 with h19 | h19
              ·
               try simp only [go_sem, Nat.reduceEqDiff, reduceIte, Nat.reduceAdd, Nat.reduceMul, Nat.reduceSub, Nat.reduceLT, Nat.reduceLeDiff, Int.reduceToNat, Int.reduceBEq, Int.reduceBNe, Int.reduceLT, Int.reduceLE, Int.reduceAdd, Int.reduceSub, Int.reduceMul, Int.reduceNeg, Int.reduceEq, Int.reduceNe, h17, h19]
               exact hK1 _ ⟨rfl, (by first | rfl | (rw [h19]; rfl) | (simp only [h19, Bool.true_and, Bool.false_and, Bool.true_or, Bool.false_or, cond_true, cond_false]; done)), trivial⟩
              ·
               try simp only [go_sem, Nat.reduceEqDiff, reduceIte, Nat.reduceAdd, Nat.reduceMul, Nat.reduceSub, Nat.reduceLT, Nat.reduceLeDiff, h17, h19]
               exact hK1 _ ⟨rfl, (by first | rfl | (rw [h19]; rfl) | (simp only [h19, Bool.true_and, Bool.false_and, Bool.true_or, Bool.false_or, cond_true, cond_false]; done)), trivial⟩
             ·
              refine xw_id ?_
              try simp only [go_sem, Nat.reduceEqDiff, reduceIte, Nat.reduceAdd, Nat.reduceMul, Nat.reduceSub, Nat.reduceLT, Nat.reduceLeDiff, h17]
              refine hKK _ _ (Wk.refl _ _ _) ?_; clear hKK KK
              refine awp_ret1 ?_
              obtain rfl := someInj h0
              refine endW_i ?_
              refine end_ret0 rs16 (rfl) ?_
              try simp only [go_sem, Nat.reduceEqDiff, reduceIte, Nat.reduceAdd, Nat.reduceMul, Nat.reduceSub, Nat.reduceLT, Nat.reduceLeDiff, fz, nilS, packR, List.take_nil, List.take_length, List.length_map, List.length_append, cond_true, cond_false, Nat.ble_eq, ble_self, List.map_append]
              all_goals rfl
           ·
            have h0 := cF h0 h17
            try simp only [go_sem, Nat.reduceEqDiff, reduceIte, Nat.reduceAdd, Nat.reduceMul, Nat.reduceSub, Nat.reduceLT, Nat.reduceLeDiff, h17]
            refine hKK _ _ (Wk.refl _ _ _) ?_; clear hKK KK
            refine awp_ret1 ?_
            obtain rfl := someInj h0
            refine endW_i ?_
            refine end_ret0 rs16 (rfl) ?_
            try simp only [go_sem, Nat.reduceEqDiff, reduceIte, Nat.reduceAdd, Nat.reduceMul, Nat.reduceSub, Nat.reduceLT, Nat.reduceLeDiff, fz, nilS, packR, List.take_nil, List.take_length, List.length_map, List.length_append, cond_true, cond_false, Nat.ble_eq, ble_self, List.map_append]
            all_goals rfl

end Go.AX.Z.TS

/-! (TSW hotspotref05 Great) -/

set_option linter.unusedSimpArgs false
set_option linter.unusedVariables false
set_option maxHeartbeats 4000000
namespace Go.AX.Z.TS
open Go.AX Go.Proofs
attribute [local irreducible] awp xw xop xcall gsp ob xd xdop xcallD seqQ loopQ blkQ endQ


theorem hotspotref05_Great_p (a0 : Frame) {r : Bool} (h0 : hotspotref05_Great a0 = some r) : SndP K 29 [(.agg (E_Frame a0))] (vb r) := by
 refine SndP.of_walkW hC (Clean.v _) (clean_cons (Clean.agg (E_Frame_clean _)) clean_nil) (show K.P.funcs[29]? = some Try.f29 from Try.func29) rfl rfl (by decide +kernel) (Nat.le_of_ble_eq_true rfl) ?_
 unfold hotspotref05_Great at h0
 refine awp_nr [0] (fun _ => rfl) fun tz => ?_
 refine awp_regW fun KK hKK => ?_
 refine xw_id ?_
 try simp only [go_sem, Nat.reduceEqDiff, reduceIte, Nat.reduceAdd, Nat.reduceMul, Nat.reduceSub, Nat.reduceLT, Nat.reduceLeDiff]
 refine hKK _ _ (Wk.refl _ _ _) ?_; clear hKK KK
 refine awp_nr [1] (fun _ => rfl) fun tz => ?_
 refine awp_regW fun KK hKK => ?_
 refine xw_id ?_
 try simp only [go_sem, Nat.reduceEqDiff, reduceIte, Nat.reduceAdd, Nat.reduceMul, Nat.reduceSub, Nat.reduceLT, Nat.reduceLeDiff, Int.reduceToNat, Int.reduceBEq, Int.reduceBNe, Int.reduceLT, Int.reduceLE, Int.reduceAdd, Int.reduceSub, Int.reduceMul, Int.reduceNeg, Int.reduceEq, Int.reduceNe]
 refine hKK _ _ (Wk.refl _ _ _) ?_; clear hKK KK
 refine awp_ret1 ?_
 obtain rfl := someInj h0
 refine endW_i ?_
 refine end_ret0 rs29 (rfl) ?_
 try simp only [go_sem, Nat.reduceEqDiff, reduceIte, Nat.reduceAdd, Nat.reduceMul, Nat.reduceSub, Nat.reduceLT, Nat.reduceLeDiff, fz, nilS, packR, List.take_nil, List.take_length, List.length_map, List.length_append, cond_true, cond_false, Nat.ble_eq, ble_self, List.map_append]
 all_goals rfl

end Go.AX.Z.TS

/-! (TSW hotspotref19 Great) -/

set_option linter.unusedSimpArgs false
set_option linter.unusedVariables false
set_option maxHeartbeats 4000000
namespace Go.AX.Z.TS
open Go.AX Go.Proofs
attribute [local irreducible] awp xw xop xcall gsp ob xd xdop xcallD seqQ loopQ blkQ endQ

def hotspotref19_Great_S0 (d26 : Unit) : AS :=
 { objs := (fun _ => .dead), next := 0, tmps := (fun _ => .unk) }

def hotspotref19_Great_S1 (a0 : Sender) (d28 : Int) : AS :=
 { objs := (upd (fun _ => .dead) 0 (.live (e_Sender a0 (.imm (List.flatMap E_Unacked a0.Out) a0.Out.length)))), next := 1, tmps := (upd (upd (fun _ => .unk) 2 (.ptr 0 0)) 5 (vi d28)) }

theorem hotspotref19_Great_p (a0 : Sender) (a1 : Frame) {r : Bool} (h0 : hotspotref19_Great a0 a1 = some r) : SndP K 8 [(.agg (E_Sender a0)), (.agg (E_Frame a1))] (vb r) := by
 refine SndP.of_walkW hC (Clean.v _) (clean_cons (Clean.agg (E_Sender_clean _)) (clean_cons (Clean.agg (E_Frame_clean _)) clean_nil)) (show K.P.funcs[8]? = some Try.f8 from Try.func8) rfl rfl (by decide +kernel) (Nat.le_of_ble_eq_true rfl) ?_
 unfold hotspotref19_Great at h0
 refine awp_nr [0,1] (fun _ => rfl) fun tz => ?_
 refine awp_regW fun KK hKK => ?_
 refine xw_id ?_
 try simp only [go_sem, Nat.reduceEqDiff, reduceIte, Nat.reduceAdd, Nat.reduceMul, Nat.reduceSub, Nat.reduceLT, Nat.reduceLeDiff]
 refine hKK _ _ (Wk.refl _ _ _) ?_; clear hKK KK
 refine awp_assoc ?_
 refine awp_nr [2,3] (fun _ => rfl) fun tz => ?_
 refine awp_regW fun KK hKK => ?_
 refine xw_id ?_
 refine xw_stop 5 (by simp only [go_sem]; rfl) (by simp only [go_sem]; rfl) (by rfl) fun K1 hK1 => ?_
 refine xw_id ?_
 try simp only [go_sem, Nat.reduceEqDiff, reduceIte, Nat.reduceAdd, Nat.reduceMul, Nat.reduceSub, Nat.reduceLT, Nat.reduceLeDiff, Int.reduceToNat, Int.reduceBEq, Int.reduceBNe, Int.reduceLT, Int.reduceLE, Int.reduceAdd, Int.reduceSub, Int.reduceMul, Int.reduceNeg, Int.reduceEq, Int.reduceNe]
 refine hK1 _ ?_; clear hK1 K1
 obtain ⟨x25, hvh1, h0⟩ := bnd h0
 refine xw_cut 3 [(2, (.ptr 0 0)), (13, (vb x25))] (by simp only [go_sem]; rfl) (by simp only [go_sem]; rfl) (by rfl) (fun K1 hK1 => ?_) fun tz => ?_
 ·
  refine xw_id ?_
  rcases Bool.eq_false_or_eq_true (decide (70 < (a0.Out.length : Int))) with h1 | h1
  ·
   have hvh1 := cT hvh1 h1
   try simp only [go_sem, Nat.reduceEqDiff, reduceIte, Nat.reduceAdd, Nat.reduceMul, Nat.reduceSub, Nat.reduceLT, Nat.reduceLeDiff, Int.reduceToNat, Int.reduceBEq, Int.reduceBNe, Int.reduceLT, Int.reduceLE, Int.reduceAdd, Int.reduceSub, Int.reduceMul, Int.reduceNeg, Int.reduceEq, Int.reduceNe, h1]
   obtain rfl := someInj hvh1
   exact hK1 _ ⟨rfl, rfl, (by first | rfl | (rw [h1]; rfl) | (simp only [h1, Bool.true_and, Bool.false_and, Bool.true_or, Bool.false_or, cond_true, cond_false]; done)), trivial⟩
  ·
   have hvh1 := cF hvh1 h1
   obtain ⟨x24, bx24, hvh1⟩ := bnd hvh1
   try simp only [go_sem, Nat.reduceEqDiff, reduceIte, Nat.reduceAdd, Nat.reduceMul, Nat.reduceSub, Nat.reduceLT, Nat.reduceLeDiff, Int.reduceToNat, Int.reduceBEq, Int.reduceBNe, Int.reduceLT, Int.reduceLE, Int.reduceAdd, Int.reduceSub, Int.reduceMul, Int.reduceNeg, Int.reduceEq, Int.reduceNe, h1]
   refine xcall_p (hotspotref05_Great_p a1 bx24) ?_; try dsimp only
   try refine xw_id ?_
   try simp only [go_sem, Nat.reduceEqDiff, reduceIte, Nat.reduceAdd, Nat.reduceMul, Nat.reduceSub, Nat.reduceLT, Nat.reduceLeDiff, Int.reduceToNat, Int.reduceBEq, Int.reduceBNe, Int.reduceLT, Int.reduceLE, Int.reduceAdd, Int.reduceSub, Int.reduceMul, Int.reduceNeg, Int.reduceEq, Int.reduceNe, h1]
   obtain rfl := someInj hvh1
   exact hK1 _ ⟨rfl, rfl, (by first | rfl | (rw [h1]; rfl) | (simp only [h1, Bool.true_and, Bool.false_and, Bool.true_or, Bool.false_or, cond_true, cond_false]; done)), trivial⟩
 ·
  refine xw_id ?_
  try simp only [go_sem, Nat.reduceEqDiff, reduceIte, Nat.reduceAdd, Nat.reduceMul, Nat.reduceSub, Nat.reduceLT, Nat.reduceLeDiff, Int.reduceToNat, Int.reduceBEq, Int.reduceBNe, Int.reduceLT, Int.reduceLE, Int.reduceAdd, Int.reduceSub, Int.reduceMul, Int.reduceNeg, Int.reduceEq, Int.reduceNe]
  refine hKK _ _ (Wk.refl _ _ _) ?_; clear hKK KK
  refine awp_cond (b := x25) rfl (fun h2 => ?_) (fun h2 => ?_)
  ·
   have h0 := cT h0 h2
   refine awp_assoc ?_
   refine awp_nr [] (fun _ => rfl) fun tz => ?_
   refine awp_regW fun KK hKK => ?_
   refine xw_id ?_
   try simp only [go_sem, Nat.reduceEqDiff, reduceIte, Nat.reduceAdd, Nat.reduceMul, Nat.reduceSub, Nat.reduceLT, Nat.reduceLeDiff]
   refine hKK _ _ (Wk.refl _ _ _) ?_; clear hKK KK
   refine awp_ret ?_
   obtain rfl := someInj h0
   refine endW_i ?_
   refine end_ret0 rs8 (rfl) ?_
   try simp only [go_sem, Nat.reduceEqDiff, reduceIte, Nat.reduceAdd, Nat.reduceMul, Nat.reduceSub, Nat.reduceLT, Nat.reduceLeDiff, fz, nilS, packR, List.take_nil, List.take_length, List.length_map, List.length_append, cond_true, cond_false, Nat.ble_eq, ble_self, List.map_append]
   all_goals rfl
  ·
   have h0 := cF h0 h2
   refine awp_skip ?_
   refine awp_assoc ?_
   refine awp_nr [2] (fun _ => rfl) fun tz => ?_
   refine awp_regW fun KK hKK => ?_
   refine xw_id ?_
   try simp only [go_sem, Nat.reduceEqDiff, reduceIte, Nat.reduceAdd, Nat.reduceMul, Nat.reduceSub, Nat.reduceLT, Nat.reduceLeDiff]
   refine hKK _ _ (Wk.refl _ _ _) ?_; clear hKK KK
   obtain ⟨o27, hi3, h0⟩ := bnd h0
   refine awp_cut (fun d26 : Unit => o27 = Ex.go d26) (fun d26 : Unit => hotspotref19_Great_S0 d26) ?_ ?_
   ·
    refine awp_block1 ?_
    refine awp_loopS (fun n (d28 : Int) => hotspotref19_Great_L2 a0 n d28 = some o27) (fun d28 : Int => hotspotref19_Great_S1 a0 d28) big 0 (Wk.canonD [] [] [some 0] rfl trivial rfl (tmOU 0 tmO0 rfl List.not_mem_nil (by simp only [upd_get, Nat.reduceEqDiff, reduceIte, Nat.reduceAdd, Nat.reduceMul, Nat.reduceSub, Nat.reduceLT, Nat.reduceLeDiff, if_true, if_false] <;> rfl) (e_Sender_tmx (by rfl) (Tm.clean (Clean.imm (c_Unacked _))))) (tmAllU 5 (tmAllU 2 tmAll0 (Tm.ptr rfl)) (Tm.v _))) hi3 ?_
    clear hi3
    rintro n d28 hl5
    rcases n with _ | n4
    ·
     (rw [hotspotref19_Great_L2] at hl5; cases hl5)
    ·
     rw [hotspotref19_Great_L2] at hl5
     unfold hotspotref19_Great_S1
     refine awp_assoc ?_
     refine awp_nr [2,5] (fun _ => rfl) fun tz => ?_
     refine awp_regW fun KK hKK => ?_
     refine xw_id ?_
     try simp only [go_sem, Nat.reduceEqDiff, reduceIte, Nat.reduceAdd, Nat.reduceMul, Nat.reduceSub, Nat.reduceLT, Nat.reduceLeDiff, Int.reduceToNat, Int.reduceBEq, Int.reduceBNe, Int.reduceLT, Int.reduceLE, Int.reduceAdd, Int.reduceSub, Int.reduceMul, Int.reduceNeg, Int.reduceEq, Int.reduceNe]
     refine hKK _ _ (Wk.refl _ _ _) ?_; clear hKK KK
     refine awp_cond (b := (decide (d28 < (a0.Out.length : Int)))) rfl (fun h6 => ?_) (fun h6 => ?_)
     ·
      have hl5 := cT hl5 h6
      refine awp_skip ?_
      refine awp_blockW ?_
      refine awp_nr [2,5] (fun _ => rfl) fun tz => ?_
      refine awp_regW fun KK hKK => ?_
      refine xw_id ?_
      obtain ⟨x29, bx29, hl5⟩ := bnd hl5
      obtain ⟨fx29_0, fx29_1, fx29_2, fx29_3⟩ := idx_some bx29
      obtain ⟨x30, bx30, hl5⟩ := bnd hl5
      try simp only [go_sem, Nat.reduceEqDiff, reduceIte, Nat.reduceAdd, Nat.reduceMul, Nat.reduceSub, Nat.reduceLT, Nat.reduceLeDiff, fx29_0, fx29_1, fx29_2]
      refine xcall_p (hotspotref05_Great_p x29.Frame bx30) ?_; try dsimp only
      try refine xw_id ?_
      try simp only [go_sem, Nat.reduceEqDiff, reduceIte, Nat.reduceAdd, Nat.reduceMul, Nat.reduceSub, Nat.reduceLT, Nat.reduceLeDiff, fx29_0, fx29_1, fx29_2]
      refine hKK _ _ (Wk.refl _ _ _) ?_; clear hKK KK
      refine awp_cond1 (b := x30) rfl (fun h7 => ?_) (fun h7 => ?_)
      ·
       have hl5 := cT hl5 h7
       refine awp_nr [] (fun _ => rfl) fun tz => ?_
       refine awp_regW fun KK hKK => ?_
       refine xw_id ?_
       try simp only [go_sem, Nat.reduceEqDiff, reduceIte, Nat.reduceAdd, Nat.reduceMul, Nat.reduceSub, Nat.reduceLT, Nat.reduceLeDiff, fx29_0, fx29_1, fx29_2]
       refine hKK _ _ (Wk.refl _ _ _) ?_; clear hKK KK
       refine awp_ret1 ?_
       refine bq_r ?_
       refine sq_r ?_
       refine lq_r ?_
       refine bq_r ?_
       refine sq_r ?_
       obtain rfl := someInj hl5
       obtain rfl := Ex.k_ret h0
       refine endW_i ?_
       refine end_ret0 rs8 (rfl) ?_
       try simp only [go_sem, Nat.reduceEqDiff, reduceIte, Nat.reduceAdd, Nat.reduceMul, Nat.reduceSub, Nat.reduceLT, Nat.reduceLeDiff, fz, nilS, packR, List.take_nil, List.take_length, List.length_map, List.length_append, cond_true, cond_false, Nat.ble_eq, ble_self, List.map_append]
       all_goals rfl
      ·
       have hl5 := cF hl5 h7
       refine awp_skip1 ?_
       refine bq_n ?_
       refine seqW_i ?_
       refine awp_nr1 [2,5] (fun _ => rfl) fun tz => ?_
       refine awp_reg1 fun KK hKK => ?_
       refine xw_id ?_
       try simp only [go_sem, Nat.reduceEqDiff, reduceIte, Nat.reduceAdd, Nat.reduceMul, Nat.reduceSub, Nat.reduceLT, Nat.reduceLeDiff, fx29_0, fx29_1, fx29_2]
       refine hKK _ ?_; clear hKK KK
       refine lq_n ?_
       exact ⟨n4, IntKind.wrap .i64 (d28 + 1), rfl, hl5, (Wk.canonD [] [] [some 0] rfl trivial rfl (tmOU 0 tmO0 rfl List.not_mem_nil (by simp only [upd_get, Nat.reduceEqDiff, reduceIte, Nat.reduceAdd, Nat.reduceMul, Nat.reduceSub, Nat.reduceLT, Nat.reduceLeDiff, if_true, if_false] <;> rfl) (e_Sender_tmx (by rfl) (Tm.clean (Clean.imm (c_Unacked _))))) (tmAllU 5 (tmAllU 2 tmAll0 (Tm.ptr rfl)) (Tm.v _)))⟩
     ·
      have hl5 := cF hl5 h6
      refine awp_exit ?_
      refine lq_e ?_
      refine bq_e ?_
      refine sq_n ?_
      obtain rfl := someInj hl5
      exact ⟨_, rfl, (Wk.canonD [] [] [] rfl trivial rfl tmO0 tmAll0)⟩
   ·
    rintro d26 rfl
    have h0 := Ex.k_go h0
    clear hi3
    unfold hotspotref19_Great_S0
    refine awp_nr [] (fun _ => rfl) fun tz => ?_
    refine awp_regW fun KK hKK => ?_
    refine xw_id ?_
    try simp only [go_sem, Nat.reduceEqDiff, reduceIte, Nat.reduceAdd, Nat.reduceMul, Nat.reduceSub, Nat.reduceLT, Nat.reduceLeDiff]
    refine hKK _ _ (Wk.refl _ _ _) ?_; clear hKK KK
    refine awp_ret1 ?_
    obtain rfl := someInj h0
    refine endW_i ?_
    refine end_ret0 rs8 (rfl) ?_
    try simp only [go_sem, Nat.reduceEqDiff, reduceIte, Nat.reduceAdd, Nat.reduceMul, Nat.reduceSub, Nat.reduceLT, Nat.reduceLeDiff, fz, nilS, packR, List.take_nil, List.take_length, List.length_map, List.length_append, cond_true, cond_false, Nat.ble_eq, ble_self, List.map_append]
    all_goals rfl

end Go.AX.Z.TS

/-! (TSW hotspotlaw19 great) -/

set_option linter.unusedSimpArgs false
set_option linter.unusedVariables false
set_option maxHeartbeats 4000000
namespace Go.AX.Z.TS
open Go.AX Go.Proofs
attribute [local irreducible] awp xw xop xcall gsp ob xd xdop xcallD seqQ loopQ blkQ endQ

def hotspotlaw19_great_S0 (d22 : Unit) : AS :=
 { objs := (fun _ => .dead), next := 0, tmps := (fun _ => .unk) }

def hotspotlaw19_great_S1 (a0 : (List Hotspotref19_Step)) (d24 : Int) : AS :=
 { objs := (fun _ => .dead), next := 0, tmps := (upd (upd (fun _ => .unk) 0 (.imm (List.flatMap E_Hotspotref19_Step a0) a0.length)) 3 (vi d24)) }

theorem hotspotlaw19_great_p (a0 : (List Hotspotref19_Step)) {r : Bool} (h0 : hotspotlaw19_great a0 = some r) : SndP K 25 [(S_Hotspotref19_Step a0)] (vb r) := by
 refine SndP.of_walkW hC (Clean.v _) (clean_cons (S_Hotspotref19_Step_clean _) clean_nil) (show K.P.funcs[25]? = some Try.f25 from Try.func25) rfl rfl (by decide +kernel) (Nat.le_of_ble_eq_true rfl) ?_
 unfold hotspotlaw19_great at h0
 refine awp_nr [0] (fun _ => rfl) fun tz => ?_
 refine awp_regW fun KK hKK => ?_
 refine xw_id ?_
 try simp only [go_sem, Nat.reduceEqDiff, reduceIte, Nat.reduceAdd, Nat.reduceMul, Nat.reduceSub, Nat.reduceLT, Nat.reduceLeDiff]
 refine hKK _ _ (Wk.refl _ _ _) ?_; clear hKK KK
 refine awp_assoc ?_
 refine awp_nr [0] (fun _ => rfl) fun tz => ?_
 refine awp_regW fun KK hKK => ?_
 refine xw_id ?_
 try simp only [go_sem, Nat.reduceEqDiff, reduceIte, Nat.reduceAdd, Nat.reduceMul, Nat.reduceSub, Nat.reduceLT, Nat.reduceLeDiff, Int.reduceToNat, Int.reduceBEq, Int.reduceBNe, Int.reduceLT, Int.reduceLE, Int.reduceAdd, Int.reduceSub, Int.reduceMul, Int.reduceNeg, Int.reduceEq, Int.reduceNe]
 refine hKK _ _ (Wk.refl _ _ _) ?_; clear hKK KK
 refine awp_cond (b := (decide (300 < (a0.length : Int)))) rfl (fun h1 => ?_) (fun h1 => ?_)
 ·
  have h0 := cT h0 h1
  refine awp_assoc ?_
  refine awp_nr [] (fun _ => rfl) fun tz => ?_
  refine awp_regW fun KK hKK => ?_
  refine xw_id ?_
  try simp only [go_sem, Nat.reduceEqDiff, reduceIte, Nat.reduceAdd, Nat.reduceMul, Nat.reduceSub, Nat.reduceLT, Nat.reduceLeDiff]
  refine hKK _ _ (Wk.refl _ _ _) ?_; clear hKK KK
  refine awp_ret ?_
  obtain rfl := someInj h0
  refine endW_i ?_
  refine end_ret0 rs25 (rfl) ?_
  try simp only [go_sem, Nat.reduceEqDiff, reduceIte, Nat.reduceAdd, Nat.reduceMul, Nat.reduceSub, Nat.reduceLT, Nat.reduceLeDiff, fz, nilS, packR, List.take_nil, List.take_length, List.length_map, List.length_append, cond_true, cond_false, Nat.ble_eq, ble_self, List.map_append]
  all_goals rfl
 ·
  have h0 := cF h0 h1
  refine awp_skip ?_
  refine awp_assoc ?_
  refine awp_nr [0] (fun _ => rfl) fun tz => ?_
  refine awp_regW fun KK hKK => ?_
  refine xw_id ?_
  try simp only [go_sem, Nat.reduceEqDiff, reduceIte, Nat.reduceAdd, Nat.reduceMul, Nat.reduceSub, Nat.reduceLT, Nat.reduceLeDiff]
  refine hKK _ _ (Wk.refl _ _ _) ?_; clear hKK KK
  obtain ⟨o23, hi2, h0⟩ := bnd h0
  refine awp_cut (fun d22 : Unit => o23 = Ex.go d22) (fun d22 : Unit => hotspotlaw19_great_S0 d22) ?_ ?_
  ·
   refine awp_block1 ?_
   refine awp_loopS (fun n (d24 : Int) => hotspotlaw19_great_L2 a0 n d24 = some o23) (fun d24 : Int => hotspotlaw19_great_S1 a0 d24) big 0 (Wk.canonD [] [] [] rfl trivial rfl tmO0 (tmAllU 3 (tmAllU 0 tmAll0 (Tm.clean (Clean.imm (c_Hotspotref19_Step _)))) (Tm.v _))) hi2 ?_
   clear hi2
   rintro n d24 hl4
   rcases n with _ | n3
   ·
    (rw [hotspotlaw19_great_L2] at hl4; cases hl4)
   ·
    rw [hotspotlaw19_great_L2] at hl4
    unfold hotspotlaw19_great_S1
    refine awp_assoc ?_
    refine awp_nr [0,3] (fun _ => rfl) fun tz => ?_
    refine awp_regW fun KK hKK => ?_
    refine xw_id ?_
    try simp only [go_sem, Nat.reduceEqDiff, reduceIte, Nat.reduceAdd, Nat.reduceMul, Nat.reduceSub, Nat.reduceLT, Nat.reduceLeDiff, Int.reduceToNat, Int.reduceBEq, Int.reduceBNe, Int.reduceLT, Int.reduceLE, Int.reduceAdd, Int.reduceSub, Int.reduceMul, Int.reduceNeg, Int.reduceEq, Int.reduceNe]
    refine hKK _ _ (Wk.refl _ _ _) ?_; clear hKK KK
    refine awp_cond (b := (decide (d24 < (a0.length : Int)))) rfl (fun h5 => ?_) (fun h5 => ?_)
    ·
     have hl4 := cT hl4 h5
     refine awp_skip ?_
     refine awp_blockW ?_
     refine awp_nr [0,3] (fun _ => rfl) fun tz => ?_
     refine awp_regW fun KK hKK => ?_
     refine xw_id ?_
     obtain ⟨x25, bx25, hl4⟩ := bnd hl4
     obtain ⟨fx25_0, fx25_1, fx25_2, fx25_3⟩ := idx_some bx25
     obtain ⟨x26, bx26, hl4⟩ := bnd hl4
     try simp only [go_sem, Nat.reduceEqDiff, reduceIte, Nat.reduceAdd, Nat.reduceMul, Nat.reduceSub, Nat.reduceLT, Nat.reduceLeDiff, fx25_0, fx25_1, fx25_2]
     refine xcall_N (by first | (simp only [go_sem, fz, nilS, cond_true, cond_false, Nat.reduceEqDiff, reduceIte, Nat.reduceAdd, Nat.reduceMul, Nat.reduceSub, Nat.reduceLT, Nat.reduceLeDiff]; done) | (simp only [go_sem, fz, nilS, cond_true, cond_false, Nat.reduceEqDiff, reduceIte, Nat.reduceAdd, Nat.reduceMul, Nat.reduceSub, Nat.reduceLT, Nat.reduceLeDiff]; rfl)) (hotspotref19_Great_p Sender.z x25.Frame bx26) ?_; try dsimp only
     try refine xw_id ?_
     try simp only [go_sem, Nat.reduceEqDiff, reduceIte, Nat.reduceAdd, Nat.reduceMul, Nat.reduceSub, Nat.reduceLT, Nat.reduceLeDiff, fx25_0, fx25_1, fx25_2]
     refine hKK _ _ (Wk.refl _ _ _) ?_; clear hKK KK
     refine awp_cond1 (b := x26) rfl (fun h6 => ?_) (fun h6 => ?_)
     ·
      have hl4 := cT hl4 h6
      refine awp_nr [] (fun _ => rfl) fun tz => ?_
      refine awp_regW fun KK hKK => ?_
      refine xw_id ?_
      try simp only [go_sem, Nat.reduceEqDiff, reduceIte, Nat.reduceAdd, Nat.reduceMul, Nat.reduceSub, Nat.reduceLT, Nat.reduceLeDiff, fx25_0, fx25_1, fx25_2]
      refine hKK _ _ (Wk.refl _ _ _) ?_; clear hKK KK
      refine awp_ret1 ?_
      refine bq_r ?_
      refine sq_r ?_
      refine lq_r ?_
      refine bq_r ?_
      refine sq_r ?_
      obtain rfl := someInj hl4
      obtain rfl := Ex.k_ret h0
      refine endW_i ?_
      refine end_ret0 rs25 (rfl) ?_
      try simp only [go_sem, Nat.reduceEqDiff, reduceIte, Nat.reduceAdd, Nat.reduceMul, Nat.reduceSub, Nat.reduceLT, Nat.reduceLeDiff, fz, nilS, packR, List.take_nil, List.take_length, List.length_map, List.length_append, cond_true, cond_false, Nat.ble_eq, ble_self, List.map_append]
      all_goals rfl
     ·
      have hl4 := cF hl4 h6
      refine awp_skip1 ?_
      refine bq_n ?_
      refine seqW_i ?_
      refine awp_nr1 [0,3] (fun _ => rfl) fun tz => ?_
      refine awp_reg1 fun KK hKK => ?_
      refine xw_id ?_
      try simp only [go_sem, Nat.reduceEqDiff, reduceIte, Nat.reduceAdd, Nat.reduceMul, Nat.reduceSub, Nat.reduceLT, Nat.reduceLeDiff, fx25_0, fx25_1, fx25_2]
      refine hKK _ ?_; clear hKK KK
      refine lq_n ?_
      exact ⟨n3, IntKind.wrap .i64 (d24 + 1), rfl, hl4, (Wk.canonD [] [] [] rfl trivial rfl tmO0 (tmAllU 3 (tmAllU 0 tmAll0 (Tm.clean (Clean.imm (c_Hotspotref19_Step _)))) (Tm.v _)))⟩
    ·
     have hl4 := cF hl4 h5
     refine awp_exit ?_
     refine lq_e ?_
     refine bq_e ?_
     refine sq_n ?_
     obtain rfl := someInj hl4
     exact ⟨_, rfl, (Wk.canonD [] [] [] rfl trivial rfl tmO0 tmAll0)⟩
  ·
   rintro d22 rfl
   have h0 := Ex.k_go h0
   clear hi2
   unfold hotspotlaw19_great_S0
   refine awp_nr [] (fun _ => rfl) fun tz => ?_
   refine awp_regW fun KK hKK => ?_
   refine xw_id ?_
   try simp only [go_sem, Nat.reduceEqDiff, reduceIte, Nat.reduceAdd, Nat.reduceMul, Nat.reduceSub, Nat.reduceLT, Nat.reduceLeDiff]
   refine hKK _ _ (Wk.refl _ _ _) ?_; clear hKK KK
   refine awp_ret1 ?_
   obtain rfl := someInj h0
   refine endW_i ?_
   refine end_ret0 rs25 (rfl) ?_
   try simp only [go_sem, Nat.reduceEqDiff, reduceIte, Nat.reduceAdd, Nat.reduceMul, Nat.reduceSub, Nat.reduceLT, Nat.reduceLeDiff, fz, nilS, packR, List.take_nil, List.take_length, List.length_map, List.length_append, cond_true, cond_false, Nat.ble_eq, ble_self, List.map_append]
   all_goals rfl

end Go.AX.Z.TS

/-! (TSW sender Close) -/

set_option linter.unusedSimpArgs false
set_option linter.unusedVariables false
set_option maxHeartbeats 4000000
namespace Go.AX.Z.TS
open Go.AX Go.Proofs
attribute [local irreducible] awp xw xop xcall gsp ob xd xdop xcallD seqQ loopQ blkQ endQ

def sender_Close_S0 (a0 : Sender) (d34 : (List Int)) : AS :=
 { objs := (upd (upd (upd (fun _ => .dead) 0 (.live (e_Sender a0 (.imm (List.flatMap E_Unacked a0.Out) a0.Out.length)))) 1 (.live (List.map vi d34))) 2 (.live (e_Sender Sender.z vnil))), next := 3, tmps := (upd (upd (upd (fun _ => .unk) 1 (.ptr 0 0)) 2 (.ref 1 0 ((d34).length) 1)) 3 (.ptr 2 0)) }

def sender_Close_S1 (a0 : Sender) (d35 : (List Int × Int)) : AS :=
 { objs := (upd (upd (upd (fun _ => .dead) 0 (.live (e_Sender a0 (.imm (List.flatMap E_Unacked a0.Out) a0.Out.length)))) 1 (.live (List.map vi d35.1))) 2 (.live (e_Sender Sender.z vnil))), next := 3, tmps := (upd (upd (upd (upd (upd (upd (fun _ => .unk) 1 (.ptr 0 0)) 2 (.ref 1 0 ((d35.1).length) 1)) 3 (.ptr 2 0)) 15 (.imm (List.flatMap E_Unacked a0.Out) a0.Out.length)) 16 (vi (a0.Out.length : Int))) 17 (vi d35.2)) }

theorem sender_Close_r (a0 : Sender) {r : ((List Int) × Sender × Int)} (h0 : sender_Close a0 = some r) : SndR K 49 [(.agg (E_Sender a0))] (fun q => (.tup [(.ref (q 0) 0 r.1.length 1), (.agg (E_Sender r.2.1)), (vi r.2.2)])) [(List.map vi r.1)] := by
 refine SndR.of_walkW hC (show K.P.funcs[49]? = some Try.f49 from Try.func49) rfl rfl (by decide +kernel) (Nat.le_of_ble_eq_true rfl) ?_
 unfold sender_Close at h0
 refine awp_nr [0] (fun _ => rfl) fun tz => ?_
 refine awp_regW fun KK hKK => ?_
 refine xw_id ?_
 try simp only [go_sem, Nat.reduceEqDiff, reduceIte, Nat.reduceAdd, Nat.reduceMul, Nat.reduceSub, Nat.reduceLT, Nat.reduceLeDiff]
 refine hKK _ _ (Wk.refl _ _ _) ?_; clear hKK KK
 refine awp_assoc ?_
 refine awp_nr [1,2,3] (fun _ => rfl) fun tz => ?_
 refine awp_regW fun KK hKK => ?_
 refine xw_id ?_
 obtain ⟨x33, bx33, h0⟩ := bnd h0
 try simp only [go_sem, Nat.reduceEqDiff, reduceIte, Nat.reduceAdd, Nat.reduceMul, Nat.reduceSub, Nat.reduceLT, Nat.reduceLeDiff]
 refine xcall_p (sender_Check_p a0 bx33) ?_; try dsimp only
 try refine xw_id ?_
 try simp only [go_sem, Nat.reduceEqDiff, reduceIte, Nat.reduceAdd, Nat.reduceMul, Nat.reduceSub, Nat.reduceLT, Nat.reduceLeDiff]
 refine hKK _ _ (Wk.refl _ _ _) ?_; clear hKK KK
 refine awp_assoc ?_
 refine awp_nr [1,2,3,5] (fun _ => rfl) fun tz => ?_
 refine awp_regW fun KK hKK => ?_
 refine xw_id ?_
 try simp only [go_sem, Nat.reduceEqDiff, reduceIte, Nat.reduceAdd, Nat.reduceMul, Nat.reduceSub, Nat.reduceLT, Nat.reduceLeDiff]
 refine hKK _ _ (Wk.refl _ _ _) ?_; clear hKK KK
 refine awp_cond (b := (x33 != 0)) rfl (fun h1 => ?_) (fun h1 => ?_)
 ·
  have h0 := cT h0 h1
  refine awp_assoc ?_
  refine awp_nr [3,5] (fun _ => rfl) fun tz => ?_
  refine awp_regW fun KK hKK => ?_
  refine xw_id ?_
  try simp only [go_sem, Nat.reduceEqDiff, reduceIte, Nat.reduceAdd, Nat.reduceMul, Nat.reduceSub, Nat.reduceLT, Nat.reduceLeDiff]
  refine hKK _ _ (Wk.refl _ _ _) ?_; clear hKK KK
  refine awp_ret ?_
  obtain rfl := someInj h0
  refine endW_i ?_
  refine end_ret0 rs49 (by simp only [go_sem, resV, resAll, resOf, packR, Nat.reduceEqDiff, reduceIte, Nat.reduceAdd, Nat.reduceMul, Nat.reduceSub, Nat.reduceLT, Nat.reduceLeDiff]; rfl) ?_
  refine Res.mk [] [none] rfl (resON resO0) (Tm.tup (TmL.cons (Tm.thaw _ _ _) (TmL.cons (Tm.agg (e_Sender_tmx (by rfl) (Tm.nil))) (TmL.cons (Tm.v _) TmL.nil))))
 ·
  have h0 := cF h0 h1
  refine awp_skip ?_
  refine awp_assoc ?_
  refine awp_nr [1,2,3] (fun _ => rfl) fun tz => ?_
  refine awp_regW fun KK hKK => ?_
  refine xw_id ?_
  try simp only [go_sem, Nat.reduceEqDiff, reduceIte, Nat.reduceAdd, Nat.reduceMul, Nat.reduceSub, Nat.reduceLT, Nat.reduceLeDiff, Int.reduceToNat, Int.reduceBEq, Int.reduceBNe, Int.reduceLT, Int.reduceLE, Int.reduceAdd, Int.reduceSub, Int.reduceMul, Int.reduceNeg, Int.reduceEq, Int.reduceNe]
  refine hKK _ _ (Wk.refl _ _ _) ?_; clear hKK KK
  obtain ⟨d34, hi2, h0⟩ := bnd h0
  refine awp_cut (fun z => d34 = z) (fun d34 : (List Int) => sender_Close_S0 a0 d34) ?_ ?_
  ·
   refine awp_block1 ?_
   refine awp_loopS (fun n (d35 : (List Int × Int)) => sender_Close_L2 a0 n d35 = some d34) (fun d35 : (List Int × Int) => sender_Close_S1 a0 d35) big ([], 0) (Wk.canonD [] [] [some 0, none, some 2] rfl trivial rfl (tmOU 2 (tmON 1 (tmOU 0 tmO0 rfl List.not_mem_nil (by simp only [upd_get, Nat.reduceEqDiff, reduceIte, Nat.reduceAdd, Nat.reduceMul, Nat.reduceSub, Nat.reduceLT, Nat.reduceLeDiff, if_true, if_false] <;> rfl) (e_Sender_tmx (by rfl) (Tm.clean (Clean.imm (c_Unacked _))))) rfl) rfl List.not_mem_nil (by simp only [upd_get, Nat.reduceEqDiff, reduceIte, Nat.reduceAdd, Nat.reduceMul, Nat.reduceSub, Nat.reduceLT, Nat.reduceLeDiff, if_true, if_false] <;> rfl) (e_Sender_tmx (by rfl) (Tm.v _))) (tmAllU 17 (tmAllU 16 (tmAllU 15 (tmAllU 3 (tmAllU 2 (tmAllU 1 tmAll0 (Tm.ptr rfl)) (Tm.thaw _ _ _)) (Tm.ptr rfl)) (Tm.clean (Clean.imm (c_Unacked _)))) (Tm.v _)) (Tm.v _))) hi2 ?_
   clear hi2
   rintro n d35 hl4
   rcases n with _ | n3
   ·
    (rw [sender_Close_L2] at hl4; cases hl4)
   ·
    rw [sender_Close_L2] at hl4
    unfold sender_Close_S1
    refine awp_nr [1,2,3,15,16,17] (fun _ => rfl) fun tz => ?_
    refine awp_regW fun KK hKK => ?_
    refine xw_id ?_
    try simp only [go_sem, Nat.reduceEqDiff, reduceIte, Nat.reduceAdd, Nat.reduceMul, Nat.reduceSub, Nat.reduceLT, Nat.reduceLeDiff]
    refine hKK _ _ (Wk.refl _ _ _) ?_; clear hKK KK
    refine awp_cond (b := (decide (d35.2 < (a0.Out.length : Int)))) rfl (fun h5 => ?_) (fun h5 => ?_)
    ·
     have hl4 := cT hl4 h5
     refine awp_skip ?_
     refine awp_blockW ?_
     refine awp_nr [1,2,3,15,16,17] (fun _ => rfl) fun tz => ?_
     refine awp_regW fun KK hKK => ?_
     refine xw_id ?_
     obtain ⟨x36, bx36, hl4⟩ := bnd hl4
     obtain ⟨fx36_0, fx36_1, fx36_2, fx36_3⟩ := idx_some bx36
     try simp only [go_sem, Nat.reduceEqDiff, reduceIte, Nat.reduceAdd, Nat.reduceMul, Nat.reduceSub, Nat.reduceLT, Nat.reduceLeDiff, fx36_0, fx36_1, fx36_2]
     refine hKK _ _ (Wk.refl _ _ _) ?_; clear hKK KK
     refine awp_nr1 [1,2,3,7,15,16,17] (fun _ => rfl) fun tz => ?_
     refine awp_reg1 fun KK hKK => ?_
     refine xw_id ?_
     obtain ⟨x37, bx37, hl4⟩ := bnd hl4
     have bx37 := chk_some bx37
     simp only [Bool.and_eq_true, decide_eq_true_eq] at bx37
     have gx37_0 := bx37
     try simp only [go_sem, Nat.reduceEqDiff, reduceIte, Nat.reduceAdd, Nat.reduceMul, Nat.reduceSub, Nat.reduceLT, Nat.reduceLeDiff, Int.reduceToNat, Int.reduceBEq, Int.reduceBNe, Int.reduceLT, Int.reduceLE, Int.reduceAdd, Int.reduceSub, Int.reduceMul, Int.reduceNeg, Int.reduceEq, Int.reduceNe, fx36_0, fx36_1, fx36_2, gx37_0]
     refine hKK _ ?_; clear hKK KK
     refine bq_n ?_
     refine seqW_i ?_
     refine awp_nr1 [1,2,3,15,16,17] (fun _ => rfl) fun tz => ?_
     refine awp_reg1 fun KK hKK => ?_
     refine xw_id ?_
     try simp only [go_sem, Nat.reduceEqDiff, reduceIte, Nat.reduceAdd, Nat.reduceMul, Nat.reduceSub, Nat.reduceLT, Nat.reduceLeDiff, fx36_0, fx36_1, fx36_2]
     refine hKK _ ?_; clear hKK KK
     refine lq_n ?_
     exact ⟨n3, ((d35.1 ++ [x36.Frame.Head.Seq]), IntKind.wrap .i64 (d35.2 + 1)), rfl, hl4, (by refine Wk.canonD [] [] [some 0, some 14, some 2] rfl trivial rfl (tmOU 2 (tmOU 1 (tmOU 0 tmO0 rfl List.not_mem_nil (by simp only [upd_get, Nat.reduceEqDiff, reduceIte, Nat.reduceAdd, Nat.reduceMul, Nat.reduceSub, Nat.reduceLT, Nat.reduceLeDiff, if_true, if_false] <;> rfl) (e_Sender_tmx (by rfl) (Tm.clean (Clean.imm (c_Unacked _))))) rfl List.not_mem_nil (by simp only [upd_get, Nat.reduceEqDiff, reduceIte, Nat.reduceAdd, Nat.reduceMul, Nat.reduceSub, Nat.reduceLT, Nat.reduceLeDiff, if_true, if_false] <;> rfl) (TmL.of_eq (by first | rfl | (simp only [List.flatMap_append, List.flatMap_cons, List.flatMap_nil, List.map_append, List.map_cons, List.map_nil, List.append_nil, List.nil_append]; done) | (simp only [List.flatMap_append, List.flatMap_cons, List.flatMap_nil, List.map_append, List.map_cons, List.map_nil, List.append_nil, List.nil_append]; rfl)) (vi_clean _))) rfl List.not_mem_nil (by simp only [upd_get, Nat.reduceEqDiff, reduceIte, Nat.reduceAdd, Nat.reduceMul, Nat.reduceSub, Nat.reduceLT, Nat.reduceLeDiff, if_true, if_false] <;> rfl) (e_Sender_tmx (by rfl) (Tm.v _))) (tmAllU 17 (tmAllU 16 (tmAllU 15 (tmAllU 3 (tmAllU 2 (tmAllU 1 tmAll0 (Tm.ptr rfl)) (Tm.refL rfl ?_)) (Tm.ptr rfl)) (Tm.clean (Clean.imm (c_Unacked _)))) (Tm.v _)) (Tm.v _)); all_goals (first | rfl | (simp only [List.length_take]; omega) | (simp only [List.length_append, List.length_cons, List.length_nil, List.length_modify, List.length_set, Nat.zero_add]; done) | (simp only [List.length_append, List.length_take, List.length_drop, List.length_cons, List.length_nil, List.length_modify, List.length_set, Nat.zero_add]; omega)))⟩
    ·
     have hl4 := cF hl4 h5
     refine awp_exit ?_
     refine lq_e ?_
     refine bq_e ?_
     refine sq_n ?_
     obtain rfl := someInj hl4
     exact ⟨_, rfl, (by refine Wk.canonD [] [] [some 0, some 1, some 2] rfl trivial rfl (tmOU 2 (tmOU 1 (tmOU 0 tmO0 rfl List.not_mem_nil (by simp only [upd_get, Nat.reduceEqDiff, reduceIte, Nat.reduceAdd, Nat.reduceMul, Nat.reduceSub, Nat.reduceLT, Nat.reduceLeDiff, if_true, if_false] <;> rfl) (e_Sender_tmx (by rfl) (Tm.clean (Clean.imm (c_Unacked _))))) rfl List.not_mem_nil (by simp only [upd_get, Nat.reduceEqDiff, reduceIte, Nat.reduceAdd, Nat.reduceMul, Nat.reduceSub, Nat.reduceLT, Nat.reduceLeDiff, if_true, if_false] <;> rfl) (TmL.of_eq (by first | rfl | (simp only [List.flatMap_append, List.flatMap_cons, List.flatMap_nil, List.map_append, List.map_cons, List.map_nil, List.append_nil, List.nil_append]; done) | (simp only [List.flatMap_append, List.flatMap_cons, List.flatMap_nil, List.map_append, List.map_cons, List.map_nil, List.append_nil, List.nil_append]; rfl)) (vi_clean _))) rfl List.not_mem_nil (by simp only [upd_get, Nat.reduceEqDiff, reduceIte, Nat.reduceAdd, Nat.reduceMul, Nat.reduceSub, Nat.reduceLT, Nat.reduceLeDiff, if_true, if_false] <;> rfl) (e_Sender_tmx (by rfl) (Tm.v _))) (tmAllU 3 (tmAllU 2 (tmAllU 1 tmAll0 (Tm.ptr rfl)) (Tm.refL rfl ?_)) (Tm.ptr rfl)); all_goals (first | rfl | (simp only [List.length_take]; omega) | (simp only [List.length_append, List.length_cons, List.length_nil, List.length_modify, List.length_set, Nat.zero_add]; done) | (simp only [List.length_append, List.length_take, List.length_drop, List.length_cons, List.length_nil, List.length_modify, List.length_set, Nat.zero_add]; omega)))⟩
  ·
   rintro _ rfl
   clear hi2
   unfold sender_Close_S0
   refine awp_nr [1,2,3] (fun _ => rfl) fun tz => ?_
   refine awp_regW fun KK hKK => ?_
   refine xw_id ?_
   try simp only [go_sem, Nat.reduceEqDiff, reduceIte, Nat.reduceAdd, Nat.reduceMul, Nat.reduceSub, Nat.reduceLT, Nat.reduceLeDiff]
   refine hKK _ _ (Wk.refl _ _ _) ?_; clear hKK KK
   refine awp_nr [1,2,3] (fun _ => rfl) fun tz => ?_
   refine awp_regDW fun KK hKK all hall => ?_
   refine xd_id ?_
   try simp only [List.toList_toArray, List.map_cons, List.map_nil, List.size_toArray, List.length_cons, List.length_nil, Nat.zero_add]
   try simp only [Nat.reduceAdd]
   simp only [go_sem, Nat.reduceEqDiff, reduceIte, Nat.reduceMul, Nat.reduceSub, Nat.reduceLT, Nat.reduceLeDiff]
   try simp only [Nat.reduceAdd]
   try simp only [go_sem, Nat.reduceEqDiff, reduceIte, Nat.reduceMul, Nat.reduceSub, Nat.reduceLT, Nat.reduceLeDiff]
   try simp only [Nat.reduceAdd]
   try simp only [go_sem, Nat.reduceEqDiff, reduceIte, Nat.reduceMul, Nat.reduceSub, Nat.reduceLT, Nat.reduceLeDiff]
   refine And.intro ?_ (hKK _ _ (Wk.refl _ _ _) ?_)
   ·
    subst hall
    clear hKK KK
    first | (simp [printsOk, apartP, clash, meet]; done) | (simp [printsOk, apartP, clash, meet]; decide +kernel) | decide +kernel
   ·
    clear hKK KK hall all
    refine awp_ret1 ?_
    obtain rfl := someInj h0
    refine endW_i ?_
    refine end_ret0 rs49 (by simp only [go_sem, resV, resAll, resOf, packR, Nat.reduceEqDiff, reduceIte, Nat.reduceAdd, Nat.reduceMul, Nat.reduceSub, Nat.reduceLT, Nat.reduceLeDiff]; rfl) ?_
    refine Res.mk [] [some 1] rfl (resOU List.not_mem_nil (by simp only [upd_get, Nat.reduceEqDiff, reduceIte, Nat.reduceAdd, Nat.reduceMul, Nat.reduceSub, Nat.reduceLT, Nat.reduceLeDiff, if_true, if_false] <;> rfl) (TmL.of_eq (by first | rfl | (simp only [List.flatMap_append, List.flatMap_cons, List.flatMap_nil, List.map_append, List.map_cons, List.map_nil, List.append_nil, List.nil_append]; done) | (simp only [List.flatMap_append, List.flatMap_cons, List.flatMap_nil, List.map_append, List.map_cons, List.map_nil, List.append_nil, List.nil_append]; rfl)) (vi_clean _)) resO0) (Tm.tup (TmL.cons (Tm.refL rfl ?_) (TmL.cons (Tm.agg (e_Sender_tmx (by rfl) (Tm.nil))) (TmL.cons (Tm.v _) TmL.nil))))
    all_goals (first | rfl | (simp only [List.length_take]; omega) | (simp only [List.length_append, List.length_cons, List.length_nil, List.length_modify, List.length_set, Nat.zero_add]; done) | (simp only [List.length_append, List.length_take, List.length_drop, List.length_cons, List.length_nil, List.length_modify, List.length_set, Nat.zero_add]; omega))

theorem sender_Close_m (a0 : Sender) {r : ((List Int) × Sender × Int)} (h0 : sender_Close a0 = some r) : SndM K 49 [(.agg (E_Sender a0))] (fun q => (.tup [(.ref (q 0) 0 r.1.length 1), (.agg (E_Sender r.2.1)), (vi r.2.2)])) [(List.map vi r.1)] :=
 fun hs => Snd.of_newM (RenM.tup (RenML.cons (RenM.ref 0 0 _ _) (RenML.cons (RenM.const (Clean.agg (E_Sender_clean _))) (RenML.cons (RenM.const (Clean.v _)) RenML.nil)))) (rows_all_cons (vi_clean _) rows_all_nil) (clean_cons (Clean.agg (E_Sender_clean _)) clean_nil) (sender_Close_r a0 h0) hs

theorem sender_Close_e (a0 : Sender) {r : ((List Int) × Sender × Int)} (h0 : sender_Close a0 = some r) (fr : Nat) (hs : HS) : SndE K 49 [(.agg (E_Sender a0))] hs fr ⟨(fun q : Nat → Nat => (.tup [(.ref (q 0) 0 r.1.length 1), (.agg (E_Sender r.2.1)), (vi r.2.2)])) fun _ => fr, .new (List.map vi r.1)⟩ :=
 SndE.of_res (RenM.tup (RenML.cons (RenM.ref 0 0 _ _) (RenML.cons (RenM.const (Clean.agg (E_Sender_clean _))) (RenML.cons (RenM.const (Clean.v _)) RenML.nil)))) (vi_clean _) (clean_cons (Clean.agg (E_Sender_clean _)) clean_nil) (fun a b h => by simp only [h]) (sender_Close_r a0 h0) hs fr

theorem sender_Close_p (a0 : Sender) {r : ((List Int) × Sender × Int)} (h0 : sender_Close a0 = some r) : SndP K 49 [(.agg (E_Sender a0))] (.tup [(S_vi r.1), (.agg (E_Sender r.2.1)), (vi r.2.2)]) :=
 SndM.pure (sender_Close_m a0 h0) (Clean.tup (clean_cons (S_vi_clean _) (clean_cons (Clean.agg (E_Sender_clean _)) (clean_cons (Clean.v _) clean_nil)))) (clean_cons (Clean.agg (E_Sender_clean _)) clean_nil) (by simp only [go_sem, newL_n, newL_c, upd_get, fz, nilS, cond_true, cond_false, List.drop_zero, List.take_length, List.length_map, ble_self, Nat.reduceEqDiff, reduceIte, Nat.reduceAdd, Nat.reduceMul, Nat.reduceSub, Nat.reduceLT, Nat.reduceLeDiff] <;> rfl)

end Go.AX.Z.TS

/-! (TSW sender Lost) -/

set_option linter.unusedSimpArgs false
set_option linter.unusedVariables false
set_option maxHeartbeats 4000000
namespace Go.AX.Z.TS
open Go.AX Go.Proofs
attribute [local irreducible] awp xw xop xcall gsp ob xd xdop xcallD seqQ loopQ blkQ endQ

def sender_Lost_S0 (x42 : (Sender × Int)) : AS :=
 { objs := (upd (upd (upd (fun _ => .dead) 0 (.live (e_Sender x42.1 (.ref 1 0 x42.1.Out.length 44)))) 1 (.live (List.flatMap E_Unacked x42.1.Out))) 2 (.live (e_Sender Sender.z vnil))), next := 3, tmps := (upd (upd (upd (fun _ => .unk) 1 (.ptr 0 0)) 2 (.ptr 2 0)) 4 (vi x42.2)) }

theorem sender_Lost_r (a0 : Sender) {r : (Sender × Int)} (h0 : sender_Lost a0 = some r) : SndR K 50 [(.agg (E_Sender a0))] (fun q => (.tup [(.agg (e_Sender r.1 (.ref (q 0) 0 r.1.Out.length 44))), (vi r.2)])) [(List.flatMap E_Unacked r.1.Out)] := by
 refine SndR.of_walkW hC (show K.P.funcs[50]? = some Try.f50 from Try.func50) rfl rfl (by decide +kernel) (Nat.le_of_ble_eq_true rfl) ?_
 unfold sender_Lost at h0
 refine awp_nr [0] (fun _ => rfl) fun tz => ?_
 refine awp_regW fun KK hKK => ?_
 refine xw_id ?_
 try simp only [go_sem, Nat.reduceEqDiff, reduceIte, Nat.reduceAdd, Nat.reduceMul, Nat.reduceSub, Nat.reduceLT, Nat.reduceLeDiff]
 refine hKK _ _ (Wk.refl _ _ _) ?_; clear hKK KK
 refine awp_nr [1,2] (fun _ => rfl) fun tz => ?_
 refine awp_regW fun KK hKK => ?_
 refine xw_id ?_
 obtain ⟨x42, bx42, h0⟩ := bnd h0
 try simp only [go_sem, Nat.reduceEqDiff, reduceIte, Nat.reduceAdd, Nat.reduceMul, Nat.reduceSub, Nat.reduceLT, Nat.reduceLeDiff]
 refine xcall_M (sender_open_m a0 true bx42) ?_; try dsimp only
 try refine xw_id ?_
 try simp only [go_sem, Nat.reduceEqDiff, reduceIte, Nat.reduceAdd, Nat.reduceMul, Nat.reduceSub, Nat.reduceLT, Nat.reduceLeDiff]
 refine hKK _ (sender_Lost_S0 x42) (by refine Wk.canonD [] [] [some 0, some 10, some 1] rfl trivial rfl (tmOU 2 (tmOU 1 (tmOU 0 tmO0 rfl List.not_mem_nil (by simp only [upd_get, Nat.reduceEqDiff, reduceIte, Nat.reduceAdd, Nat.reduceMul, Nat.reduceSub, Nat.reduceLT, Nat.reduceLeDiff, if_true, if_false] <;> rfl) (e_Sender_tmx (by rfl) (Tm.refL rfl ?_))) rfl List.not_mem_nil (by simp only [upd_get, Nat.reduceEqDiff, reduceIte, Nat.reduceAdd, Nat.reduceMul, Nat.reduceSub, Nat.reduceLT, Nat.reduceLeDiff, if_true, if_false] <;> rfl) (TmL.of_eq (by first | rfl | (simp only [List.flatMap_append, List.flatMap_cons, List.flatMap_nil, List.map_append, List.map_cons, List.map_nil, List.append_nil, List.nil_append]; done) | (simp only [List.flatMap_append, List.flatMap_cons, List.flatMap_nil, List.map_append, List.map_cons, List.map_nil, List.append_nil, List.nil_append]; rfl)) (c_Unacked _))) rfl List.not_mem_nil (by simp only [upd_get, Nat.reduceEqDiff, reduceIte, Nat.reduceAdd, Nat.reduceMul, Nat.reduceSub, Nat.reduceLT, Nat.reduceLeDiff, if_true, if_false] <;> rfl) (e_Sender_tmx (by rfl) (Tm.v _))) (tmAllU 4 (tmAllU 2 (tmAllU 1 tmAll0 (Tm.ptr rfl)) (Tm.ptr rfl)) (Tm.v _)); all_goals (first | rfl | (simp only [List.length_take]; omega) | (simp only [List.length_append, List.length_cons, List.length_nil, List.length_modify, List.length_set, Nat.zero_add]; done) | (simp only [List.length_append, List.length_take, List.length_drop, List.length_cons, List.length_nil, List.length_modify, List.length_set, Nat.zero_add]; omega))) ?_; clear hKK KK
 unfold sender_Lost_S0
 refine awp_assoc ?_
 refine awp_nr [1,2,4] (fun _ => rfl) fun tz => ?_
 refine awp_regW fun KK hKK => ?_
 refine xw_id ?_
 try simp only [go_sem, Nat.reduceEqDiff, reduceIte, Nat.reduceAdd, Nat.reduceMul, Nat.reduceSub, Nat.reduceLT, Nat.reduceLeDiff]
 refine hKK _ _ (Wk.refl _ _ _) ?_; clear hKK KK
 refine awp_cond (b := (x42.2 != 0)) rfl (fun h1 => ?_) (fun h1 => ?_)
 ·
  have h0 := cT h0 h1
  refine awp_assoc ?_
  refine awp_nr [2,4] (fun _ => rfl) fun tz => ?_
  refine awp_regW fun KK hKK => ?_
  refine xw_id ?_
  try simp only [go_sem, Nat.reduceEqDiff, reduceIte, Nat.reduceAdd, Nat.reduceMul, Nat.reduceSub, Nat.reduceLT, Nat.reduceLeDiff]
  refine hKK _ _ (Wk.refl _ _ _) ?_; clear hKK KK
  refine awp_ret ?_
  obtain rfl := someInj h0
  refine endW_i ?_
  refine end_ret0 rs50 (by simp only [go_sem, resV, resAll, resOf, packR, Nat.reduceEqDiff, reduceIte, Nat.reduceAdd, Nat.reduceMul, Nat.reduceSub, Nat.reduceLT, Nat.reduceLeDiff]; rfl) ?_
  refine Res.mk [] [none] rfl (resON resO0) (Tm.tup (TmL.cons (Tm.agg (e_Sender_tmx (by rfl) (Tm.thaw _ _ _))) (TmL.cons (Tm.v _) TmL.nil)))
 ·
  have h0 := cF h0 h1
  refine awp_skip ?_
  refine awp_nr [1,2] (fun _ => rfl) fun tz => ?_
  refine awp_regW fun KK hKK => ?_
  refine xw_id ?_
  obtain ⟨x43, bx43, h0⟩ := bnd h0
  try simp only [go_sem, Nat.reduceEqDiff, reduceIte, Nat.reduceAdd, Nat.reduceMul, Nat.reduceSub, Nat.reduceLT, Nat.reduceLeDiff]
  refine xcall_O [0, 1] (sender_land_io x42.1 bx43) (by decide) (by decide) ⟨(by first | rfl | (simp only [go_sem, Nat.reduceEqDiff, reduceIte, Nat.reduceAdd, Nat.reduceMul, Nat.reduceSub, Nat.reduceLT, Nat.reduceLeDiff]; done) | (simp only [go_sem, Nat.reduceEqDiff, reduceIte, Nat.reduceAdd, Nat.reduceMul, Nat.reduceSub, Nat.reduceLT, Nat.reduceLeDiff]; rfl)), (by first | rfl | (simp only [go_sem, Nat.reduceEqDiff, reduceIte, Nat.reduceAdd, Nat.reduceMul, Nat.reduceSub, Nat.reduceLT, Nat.reduceLeDiff]; done) | (simp only [go_sem, Nat.reduceEqDiff, reduceIte, Nat.reduceAdd, Nat.reduceMul, Nat.reduceSub, Nat.reduceLT, Nat.reduceLeDiff]; rfl)), trivial⟩ (by first | rfl | (simp only [go_sem, Nat.reduceEqDiff, reduceIte, Nat.reduceAdd, Nat.reduceMul, Nat.reduceSub, Nat.reduceLT, Nat.reduceLeDiff]; done) | (simp only [go_sem, Nat.reduceEqDiff, reduceIte, Nat.reduceAdd, Nat.reduceMul, Nat.reduceSub, Nat.reduceLT, Nat.reduceLeDiff]; rfl)) ?_; try dsimp only
  try refine xw_id ?_
  try simp only [go_sem, Nat.reduceEqDiff, reduceIte, Nat.reduceAdd, Nat.reduceMul, Nat.reduceSub, Nat.reduceLT, Nat.reduceLeDiff, List.length_cons, List.length_nil]
  refine hKK _ _ (Wk.refl _ _ _) ?_; clear hKK KK
  refine awp_nr [1,2] (fun _ => rfl) fun tz => ?_
  refine awp_regW fun KK hKK => ?_
  refine xw_id ?_
  try simp only [go_sem, Nat.reduceEqDiff, reduceIte, Nat.reduceAdd, Nat.reduceMul, Nat.reduceSub, Nat.reduceLT, Nat.reduceLeDiff]
  refine hKK _ _ (Wk.refl _ _ _) ?_; clear hKK KK
  refine awp_ret1 ?_
  obtain rfl := someInj h0
  refine endW_i ?_
  refine end_ret0 rs50 (by simp only [go_sem, resV, resAll, resOf, packR, Nat.reduceEqDiff, reduceIte, Nat.reduceAdd, Nat.reduceMul, Nat.reduceSub, Nat.reduceLT, Nat.reduceLeDiff]; rfl) ?_
  refine Res.mk [] [some 1] rfl (resOU List.not_mem_nil (by simp only [upd_get, Nat.reduceEqDiff, reduceIte, Nat.reduceAdd, Nat.reduceMul, Nat.reduceSub, Nat.reduceLT, Nat.reduceLeDiff, if_true, if_false] <;> rfl) (TmL.of_eq (by first | rfl | (simp only [List.flatMap_append, List.flatMap_cons, List.flatMap_nil, List.map_append, List.map_cons, List.map_nil, List.append_nil, List.nil_append]; done) | (simp only [List.flatMap_append, List.flatMap_cons, List.flatMap_nil, List.map_append, List.map_cons, List.map_nil, List.append_nil, List.nil_append]; rfl)) (c_Unacked _)) resO0) (Tm.tup (TmL.cons (Tm.agg (e_Sender_tmx (by rfl) (Tm.refL rfl ?_))) (TmL.cons (Tm.v _) TmL.nil)))
  all_goals (first | rfl | (simp only [List.length_take]; omega) | (simp only [List.length_append, List.length_cons, List.length_nil, List.length_modify, List.length_set, Nat.zero_add]; done) | (simp only [List.length_append, List.length_take, List.length_drop, List.length_cons, List.length_nil, List.length_modify, List.length_set, Nat.zero_add]; omega))

theorem sender_Lost_m (a0 : Sender) {r : (Sender × Int)} (h0 : sender_Lost a0 = some r) : SndM K 50 [(.agg (E_Sender a0))] (fun q => (.tup [(.agg (e_Sender r.1 (.ref (q 0) 0 r.1.Out.length 44))), (vi r.2)])) [(List.flatMap E_Unacked r.1.Out)] :=
 fun hs => Snd.of_newM (RenM.tup (RenML.cons (RenM.agg (e_Sender_ren _ (RenM.ref 0 0 _ _))) (RenML.cons (RenM.const (Clean.v _)) RenML.nil))) (rows_all_cons (c_Unacked _) rows_all_nil) (clean_cons (Clean.agg (E_Sender_clean _)) clean_nil) (sender_Lost_r a0 h0) hs

theorem sender_Lost_e (a0 : Sender) {r : (Sender × Int)} (h0 : sender_Lost a0 = some r) (fr : Nat) (hs : HS) : SndE K 50 [(.agg (E_Sender a0))] hs fr ⟨(fun q : Nat → Nat => (.tup [(.agg (e_Sender r.1 (.ref (q 0) 0 r.1.Out.length 44))), (vi r.2)])) fun _ => fr, .new (List.flatMap E_Unacked r.1.Out)⟩ :=
 SndE.of_res (RenM.tup (RenML.cons (RenM.agg (e_Sender_ren _ (RenM.ref 0 0 _ _))) (RenML.cons (RenM.const (Clean.v _)) RenML.nil))) (c_Unacked _) (clean_cons (Clean.agg (E_Sender_clean _)) clean_nil) (fun a b h => by simp only [h]) (sender_Lost_r a0 h0) hs fr

theorem sender_Lost_p (a0 : Sender) {r : (Sender × Int)} (h0 : sender_Lost a0 = some r) : SndP K 50 [(.agg (E_Sender a0))] (.tup [(.agg (E_Sender r.1)), (vi r.2)]) :=
 SndM.pure (sender_Lost_m a0 h0) (Clean.tup (clean_cons (Clean.agg (E_Sender_clean _)) (clean_cons (Clean.v _) clean_nil))) (clean_cons (Clean.agg (E_Sender_clean _)) clean_nil) (by simp only [go_sem, newL_n, newL_c, upd_get, fz, nilS, cond_true, cond_false, List.drop_zero, List.take_length, List.length_map, ble_self, Nat.reduceEqDiff, reduceIte, Nat.reduceAdd, Nat.reduceMul, Nat.reduceSub, Nat.reduceLT, Nat.reduceLeDiff] <;> rfl)

end Go.AX.Z.TS

/-! (TSW sender Expire 1) -/

set_option linter.unusedSimpArgs false
set_option linter.unusedVariables false
set_option maxHeartbeats 4000000
namespace Go.AX.Z.TS
open Go.AX Go.Proofs
attribute [local irreducible] awp xw xop xcall gsp ob xd xdop xcallD seqQ loopQ blkQ endQ


theorem sender_Expire_1_p (a0 : Unacked) (a1 : Sender) (a2 : Int) {r : Bool} (h0 : sender_Expire_1 a0 a1 a2 = some r) : SndP K 48 [(.agg (E_Unacked a0)), (.iptr (E_Sender a1) 0), (.iptr [(vi a2)] 0)] (vb r) := by
 refine SndP.of_walkW hC (Clean.v _) (clean_cons (Clean.agg (E_Unacked_clean _)) (clean_cons (Clean.iptr (E_Sender_clean _)) (clean_cons (Clean.iptr (clean_cons (Clean.v _) clean_nil)) clean_nil))) (show K.P.funcs[48]? = some Try.f48 from Try.func48) rfl rfl (by decide +kernel) (Nat.le_of_ble_eq_true rfl) ?_
 unfold sender_Expire_1 at h0
 refine awp_nr [0,1,2] (fun _ => rfl) fun tz => ?_
 refine awp_regW fun KK hKK => ?_
 refine xw_id ?_
 try simp only [go_sem, Nat.reduceEqDiff, reduceIte, Nat.reduceAdd, Nat.reduceMul, Nat.reduceSub, Nat.reduceLT, Nat.reduceLeDiff]
 refine hKK _ _ (Wk.refl _ _ _) ?_; clear hKK KK
 refine awp_nr [1,2,3] (fun _ => rfl) fun tz => ?_
 refine awp_regW fun KK hKK => ?_
 refine xw_id ?_
 refine xw_stop 4 (by simp only [go_sem]; rfl) (by simp only [go_sem]; rfl) (by rfl) fun K1 hK1 => ?_
 refine xw_id ?_
 try simp only [go_sem, Nat.reduceEqDiff, reduceIte, Nat.reduceAdd, Nat.reduceMul, Nat.reduceSub, Nat.reduceLT, Nat.reduceLeDiff]
 refine hK1 _ ?_; clear hK1 K1
 refine xw_cut 15 [(23, (vb ((!a0.Flying) && ((a0.Tries == a1.Limit) || (decide ((IntKind.wrap .i64 (a0.At + a1.Life)) ≤ a2))))))] (by simp only [go_sem]; rfl) (by simp only [go_sem]; rfl) (by rfl) (fun K1 hK1 => ?_) fun tz => ?_
 ·
  refine xw_id ?_
  rcases Bool.eq_false_or_eq_true (!a0.Flying) with h1 | h1
  ·
   refine xw_stop 6 (by simp only [go_sem]; rfl) (by simp only [go_sem]; rfl) (by rfl) fun K1 hK1 => ?_
   refine xw_id ?_
   try simp only [go_sem, Nat.reduceEqDiff, reduceIte, Nat.reduceAdd, Nat.reduceMul, Nat.reduceSub, Nat.reduceLT, Nat.reduceLeDiff, h1]
   refine hK1 _ ?_; clear hK1 K1
   refine xw_cut 8 [(8, (vb true)), (22, (vb ((a0.Tries == a1.Limit) || (decide ((IntKind.wrap .i64 (a0.At + a1.Life)) ≤ a2)))))] (by simp only [go_sem]; rfl) (by simp only [go_sem]; rfl) (by rfl) (fun K1 hK1 => ?_) fun tz => ?_
   ·
    refine xw_id ?_
    rcases Bool.eq_false_or_eq_true (a0.Tries == a1.Limit) with h2 | h2
    ·
     try simp only [go_sem, Nat.reduceEqDiff, reduceIte, Nat.reduceAdd, Nat.reduceMul, Nat.reduceSub, Nat.reduceLT, Nat.reduceLeDiff, h1, h2]
     exact hK1 _ ⟨rfl, rfl, (by first | rfl | (rw [h2]; rfl) | (simp only [h2, Bool.true_and, Bool.false_and, Bool.true_or, Bool.false_or, cond_true, cond_false]; done)), trivial⟩
    ·
     try simp only [go_sem, Nat.reduceEqDiff, reduceIte, Nat.reduceAdd, Nat.reduceMul, Nat.reduceSub, Nat.reduceLT, Nat.reduceLeDiff, h1, h2]
     exact hK1 _ ⟨rfl, rfl, (by first | rfl | (rw [h2]; rfl) | (simp only [h2, Bool.true_and, Bool.false_and, Bool.true_or, Bool.false_or, cond_true, cond_false]; done)), trivial⟩
   ·
    refine xw_id ?_
    try simp only [go_sem, Nat.reduceEqDiff, reduceIte, Nat.reduceAdd, Nat.reduceMul, Nat.reduceSub, Nat.reduceLT, Nat.reduceLeDiff, h1]
    exact hK1 _ ⟨rfl, (by first | rfl | (rw [h1]; rfl) | (simp only [h1, Bool.true_and, Bool.false_and, Bool.true_or, Bool.false_or, cond_true, cond_false]; done)), trivial⟩
  ·
   try simp only [go_sem, Nat.reduceEqDiff, reduceIte, Nat.reduceAdd, Nat.reduceMul, Nat.reduceSub, Nat.reduceLT, Nat.reduceLeDiff, h1]
   exact hK1 _ ⟨rfl, (by first | rfl | (rw [h1]; rfl) | (simp only [h1, Bool.true_and, Bool.false_and, Bool.true_or, Bool.false_or, cond_true, cond_false]; done)), trivial⟩
 ·
  refine xw_id ?_
  try simp only [go_sem, Nat.reduceEqDiff, reduceIte, Nat.reduceAdd, Nat.reduceMul, Nat.reduceSub, Nat.reduceLT, Nat.reduceLeDiff]
  refine hKK _ _ (Wk.refl _ _ _) ?_; clear hKK KK
  refine awp_ret1 ?_
  obtain rfl := someInj h0
  refine endW_i ?_
  refine end_ret0 rs48 (rfl) ?_
  try simp only [go_sem, Nat.reduceEqDiff, reduceIte, Nat.reduceAdd, Nat.reduceMul, Nat.reduceSub, Nat.reduceLT, Nat.reduceLeDiff, fz, nilS, packR, List.take_nil, List.take_length, List.length_map, List.length_append, cond_true, cond_false, Nat.ble_eq, ble_self, List.map_append]
  all_goals rfl

end Go.AX.Z.TS

/-! (TSW sender remove 1 4) -/

set_option linter.unusedSimpArgs false
set_option linter.unusedVariables false
set_option maxHeartbeats 4000000
namespace Go.AX.Z.TS
open Go.AX Go.Proofs
attribute [local irreducible] awp xw xop xcall gsp ob xd xdop xcallD seqQ loopQ blkQ endQ


theorem sender_remove_1_4_io (a0 : Unacked) (a1 : Sender) (a2 : Int) (a3 : List Int) {r : (Bool × List Int)} (h0 : sender_remove_1_4 a0 a1 a2 a3 = some r) : SndIO K 55 6 (fun q => [(.agg (e_Unacked a0 (.imm (List.map vu a0.Frame.Body) a0.Frame.Body.length))), (.ptr (q 0) 0), (.ptr (q 1) 0)]) [(fun q => [(.clo 48 [] [(.ptr (q 2) 0), (.ptr (q 3) 0)])]), (fun q => [(.ref (q 4) 0 a3.length 1)]), (fun q => (e_Sender a1 (.ref (q 5) 0 a1.Out.length 44))), (fun q => [(vi a2)]), (fun q => (List.map vi a3)), (fun q => (List.flatMap E_Unacked a1.Out))] (fun q => (vb r.1)) [(some (fun q => [(.clo 48 [] [(.ptr (q 2) 0), (.ptr (q 3) 0)])])), (some (fun q => [(.ref (q 6) 0 ((r.2).length) 1)])), (some (fun q => (e_Sender a1 (.ref (q 5) 0 a1.Out.length 44)))), (some (fun q => [(vi a2)])), none, (some (fun q => (List.flatMap E_Unacked a1.Out))), (some (fun q => (List.map vi r.2)))] := by
 refine SndIO.of_walkW hC (RenML.cons (RenM.agg (e_Unacked_ren _ (RenM.const (Clean.imm (vu_clean _))))) (RenML.cons (RenM.ptr 0 0) (RenML.cons (RenM.ptr 1 0) RenML.nil))) (tpl_cons (RenML.cons (RenM.clo RenML.nil (RenML.cons (RenM.ptr 2 0) (RenML.cons (RenM.ptr 3 0) RenML.nil))) RenML.nil) (tpl_cons (RenML.cons (RenM.ref 4 0 _ _) RenML.nil) (tpl_cons (e_Sender_ren _ (RenM.ref 5 0 _ _)) (tpl_cons (RenML.cons (RenM.const (Clean.v _)) RenML.nil) (tpl_cons (RenML.const (vi_clean _)) (tpl_cons (RenML.const (c_Unacked _)) tpl_nil)))))) (otpl_some (RenML.cons (RenM.clo RenML.nil (RenML.cons (RenM.ptr 2 0) (RenML.cons (RenM.ptr 3 0) RenML.nil))) RenML.nil) (otpl_some (RenML.cons (RenM.ref 6 0 _ _) RenML.nil) (otpl_some (e_Sender_ren _ (RenM.ref 5 0 _ _)) (otpl_some (RenML.cons (RenM.const (Clean.v _)) RenML.nil) (otpl_none (otpl_some (RenML.const (c_Unacked _)) (otpl_some (RenML.const (vi_clean _)) otpl_nil))))))) (RenM.const (Clean.v _)) rfl (Nat.le_of_ble_eq_true rfl) (show K.P.funcs[55]? = some Try.f55 from Try.func55) rfl rfl (by decide +kernel) (Nat.le_of_ble_eq_true rfl) ?_
 unfold sender_remove_1_4 at h0
 refine awp_nr [0,1,2] (fun _ => rfl) fun tz => ?_
 refine awp_regW fun KK hKK => ?_
 refine xw_id ?_
 try simp only [go_sem, Nat.reduceEqDiff, reduceIte, Nat.reduceAdd, Nat.reduceMul, Nat.reduceSub, Nat.reduceLT, Nat.reduceLeDiff]
 refine hKK _ _ (Wk.refl _ _ _) ?_; clear hKK KK
 refine awp_nr [1,2,3] (fun _ => rfl) fun tz => ?_
 refine awp_regW fun KK hKK => ?_
 refine xw_id ?_
 obtain ⟨x49, bx49, h0⟩ := bnd h0
 try simp only [go_sem, Nat.reduceEqDiff, reduceIte, Nat.reduceAdd, Nat.reduceMul, Nat.reduceSub, Nat.reduceLT, Nat.reduceLeDiff]
 refine xcall_L (by first | (simp only [go_sem, fz, Nat.reduceEqDiff, reduceIte, Nat.reduceAdd, Nat.reduceMul, Nat.reduceSub, Nat.reduceLT, Nat.reduceLeDiff]; done) | (simp only [go_sem, fz, Nat.reduceEqDiff, reduceIte, Nat.reduceAdd, Nat.reduceMul, Nat.reduceSub, Nat.reduceLT, Nat.reduceLeDiff]; rfl)) (sender_Expire_1_p a0 a1 a2 bx49) (Bare.v _) ?_; try dsimp only
 try refine xw_id ?_
 try simp only [go_sem, Nat.reduceEqDiff, reduceIte, Nat.reduceAdd, Nat.reduceMul, Nat.reduceSub, Nat.reduceLT, Nat.reduceLeDiff]
 refine hKK _ _ (Wk.refl _ _ _) ?_; clear hKK KK
 refine awp_assoc ?_
 refine awp_nr [2,3,5] (fun _ => rfl) fun tz => ?_
 refine awp_regW fun KK hKK => ?_
 refine xw_id ?_
 try simp only [go_sem, Nat.reduceEqDiff, reduceIte, Nat.reduceAdd, Nat.reduceMul, Nat.reduceSub, Nat.reduceLT, Nat.reduceLeDiff]
 refine hKK _ _ (Wk.refl _ _ _) ?_; clear hKK KK
 refine awp_cond (b := x49) rfl (fun h1 => ?_) (fun h1 => ?_)
 ·
  have h0 := cT h0 h1
  refine awp_nr [2,3,5] (fun _ => rfl) fun tz => ?_
  refine awp_regW fun KK hKK => ?_
  refine xw_id ?_
  obtain ⟨x50, bx50, h0⟩ := bnd h0
  have bx50 := chk_some bx50
  simp only [Bool.and_eq_true, decide_eq_true_eq] at bx50
  have gx50_0 := bx50
  try simp only [go_sem, Nat.reduceEqDiff, reduceIte, Nat.reduceAdd, Nat.reduceMul, Nat.reduceSub, Nat.reduceLT, Nat.reduceLeDiff, Int.reduceToNat, Int.reduceBEq, Int.reduceBNe, Int.reduceLT, Int.reduceLE, Int.reduceAdd, Int.reduceSub, Int.reduceMul, Int.reduceNeg, Int.reduceEq, Int.reduceNe, gx50_0]
  refine hKK _ _ (Wk.refl _ _ _) ?_; clear hKK KK
  refine awp_nr [5] (fun _ => rfl) fun tz => ?_
  refine awp_regW fun KK hKK => ?_
  refine xw_id ?_
  try simp only [go_sem, Nat.reduceEqDiff, reduceIte, Nat.reduceAdd, Nat.reduceMul, Nat.reduceSub, Nat.reduceLT, Nat.reduceLeDiff]
  refine hKK _ _ (Wk.refl _ _ _) ?_; clear hKK KK
  refine awp_ret1 ?_
  obtain rfl := someInj h0
  refine endW_i ?_
  refine end_ret0 rs55 (rfl) ?_
  refine ResIO.mk [] [some 0, some 1, some 2, some 3, some 4, some 5, some 19] rfl (resEU List.not_mem_nil (by simp only [upd_get, Nat.reduceEqDiff, reduceIte, Nat.reduceAdd, Nat.reduceMul, Nat.reduceSub, Nat.reduceLT, Nat.reduceLeDiff, if_true, if_false] <;> rfl) (TmL.cons (Tm.clo TmL.nil (TmL.cons (Tm.ptr rfl) (TmL.cons (Tm.ptr rfl) TmL.nil))) TmL.nil) (resEU List.not_mem_nil (by simp only [upd_get, Nat.reduceEqDiff, reduceIte, Nat.reduceAdd, Nat.reduceMul, Nat.reduceSub, Nat.reduceLT, Nat.reduceLeDiff, if_true, if_false] <;> rfl) (TmL.cons (Tm.refL rfl ?_) TmL.nil) (resEU List.not_mem_nil (by simp only [upd_get, Nat.reduceEqDiff, reduceIte, Nat.reduceAdd, Nat.reduceMul, Nat.reduceSub, Nat.reduceLT, Nat.reduceLeDiff, if_true, if_false] <;> rfl) (e_Sender_tmx (by rfl) (Tm.refL rfl ?_)) (resEU List.not_mem_nil (by simp only [upd_get, Nat.reduceEqDiff, reduceIte, Nat.reduceAdd, Nat.reduceMul, Nat.reduceSub, Nat.reduceLT, Nat.reduceLeDiff, if_true, if_false] <;> rfl) (TmL.cons (Tm.v _) TmL.nil) (resED (resEU List.not_mem_nil (by simp only [upd_get, Nat.reduceEqDiff, reduceIte, Nat.reduceAdd, Nat.reduceMul, Nat.reduceSub, Nat.reduceLT, Nat.reduceLeDiff, if_true, if_false] <;> rfl) (TmL.of_eq (by first | rfl | (simp only [List.flatMap_append, List.flatMap_cons, List.flatMap_nil, List.map_append, List.map_cons, List.map_nil, List.append_nil, List.nil_append]; done) | (simp only [List.flatMap_append, List.flatMap_cons, List.flatMap_nil, List.map_append, List.map_cons, List.map_nil, List.append_nil, List.nil_append]; rfl)) (c_Unacked _)) (resEU List.not_mem_nil (by simp only [upd_get, Nat.reduceEqDiff, reduceIte, Nat.reduceAdd, Nat.reduceMul, Nat.reduceSub, Nat.reduceLT, Nat.reduceLeDiff, if_true, if_false] <;> rfl) (TmL.of_eq (by first | rfl | (simp only [List.flatMap_append, List.flatMap_cons, List.flatMap_nil, List.map_append, List.map_cons, List.map_nil, List.append_nil, List.nil_append]; done) | (simp only [List.flatMap_append, List.flatMap_cons, List.flatMap_nil, List.map_append, List.map_cons, List.map_nil, List.append_nil, List.nil_append]; rfl)) (vi_clean _)) resE0))))))) (Tm.v _)
  all_goals (first | rfl | (simp only [List.length_take]; omega) | (simp only [List.length_append, List.length_cons, List.length_nil, List.length_modify, List.length_set, Nat.zero_add]; done) | (simp only [List.length_append, List.length_take, List.length_drop, List.length_cons, List.length_nil, List.length_modify, List.length_set, Nat.zero_add]; omega))
 ·
  have h0 := cF h0 h1
  refine awp_skip ?_
  refine awp_nr [5] (fun _ => rfl) fun tz => ?_
  refine awp_regW fun KK hKK => ?_
  refine xw_id ?_
  try simp only [go_sem, Nat.reduceEqDiff, reduceIte, Nat.reduceAdd, Nat.reduceMul, Nat.reduceSub, Nat.reduceLT, Nat.reduceLeDiff]
  refine hKK _ _ (Wk.refl _ _ _) ?_; clear hKK KK
  refine awp_ret1 ?_
  obtain rfl := someInj h0
  refine endW_i ?_
  refine end_ret0 rs55 (rfl) ?_
  refine ResIO.mk [] [some 0, some 1, some 2, some 3, some 4, some 5, some 4] rfl (resEU List.not_mem_nil (by simp only [upd_get, Nat.reduceEqDiff, reduceIte, Nat.reduceAdd, Nat.reduceMul, Nat.reduceSub, Nat.reduceLT, Nat.reduceLeDiff, if_true, if_false] <;> rfl) (TmL.cons (Tm.clo TmL.nil (TmL.cons (Tm.ptr rfl) (TmL.cons (Tm.ptr rfl) TmL.nil))) TmL.nil) (resEU List.not_mem_nil (by simp only [upd_get, Nat.reduceEqDiff, reduceIte, Nat.reduceAdd, Nat.reduceMul, Nat.reduceSub, Nat.reduceLT, Nat.reduceLeDiff, if_true, if_false] <;> rfl) (TmL.cons (Tm.refL rfl ?_) TmL.nil) (resEU List.not_mem_nil (by simp only [upd_get, Nat.reduceEqDiff, reduceIte, Nat.reduceAdd, Nat.reduceMul, Nat.reduceSub, Nat.reduceLT, Nat.reduceLeDiff, if_true, if_false] <;> rfl) (e_Sender_tmx (by rfl) (Tm.refL rfl ?_)) (resEU List.not_mem_nil (by simp only [upd_get, Nat.reduceEqDiff, reduceIte, Nat.reduceAdd, Nat.reduceMul, Nat.reduceSub, Nat.reduceLT, Nat.reduceLeDiff, if_true, if_false] <;> rfl) (TmL.cons (Tm.v _) TmL.nil) (resED (resEU List.not_mem_nil (by simp only [upd_get, Nat.reduceEqDiff, reduceIte, Nat.reduceAdd, Nat.reduceMul, Nat.reduceSub, Nat.reduceLT, Nat.reduceLeDiff, if_true, if_false] <;> rfl) (TmL.of_eq (by first | rfl | (simp only [List.flatMap_append, List.flatMap_cons, List.flatMap_nil, List.map_append, List.map_cons, List.map_nil, List.append_nil, List.nil_append]; done) | (simp only [List.flatMap_append, List.flatMap_cons, List.flatMap_nil, List.map_append, List.map_cons, List.map_nil, List.append_nil, List.nil_append]; rfl)) (c_Unacked _)) (resEU List.not_mem_nil (by simp only [upd_get, Nat.reduceEqDiff, reduceIte, Nat.reduceAdd, Nat.reduceMul, Nat.reduceSub, Nat.reduceLT, Nat.reduceLeDiff, if_true, if_false] <;> rfl) (TmL.of_eq (by first | rfl | (simp only [List.flatMap_append, List.flatMap_cons, List.flatMap_nil, List.map_append, List.map_cons, List.map_nil, List.append_nil, List.nil_append]; done) | (simp only [List.flatMap_append, List.flatMap_cons, List.flatMap_nil, List.map_append, List.map_cons, List.map_nil, List.append_nil, List.nil_append]; rfl)) (vi_clean _)) resE0))))))) (Tm.v _)
  all_goals (first | rfl | (simp only [List.length_take]; omega) | (simp only [List.length_append, List.length_cons, List.length_nil, List.length_modify, List.length_set, Nat.zero_add]; done) | (simp only [List.length_append, List.length_take, List.length_drop, List.length_cons, List.length_nil, List.length_modify, List.length_set, Nat.zero_add]; omega))

end Go.AX.Z.TS

/-! (TSW slices IndexFunc api Unacked api Unacked 2) -/

set_option linter.unusedSimpArgs false
set_option linter.unusedVariables false
set_option maxHeartbeats 4000000
namespace Go.AX.Z.TS
open Go.AX Go.Proofs
attribute [local irreducible] awp xw xop xcall gsp ob xd xdop xcallD seqQ loopQ blkQ endQ

def slices_IndexFunc_api_Unacked_api_Unacked_2_S0 (a0 : Sender) (a1 : Int) (d47 : (List Int)) : AS :=
 { objs := (upd (upd (upd (upd (upd (upd (fun _ => .dead) 0 (.live (List.flatMap E_Unacked a0.Out))) 1 (.live [(.clo 48 [] [(.ptr 3 0), (.ptr 4 0)])])) 2 (.live [(.ref 5 0 ((d47).length) 1)])) 3 (.live (e_Sender a0 (.ref 0 0 a0.Out.length 44)))) 4 (.live [(vi a1)])) 5 (.live (List.map vi d47))), next := 6, tmps := (fun _ => .unk) }

def slices_IndexFunc_api_Unacked_api_Unacked_2_S1 (a0 : Sender) (a1 : Int) (d49 : (List Int × Int)) : AS :=
 { objs := (upd (upd (upd (upd (upd (upd (fun _ => .dead) 0 (.live (List.flatMap E_Unacked a0.Out))) 1 (.live [(.clo 48 [] [(.ptr 3 0), (.ptr 4 0)])])) 2 (.live [(.ref 5 0 ((d49.1).length) 1)])) 3 (.live (e_Sender a0 (.ref 0 0 a0.Out.length 44)))) 4 (.live [(vi a1)])) 5 (.live (List.map vi d49.1))), next := 6, tmps := (upd (upd (upd (upd (fun _ => .unk) 0 (.ref 0 0 a0.Out.length 44)) 1 (.clo 55 [] [(.ptr 1 0), (.ptr 2 0)])) 7 (vi ((a0.Out.length : Nat) : Int))) 8 (vi d49.2)) }

theorem slices_IndexFunc_api_Unacked_api_Unacked_2_io (a0 : Sender) (a1 : Int) {r : (Int × List Int)} (h0 : slices_IndexFunc_api_Unacked_api_Unacked_2 a0 a1 = some r) : SndIO K 56 5 (fun q => [(.ref (q 0) 0 a0.Out.length 44), (.clo 55 [] [(.ptr (q 1) 0), (.ptr (q 2) 0)])]) [(fun q => (List.flatMap E_Unacked a0.Out)), (fun q => [(.clo 48 [] [(.ptr (q 3) 0), (.ptr (q 4) 0)])]), (fun q => [vnil]), (fun q => (e_Sender a0 (.ref (q 0) 0 a0.Out.length 44))), (fun q => [(vi a1)])] (fun q => (vi r.1)) [(some (fun q => (List.flatMap E_Unacked a0.Out))), (some (fun q => [(.clo 48 [] [(.ptr (q 3) 0), (.ptr (q 4) 0)])])), (some (fun q => [(.ref (q 5) 0 ((r.2).length) 1)])), (some (fun q => (e_Sender a0 (.ref (q 0) 0 a0.Out.length 44)))), (some (fun q => [(vi a1)])), (some (fun q => (List.map vi r.2)))] := by
 refine SndIO.of_walkW hC (RenML.cons (RenM.ref 0 0 _ _) (RenML.cons (RenM.clo RenML.nil (RenML.cons (RenM.ptr 1 0) (RenML.cons (RenM.ptr 2 0) RenML.nil))) RenML.nil)) (tpl_cons (RenML.const (c_Unacked _)) (tpl_cons (RenML.cons (RenM.clo RenML.nil (RenML.cons (RenM.ptr 3 0) (RenML.cons (RenM.ptr 4 0) RenML.nil))) RenML.nil) (tpl_cons (RenML.cons (RenM.const (Clean.v _)) RenML.nil) (tpl_cons (e_Sender_ren _ (RenM.ref 0 0 _ _)) (tpl_cons (RenML.cons (RenM.const (Clean.v _)) RenML.nil) tpl_nil))))) (otpl_some (RenML.const (c_Unacked _)) (otpl_some (RenML.cons (RenM.clo RenML.nil (RenML.cons (RenM.ptr 3 0) (RenML.cons (RenM.ptr 4 0) RenML.nil))) RenML.nil) (otpl_some (RenML.cons (RenM.ref 5 0 _ _) RenML.nil) (otpl_some (e_Sender_ren _ (RenM.ref 0 0 _ _)) (otpl_some (RenML.cons (RenM.const (Clean.v _)) RenML.nil) (otpl_some (RenML.const (vi_clean _)) otpl_nil)))))) (RenM.const (Clean.v _)) rfl (Nat.le_of_ble_eq_true rfl) (show K.P.funcs[56]? = some Try.f56 from Try.func56) rfl rfl (by decide +kernel) (Nat.le_of_ble_eq_true rfl) ?_
 unfold slices_IndexFunc_api_Unacked_api_Unacked_2 at h0
 refine awp_nr [0,1] (fun _ => rfl) fun tz => ?_
 refine awp_regW fun KK hKK => ?_
 refine xw_id ?_
 try simp only [go_sem, Nat.reduceEqDiff, reduceIte, Nat.reduceAdd, Nat.reduceMul, Nat.reduceSub, Nat.reduceLT, Nat.reduceLeDiff]
 refine hKK _ _ (Wk.refl _ _ _) ?_; clear hKK KK
 refine awp_assoc ?_
 refine awp_nr [0,1] (fun _ => rfl) fun tz => ?_
 refine awp_regW fun KK hKK => ?_
 refine xw_id ?_
 try simp only [go_sem, Nat.reduceEqDiff, reduceIte, Nat.reduceAdd, Nat.reduceMul, Nat.reduceSub, Nat.reduceLT, Nat.reduceLeDiff, Int.reduceToNat, Int.reduceBEq, Int.reduceBNe, Int.reduceLT, Int.reduceLE, Int.reduceAdd, Int.reduceSub, Int.reduceMul, Int.reduceNeg, Int.reduceEq, Int.reduceNe]
 refine hKK _ _ (Wk.refl _ _ _) ?_; clear hKK KK
 obtain ⟨o48, hi1, h0⟩ := bnd h0
 refine awp_cut (fun d47 : (List Int) => o48 = Ex.go d47) (fun d47 : (List Int) => slices_IndexFunc_api_Unacked_api_Unacked_2_S0 a0 a1 d47) ?_ ?_
 ·
  refine awp_block1 ?_
  refine awp_loopS (fun n (d49 : (List Int × Int)) => slices_IndexFunc_api_Unacked_api_Unacked_2_L2 a0 a1 n d49 = some o48) (fun d49 : (List Int × Int) => slices_IndexFunc_api_Unacked_api_Unacked_2_S1 a0 a1 d49) big ([], 0) (by refine Wk.canonD [] [] [some 0, some 1, some 2, some 3, some 4, none] rfl trivial rfl (tmON 5 (tmOU 4 (tmOU 3 (tmOU 2 (tmOU 1 (tmOU 0 tmO0 rfl List.not_mem_nil (by simp only [upd_get, Nat.reduceEqDiff, reduceIte, Nat.reduceAdd, Nat.reduceMul, Nat.reduceSub, Nat.reduceLT, Nat.reduceLeDiff, if_true, if_false] <;> rfl) (TmL.of_eq (by first | rfl | (simp only [List.flatMap_append, List.flatMap_cons, List.flatMap_nil, List.map_append, List.map_cons, List.map_nil, List.append_nil, List.nil_append]; done) | (simp only [List.flatMap_append, List.flatMap_cons, List.flatMap_nil, List.map_append, List.map_cons, List.map_nil, List.append_nil, List.nil_append]; rfl)) (c_Unacked _))) rfl List.not_mem_nil (by simp only [upd_get, Nat.reduceEqDiff, reduceIte, Nat.reduceAdd, Nat.reduceMul, Nat.reduceSub, Nat.reduceLT, Nat.reduceLeDiff, if_true, if_false] <;> rfl) (TmL.cons (Tm.clo TmL.nil (TmL.cons (Tm.ptr rfl) (TmL.cons (Tm.ptr rfl) TmL.nil))) TmL.nil)) rfl List.not_mem_nil (by simp only [upd_get, Nat.reduceEqDiff, reduceIte, Nat.reduceAdd, Nat.reduceMul, Nat.reduceSub, Nat.reduceLT, Nat.reduceLeDiff, if_true, if_false] <;> rfl) (TmL.cons (Tm.thaw _ _ _) TmL.nil)) rfl List.not_mem_nil (by simp only [upd_get, Nat.reduceEqDiff, reduceIte, Nat.reduceAdd, Nat.reduceMul, Nat.reduceSub, Nat.reduceLT, Nat.reduceLeDiff, if_true, if_false] <;> rfl) (e_Sender_tmx (by rfl) (Tm.refL rfl ?_))) rfl List.not_mem_nil (by simp only [upd_get, Nat.reduceEqDiff, reduceIte, Nat.reduceAdd, Nat.reduceMul, Nat.reduceSub, Nat.reduceLT, Nat.reduceLeDiff, if_true, if_false] <;> rfl) (TmL.cons (Tm.v _) TmL.nil)) rfl) (tmAllU 8 (tmAllU 7 (tmAllU 1 (tmAllU 0 tmAll0 (Tm.refL rfl ?_)) (Tm.clo TmL.nil (TmL.cons (Tm.ptr rfl) (TmL.cons (Tm.ptr rfl) TmL.nil)))) (Tm.v _)) (Tm.v _)); all_goals (first | rfl | (simp only [List.length_take]; omega) | (simp only [List.length_append, List.length_cons, List.length_nil, List.length_modify, List.length_set, Nat.zero_add]; done) | (simp only [List.length_append, List.length_take, List.length_drop, List.length_cons, List.length_nil, List.length_modify, List.length_set, Nat.zero_add]; omega))) hi1 ?_
  clear hi1
  rintro n d49 hl3
  rcases n with _ | n2
  ·
   (rw [slices_IndexFunc_api_Unacked_api_Unacked_2_L2] at hl3; cases hl3)
  ·
   rw [slices_IndexFunc_api_Unacked_api_Unacked_2_L2] at hl3
   unfold slices_IndexFunc_api_Unacked_api_Unacked_2_S1
   refine awp_nr [0,1,7,8] (fun _ => rfl) fun tz => ?_
   refine awp_regW fun KK hKK => ?_
   refine xw_id ?_
   try simp only [go_sem, Nat.reduceEqDiff, reduceIte, Nat.reduceAdd, Nat.reduceMul, Nat.reduceSub, Nat.reduceLT, Nat.reduceLeDiff]
   refine hKK _ _ (Wk.refl _ _ _) ?_; clear hKK KK
   refine awp_cond (b := (decide (d49.2 < ((a0.Out.length : Nat) : Int)))) rfl (fun h4 => ?_) (fun h4 => ?_)
   ·
    have hl3 := cT hl3 h4
    refine awp_skip ?_
    refine awp_blockW ?_
    refine awp_nr [0,1,7,8] (fun _ => rfl) fun tz => ?_
    refine awp_regW fun KK hKK => ?_
    refine xw_id ?_
    try simp only [go_sem, Nat.reduceEqDiff, reduceIte, Nat.reduceAdd, Nat.reduceMul, Nat.reduceSub, Nat.reduceLT, Nat.reduceLeDiff]
    refine hKK _ _ (Wk.refl _ _ _) ?_; clear hKK KK
    refine awp_nr [0,1,5,7,8] (fun _ => rfl) fun tz => ?_
    refine awp_regW fun KK hKK => ?_
    refine xw_id ?_
    obtain ⟨x50, bx50, hl3⟩ := bnd hl3
    obtain ⟨fx50_0, fx50_1, fx50_2, fx50_3⟩ := idx_some bx50
    have fx50_5 : ((d49.2 : Int) < ((a0.Out.length : Nat) : Int)) = True := by first | exact fx50_1 | (simp [List.length_modify, List.length_set]; omega)
    obtain ⟨x51, bx51, hl3⟩ := bnd hl3
    try simp only [go_sem, Nat.reduceEqDiff, reduceIte, Nat.reduceAdd, Nat.reduceMul, Nat.reduceSub, Nat.reduceLT, Nat.reduceLeDiff, fx50_0, fx50_1, fx50_2, fx50_5]
    refine xcall_O [1, 2, 3, 4, 5, 0] (sender_remove_1_4_io x50 a0 a1 d49.1 bx51) (by decide) (by decide) ⟨(by first | rfl | (simp only [go_sem, Nat.reduceEqDiff, reduceIte, Nat.reduceAdd, Nat.reduceMul, Nat.reduceSub, Nat.reduceLT, Nat.reduceLeDiff, fx50_0, fx50_1, fx50_2, fx50_5]; done) | (simp only [go_sem, Nat.reduceEqDiff, reduceIte, Nat.reduceAdd, Nat.reduceMul, Nat.reduceSub, Nat.reduceLT, Nat.reduceLeDiff, fx50_0, fx50_1, fx50_2, fx50_5]; rfl)), (by first | rfl | (simp only [go_sem, Nat.reduceEqDiff, reduceIte, Nat.reduceAdd, Nat.reduceMul, Nat.reduceSub, Nat.reduceLT, Nat.reduceLeDiff, fx50_0, fx50_1, fx50_2, fx50_5]; done) | (simp only [go_sem, Nat.reduceEqDiff, reduceIte, Nat.reduceAdd, Nat.reduceMul, Nat.reduceSub, Nat.reduceLT, Nat.reduceLeDiff, fx50_0, fx50_1, fx50_2, fx50_5]; rfl)), (by first | rfl | (simp only [go_sem, Nat.reduceEqDiff, reduceIte, Nat.reduceAdd, Nat.reduceMul, Nat.reduceSub, Nat.reduceLT, Nat.reduceLeDiff, fx50_0, fx50_1, fx50_2, fx50_5]; done) | (simp only [go_sem, Nat.reduceEqDiff, reduceIte, Nat.reduceAdd, Nat.reduceMul, Nat.reduceSub, Nat.reduceLT, Nat.reduceLeDiff, fx50_0, fx50_1, fx50_2, fx50_5]; rfl)), (by first | rfl | (simp only [go_sem, Nat.reduceEqDiff, reduceIte, Nat.reduceAdd, Nat.reduceMul, Nat.reduceSub, Nat.reduceLT, Nat.reduceLeDiff, fx50_0, fx50_1, fx50_2, fx50_5]; done) | (simp only [go_sem, Nat.reduceEqDiff, reduceIte, Nat.reduceAdd, Nat.reduceMul, Nat.reduceSub, Nat.reduceLT, Nat.reduceLeDiff, fx50_0, fx50_1, fx50_2, fx50_5]; rfl)), (by first | rfl | (simp only [go_sem, Nat.reduceEqDiff, reduceIte, Nat.reduceAdd, Nat.reduceMul, Nat.reduceSub, Nat.reduceLT, Nat.reduceLeDiff, fx50_0, fx50_1, fx50_2, fx50_5]; done) | (simp only [go_sem, Nat.reduceEqDiff, reduceIte, Nat.reduceAdd, Nat.reduceMul, Nat.reduceSub, Nat.reduceLT, Nat.reduceLeDiff, fx50_0, fx50_1, fx50_2, fx50_5]; rfl)), (by first | rfl | (simp only [go_sem, Nat.reduceEqDiff, reduceIte, Nat.reduceAdd, Nat.reduceMul, Nat.reduceSub, Nat.reduceLT, Nat.reduceLeDiff, fx50_0, fx50_1, fx50_2, fx50_5]; done) | (simp only [go_sem, Nat.reduceEqDiff, reduceIte, Nat.reduceAdd, Nat.reduceMul, Nat.reduceSub, Nat.reduceLT, Nat.reduceLeDiff, fx50_0, fx50_1, fx50_2, fx50_5]; rfl)), trivial⟩ (by first | rfl | (simp only [go_sem, Nat.reduceEqDiff, reduceIte, Nat.reduceAdd, Nat.reduceMul, Nat.reduceSub, Nat.reduceLT, Nat.reduceLeDiff, fx50_0, fx50_1, fx50_2, fx50_5]; done) | (simp only [go_sem, Nat.reduceEqDiff, reduceIte, Nat.reduceAdd, Nat.reduceMul, Nat.reduceSub, Nat.reduceLT, Nat.reduceLeDiff, fx50_0, fx50_1, fx50_2, fx50_5]; rfl)) ?_; try dsimp only
    try refine xw_id ?_
    try simp only [go_sem, Nat.reduceEqDiff, reduceIte, Nat.reduceAdd, Nat.reduceMul, Nat.reduceSub, Nat.reduceLT, Nat.reduceLeDiff, fx50_0, fx50_1, fx50_2, fx50_5, List.length_cons, List.length_nil]
    refine hKK _ _ (Wk.refl _ _ _) ?_; clear hKK KK
    refine awp_cond1 (b := x51.1) rfl (fun h5 => ?_) (fun h5 => ?_)
    ·
     have hl3 := cT hl3 h5
     refine awp_nr [5] (fun _ => rfl) fun tz => ?_
     refine awp_regW fun KK hKK => ?_
     refine xw_id ?_
     try simp only [go_sem, Nat.reduceEqDiff, reduceIte, Nat.reduceAdd, Nat.reduceMul, Nat.reduceSub, Nat.reduceLT, Nat.reduceLeDiff, fx50_0, fx50_1, fx50_2, fx50_5]
     refine hKK _ _ (Wk.refl _ _ _) ?_; clear hKK KK
     refine awp_ret1 ?_
     refine bq_r ?_
     refine sq_r ?_
     refine lq_r ?_
     refine bq_r ?_
     refine sq_r ?_
     obtain rfl := someInj hl3
     obtain rfl := Ex.k_ret h0
     refine endW_i ?_
     refine end_ret0 rs56 (rfl) ?_
     refine ResIO.mk [] [some 0, some 1, some 2, some 3, some 4, some 15] rfl (resEU List.not_mem_nil (by simp only [upd_get, Nat.reduceEqDiff, reduceIte, Nat.reduceAdd, Nat.reduceMul, Nat.reduceSub, Nat.reduceLT, Nat.reduceLeDiff, if_true, if_false] <;> rfl) (TmL.of_eq (by first | rfl | (simp only [List.flatMap_append, List.flatMap_cons, List.flatMap_nil, List.map_append, List.map_cons, List.map_nil, List.append_nil, List.nil_append]; done) | (simp only [List.flatMap_append, List.flatMap_cons, List.flatMap_nil, List.map_append, List.map_cons, List.map_nil, List.append_nil, List.nil_append]; rfl)) (c_Unacked _)) (resEU List.not_mem_nil (by simp only [upd_get, Nat.reduceEqDiff, reduceIte, Nat.reduceAdd, Nat.reduceMul, Nat.reduceSub, Nat.reduceLT, Nat.reduceLeDiff, if_true, if_false] <;> rfl) (TmL.cons (Tm.clo TmL.nil (TmL.cons (Tm.ptr rfl) (TmL.cons (Tm.ptr rfl) TmL.nil))) TmL.nil) (resEU List.not_mem_nil (by simp only [upd_get, Nat.reduceEqDiff, reduceIte, Nat.reduceAdd, Nat.reduceMul, Nat.reduceSub, Nat.reduceLT, Nat.reduceLeDiff, if_true, if_false] <;> rfl) (TmL.cons (Tm.refL rfl ?_) TmL.nil) (resEU List.not_mem_nil (by simp only [upd_get, Nat.reduceEqDiff, reduceIte, Nat.reduceAdd, Nat.reduceMul, Nat.reduceSub, Nat.reduceLT, Nat.reduceLeDiff, if_true, if_false] <;> rfl) (e_Sender_tmx (by rfl) (Tm.refL rfl ?_)) (resEU List.not_mem_nil (by simp only [upd_get, Nat.reduceEqDiff, reduceIte, Nat.reduceAdd, Nat.reduceMul, Nat.reduceSub, Nat.reduceLT, Nat.reduceLeDiff, if_true, if_false] <;> rfl) (TmL.cons (Tm.v _) TmL.nil) (resEU List.not_mem_nil (by simp only [upd_get, Nat.reduceEqDiff, reduceIte, Nat.reduceAdd, Nat.reduceMul, Nat.reduceSub, Nat.reduceLT, Nat.reduceLeDiff, if_true, if_false] <;> rfl) (TmL.of_eq (by first | rfl | (simp only [List.flatMap_append, List.flatMap_cons, List.flatMap_nil, List.map_append, List.map_cons, List.map_nil, List.append_nil, List.nil_append]; done) | (simp only [List.flatMap_append, List.flatMap_cons, List.flatMap_nil, List.map_append, List.map_cons, List.map_nil, List.append_nil, List.nil_append]; rfl)) (vi_clean _)) resE0)))))) (Tm.v _)
     all_goals (first | rfl | (simp only [List.length_take]; omega) | (simp only [List.length_append, List.length_cons, List.length_nil, List.length_modify, List.length_set, Nat.zero_add]; done) | (simp only [List.length_append, List.length_take, List.length_drop, List.length_cons, List.length_nil, List.length_modify, List.length_set, Nat.zero_add]; omega))
    ·
     have hl3 := cF hl3 h5
     refine awp_skip1 ?_
     refine bq_n ?_
     refine seqW_i ?_
     refine awp_nr1 [0,1,7,8] (fun _ => rfl) fun tz => ?_
     refine awp_reg1 fun KK hKK => ?_
     refine xw_id ?_
     try simp only [go_sem, Nat.reduceEqDiff, reduceIte, Nat.reduceAdd, Nat.reduceMul, Nat.reduceSub, Nat.reduceLT, Nat.reduceLeDiff, fx50_0, fx50_1, fx50_2, fx50_5]
     refine hKK _ ?_; clear hKK KK
     refine lq_n ?_
     exact ⟨n2, (x51.2, IntKind.wrap .i64 (d49.2 + 1)), rfl, hl3, (by refine Wk.canonD [] [] [some 0, some 1, some 2, some 3, some 4, some 15] rfl trivial rfl (tmOU 5 (tmOU 4 (tmOU 3 (tmOU 2 (tmOU 1 (tmOU 0 tmO0 rfl List.not_mem_nil (by simp only [upd_get, Nat.reduceEqDiff, reduceIte, Nat.reduceAdd, Nat.reduceMul, Nat.reduceSub, Nat.reduceLT, Nat.reduceLeDiff, if_true, if_false] <;> rfl) (TmL.of_eq (by first | rfl | (simp only [List.flatMap_append, List.flatMap_cons, List.flatMap_nil, List.map_append, List.map_cons, List.map_nil, List.append_nil, List.nil_append]; done) | (simp only [List.flatMap_append, List.flatMap_cons, List.flatMap_nil, List.map_append, List.map_cons, List.map_nil, List.append_nil, List.nil_append]; rfl)) (c_Unacked _))) rfl List.not_mem_nil (by simp only [upd_get, Nat.reduceEqDiff, reduceIte, Nat.reduceAdd, Nat.reduceMul, Nat.reduceSub, Nat.reduceLT, Nat.reduceLeDiff, if_true, if_false] <;> rfl) (TmL.cons (Tm.clo TmL.nil (TmL.cons (Tm.ptr rfl) (TmL.cons (Tm.ptr rfl) TmL.nil))) TmL.nil)) rfl List.not_mem_nil (by simp only [upd_get, Nat.reduceEqDiff, reduceIte, Nat.reduceAdd, Nat.reduceMul, Nat.reduceSub, Nat.reduceLT, Nat.reduceLeDiff, if_true, if_false] <;> rfl) (TmL.cons (Tm.refL rfl ?_) TmL.nil)) rfl List.not_mem_nil (by simp only [upd_get, Nat.reduceEqDiff, reduceIte, Nat.reduceAdd, Nat.reduceMul, Nat.reduceSub, Nat.reduceLT, Nat.reduceLeDiff, if_true, if_false] <;> rfl) (e_Sender_tmx (by rfl) (Tm.refL rfl ?_))) rfl List.not_mem_nil (by simp only [upd_get, Nat.reduceEqDiff, reduceIte, Nat.reduceAdd, Nat.reduceMul, Nat.reduceSub, Nat.reduceLT, Nat.reduceLeDiff, if_true, if_false] <;> rfl) (TmL.cons (Tm.v _) TmL.nil)) rfl List.not_mem_nil (by simp only [upd_get, Nat.reduceEqDiff, reduceIte, Nat.reduceAdd, Nat.reduceMul, Nat.reduceSub, Nat.reduceLT, Nat.reduceLeDiff, if_true, if_false] <;> rfl) (TmL.of_eq (by first | rfl | (simp only [List.flatMap_append, List.flatMap_cons, List.flatMap_nil, List.map_append, List.map_cons, List.map_nil, List.append_nil, List.nil_append]; done) | (simp only [List.flatMap_append, List.flatMap_cons, List.flatMap_nil, List.map_append, List.map_cons, List.map_nil, List.append_nil, List.nil_append]; rfl)) (vi_clean _))) (tmAllU 8 (tmAllU 7 (tmAllU 1 (tmAllU 0 tmAll0 (Tm.refL rfl ?_)) (Tm.clo TmL.nil (TmL.cons (Tm.ptr rfl) (TmL.cons (Tm.ptr rfl) TmL.nil)))) (Tm.v _)) (Tm.v _)); all_goals (first | rfl | (simp only [List.length_take]; omega) | (simp only [List.length_append, List.length_cons, List.length_nil, List.length_modify, List.length_set, Nat.zero_add]; done) | (simp only [List.length_append, List.length_take, List.length_drop, List.length_cons, List.length_nil, List.length_modify, List.length_set, Nat.zero_add]; omega)))⟩
   ·
    have hl3 := cF hl3 h4
    refine awp_exit ?_
    refine lq_e ?_
    refine bq_e ?_
    refine sq_n ?_
    obtain rfl := someInj hl3
    exact ⟨_, rfl, (by refine Wk.canonD [] [] [some 0, some 1, some 2, some 3, some 4, some 5] rfl trivial rfl (tmOU 5 (tmOU 4 (tmOU 3 (tmOU 2 (tmOU 1 (tmOU 0 tmO0 rfl List.not_mem_nil (by simp only [upd_get, Nat.reduceEqDiff, reduceIte, Nat.reduceAdd, Nat.reduceMul, Nat.reduceSub, Nat.reduceLT, Nat.reduceLeDiff, if_true, if_false] <;> rfl) (TmL.of_eq (by first | rfl | (simp only [List.flatMap_append, List.flatMap_cons, List.flatMap_nil, List.map_append, List.map_cons, List.map_nil, List.append_nil, List.nil_append]; done) | (simp only [List.flatMap_append, List.flatMap_cons, List.flatMap_nil, List.map_append, List.map_cons, List.map_nil, List.append_nil, List.nil_append]; rfl)) (c_Unacked _))) rfl List.not_mem_nil (by simp only [upd_get, Nat.reduceEqDiff, reduceIte, Nat.reduceAdd, Nat.reduceMul, Nat.reduceSub, Nat.reduceLT, Nat.reduceLeDiff, if_true, if_false] <;> rfl) (TmL.cons (Tm.clo TmL.nil (TmL.cons (Tm.ptr rfl) (TmL.cons (Tm.ptr rfl) TmL.nil))) TmL.nil)) rfl List.not_mem_nil (by simp only [upd_get, Nat.reduceEqDiff, reduceIte, Nat.reduceAdd, Nat.reduceMul, Nat.reduceSub, Nat.reduceLT, Nat.reduceLeDiff, if_true, if_false] <;> rfl) (TmL.cons (Tm.refL rfl ?_) TmL.nil)) rfl List.not_mem_nil (by simp only [upd_get, Nat.reduceEqDiff, reduceIte, Nat.reduceAdd, Nat.reduceMul, Nat.reduceSub, Nat.reduceLT, Nat.reduceLeDiff, if_true, if_false] <;> rfl) (e_Sender_tmx (by rfl) (Tm.refL rfl ?_))) rfl List.not_mem_nil (by simp only [upd_get, Nat.reduceEqDiff, reduceIte, Nat.reduceAdd, Nat.reduceMul, Nat.reduceSub, Nat.reduceLT, Nat.reduceLeDiff, if_true, if_false] <;> rfl) (TmL.cons (Tm.v _) TmL.nil)) rfl List.not_mem_nil (by simp only [upd_get, Nat.reduceEqDiff, reduceIte, Nat.reduceAdd, Nat.reduceMul, Nat.reduceSub, Nat.reduceLT, Nat.reduceLeDiff, if_true, if_false] <;> rfl) (TmL.of_eq (by first | rfl | (simp only [List.flatMap_append, List.flatMap_cons, List.flatMap_nil, List.map_append, List.map_cons, List.map_nil, List.append_nil, List.nil_append]; done) | (simp only [List.flatMap_append, List.flatMap_cons, List.flatMap_nil, List.map_append, List.map_cons, List.map_nil, List.append_nil, List.nil_append]; rfl)) (vi_clean _))) tmAll0; all_goals (first | rfl | (simp only [List.length_take]; omega) | (simp only [List.length_append, List.length_cons, List.length_nil, List.length_modify, List.length_set, Nat.zero_add]; done) | (simp only [List.length_append, List.length_take, List.length_drop, List.length_cons, List.length_nil, List.length_modify, List.length_set, Nat.zero_add]; omega)))⟩
 ·
  rintro d47 rfl
  have h0 := Ex.k_go h0
  clear hi1
  unfold slices_IndexFunc_api_Unacked_api_Unacked_2_S0
  refine awp_nr [] (fun _ => rfl) fun tz => ?_
  refine awp_regW fun KK hKK => ?_
  refine xw_id ?_
  try simp only [go_sem, Nat.reduceEqDiff, reduceIte, Nat.reduceAdd, Nat.reduceMul, Nat.reduceSub, Nat.reduceLT, Nat.reduceLeDiff]
  refine hKK _ _ (Wk.refl _ _ _) ?_; clear hKK KK
  refine awp_ret1 ?_
  obtain rfl := someInj h0
  refine endW_i ?_
  refine end_ret0 rs56 (rfl) ?_
  refine ResIO.mk [] [some 0, some 1, some 2, some 3, some 4, some 5] rfl (resEU List.not_mem_nil (by simp only [upd_get, Nat.reduceEqDiff, reduceIte, Nat.reduceAdd, Nat.reduceMul, Nat.reduceSub, Nat.reduceLT, Nat.reduceLeDiff, if_true, if_false] <;> rfl) (TmL.of_eq (by first | rfl | (simp only [List.flatMap_append, List.flatMap_cons, List.flatMap_nil, List.map_append, List.map_cons, List.map_nil, List.append_nil, List.nil_append]; done) | (simp only [List.flatMap_append, List.flatMap_cons, List.flatMap_nil, List.map_append, List.map_cons, List.map_nil, List.append_nil, List.nil_append]; rfl)) (c_Unacked _)) (resEU List.not_mem_nil (by simp only [upd_get, Nat.reduceEqDiff, reduceIte, Nat.reduceAdd, Nat.reduceMul, Nat.reduceSub, Nat.reduceLT, Nat.reduceLeDiff, if_true, if_false] <;> rfl) (TmL.cons (Tm.clo TmL.nil (TmL.cons (Tm.ptr rfl) (TmL.cons (Tm.ptr rfl) TmL.nil))) TmL.nil) (resEU List.not_mem_nil (by simp only [upd_get, Nat.reduceEqDiff, reduceIte, Nat.reduceAdd, Nat.reduceMul, Nat.reduceSub, Nat.reduceLT, Nat.reduceLeDiff, if_true, if_false] <;> rfl) (TmL.cons (Tm.refL rfl ?_) TmL.nil) (resEU List.not_mem_nil (by simp only [upd_get, Nat.reduceEqDiff, reduceIte, Nat.reduceAdd, Nat.reduceMul, Nat.reduceSub, Nat.reduceLT, Nat.reduceLeDiff, if_true, if_false] <;> rfl) (e_Sender_tmx (by rfl) (Tm.refL rfl ?_)) (resEU List.not_mem_nil (by simp only [upd_get, Nat.reduceEqDiff, reduceIte, Nat.reduceAdd, Nat.reduceMul, Nat.reduceSub, Nat.reduceLT, Nat.reduceLeDiff, if_true, if_false] <;> rfl) (TmL.cons (Tm.v _) TmL.nil) (resEU List.not_mem_nil (by simp only [upd_get, Nat.reduceEqDiff, reduceIte, Nat.reduceAdd, Nat.reduceMul, Nat.reduceSub, Nat.reduceLT, Nat.reduceLeDiff, if_true, if_false] <;> rfl) (TmL.of_eq (by first | rfl | (simp only [List.flatMap_append, List.flatMap_cons, List.flatMap_nil, List.map_append, List.map_cons, List.map_nil, List.append_nil, List.nil_append]; done) | (simp only [List.flatMap_append, List.flatMap_cons, List.flatMap_nil, List.map_append, List.map_cons, List.map_nil, List.append_nil, List.nil_append]; rfl)) (vi_clean _)) resE0)))))) (Tm.v _)
  all_goals (first | rfl | (simp only [List.length_take]; omega) | (simp only [List.length_append, List.length_cons, List.length_nil, List.length_modify, List.length_set, Nat.zero_add]; done) | (simp only [List.length_append, List.length_take, List.length_drop, List.length_cons, List.length_nil, List.length_modify, List.length_set, Nat.zero_add]; omega))

end Go.AX.Z.TS

/-! (TSW slices DeleteFunc api Unacked api Unacked 2) -/

set_option linter.unusedSimpArgs false
set_option linter.unusedVariables false
set_option maxHeartbeats 4000000
namespace Go.AX.Z.TS
open Go.AX Go.Proofs
attribute [local irreducible] awp xw xop xcall gsp ob xd xdop xcallD seqQ loopQ blkQ endQ

def slices_DeleteFunc_api_Unacked_api_Unacked_2_S0 (a1 : Int) (d48 : (List Unacked × Int × Sender × List Int)) : AS :=
 { objs := (upd (upd (upd (upd (upd (upd (fun _ => .dead) 0 (.live (List.flatMap E_Unacked d48.1))) 1 (.live [(.clo 48 [] [(.ptr 3 0), (.ptr 4 0)])])) 2 (.live [(.ref 5 0 ((d48.2.2.2).length) 1)])) 3 (.live (e_Sender d48.2.2.1 (.ref 0 0 ((d48.1).length) 44)))) 4 (.live [(vi a1)])) 5 (.live (List.map vi d48.2.2.2))), next := 6, tmps := (upd (upd (fun _ => .unk) 0 (.ref 0 0 ((d48.1).length) 44)) 5 (vi d48.2.1)) }

def slices_DeleteFunc_api_Unacked_api_Unacked_2_S1 (a1 : Int) (d49 : (List Unacked × Sender × List Int × Int × Int)) : AS :=
 { objs := (upd (upd (upd (upd (upd (upd (fun _ => .dead) 0 (.live (List.flatMap E_Unacked d49.1))) 1 (.live [(.clo 48 [] [(.ptr 3 0), (.ptr 4 0)])])) 2 (.live [(.ref 5 0 ((d49.2.2.1).length) 1)])) 3 (.live (e_Sender d49.2.1 (.ref 0 0 ((d49.1).length) 44)))) 4 (.live [(vi a1)])) 5 (.live (List.map vi d49.2.2.1))), next := 6, tmps := (upd (upd (upd (upd (fun _ => .unk) 0 (.ref 0 0 ((d49.1).length) 44)) 1 (.clo 55 [] [(.ptr 1 0), (.ptr 2 0)])) 5 (vi d49.2.2.2.1)) 6 (vi d49.2.2.2.2)) }

theorem slices_DeleteFunc_api_Unacked_api_Unacked_2_io (a0 : Sender) (a1 : Int) {r : (List Unacked × Sender × List Int)} (h0 : slices_DeleteFunc_api_Unacked_api_Unacked_2 a0 a1 = some r) : SndIO K 54 5 (fun q => [(.ref (q 0) 0 a0.Out.length 44), (.clo 55 [] [(.ptr (q 1) 0), (.ptr (q 2) 0)])]) [(fun q => (List.flatMap E_Unacked a0.Out)), (fun q => [(.clo 48 [] [(.ptr (q 3) 0), (.ptr (q 4) 0)])]), (fun q => [vnil]), (fun q => (e_Sender a0 (.ref (q 0) 0 a0.Out.length 44))), (fun q => [(vi a1)])] (fun q => (.ref (q 0) 0 ((r.1).length) 44)) [(some (fun q => (List.flatMap E_Unacked r.1))), (some (fun q => [(.clo 48 [] [(.ptr (q 3) 0), (.ptr (q 4) 0)])])), (some (fun q => [(.ref (q 5) 0 ((r.2.2).length) 1)])), (some (fun q => (e_Sender r.2.1 .unk))), (some (fun q => [(vi a1)])), (some (fun q => (List.map vi r.2.2)))] := by
 refine SndIO.of_walkW hC (RenML.cons (RenM.ref 0 0 _ _) (RenML.cons (RenM.clo RenML.nil (RenML.cons (RenM.ptr 1 0) (RenML.cons (RenM.ptr 2 0) RenML.nil))) RenML.nil)) (tpl_cons (RenML.const (c_Unacked _)) (tpl_cons (RenML.cons (RenM.clo RenML.nil (RenML.cons (RenM.ptr 3 0) (RenML.cons (RenM.ptr 4 0) RenML.nil))) RenML.nil) (tpl_cons (RenML.cons (RenM.const (Clean.v _)) RenML.nil) (tpl_cons (e_Sender_ren _ (RenM.ref 0 0 _ _)) (tpl_cons (RenML.cons (RenM.const (Clean.v _)) RenML.nil) tpl_nil))))) (otpl_some (RenML.const (c_Unacked _)) (otpl_some (RenML.cons (RenM.clo RenML.nil (RenML.cons (RenM.ptr 3 0) (RenML.cons (RenM.ptr 4 0) RenML.nil))) RenML.nil) (otpl_some (RenML.cons (RenM.ref 5 0 _ _) RenML.nil) (otpl_some (e_Sender_ren _ (RenM.const Clean.unk)) (otpl_some (RenML.cons (RenM.const (Clean.v _)) RenML.nil) (otpl_some (RenML.const (vi_clean _)) otpl_nil)))))) (RenM.ref 0 0 _ _) rfl (Nat.le_of_ble_eq_true rfl) (show K.P.funcs[54]? = some Try.f54 from Try.func54) rfl rfl (by decide +kernel) (Nat.le_of_ble_eq_true rfl) ?_
 unfold slices_DeleteFunc_api_Unacked_api_Unacked_2 at h0
 refine awp_nr [0,1] (fun _ => rfl) fun tz => ?_
 refine awp_regW fun KK hKK => ?_
 refine xw_id ?_
 try simp only [go_sem, Nat.reduceEqDiff, reduceIte, Nat.reduceAdd, Nat.reduceMul, Nat.reduceSub, Nat.reduceLT, Nat.reduceLeDiff]
 refine hKK _ _ (Wk.refl _ _ _) ?_; clear hKK KK
 refine awp_nr [0,1] (fun _ => rfl) fun tz => ?_
 refine awp_regW fun KK hKK => ?_
 refine xw_id ?_
 obtain ⟨x47, bx47, h0⟩ := bnd h0
 try simp only [go_sem, Nat.reduceEqDiff, reduceIte, Nat.reduceAdd, Nat.reduceMul, Nat.reduceSub, Nat.reduceLT, Nat.reduceLeDiff]
 refine xcall_O [0, 1, 2, 3, 4] (slices_IndexFunc_api_Unacked_api_Unacked_2_io a0 a1 bx47) (by decide) (by decide) ⟨(by first | rfl | (simp only [go_sem, Nat.reduceEqDiff, reduceIte, Nat.reduceAdd, Nat.reduceMul, Nat.reduceSub, Nat.reduceLT, Nat.reduceLeDiff]; done) | (simp only [go_sem, Nat.reduceEqDiff, reduceIte, Nat.reduceAdd, Nat.reduceMul, Nat.reduceSub, Nat.reduceLT, Nat.reduceLeDiff]; rfl)), (by first | rfl | (simp only [go_sem, Nat.reduceEqDiff, reduceIte, Nat.reduceAdd, Nat.reduceMul, Nat.reduceSub, Nat.reduceLT, Nat.reduceLeDiff]; done) | (simp only [go_sem, Nat.reduceEqDiff, reduceIte, Nat.reduceAdd, Nat.reduceMul, Nat.reduceSub, Nat.reduceLT, Nat.reduceLeDiff]; rfl)), (by first | rfl | (simp only [go_sem, Nat.reduceEqDiff, reduceIte, Nat.reduceAdd, Nat.reduceMul, Nat.reduceSub, Nat.reduceLT, Nat.reduceLeDiff]; done) | (simp only [go_sem, Nat.reduceEqDiff, reduceIte, Nat.reduceAdd, Nat.reduceMul, Nat.reduceSub, Nat.reduceLT, Nat.reduceLeDiff]; rfl)), (by first | rfl | (simp only [go_sem, Nat.reduceEqDiff, reduceIte, Nat.reduceAdd, Nat.reduceMul, Nat.reduceSub, Nat.reduceLT, Nat.reduceLeDiff]; done) | (simp only [go_sem, Nat.reduceEqDiff, reduceIte, Nat.reduceAdd, Nat.reduceMul, Nat.reduceSub, Nat.reduceLT, Nat.reduceLeDiff]; rfl)), (by first | rfl | (simp only [go_sem, Nat.reduceEqDiff, reduceIte, Nat.reduceAdd, Nat.reduceMul, Nat.reduceSub, Nat.reduceLT, Nat.reduceLeDiff]; done) | (simp only [go_sem, Nat.reduceEqDiff, reduceIte, Nat.reduceAdd, Nat.reduceMul, Nat.reduceSub, Nat.reduceLT, Nat.reduceLeDiff]; rfl)), trivial⟩ (by first | rfl | (simp only [go_sem, Nat.reduceEqDiff, reduceIte, Nat.reduceAdd, Nat.reduceMul, Nat.reduceSub, Nat.reduceLT, Nat.reduceLeDiff]; done) | (simp only [go_sem, Nat.reduceEqDiff, reduceIte, Nat.reduceAdd, Nat.reduceMul, Nat.reduceSub, Nat.reduceLT, Nat.reduceLeDiff]; rfl)) ?_; try dsimp only
 try refine xw_id ?_
 try simp only [go_sem, Nat.reduceEqDiff, reduceIte, Nat.reduceAdd, Nat.reduceMul, Nat.reduceSub, Nat.reduceLT, Nat.reduceLeDiff, List.length_cons, List.length_nil]
 refine hKK _ _ (Wk.refl _ _ _) ?_; clear hKK KK
 refine awp_assoc ?_
 refine awp_nr [0,1,5] (fun _ => rfl) fun tz => ?_
 refine awp_regW fun KK hKK => ?_
 refine xw_id ?_
 try simp only [go_sem, Nat.reduceEqDiff, reduceIte, Nat.reduceAdd, Nat.reduceMul, Nat.reduceSub, Nat.reduceLT, Nat.reduceLeDiff]
 refine hKK _ _ (Wk.refl _ _ _) ?_; clear hKK KK
 refine awp_cond (b := (x47.1 == (-1))) rfl (fun h1 => ?_) (fun h1 => ?_)
 ·
  have h0 := cT h0 h1
  refine awp_assoc ?_
  refine awp_nr [0] (fun _ => rfl) fun tz => ?_
  refine awp_regW fun KK hKK => ?_
  refine xw_id ?_
  try simp only [go_sem, Nat.reduceEqDiff, reduceIte, Nat.reduceAdd, Nat.reduceMul, Nat.reduceSub, Nat.reduceLT, Nat.reduceLeDiff]
  refine hKK _ _ (Wk.refl _ _ _) ?_; clear hKK KK
  refine awp_ret ?_
  obtain rfl := someInj h0
  refine endW_i ?_
  refine end_ret0 rs54 (rfl) ?_
  refine ResIO.mk [] [some 0, some 1, some 2, some 3, some 4, some 10] rfl (resEU List.not_mem_nil (by simp only [upd_get, Nat.reduceEqDiff, reduceIte, Nat.reduceAdd, Nat.reduceMul, Nat.reduceSub, Nat.reduceLT, Nat.reduceLeDiff, if_true, if_false] <;> rfl) (TmL.of_eq (by first | rfl | (simp only [List.flatMap_append, List.flatMap_cons, List.flatMap_nil, List.map_append, List.map_cons, List.map_nil, List.append_nil, List.nil_append]; done) | (simp only [List.flatMap_append, List.flatMap_cons, List.flatMap_nil, List.map_append, List.map_cons, List.map_nil, List.append_nil, List.nil_append]; rfl)) (c_Unacked _)) (resEU List.not_mem_nil (by simp only [upd_get, Nat.reduceEqDiff, reduceIte, Nat.reduceAdd, Nat.reduceMul, Nat.reduceSub, Nat.reduceLT, Nat.reduceLeDiff, if_true, if_false] <;> rfl) (TmL.cons (Tm.clo TmL.nil (TmL.cons (Tm.ptr rfl) (TmL.cons (Tm.ptr rfl) TmL.nil))) TmL.nil) (resEU List.not_mem_nil (by simp only [upd_get, Nat.reduceEqDiff, reduceIte, Nat.reduceAdd, Nat.reduceMul, Nat.reduceSub, Nat.reduceLT, Nat.reduceLeDiff, if_true, if_false] <;> rfl) (TmL.cons (Tm.refL rfl ?_) TmL.nil) (resEU List.not_mem_nil (by simp only [upd_get, Nat.reduceEqDiff, reduceIte, Nat.reduceAdd, Nat.reduceMul, Nat.reduceSub, Nat.reduceLT, Nat.reduceLeDiff, if_true, if_false] <;> rfl) (e_Sender_tmx (by rfl) (Tm.unk _)) (resEU List.not_mem_nil (by simp only [upd_get, Nat.reduceEqDiff, reduceIte, Nat.reduceAdd, Nat.reduceMul, Nat.reduceSub, Nat.reduceLT, Nat.reduceLeDiff, if_true, if_false] <;> rfl) (TmL.cons (Tm.v _) TmL.nil) (resEU List.not_mem_nil (by simp only [upd_get, Nat.reduceEqDiff, reduceIte, Nat.reduceAdd, Nat.reduceMul, Nat.reduceSub, Nat.reduceLT, Nat.reduceLeDiff, if_true, if_false] <;> rfl) (TmL.of_eq (by first | rfl | (simp only [List.flatMap_append, List.flatMap_cons, List.flatMap_nil, List.map_append, List.map_cons, List.map_nil, List.append_nil, List.nil_append]; done) | (simp only [List.flatMap_append, List.flatMap_cons, List.flatMap_nil, List.map_append, List.map_cons, List.map_nil, List.append_nil, List.nil_append]; rfl)) (vi_clean _)) resE0)))))) (Tm.refL rfl ?_)
  all_goals (first | rfl | (simp only [List.length_take]; omega) | (simp only [List.length_append, List.length_cons, List.length_nil, List.length_modify, List.length_set, Nat.zero_add]; done) | (simp only [List.length_append, List.length_take, List.length_drop, List.length_cons, List.length_nil, List.length_modify, List.length_set, Nat.zero_add]; omega))
 ·
  have h0 := cF h0 h1
  refine awp_skip ?_
  refine awp_assoc ?_
  refine awp_nr [0,1,5] (fun _ => rfl) fun tz => ?_
  refine awp_regW fun KK hKK => ?_
  refine xw_id ?_
  try simp only [go_sem, Nat.reduceEqDiff, reduceIte, Nat.reduceAdd, Nat.reduceMul, Nat.reduceSub, Nat.reduceLT, Nat.reduceLeDiff]
  refine hKK _ _ (Wk.refl _ _ _) ?_; clear hKK KK
  obtain ⟨d48, hi2, h0⟩ := bnd h0
  refine awp_cut (fun z => d48 = z) (fun d48 : (List Unacked × Int × Sender × List Int) => slices_DeleteFunc_api_Unacked_api_Unacked_2_S0 a1 d48) ?_ ?_
  ·
   refine awp_block1 ?_
   refine awp_loopS (fun n (d49 : (List Unacked × Sender × List Int × Int × Int)) => slices_DeleteFunc_api_Unacked_api_Unacked_2_L2 a1 n d49 = some d48) (fun d49 : (List Unacked × Sender × List Int × Int × Int) => slices_DeleteFunc_api_Unacked_api_Unacked_2_S1 a1 d49) big (a0.Out, a0, x47.2, x47.1, IntKind.wrap .i64 (x47.1 + 1)) (by refine Wk.canonD [] [] [some 0, some 1, some 2, some 3, some 4, some 10] rfl trivial rfl (tmOU 5 (tmOU 4 (tmOU 3 (tmOU 2 (tmOU 1 (tmOU 0 tmO0 rfl List.not_mem_nil (by simp only [upd_get, Nat.reduceEqDiff, reduceIte, Nat.reduceAdd, Nat.reduceMul, Nat.reduceSub, Nat.reduceLT, Nat.reduceLeDiff, if_true, if_false] <;> rfl) (TmL.of_eq (by first | rfl | (simp only [List.flatMap_append, List.flatMap_cons, List.flatMap_nil, List.map_append, List.map_cons, List.map_nil, List.append_nil, List.nil_append]; done) | (simp only [List.flatMap_append, List.flatMap_cons, List.flatMap_nil, List.map_append, List.map_cons, List.map_nil, List.append_nil, List.nil_append]; rfl)) (c_Unacked _))) rfl List.not_mem_nil (by simp only [upd_get, Nat.reduceEqDiff, reduceIte, Nat.reduceAdd, Nat.reduceMul, Nat.reduceSub, Nat.reduceLT, Nat.reduceLeDiff, if_true, if_false] <;> rfl) (TmL.cons (Tm.clo TmL.nil (TmL.cons (Tm.ptr rfl) (TmL.cons (Tm.ptr rfl) TmL.nil))) TmL.nil)) rfl List.not_mem_nil (by simp only [upd_get, Nat.reduceEqDiff, reduceIte, Nat.reduceAdd, Nat.reduceMul, Nat.reduceSub, Nat.reduceLT, Nat.reduceLeDiff, if_true, if_false] <;> rfl) (TmL.cons (Tm.refL rfl ?_) TmL.nil)) rfl List.not_mem_nil (by simp only [upd_get, Nat.reduceEqDiff, reduceIte, Nat.reduceAdd, Nat.reduceMul, Nat.reduceSub, Nat.reduceLT, Nat.reduceLeDiff, if_true, if_false] <;> rfl) (e_Sender_tmx (by rfl) (Tm.refL rfl ?_))) rfl List.not_mem_nil (by simp only [upd_get, Nat.reduceEqDiff, reduceIte, Nat.reduceAdd, Nat.reduceMul, Nat.reduceSub, Nat.reduceLT, Nat.reduceLeDiff, if_true, if_false] <;> rfl) (TmL.cons (Tm.v _) TmL.nil)) rfl List.not_mem_nil (by simp only [upd_get, Nat.reduceEqDiff, reduceIte, Nat.reduceAdd, Nat.reduceMul, Nat.reduceSub, Nat.reduceLT, Nat.reduceLeDiff, if_true, if_false] <;> rfl) (TmL.of_eq (by first | rfl | (simp only [List.flatMap_append, List.flatMap_cons, List.flatMap_nil, List.map_append, List.map_cons, List.map_nil, List.append_nil, List.nil_append]; done) | (simp only [List.flatMap_append, List.flatMap_cons, List.flatMap_nil, List.map_append, List.map_cons, List.map_nil, List.append_nil, List.nil_append]; rfl)) (vi_clean _))) (tmAllU 6 (tmAllU 5 (tmAllU 1 (tmAllU 0 tmAll0 (Tm.refL rfl ?_)) (Tm.clo TmL.nil (TmL.cons (Tm.ptr rfl) (TmL.cons (Tm.ptr rfl) TmL.nil)))) (Tm.v _)) (Tm.v _)); all_goals (first | rfl | (simp only [List.length_take]; omega) | (simp only [List.length_append, List.length_cons, List.length_nil, List.length_modify, List.length_set, Nat.zero_add]; done) | (simp only [List.length_append, List.length_take, List.length_drop, List.length_cons, List.length_nil, List.length_modify, List.length_set, Nat.zero_add]; omega))) hi2 ?_
   clear hi2
   rintro n d49 hl4
   rcases n with _ | n3
   ·
    (rw [slices_DeleteFunc_api_Unacked_api_Unacked_2_L2] at hl4; cases hl4)
   ·
    rw [slices_DeleteFunc_api_Unacked_api_Unacked_2_L2] at hl4
    unfold slices_DeleteFunc_api_Unacked_api_Unacked_2_S1
    refine awp_assoc ?_
    refine awp_nr [0,1,5,6] (fun _ => rfl) fun tz => ?_
    refine awp_regW fun KK hKK => ?_
    refine xw_id ?_
    try simp only [go_sem, Nat.reduceEqDiff, reduceIte, Nat.reduceAdd, Nat.reduceMul, Nat.reduceSub, Nat.reduceLT, Nat.reduceLeDiff, Int.reduceToNat, Int.reduceBEq, Int.reduceBNe, Int.reduceLT, Int.reduceLE, Int.reduceAdd, Int.reduceSub, Int.reduceMul, Int.reduceNeg, Int.reduceEq, Int.reduceNe]
    refine hKK _ _ (Wk.refl _ _ _) ?_; clear hKK KK
    refine awp_cond (b := (decide (d49.2.2.2.2 < (((d49.1).length : Nat) : Int)))) rfl (fun h5 => ?_) (fun h5 => ?_)
    ·
     have hl4 := cT hl4 h5
     refine awp_skip ?_
     refine awp_blockW ?_
     refine awp_nr [0,1,5,6] (fun _ => rfl) fun tz => ?_
     refine awp_regW fun KK hKK => ?_
     refine xw_id ?_
     obtain ⟨x50, bx50, hl4⟩ := bnd hl4
     obtain ⟨fx50_0, fx50_1, fx50_2, fx50_3⟩ := idx_some bx50
     have fx50_5 : ((d49.2.2.2.2 : Int) < (((d49.1).length : Nat) : Int)) = True := by first | exact fx50_1 | (simp [List.length_modify, List.length_set]; omega)
     try simp only [go_sem, Nat.reduceEqDiff, reduceIte, Nat.reduceAdd, Nat.reduceMul, Nat.reduceSub, Nat.reduceLT, Nat.reduceLeDiff, fx50_0, fx50_1, fx50_2, fx50_5]
     refine hKK _ _ (Wk.refl _ _ _) ?_; clear hKK KK
     refine awp_nr [0,1,5,6,7] (fun _ => rfl) fun tz => ?_
     refine awp_regW fun KK hKK => ?_
     refine xw_id ?_
     obtain ⟨x51, bx51, hl4⟩ := bnd hl4
     try simp only [go_sem, Nat.reduceEqDiff, reduceIte, Nat.reduceAdd, Nat.reduceMul, Nat.reduceSub, Nat.reduceLT, Nat.reduceLeDiff, fx50_0, fx50_1, fx50_2, fx50_5]
     refine xcall_O [1, 2, 3, 4, 5, 0] (sender_remove_1_4_io x50 { d49.2.1 with Out := d49.1 } a1 d49.2.2.1 bx51) (by decide) (by decide) ⟨(by first | rfl | (simp only [go_sem, Nat.reduceEqDiff, reduceIte, Nat.reduceAdd, Nat.reduceMul, Nat.reduceSub, Nat.reduceLT, Nat.reduceLeDiff, fx50_0, fx50_1, fx50_2, fx50_5]; done) | (simp only [go_sem, Nat.reduceEqDiff, reduceIte, Nat.reduceAdd, Nat.reduceMul, Nat.reduceSub, Nat.reduceLT, Nat.reduceLeDiff, fx50_0, fx50_1, fx50_2, fx50_5]; rfl)), (by first | rfl | (simp only [go_sem, Nat.reduceEqDiff, reduceIte, Nat.reduceAdd, Nat.reduceMul, Nat.reduceSub, Nat.reduceLT, Nat.reduceLeDiff, fx50_0, fx50_1, fx50_2, fx50_5]; done) | (simp only [go_sem, Nat.reduceEqDiff, reduceIte, Nat.reduceAdd, Nat.reduceMul, Nat.reduceSub, Nat.reduceLT, Nat.reduceLeDiff, fx50_0, fx50_1, fx50_2, fx50_5]; rfl)), (by first | rfl | (simp only [go_sem, Nat.reduceEqDiff, reduceIte, Nat.reduceAdd, Nat.reduceMul, Nat.reduceSub, Nat.reduceLT, Nat.reduceLeDiff, fx50_0, fx50_1, fx50_2, fx50_5]; done) | (simp only [go_sem, Nat.reduceEqDiff, reduceIte, Nat.reduceAdd, Nat.reduceMul, Nat.reduceSub, Nat.reduceLT, Nat.reduceLeDiff, fx50_0, fx50_1, fx50_2, fx50_5]; rfl)), (by first | rfl | (simp only [go_sem, Nat.reduceEqDiff, reduceIte, Nat.reduceAdd, Nat.reduceMul, Nat.reduceSub, Nat.reduceLT, Nat.reduceLeDiff, fx50_0, fx50_1, fx50_2, fx50_5]; done) | (simp only [go_sem, Nat.reduceEqDiff, reduceIte, Nat.reduceAdd, Nat.reduceMul, Nat.reduceSub, Nat.reduceLT, Nat.reduceLeDiff, fx50_0, fx50_1, fx50_2, fx50_5]; rfl)), (by first | rfl | (simp only [go_sem, Nat.reduceEqDiff, reduceIte, Nat.reduceAdd, Nat.reduceMul, Nat.reduceSub, Nat.reduceLT, Nat.reduceLeDiff, fx50_0, fx50_1, fx50_2, fx50_5]; done) | (simp only [go_sem, Nat.reduceEqDiff, reduceIte, Nat.reduceAdd, Nat.reduceMul, Nat.reduceSub, Nat.reduceLT, Nat.reduceLeDiff, fx50_0, fx50_1, fx50_2, fx50_5]; rfl)), (by first | rfl | (simp only [go_sem, Nat.reduceEqDiff, reduceIte, Nat.reduceAdd, Nat.reduceMul, Nat.reduceSub, Nat.reduceLT, Nat.reduceLeDiff, fx50_0, fx50_1, fx50_2, fx50_5]; done) | (simp only [go_sem, Nat.reduceEqDiff, reduceIte, Nat.reduceAdd, Nat.reduceMul, Nat.reduceSub, Nat.reduceLT, Nat.reduceLeDiff, fx50_0, fx50_1, fx50_2, fx50_5]; rfl)), trivial⟩ (by first | rfl | (simp only [go_sem, Nat.reduceEqDiff, reduceIte, Nat.reduceAdd, Nat.reduceMul, Nat.reduceSub, Nat.reduceLT, Nat.reduceLeDiff, fx50_0, fx50_1, fx50_2, fx50_5]; done) | (simp only [go_sem, Nat.reduceEqDiff, reduceIte, Nat.reduceAdd, Nat.reduceMul, Nat.reduceSub, Nat.reduceLT, Nat.reduceLeDiff, fx50_0, fx50_1, fx50_2, fx50_5]; rfl)) ?_; try dsimp only
     try refine xw_id ?_
     try simp only [go_sem, Nat.reduceEqDiff, reduceIte, Nat.reduceAdd, Nat.reduceMul, Nat.reduceSub, Nat.reduceLT, Nat.reduceLeDiff, fx50_0, fx50_1, fx50_2, fx50_5, List.length_cons, List.length_nil]
     refine hKK _ _ (Wk.refl _ _ _) ?_; clear hKK KK
     refine awp_cond1 (b := (!x51.1)) rfl (fun h6 => ?_) (fun h6 => ?_)
     ·
      have hl4 := cT hl4 h6
      refine awp_nr [0,1,5,6,7] (fun _ => rfl) fun tz => ?_
      refine awp_regW fun KK hKK => ?_
      refine xw_id ?_
      obtain ⟨x52, bx52, hl4⟩ := bnd hl4
      obtain ⟨fx52_0, fx52_1, fx52_2, fx52_3⟩ := idx_some bx52
      have fx52_5 : ((d49.2.2.2.1 : Int) < (((d49.1).length : Nat) : Int)) = True := by first | exact fx52_1 | (simp [List.length_modify, List.length_set]; omega)
      have gs7 : ((d49.2.2.2.1).toNat * 44 + 44 ≤ d49.1.length * 44) = True := eq_true (by (try simp only [List.length_modify, List.length_set]); omega)
      have gm8 : (d49.1.set ((d49.2.2.2.1).toNat) x50)[(d49.2.2.2.1).toNat]? = some x50 := getSet _ fx52_2
      try simp only [go_sem, Nat.reduceEqDiff, reduceIte, Nat.reduceAdd, Nat.reduceMul, Nat.reduceSub, Nat.reduceLT, Nat.reduceLeDiff, fx50_0, fx50_1, fx50_2, fx50_5, fx52_0, fx52_1, fx52_2, fx52_5, gs7, gm8]
      refine hKK _ _ (Wk.refl _ _ _) ?_; clear hKK KK
      refine awp_nr1 [0,1,5,6] (fun _ => rfl) fun tz => ?_
      refine awp_reg1 fun KK hKK => ?_
      refine xw_id ?_
      try simp only [go_sem, Nat.reduceEqDiff, reduceIte, Nat.reduceAdd, Nat.reduceMul, Nat.reduceSub, Nat.reduceLT, Nat.reduceLeDiff, gm8, fx52_0, fx52_1, fx52_2, fx52_5]
      refine hKK _ ?_; clear hKK KK
      refine bq_n ?_
      refine seqW_i ?_
      refine awp_nr1 [0,1,5,6] (fun _ => rfl) fun tz => ?_
      refine awp_reg1 fun KK hKK => ?_
      refine xw_id ?_
      try simp only [go_sem, Nat.reduceEqDiff, reduceIte, Nat.reduceAdd, Nat.reduceMul, Nat.reduceSub, Nat.reduceLT, Nat.reduceLeDiff, gm8, fx52_0, fx52_1, fx52_2, fx52_5]
      refine hKK _ ?_; clear hKK KK
      refine lq_n ?_
      exact ⟨n3, ((d49.1.set ((d49.2.2.2.1).toNat) x50), { d49.2.1 with Out := d49.1 }, x51.2, IntKind.wrap .i64 (d49.2.2.2.1 + 1), IntKind.wrap .i64 (d49.2.2.2.2 + 1)), rfl, hl4, (by refine Wk.canonD [] [] [some 0, some 1, some 2, some 3, some 4, some 20] rfl trivial rfl (tmOU 5 (tmOU 4 (tmOU 3 (tmOU 2 (tmOU 1 (tmOU 0 tmO0 rfl List.not_mem_nil (by simp only [upd_get, Nat.reduceEqDiff, reduceIte, Nat.reduceAdd, Nat.reduceMul, Nat.reduceSub, Nat.reduceLT, Nat.reduceLeDiff, if_true, if_false] <;> rfl) (TmL.of_eq (by first | rfl | (simp only [List.flatMap_append, List.flatMap_cons, List.flatMap_nil, List.map_append, List.map_cons, List.map_nil, List.append_nil, List.nil_append]; done) | (simp only [List.flatMap_append, List.flatMap_cons, List.flatMap_nil, List.map_append, List.map_cons, List.map_nil, List.append_nil, List.nil_append]; rfl)) (c_Unacked _))) rfl List.not_mem_nil (by simp only [upd_get, Nat.reduceEqDiff, reduceIte, Nat.reduceAdd, Nat.reduceMul, Nat.reduceSub, Nat.reduceLT, Nat.reduceLeDiff, if_true, if_false] <;> rfl) (TmL.cons (Tm.clo TmL.nil (TmL.cons (Tm.ptr rfl) (TmL.cons (Tm.ptr rfl) TmL.nil))) TmL.nil)) rfl List.not_mem_nil (by simp only [upd_get, Nat.reduceEqDiff, reduceIte, Nat.reduceAdd, Nat.reduceMul, Nat.reduceSub, Nat.reduceLT, Nat.reduceLeDiff, if_true, if_false] <;> rfl) (TmL.cons (Tm.refL rfl ?_) TmL.nil)) rfl List.not_mem_nil (by simp only [upd_get, Nat.reduceEqDiff, reduceIte, Nat.reduceAdd, Nat.reduceMul, Nat.reduceSub, Nat.reduceLT, Nat.reduceLeDiff, if_true, if_false] <;> rfl) (e_Sender_tmx (by rfl) (Tm.refL rfl ?_))) rfl List.not_mem_nil (by simp only [upd_get, Nat.reduceEqDiff, reduceIte, Nat.reduceAdd, Nat.reduceMul, Nat.reduceSub, Nat.reduceLT, Nat.reduceLeDiff, if_true, if_false] <;> rfl) (TmL.cons (Tm.v _) TmL.nil)) rfl List.not_mem_nil (by simp only [upd_get, Nat.reduceEqDiff, reduceIte, Nat.reduceAdd, Nat.reduceMul, Nat.reduceSub, Nat.reduceLT, Nat.reduceLeDiff, if_true, if_false] <;> rfl) (TmL.of_eq (by first | rfl | (simp only [List.flatMap_append, List.flatMap_cons, List.flatMap_nil, List.map_append, List.map_cons, List.map_nil, List.append_nil, List.nil_append]; done) | (simp only [List.flatMap_append, List.flatMap_cons, List.flatMap_nil, List.map_append, List.map_cons, List.map_nil, List.append_nil, List.nil_append]; rfl)) (vi_clean _))) (tmAllU 6 (tmAllU 5 (tmAllU 1 (tmAllU 0 tmAll0 (Tm.refL rfl ?_)) (Tm.clo TmL.nil (TmL.cons (Tm.ptr rfl) (TmL.cons (Tm.ptr rfl) TmL.nil)))) (Tm.v _)) (Tm.v _)); all_goals (first | rfl | (simp only [List.length_take]; omega) | (simp only [List.length_append, List.length_cons, List.length_nil, List.length_modify, List.length_set, Nat.zero_add]; done) | (simp only [List.length_append, List.length_take, List.length_drop, List.length_cons, List.length_nil, List.length_modify, List.length_set, Nat.zero_add]; omega)))⟩
     ·
      have hl4 := cF hl4 h6
      refine awp_skip1 ?_
      refine bq_n ?_
      refine seqW_i ?_
      refine awp_nr1 [0,1,5,6] (fun _ => rfl) fun tz => ?_
      refine awp_reg1 fun KK hKK => ?_
      refine xw_id ?_
      try simp only [go_sem, Nat.reduceEqDiff, reduceIte, Nat.reduceAdd, Nat.reduceMul, Nat.reduceSub, Nat.reduceLT, Nat.reduceLeDiff, fx50_0, fx50_1, fx50_2, fx50_5]
      refine hKK _ ?_; clear hKK KK
      refine lq_n ?_
      exact ⟨n3, (d49.1, { d49.2.1 with Out := d49.1 }, x51.2, d49.2.2.2.1, IntKind.wrap .i64 (d49.2.2.2.2 + 1)), rfl, hl4, (by refine Wk.canonD [] [] [some 0, some 1, some 2, some 3, some 4, some 20] rfl trivial rfl (tmOU 5 (tmOU 4 (tmOU 3 (tmOU 2 (tmOU 1 (tmOU 0 tmO0 rfl List.not_mem_nil (by simp only [upd_get, Nat.reduceEqDiff, reduceIte, Nat.reduceAdd, Nat.reduceMul, Nat.reduceSub, Nat.reduceLT, Nat.reduceLeDiff, if_true, if_false] <;> rfl) (TmL.of_eq (by first | rfl | (simp only [List.flatMap_append, List.flatMap_cons, List.flatMap_nil, List.map_append, List.map_cons, List.map_nil, List.append_nil, List.nil_append]; done) | (simp only [List.flatMap_append, List.flatMap_cons, List.flatMap_nil, List.map_append, List.map_cons, List.map_nil, List.append_nil, List.nil_append]; rfl)) (c_Unacked _))) rfl List.not_mem_nil (by simp only [upd_get, Nat.reduceEqDiff, reduceIte, Nat.reduceAdd, Nat.reduceMul, Nat.reduceSub, Nat.reduceLT, Nat.reduceLeDiff, if_true, if_false] <;> rfl) (TmL.cons (Tm.clo TmL.nil (TmL.cons (Tm.ptr rfl) (TmL.cons (Tm.ptr rfl) TmL.nil))) TmL.nil)) rfl List.not_mem_nil (by simp only [upd_get, Nat.reduceEqDiff, reduceIte, Nat.reduceAdd, Nat.reduceMul, Nat.reduceSub, Nat.reduceLT, Nat.reduceLeDiff, if_true, if_false] <;> rfl) (TmL.cons (Tm.refL rfl ?_) TmL.nil)) rfl List.not_mem_nil (by simp only [upd_get, Nat.reduceEqDiff, reduceIte, Nat.reduceAdd, Nat.reduceMul, Nat.reduceSub, Nat.reduceLT, Nat.reduceLeDiff, if_true, if_false] <;> rfl) (e_Sender_tmx (by rfl) (Tm.refL rfl ?_))) rfl List.not_mem_nil (by simp only [upd_get, Nat.reduceEqDiff, reduceIte, Nat.reduceAdd, Nat.reduceMul, Nat.reduceSub, Nat.reduceLT, Nat.reduceLeDiff, if_true, if_false] <;> rfl) (TmL.cons (Tm.v _) TmL.nil)) rfl List.not_mem_nil (by simp only [upd_get, Nat.reduceEqDiff, reduceIte, Nat.reduceAdd, Nat.reduceMul, Nat.reduceSub, Nat.reduceLT, Nat.reduceLeDiff, if_true, if_false] <;> rfl) (TmL.of_eq (by first | rfl | (simp only [List.flatMap_append, List.flatMap_cons, List.flatMap_nil, List.map_append, List.map_cons, List.map_nil, List.append_nil, List.nil_append]; done) | (simp only [List.flatMap_append, List.flatMap_cons, List.flatMap_nil, List.map_append, List.map_cons, List.map_nil, List.append_nil, List.nil_append]; rfl)) (vi_clean _))) (tmAllU 6 (tmAllU 5 (tmAllU 1 (tmAllU 0 tmAll0 (Tm.refL rfl ?_)) (Tm.clo TmL.nil (TmL.cons (Tm.ptr rfl) (TmL.cons (Tm.ptr rfl) TmL.nil)))) (Tm.v _)) (Tm.v _)); all_goals (first | rfl | (simp only [List.length_take]; omega) | (simp only [List.length_append, List.length_cons, List.length_nil, List.length_modify, List.length_set, Nat.zero_add]; done) | (simp only [List.length_append, List.length_take, List.length_drop, List.length_cons, List.length_nil, List.length_modify, List.length_set, Nat.zero_add]; omega)))⟩
    ·
     have hl4 := cF hl4 h5
     refine awp_exit ?_
     refine lq_e ?_
     refine bq_e ?_
     refine sq_n ?_
     obtain rfl := someInj hl4
     exact ⟨_, rfl, (by refine Wk.canonD [] [] [some 0, some 1, some 2, some 3, some 4, some 5] rfl trivial rfl (tmOU 5 (tmOU 4 (tmOU 3 (tmOU 2 (tmOU 1 (tmOU 0 tmO0 rfl List.not_mem_nil (by simp only [upd_get, Nat.reduceEqDiff, reduceIte, Nat.reduceAdd, Nat.reduceMul, Nat.reduceSub, Nat.reduceLT, Nat.reduceLeDiff, if_true, if_false] <;> rfl) (TmL.of_eq (by first | rfl | (simp only [List.flatMap_append, List.flatMap_cons, List.flatMap_nil, List.map_append, List.map_cons, List.map_nil, List.append_nil, List.nil_append]; done) | (simp only [List.flatMap_append, List.flatMap_cons, List.flatMap_nil, List.map_append, List.map_cons, List.map_nil, List.append_nil, List.nil_append]; rfl)) (c_Unacked _))) rfl List.not_mem_nil (by simp only [upd_get, Nat.reduceEqDiff, reduceIte, Nat.reduceAdd, Nat.reduceMul, Nat.reduceSub, Nat.reduceLT, Nat.reduceLeDiff, if_true, if_false] <;> rfl) (TmL.cons (Tm.clo TmL.nil (TmL.cons (Tm.ptr rfl) (TmL.cons (Tm.ptr rfl) TmL.nil))) TmL.nil)) rfl List.not_mem_nil (by simp only [upd_get, Nat.reduceEqDiff, reduceIte, Nat.reduceAdd, Nat.reduceMul, Nat.reduceSub, Nat.reduceLT, Nat.reduceLeDiff, if_true, if_false] <;> rfl) (TmL.cons (Tm.refL rfl ?_) TmL.nil)) rfl List.not_mem_nil (by simp only [upd_get, Nat.reduceEqDiff, reduceIte, Nat.reduceAdd, Nat.reduceMul, Nat.reduceSub, Nat.reduceLT, Nat.reduceLeDiff, if_true, if_false] <;> rfl) (e_Sender_tmx (by rfl) (Tm.refL rfl ?_))) rfl List.not_mem_nil (by simp only [upd_get, Nat.reduceEqDiff, reduceIte, Nat.reduceAdd, Nat.reduceMul, Nat.reduceSub, Nat.reduceLT, Nat.reduceLeDiff, if_true, if_false] <;> rfl) (TmL.cons (Tm.v _) TmL.nil)) rfl List.not_mem_nil (by simp only [upd_get, Nat.reduceEqDiff, reduceIte, Nat.reduceAdd, Nat.reduceMul, Nat.reduceSub, Nat.reduceLT, Nat.reduceLeDiff, if_true, if_false] <;> rfl) (TmL.of_eq (by first | rfl | (simp only [List.flatMap_append, List.flatMap_cons, List.flatMap_nil, List.map_append, List.map_cons, List.map_nil, List.append_nil, List.nil_append]; done) | (simp only [List.flatMap_append, List.flatMap_cons, List.flatMap_nil, List.map_append, List.map_cons, List.map_nil, List.append_nil, List.nil_append]; rfl)) (vi_clean _))) (tmAllU 5 (tmAllU 0 tmAll0 (Tm.refL rfl ?_)) (Tm.v _)); all_goals (first | rfl | (simp only [List.length_take]; omega) | (simp only [List.length_append, List.length_cons, List.length_nil, List.length_modify, List.length_set, Nat.zero_add]; done) | (simp only [List.length_append, List.length_take, List.length_drop, List.length_cons, List.length_nil, List.length_modify, List.length_set, Nat.zero_add]; omega)))⟩
  ·
   rintro _ rfl
   clear hi2
   unfold slices_DeleteFunc_api_Unacked_api_Unacked_2_S0
   refine awp_nr [0,5] (fun _ => rfl) fun tz => ?_
   refine awp_regW fun KK hKK => ?_
   refine xw_id ?_
   obtain ⟨x53, bx53, h0⟩ := bnd h0
   have bx53 := chk_some bx53
   simp only [Bool.and_eq_true, decide_eq_true_eq] at bx53
   obtain ⟨gx53_0, gx53_1⟩ := bx53
   have g9 : ((((d48.1).length : Nat) : Int) - d48.2.1).toNat = ((d48.1).length) - (d48.2.1).toNat := by omega
   have gs10 : ((d48.2.1).toNat * 44 + (((d48.1).length) - (d48.2.1).toNat) * 44 ≤ d48.1.length * 44) = True := eq_true (by omega)
   try simp only [go_sem, Nat.reduceEqDiff, reduceIte, Nat.reduceAdd, Nat.reduceMul, Nat.reduceSub, Nat.reduceLT, Nat.reduceLeDiff, Int.reduceToNat, Int.reduceBEq, Int.reduceBNe, Int.reduceLT, Int.reduceLE, Int.reduceAdd, Int.reduceSub, Int.reduceMul, Int.reduceNeg, Int.reduceEq, Int.reduceNe, gx53_0, gx53_1, g9, gs10]
   have ht : putAt (List.flatMap E_Unacked d48.1) ((d48.2.1).toNat * 44) (rep (((d48.1).length) - (d48.2.1).toNat) (e_Unacked Unacked.z vnil)) = (List.flatMap E_Unacked (List.take ((d48.2.1).toNat) d48.1)) ++ _ := rows_cut l_Unacked _ _ _ (by rw [rep_length]; exact of_eq_true gs10)
   refine hKK _ _ (Wk.trim 0 ?_ ht) ?_
   ·
    simp only [upd_get, Nat.reduceEqDiff, reduceIte, Nat.reduceAdd, Nat.reduceMul, Nat.reduceSub, Nat.reduceLT, Nat.reduceLeDiff, if_true, if_false] <;> rfl
   clear hKK KK ht
   refine awp_nr [0,5] (fun _ => rfl) fun tz => ?_
   refine awp_regW fun KK hKK => ?_
   refine xw_id ?_
   obtain ⟨x54, bx54, h0⟩ := bnd h0
   have bx54 := chk_some bx54
   simp only [Bool.and_eq_true, decide_eq_true_eq] at bx54
   obtain ⟨gx54_0, gx54_1⟩ := bx54
   try simp only [go_sem, Nat.reduceEqDiff, reduceIte, Nat.reduceAdd, Nat.reduceMul, Nat.reduceSub, Nat.reduceLT, Nat.reduceLeDiff, gx54_0, gx54_1, Int.sub_zero]
   refine hKK _ _ (Wk.refl _ _ _) ?_; clear hKK KK
   refine awp_ret1 ?_
   obtain rfl := someInj h0
   refine endW_i ?_
   refine end_ret0 rs54 (rfl) ?_
   refine ResIO.mk [] [some 0, some 1, some 2, some 3, some 4, some 5] rfl (resEU List.not_mem_nil (by simp only [upd_get, Nat.reduceEqDiff, reduceIte, Nat.reduceAdd, Nat.reduceMul, Nat.reduceSub, Nat.reduceLT, Nat.reduceLeDiff, if_true, if_false] <;> rfl) (TmL.of_eq (by first | rfl | (simp only [List.flatMap_append, List.flatMap_cons, List.flatMap_nil, List.map_append, List.map_cons, List.map_nil, List.append_nil, List.nil_append]; done) | (simp only [List.flatMap_append, List.flatMap_cons, List.flatMap_nil, List.map_append, List.map_cons, List.map_nil, List.append_nil, List.nil_append]; rfl)) (c_Unacked _)) (resEU List.not_mem_nil (by simp only [upd_get, Nat.reduceEqDiff, reduceIte, Nat.reduceAdd, Nat.reduceMul, Nat.reduceSub, Nat.reduceLT, Nat.reduceLeDiff, if_true, if_false] <;> rfl) (TmL.cons (Tm.clo TmL.nil (TmL.cons (Tm.ptr rfl) (TmL.cons (Tm.ptr rfl) TmL.nil))) TmL.nil) (resEU List.not_mem_nil (by simp only [upd_get, Nat.reduceEqDiff, reduceIte, Nat.reduceAdd, Nat.reduceMul, Nat.reduceSub, Nat.reduceLT, Nat.reduceLeDiff, if_true, if_false] <;> rfl) (TmL.cons (Tm.refL rfl ?_) TmL.nil) (resEU List.not_mem_nil (by simp only [upd_get, Nat.reduceEqDiff, reduceIte, Nat.reduceAdd, Nat.reduceMul, Nat.reduceSub, Nat.reduceLT, Nat.reduceLeDiff, if_true, if_false] <;> rfl) (e_Sender_tmx (by rfl) (Tm.unk _)) (resEU List.not_mem_nil (by simp only [upd_get, Nat.reduceEqDiff, reduceIte, Nat.reduceAdd, Nat.reduceMul, Nat.reduceSub, Nat.reduceLT, Nat.reduceLeDiff, if_true, if_false] <;> rfl) (TmL.cons (Tm.v _) TmL.nil) (resEU List.not_mem_nil (by simp only [upd_get, Nat.reduceEqDiff, reduceIte, Nat.reduceAdd, Nat.reduceMul, Nat.reduceSub, Nat.reduceLT, Nat.reduceLeDiff, if_true, if_false] <;> rfl) (TmL.of_eq (by first | rfl | (simp only [List.flatMap_append, List.flatMap_cons, List.flatMap_nil, List.map_append, List.map_cons, List.map_nil, List.append_nil, List.nil_append]; done) | (simp only [List.flatMap_append, List.flatMap_cons, List.flatMap_nil, List.map_append, List.map_cons, List.map_nil, List.append_nil, List.nil_append]; rfl)) (vi_clean _)) resE0)))))) (Tm.refL rfl ?_)
   all_goals (first | rfl | (simp only [List.length_take]; omega) | (simp only [List.length_append, List.length_cons, List.length_nil, List.length_modify, List.length_set, Nat.zero_add]; done) | (simp only [List.length_append, List.length_take, List.length_drop, List.length_cons, List.length_nil, List.length_modify, List.length_set, Nat.zero_add]; omega))

end Go.AX.Z.TS

/-! (TSW sender remove 2) -/

set_option linter.unusedSimpArgs false
set_option linter.unusedVariables false
set_option maxHeartbeats 4000000
namespace Go.AX.Z.TS
open Go.AX Go.Proofs
attribute [local irreducible] awp xw xop xcall gsp ob xd xdop xcallD seqQ loopQ blkQ endQ


theorem sender_remove_2_io (a0 : Sender) (a1 : Int) {r : (List Int × Sender × List Unacked)} (h0 : sender_remove_2 a0 a1 = some r) : SndIO K 44 3 (fun q => [(.ptr (q 0) 0), (.clo 48 [] [(.ptr (q 0) 0), (.ptr (q 1) 0)])]) [(fun q => (e_Sender a0 (.ref (q 2) 0 a0.Out.length 44))), (fun q => [(vi a1)]), (fun q => (List.flatMap E_Unacked a0.Out))] (fun q => (.ref (q 3) 0 ((r.1).length) 1)) [(some (fun q => (e_Sender r.2.1 (.ref (q 2) 0 ((r.2.2).length) 44)))), (some (fun q => [(vi a1)])), (some (fun q => (List.flatMap E_Unacked r.2.2))), (some (fun q => (List.map vi r.1)))] := by
 refine SndIO.of_walkW hC (RenML.cons (RenM.ptr 0 0) (RenML.cons (RenM.clo RenML.nil (RenML.cons (RenM.ptr 0 0) (RenML.cons (RenM.ptr 1 0) RenML.nil))) RenML.nil)) (tpl_cons (e_Sender_ren _ (RenM.ref 2 0 _ _)) (tpl_cons (RenML.cons (RenM.const (Clean.v _)) RenML.nil) (tpl_cons (RenML.const (c_Unacked _)) tpl_nil))) (otpl_some (e_Sender_ren _ (RenM.ref 2 0 _ _)) (otpl_some (RenML.cons (RenM.const (Clean.v _)) RenML.nil) (otpl_some (RenML.const (c_Unacked _)) (otpl_some (RenML.const (vi_clean _)) otpl_nil)))) (RenM.ref 3 0 _ _) rfl (Nat.le_of_ble_eq_true rfl) (show K.P.funcs[44]? = some Try.f44 from Try.func44) rfl rfl (by decide +kernel) (Nat.le_of_ble_eq_true rfl) ?_
 unfold sender_remove_2 at h0
 refine awp_nr [0,1] (fun _ => rfl) fun tz => ?_
 refine awp_regW fun KK hKK => ?_
 refine xw_id ?_
 try simp only [go_sem, Nat.reduceEqDiff, reduceIte, Nat.reduceAdd, Nat.reduceMul, Nat.reduceSub, Nat.reduceLT, Nat.reduceLeDiff]
 refine hKK _ _ (Wk.refl _ _ _) ?_; clear hKK KK
 refine awp_nr [0,3,4] (fun _ => rfl) fun tz => ?_
 refine awp_regW fun KK hKK => ?_
 refine xw_id ?_
 obtain ⟨x47, bx47, h0⟩ := bnd h0
 try simp only [go_sem, Nat.reduceEqDiff, reduceIte, Nat.reduceAdd, Nat.reduceMul, Nat.reduceSub, Nat.reduceLT, Nat.reduceLeDiff]
 refine xcall_O [2, 3, 4, 0, 1] (slices_DeleteFunc_api_Unacked_api_Unacked_2_io a0 a1 bx47) (by decide) (by decide) ⟨(by first | rfl | (simp only [go_sem, Nat.reduceEqDiff, reduceIte, Nat.reduceAdd, Nat.reduceMul, Nat.reduceSub, Nat.reduceLT, Nat.reduceLeDiff]; done) | (simp only [go_sem, Nat.reduceEqDiff, reduceIte, Nat.reduceAdd, Nat.reduceMul, Nat.reduceSub, Nat.reduceLT, Nat.reduceLeDiff]; rfl)), (by first | rfl | (simp only [go_sem, Nat.reduceEqDiff, reduceIte, Nat.reduceAdd, Nat.reduceMul, Nat.reduceSub, Nat.reduceLT, Nat.reduceLeDiff]; done) | (simp only [go_sem, Nat.reduceEqDiff, reduceIte, Nat.reduceAdd, Nat.reduceMul, Nat.reduceSub, Nat.reduceLT, Nat.reduceLeDiff]; rfl)), (by first | rfl | (simp only [go_sem, Nat.reduceEqDiff, reduceIte, Nat.reduceAdd, Nat.reduceMul, Nat.reduceSub, Nat.reduceLT, Nat.reduceLeDiff]; done) | (simp only [go_sem, Nat.reduceEqDiff, reduceIte, Nat.reduceAdd, Nat.reduceMul, Nat.reduceSub, Nat.reduceLT, Nat.reduceLeDiff]; rfl)), (by first | rfl | (simp only [go_sem, Nat.reduceEqDiff, reduceIte, Nat.reduceAdd, Nat.reduceMul, Nat.reduceSub, Nat.reduceLT, Nat.reduceLeDiff]; done) | (simp only [go_sem, Nat.reduceEqDiff, reduceIte, Nat.reduceAdd, Nat.reduceMul, Nat.reduceSub, Nat.reduceLT, Nat.reduceLeDiff]; rfl)), (by first | rfl | (simp only [go_sem, Nat.reduceEqDiff, reduceIte, Nat.reduceAdd, Nat.reduceMul, Nat.reduceSub, Nat.reduceLT, Nat.reduceLeDiff]; done) | (simp only [go_sem, Nat.reduceEqDiff, reduceIte, Nat.reduceAdd, Nat.reduceMul, Nat.reduceSub, Nat.reduceLT, Nat.reduceLeDiff]; rfl)), trivial⟩ (by first | rfl | (simp only [go_sem, Nat.reduceEqDiff, reduceIte, Nat.reduceAdd, Nat.reduceMul, Nat.reduceSub, Nat.reduceLT, Nat.reduceLeDiff]; done) | (simp only [go_sem, Nat.reduceEqDiff, reduceIte, Nat.reduceAdd, Nat.reduceMul, Nat.reduceSub, Nat.reduceLT, Nat.reduceLeDiff]; rfl)) ?_; try dsimp only
 try refine xw_id ?_
 try simp only [go_sem, Nat.reduceEqDiff, reduceIte, Nat.reduceAdd, Nat.reduceMul, Nat.reduceSub, Nat.reduceLT, Nat.reduceLeDiff, List.length_cons, List.length_nil]
 refine hKK _ _ (Wk.refl _ _ _) ?_; clear hKK KK
 refine awp_nr [4] (fun _ => rfl) fun tz => ?_
 refine awp_regW fun KK hKK => ?_
 refine xw_id ?_
 try simp only [go_sem, Nat.reduceEqDiff, reduceIte, Nat.reduceAdd, Nat.reduceMul, Nat.reduceSub, Nat.reduceLT, Nat.reduceLeDiff]
 refine hKK _ _ (Wk.refl _ _ _) ?_; clear hKK KK
 refine awp_ret1 ?_
 obtain rfl := someInj h0
 refine endW_i ?_
 refine end_ret0 rs44 (by simp only [go_sem, resV, resAll, resOf, packR, Nat.reduceEqDiff, reduceIte, Nat.reduceAdd, Nat.reduceMul, Nat.reduceSub, Nat.reduceLT, Nat.reduceLeDiff]; rfl) ?_
 refine ResIO.mk [] [some 0, some 1, some 2, some 15] rfl (resEU List.not_mem_nil (by simp only [upd_get, Nat.reduceEqDiff, reduceIte, Nat.reduceAdd, Nat.reduceMul, Nat.reduceSub, Nat.reduceLT, Nat.reduceLeDiff, if_true, if_false] <;> rfl) (e_Sender_tmx (by rfl) (Tm.refL rfl ?_)) (resEU List.not_mem_nil (by simp only [upd_get, Nat.reduceEqDiff, reduceIte, Nat.reduceAdd, Nat.reduceMul, Nat.reduceSub, Nat.reduceLT, Nat.reduceLeDiff, if_true, if_false] <;> rfl) (TmL.cons (Tm.v _) TmL.nil) (resEU List.not_mem_nil (by simp only [upd_get, Nat.reduceEqDiff, reduceIte, Nat.reduceAdd, Nat.reduceMul, Nat.reduceSub, Nat.reduceLT, Nat.reduceLeDiff, if_true, if_false] <;> rfl) (TmL.of_eq (by first | rfl | (simp only [List.flatMap_append, List.flatMap_cons, List.flatMap_nil, List.map_append, List.map_cons, List.map_nil, List.append_nil, List.nil_append]; done) | (simp only [List.flatMap_append, List.flatMap_cons, List.flatMap_nil, List.map_append, List.map_cons, List.map_nil, List.append_nil, List.nil_append]; rfl)) (c_Unacked _)) (resEU List.not_mem_nil (by simp only [upd_get, Nat.reduceEqDiff, reduceIte, Nat.reduceAdd, Nat.reduceMul, Nat.reduceSub, Nat.reduceLT, Nat.reduceLeDiff, if_true, if_false] <;> rfl) (TmL.of_eq (by first | rfl | (simp only [List.flatMap_append, List.flatMap_cons, List.flatMap_nil, List.map_append, List.map_cons, List.map_nil, List.append_nil, List.nil_append]; done) | (simp only [List.flatMap_append, List.flatMap_cons, List.flatMap_nil, List.map_append, List.map_cons, List.map_nil, List.append_nil, List.nil_append]; rfl)) (vi_clean _)) resE0)))) (Tm.refL rfl ?_)
 all_goals (first | rfl | (simp only [List.length_take]; omega) | (simp only [List.length_append, List.length_cons, List.length_nil, List.length_modify, List.length_set, Nat.zero_add]; done) | (simp only [List.length_append, List.length_take, List.length_drop, List.length_cons, List.length_nil, List.length_modify, List.length_set, Nat.zero_add]; omega))

end Go.AX.Z.TS

/-! (TSW sender Expire) -/

set_option linter.unusedSimpArgs false
set_option linter.unusedVariables false
set_option maxHeartbeats 4000000
namespace Go.AX.Z.TS
open Go.AX Go.Proofs
attribute [local irreducible] awp xw xop xcall gsp ob xd xdop xcallD seqQ loopQ blkQ endQ

def sender_Expire_S0 (x46 : (Sender × Int)) (a1 : Int) : AS :=
 { objs := (upd (upd (upd (upd (fun _ => .dead) 0 (.live (e_Sender x46.1 (.ref 1 0 x46.1.Out.length 44)))) 1 (.live (List.flatMap E_Unacked x46.1.Out))) 2 (.live [(vi a1)])) 3 (.live (e_Sender Sender.z vnil))), next := 4, tmps := (upd (upd (upd (upd (fun _ => .unk) 2 (.ptr 0 0)) 3 (.ptr 2 0)) 5 (.ptr 3 0)) 6 (vi x46.2)) }

theorem sender_Expire_r (a0 : Sender) (a1 : Int) {r : ((List Int) × Sender × Int)} (h0 : sender_Expire a0 a1 = some r) : SndR K 23 [(.agg (E_Sender a0)), (vi a1)] (fun q => (.tup [(.ref (q 0) 0 r.1.length 1), (.agg (e_Sender r.2.1 (.ref (q 1) 0 r.2.1.Out.length 44))), (vi r.2.2)])) [(List.map vi r.1), (List.flatMap E_Unacked r.2.1.Out)] := by
 refine SndR.of_walkW hC (show K.P.funcs[23]? = some Try.f23 from Try.func23) rfl rfl (by decide +kernel) (Nat.le_of_ble_eq_true rfl) ?_
 unfold sender_Expire at h0
 refine awp_nr [0,1] (fun _ => rfl) fun tz => ?_
 refine awp_regW fun KK hKK => ?_
 refine xw_id ?_
 try simp only [go_sem, Nat.reduceEqDiff, reduceIte, Nat.reduceAdd, Nat.reduceMul, Nat.reduceSub, Nat.reduceLT, Nat.reduceLeDiff]
 refine hKK _ _ (Wk.refl _ _ _) ?_; clear hKK KK
 refine awp_nr [2,3,5] (fun _ => rfl) fun tz => ?_
 refine awp_regDW fun KK hKK all hall => ?_
 refine xd_id ?_
 try simp only [List.toList_toArray, List.map_cons, List.map_nil, List.size_toArray, List.length_cons, List.length_nil, Nat.zero_add]
 try simp only [Nat.reduceAdd]
 obtain ⟨x45, bx45, h0⟩ := bnd h0
 simp only [go_sem, Nat.reduceEqDiff, reduceIte, Nat.reduceMul, Nat.reduceSub, Nat.reduceLT, Nat.reduceLeDiff]
 try simp only [Nat.reduceAdd]
 try simp only [go_sem, Nat.reduceEqDiff, reduceIte, Nat.reduceMul, Nat.reduceSub, Nat.reduceLT, Nat.reduceLeDiff]
 try simp only [Nat.reduceAdd]
 try simp only [go_sem, Nat.reduceEqDiff, reduceIte, Nat.reduceMul, Nat.reduceSub, Nat.reduceLT, Nat.reduceLeDiff]
 refine xcallD_p (sender_within_p a1 0 1099511627776 bx45) ?_; try dsimp only
 try refine xd_id ?_
 obtain ⟨x46, bx46, h0⟩ := bnd h0
 simp only [go_sem, Nat.reduceEqDiff, reduceIte, Nat.reduceMul, Nat.reduceSub, Nat.reduceLT, Nat.reduceLeDiff]
 try simp only [Nat.reduceAdd]
 try simp only [go_sem, Nat.reduceEqDiff, reduceIte, Nat.reduceMul, Nat.reduceSub, Nat.reduceLT, Nat.reduceLeDiff]
 try simp only [Nat.reduceAdd]
 try simp only [go_sem, Nat.reduceEqDiff, reduceIte, Nat.reduceMul, Nat.reduceSub, Nat.reduceLT, Nat.reduceLeDiff]
 refine xcallD_E (sender_open_e a0 x45 bx46 _) ?_; try dsimp only
 try refine xd_id ?_
 simp only [go_sem, Nat.reduceEqDiff, reduceIte, Nat.reduceMul, Nat.reduceSub, Nat.reduceLT, Nat.reduceLeDiff]
 try simp only [Nat.reduceAdd]
 try simp only [go_sem, Nat.reduceEqDiff, reduceIte, Nat.reduceMul, Nat.reduceSub, Nat.reduceLT, Nat.reduceLeDiff]
 try simp only [Nat.reduceAdd]
 try simp only [go_sem, Nat.reduceEqDiff, reduceIte, Nat.reduceMul, Nat.reduceSub, Nat.reduceLT, Nat.reduceLeDiff]
 refine And.intro ?_ (hKK _ (sender_Expire_S0 x46 a1) (by refine Wk.canonD [] [] [some 0, some 8, some 1, some 3] rfl trivial rfl (tmOU 3 (tmOU 2 (tmOU 1 (tmOU 0 tmO0 rfl List.not_mem_nil (by simp only [upd_get, Nat.reduceEqDiff, reduceIte, Nat.reduceAdd, Nat.reduceMul, Nat.reduceSub, Nat.reduceLT, Nat.reduceLeDiff, if_true, if_false] <;> rfl) (e_Sender_tmx (by rfl) (Tm.refL rfl ?_))) rfl List.not_mem_nil (by simp only [upd_get, Nat.reduceEqDiff, reduceIte, Nat.reduceAdd, Nat.reduceMul, Nat.reduceSub, Nat.reduceLT, Nat.reduceLeDiff, if_true, if_false] <;> rfl) (TmL.of_eq (by first | rfl | (simp only [List.flatMap_append, List.flatMap_cons, List.flatMap_nil, List.map_append, List.map_cons, List.map_nil, List.append_nil, List.nil_append]; done) | (simp only [List.flatMap_append, List.flatMap_cons, List.flatMap_nil, List.map_append, List.map_cons, List.map_nil, List.append_nil, List.nil_append]; rfl)) (c_Unacked _))) rfl List.not_mem_nil (by simp only [upd_get, Nat.reduceEqDiff, reduceIte, Nat.reduceAdd, Nat.reduceMul, Nat.reduceSub, Nat.reduceLT, Nat.reduceLeDiff, if_true, if_false] <;> rfl) (TmL.cons (Tm.v _) TmL.nil)) rfl List.not_mem_nil (by simp only [upd_get, Nat.reduceEqDiff, reduceIte, Nat.reduceAdd, Nat.reduceMul, Nat.reduceSub, Nat.reduceLT, Nat.reduceLeDiff, if_true, if_false] <;> rfl) (e_Sender_tmx (by rfl) (Tm.v _))) (tmAllU 6 (tmAllU 5 (tmAllU 3 (tmAllU 2 tmAll0 (Tm.ptr rfl)) (Tm.ptr rfl)) (Tm.ptr rfl)) (Tm.v _)); all_goals (first | rfl | (simp only [List.length_take]; omega) | (simp only [List.length_append, List.length_cons, List.length_nil, List.length_modify, List.length_set, Nat.zero_add]; done) | (simp only [List.length_append, List.length_take, List.length_drop, List.length_cons, List.length_nil, List.length_modify, List.length_set, Nat.zero_add]; omega))) ?_)
 ·
  subst hall
  clear hKK KK
  first | (simp [printsOk, apartP, clash, meet]; done) | (simp [printsOk, apartP, clash, meet]; decide +kernel) | decide +kernel
 ·
  clear hKK KK hall all
  unfold sender_Expire_S0
  refine awp_assoc ?_
  refine awp_nr [2,3,5,6] (fun _ => rfl) fun tz => ?_
  refine awp_regW fun KK hKK => ?_
  refine xw_id ?_
  try simp only [go_sem, Nat.reduceEqDiff, reduceIte, Nat.reduceAdd, Nat.reduceMul, Nat.reduceSub, Nat.reduceLT, Nat.reduceLeDiff]
  refine hKK _ _ (Wk.refl _ _ _) ?_; clear hKK KK
  refine awp_cond (b := (x46.2 != 0)) rfl (fun h1 => ?_) (fun h1 => ?_)
  ·
   have h0 := cT h0 h1
   refine awp_assoc ?_
   refine awp_nr [5,6] (fun _ => rfl) fun tz => ?_
   refine awp_regW fun KK hKK => ?_
   refine xw_id ?_
   try simp only [go_sem, Nat.reduceEqDiff, reduceIte, Nat.reduceAdd, Nat.reduceMul, Nat.reduceSub, Nat.reduceLT, Nat.reduceLeDiff]
   refine hKK _ _ (Wk.refl _ _ _) ?_; clear hKK KK
   refine awp_ret ?_
   obtain rfl := someInj h0
   refine endW_i ?_
   refine end_ret0 rs23 (by simp only [go_sem, resV, resAll, resOf, packR, Nat.reduceEqDiff, reduceIte, Nat.reduceAdd, Nat.reduceMul, Nat.reduceSub, Nat.reduceLT, Nat.reduceLeDiff]; rfl) ?_
   refine Res.mk [] [none, none] rfl (resON (resON resO0)) (Tm.tup (TmL.cons (Tm.thaw _ _ _) (TmL.cons (Tm.agg (e_Sender_tmx (by rfl) (Tm.thaw _ _ _))) (TmL.cons (Tm.v _) TmL.nil))))
  ·
   have h0 := cF h0 h1
   refine awp_skip ?_
   refine awp_nr [2,3,5] (fun _ => rfl) fun tz => ?_
   refine awp_regW fun KK hKK => ?_
   refine xw_id ?_
   obtain ⟨x47, bx47, h0⟩ := bnd h0
   try simp only [go_sem, Nat.reduceEqDiff, reduceIte, Nat.reduceAdd, Nat.reduceMul, Nat.reduceSub, Nat.reduceLT, Nat.reduceLeDiff]
   refine xcall_O [0, 2, 1] (sender_remove_2_io x46.1 a1 bx47) (by decide) (by decide) ⟨(by first | rfl | (simp only [go_sem, Nat.reduceEqDiff, reduceIte, Nat.reduceAdd, Nat.reduceMul, Nat.reduceSub, Nat.reduceLT, Nat.reduceLeDiff]; done) | (simp only [go_sem, Nat.reduceEqDiff, reduceIte, Nat.reduceAdd, Nat.reduceMul, Nat.reduceSub, Nat.reduceLT, Nat.reduceLeDiff]; rfl)), (by first | rfl | (simp only [go_sem, Nat.reduceEqDiff, reduceIte, Nat.reduceAdd, Nat.reduceMul, Nat.reduceSub, Nat.reduceLT, Nat.reduceLeDiff]; done) | (simp only [go_sem, Nat.reduceEqDiff, reduceIte, Nat.reduceAdd, Nat.reduceMul, Nat.reduceSub, Nat.reduceLT, Nat.reduceLeDiff]; rfl)), (by first | rfl | (simp only [go_sem, Nat.reduceEqDiff, reduceIte, Nat.reduceAdd, Nat.reduceMul, Nat.reduceSub, Nat.reduceLT, Nat.reduceLeDiff]; done) | (simp only [go_sem, Nat.reduceEqDiff, reduceIte, Nat.reduceAdd, Nat.reduceMul, Nat.reduceSub, Nat.reduceLT, Nat.reduceLeDiff]; rfl)), trivial⟩ (by first | rfl | (simp only [go_sem, Nat.reduceEqDiff, reduceIte, Nat.reduceAdd, Nat.reduceMul, Nat.reduceSub, Nat.reduceLT, Nat.reduceLeDiff]; done) | (simp only [go_sem, Nat.reduceEqDiff, reduceIte, Nat.reduceAdd, Nat.reduceMul, Nat.reduceSub, Nat.reduceLT, Nat.reduceLeDiff]; rfl)) ?_; try dsimp only
   try refine xw_id ?_
   try simp only [go_sem, Nat.reduceEqDiff, reduceIte, Nat.reduceAdd, Nat.reduceMul, Nat.reduceSub, Nat.reduceLT, Nat.reduceLeDiff, List.length_cons, List.length_nil]
   refine hKK _ _ (Wk.refl _ _ _) ?_; clear hKK KK
   refine awp_nr [2,4,5] (fun _ => rfl) fun tz => ?_
   refine awp_regW fun KK hKK => ?_
   refine xw_id ?_
   refine xw_stop 3 (by simp only [go_sem]; rfl) (by simp only [go_sem]; rfl) (by rfl) fun K1 hK1 => ?_
   refine xw_id ?_
   try simp only [go_sem, Nat.reduceEqDiff, reduceIte, Nat.reduceAdd, Nat.reduceMul, Nat.reduceSub, Nat.reduceLT, Nat.reduceLeDiff]
   refine hK1 _ ?_; clear hK1 K1
   refine xw_cut 4 [(2, (.ptr 0 0)), (4, (.ref 9 0 ((x47.1).length) 1)), (5, (.ptr 3 0)), (26, (vb (x47.2.1.Bar || (decide (0 < (((x47.1).length : Nat) : Int))))))] (by simp only [go_sem]; rfl) (by simp only [go_sem]; rfl) (by rfl) (fun K1 hK1 => ?_) fun tz => ?_
   ·
    refine xw_id ?_
    rcases Bool.eq_false_or_eq_true x47.2.1.Bar with h2 | h2
    ·
     try simp only [go_sem, Nat.reduceEqDiff, reduceIte, Nat.reduceAdd, Nat.reduceMul, Nat.reduceSub, Nat.reduceLT, Nat.reduceLeDiff, h2]
     exact hK1 _ ⟨rfl, rfl, rfl, rfl, (by first | rfl | (rw [h2]; rfl) | (simp only [h2, Bool.true_and, Bool.false_and, Bool.true_or, Bool.false_or, cond_true, cond_false]; done)), trivial⟩
    ·
     try simp only [go_sem, Nat.reduceEqDiff, reduceIte, Nat.reduceAdd, Nat.reduceMul, Nat.reduceSub, Nat.reduceLT, Nat.reduceLeDiff, Int.reduceToNat, Int.reduceBEq, Int.reduceBNe, Int.reduceLT, Int.reduceLE, Int.reduceAdd, Int.reduceSub, Int.reduceMul, Int.reduceNeg, Int.reduceEq, Int.reduceNe, h2]
     exact hK1 _ ⟨rfl, rfl, rfl, rfl, (by first | rfl | (rw [h2]; rfl) | (simp only [h2, Bool.true_and, Bool.false_and, Bool.true_or, Bool.false_or, cond_true, cond_false]; done)), trivial⟩
   ·
    refine xw_id ?_
    try simp only [go_sem, Nat.reduceEqDiff, reduceIte, Nat.reduceAdd, Nat.reduceMul, Nat.reduceSub, Nat.reduceLT, Nat.reduceLeDiff]
    refine hKK _ _ (Wk.refl _ _ _) ?_; clear hKK KK
    refine awp_nr [2,4,5] (fun _ => rfl) fun tz => ?_
    refine awp_regDW fun KK hKK all hall => ?_
    refine xd_id ?_
    try simp only [List.toList_toArray, List.map_cons, List.map_nil, List.size_toArray, List.length_cons, List.length_nil, Nat.zero_add]
    try simp only [Nat.reduceAdd]
    simp only [go_sem, Nat.reduceEqDiff, reduceIte, Nat.reduceMul, Nat.reduceSub, Nat.reduceLT, Nat.reduceLeDiff]
    try simp only [Nat.reduceAdd]
    try simp only [go_sem, Nat.reduceEqDiff, reduceIte, Nat.reduceMul, Nat.reduceSub, Nat.reduceLT, Nat.reduceLeDiff]
    try simp only [Nat.reduceAdd]
    try simp only [go_sem, Nat.reduceEqDiff, reduceIte, Nat.reduceMul, Nat.reduceSub, Nat.reduceLT, Nat.reduceLeDiff]
    refine And.intro ?_ (hKK _ _ (Wk.refl _ _ _) ?_)
    ·
     subst hall
     clear hKK KK
     first | (simp [printsOk, apartP, clash, meet]; done) | (simp [printsOk, apartP, clash, meet]; decide +kernel) | decide +kernel
    ·
     clear hKK KK hall all
     refine awp_ret1 ?_
     obtain rfl := someInj h0
     refine endW_i ?_
     refine end_ret0 rs23 (by simp only [go_sem, resV, resAll, resOf, packR, Nat.reduceEqDiff, reduceIte, Nat.reduceAdd, Nat.reduceMul, Nat.reduceSub, Nat.reduceLT, Nat.reduceLeDiff]; rfl) ?_
     refine Res.mk [] [some 9, some 1] rfl (resOU List.not_mem_nil (by simp only [upd_get, Nat.reduceEqDiff, reduceIte, Nat.reduceAdd, Nat.reduceMul, Nat.reduceSub, Nat.reduceLT, Nat.reduceLeDiff, if_true, if_false] <;> rfl) (TmL.of_eq (by first | rfl | (simp only [List.flatMap_append, List.flatMap_cons, List.flatMap_nil, List.map_append, List.map_cons, List.map_nil, List.append_nil, List.nil_append]; done) | (simp only [List.flatMap_append, List.flatMap_cons, List.flatMap_nil, List.map_append, List.map_cons, List.map_nil, List.append_nil, List.nil_append]; rfl)) (vi_clean _)) (resOU List.not_mem_nil (by simp only [upd_get, Nat.reduceEqDiff, reduceIte, Nat.reduceAdd, Nat.reduceMul, Nat.reduceSub, Nat.reduceLT, Nat.reduceLeDiff, if_true, if_false] <;> rfl) (TmL.of_eq (by first | rfl | (simp only [List.flatMap_append, List.flatMap_cons, List.flatMap_nil, List.map_append, List.map_cons, List.map_nil, List.append_nil, List.nil_append]; done) | (simp only [List.flatMap_append, List.flatMap_cons, List.flatMap_nil, List.map_append, List.map_cons, List.map_nil, List.append_nil, List.nil_append]; rfl)) (c_Unacked _)) resO0)) (Tm.tup (TmL.cons (Tm.refL rfl ?_) (TmL.cons (Tm.agg (e_Sender_tmx (by rfl) (Tm.refL rfl ?_))) (TmL.cons (Tm.v _) TmL.nil))))
     all_goals (first | rfl | (simp only [List.length_take]; omega) | (simp only [List.length_append, List.length_cons, List.length_nil, List.length_modify, List.length_set, Nat.zero_add]; done) | (simp only [List.length_append, List.length_take, List.length_drop, List.length_cons, List.length_nil, List.length_modify, List.length_set, Nat.zero_add]; omega))

theorem sender_Expire_m (a0 : Sender) (a1 : Int) {r : ((List Int) × Sender × Int)} (h0 : sender_Expire a0 a1 = some r) : SndM K 23 [(.agg (E_Sender a0)), (vi a1)] (fun q => (.tup [(.ref (q 0) 0 r.1.length 1), (.agg (e_Sender r.2.1 (.ref (q 1) 0 r.2.1.Out.length 44))), (vi r.2.2)])) [(List.map vi r.1), (List.flatMap E_Unacked r.2.1.Out)] :=
 fun hs => Snd.of_newM (RenM.tup (RenML.cons (RenM.ref 0 0 _ _) (RenML.cons (RenM.agg (e_Sender_ren _ (RenM.ref 1 0 _ _))) (RenML.cons (RenM.const (Clean.v _)) RenML.nil)))) (rows_all_cons (vi_clean _) (rows_all_cons (c_Unacked _) rows_all_nil)) (clean_cons (Clean.agg (E_Sender_clean _)) (clean_cons (Clean.v _) clean_nil)) (sender_Expire_r a0 a1 h0) hs

theorem sender_Expire_p (a0 : Sender) (a1 : Int) {r : ((List Int) × Sender × Int)} (h0 : sender_Expire a0 a1 = some r) : SndP K 23 [(.agg (E_Sender a0)), (vi a1)] (.tup [(S_vi r.1), (.agg (E_Sender r.2.1)), (vi r.2.2)]) :=
 SndM.pure (sender_Expire_m a0 a1 h0) (Clean.tup (clean_cons (S_vi_clean _) (clean_cons (Clean.agg (E_Sender_clean _)) (clean_cons (Clean.v _) clean_nil)))) (clean_cons (Clean.agg (E_Sender_clean _)) (clean_cons (Clean.v _) clean_nil)) (by simp only [go_sem, newL_n, newL_c, upd_get, fz, nilS, cond_true, cond_false, List.drop_zero, List.take_length, List.length_map, ble_self, Nat.reduceEqDiff, reduceIte, Nat.reduceAdd, Nat.reduceMul, Nat.reduceSub, Nat.reduceLT, Nat.reduceLeDiff] <;> rfl)

end Go.AX.Z.TS

/-! (TSW sender Barred) -/

set_option linter.unusedSimpArgs false
set_option linter.unusedVariables false
set_option maxHeartbeats 4000000
namespace Go.AX.Z.TS
open Go.AX Go.Proofs
attribute [local irreducible] awp xw xop xcall gsp ob xd xdop xcallD seqQ loopQ blkQ endQ

def sender_Barred_S0 (x49 : (Sender × Int)) : AS :=
 { objs := (upd (upd (upd (fun _ => .dead) 0 (.live (e_Sender x49.1 (.ref 1 0 x49.1.Out.length 44)))) 1 (.live (List.flatMap E_Unacked x49.1.Out))) 2 (.live (e_Sender Sender.z vnil))), next := 3, tmps := (upd (upd (upd (fun _ => .unk) 1 (.ptr 0 0)) 2 (.ptr 2 0)) 4 (vi x49.2)) }

theorem sender_Barred_r (a0 : Sender) {r : (Sender × Int)} (h0 : sender_Barred a0 = some r) : SndR K 51 [(.agg (E_Sender a0))] (fun q => (.tup [(.agg (e_Sender r.1 (.ref (q 0) 0 r.1.Out.length 44))), (vi r.2)])) [(List.flatMap E_Unacked r.1.Out)] := by
 refine SndR.of_walkW hC (show K.P.funcs[51]? = some Try.f51 from Try.func51) rfl rfl (by decide +kernel) (Nat.le_of_ble_eq_true rfl) ?_
 unfold sender_Barred at h0
 refine awp_nr [0] (fun _ => rfl) fun tz => ?_
 refine awp_regW fun KK hKK => ?_
 refine xw_id ?_
 try simp only [go_sem, Nat.reduceEqDiff, reduceIte, Nat.reduceAdd, Nat.reduceMul, Nat.reduceSub, Nat.reduceLT, Nat.reduceLeDiff]
 refine hKK _ _ (Wk.refl _ _ _) ?_; clear hKK KK
 refine awp_nr [1,2] (fun _ => rfl) fun tz => ?_
 refine awp_regW fun KK hKK => ?_
 refine xw_id ?_
 obtain ⟨x49, bx49, h0⟩ := bnd h0
 try simp only [go_sem, Nat.reduceEqDiff, reduceIte, Nat.reduceAdd, Nat.reduceMul, Nat.reduceSub, Nat.reduceLT, Nat.reduceLeDiff]
 refine xcall_M (sender_open_m a0 true bx49) ?_; try dsimp only
 try refine xw_id ?_
 try simp only [go_sem, Nat.reduceEqDiff, reduceIte, Nat.reduceAdd, Nat.reduceMul, Nat.reduceSub, Nat.reduceLT, Nat.reduceLeDiff]
 refine hKK _ (sender_Barred_S0 x49) (by refine Wk.canonD [] [] [some 0, some 10, some 1] rfl trivial rfl (tmOU 2 (tmOU 1 (tmOU 0 tmO0 rfl List.not_mem_nil (by simp only [upd_get, Nat.reduceEqDiff, reduceIte, Nat.reduceAdd, Nat.reduceMul, Nat.reduceSub, Nat.reduceLT, Nat.reduceLeDiff, if_true, if_false] <;> rfl) (e_Sender_tmx (by rfl) (Tm.refL rfl ?_))) rfl List.not_mem_nil (by simp only [upd_get, Nat.reduceEqDiff, reduceIte, Nat.reduceAdd, Nat.reduceMul, Nat.reduceSub, Nat.reduceLT, Nat.reduceLeDiff, if_true, if_false] <;> rfl) (TmL.of_eq (by first | rfl | (simp only [List.flatMap_append, List.flatMap_cons, List.flatMap_nil, List.map_append, List.map_cons, List.map_nil, List.append_nil, List.nil_append]; done) | (simp only [List.flatMap_append, List.flatMap_cons, List.flatMap_nil, List.map_append, List.map_cons, List.map_nil, List.append_nil, List.nil_append]; rfl)) (c_Unacked _))) rfl List.not_mem_nil (by simp only [upd_get, Nat.reduceEqDiff, reduceIte, Nat.reduceAdd, Nat.reduceMul, Nat.reduceSub, Nat.reduceLT, Nat.reduceLeDiff, if_true, if_false] <;> rfl) (e_Sender_tmx (by rfl) (Tm.v _))) (tmAllU 4 (tmAllU 2 (tmAllU 1 tmAll0 (Tm.ptr rfl)) (Tm.ptr rfl)) (Tm.v _)); all_goals (first | rfl | (simp only [List.length_take]; omega) | (simp only [List.length_append, List.length_cons, List.length_nil, List.length_modify, List.length_set, Nat.zero_add]; done) | (simp only [List.length_append, List.length_take, List.length_drop, List.length_cons, List.length_nil, List.length_modify, List.length_set, Nat.zero_add]; omega))) ?_; clear hKK KK
 unfold sender_Barred_S0
 refine awp_assoc ?_
 refine awp_nr [1,2,4] (fun _ => rfl) fun tz => ?_
 refine awp_regW fun KK hKK => ?_
 refine xw_id ?_
 try simp only [go_sem, Nat.reduceEqDiff, reduceIte, Nat.reduceAdd, Nat.reduceMul, Nat.reduceSub, Nat.reduceLT, Nat.reduceLeDiff]
 refine hKK _ _ (Wk.refl _ _ _) ?_; clear hKK KK
 refine awp_cond (b := (x49.2 != 0)) rfl (fun h1 => ?_) (fun h1 => ?_)
 ·
  have h0 := cT h0 h1
  refine awp_assoc ?_
  refine awp_nr [2,4] (fun _ => rfl) fun tz => ?_
  refine awp_regW fun KK hKK => ?_
  refine xw_id ?_
  try simp only [go_sem, Nat.reduceEqDiff, reduceIte, Nat.reduceAdd, Nat.reduceMul, Nat.reduceSub, Nat.reduceLT, Nat.reduceLeDiff]
  refine hKK _ _ (Wk.refl _ _ _) ?_; clear hKK KK
  refine awp_ret ?_
  obtain rfl := someInj h0
  refine endW_i ?_
  refine end_ret0 rs51 (by simp only [go_sem, resV, resAll, resOf, packR, Nat.reduceEqDiff, reduceIte, Nat.reduceAdd, Nat.reduceMul, Nat.reduceSub, Nat.reduceLT, Nat.reduceLeDiff]; rfl) ?_
  refine Res.mk [] [none] rfl (resON resO0) (Tm.tup (TmL.cons (Tm.agg (e_Sender_tmx (by rfl) (Tm.thaw _ _ _))) (TmL.cons (Tm.v _) TmL.nil)))
 ·
  have h0 := cF h0 h1
  refine awp_skip ?_
  refine awp_assoc ?_
  refine awp_nr [1,2] (fun _ => rfl) fun tz => ?_
  refine awp_regW fun KK hKK => ?_
  refine xw_id ?_
  try simp only [go_sem, Nat.reduceEqDiff, reduceIte, Nat.reduceAdd, Nat.reduceMul, Nat.reduceSub, Nat.reduceLT, Nat.reduceLeDiff]
  refine hKK _ _ (Wk.refl _ _ _) ?_; clear hKK KK
  refine awp_cond (b := (!x49.1.Bar)) rfl (fun h2 => ?_) (fun h2 => ?_)
  ·
   have h0 := cT h0 h2
   refine awp_assoc ?_
   refine awp_nr [2] (fun _ => rfl) fun tz => ?_
   refine awp_regW fun KK hKK => ?_
   refine xw_id ?_
   try simp only [go_sem, Nat.reduceEqDiff, reduceIte, Nat.reduceAdd, Nat.reduceMul, Nat.reduceSub, Nat.reduceLT, Nat.reduceLeDiff]
   refine hKK _ _ (Wk.refl _ _ _) ?_; clear hKK KK
   refine awp_ret ?_
   obtain rfl := someInj h0
   refine endW_i ?_
   refine end_ret0 rs51 (by simp only [go_sem, resV, resAll, resOf, packR, Nat.reduceEqDiff, reduceIte, Nat.reduceAdd, Nat.reduceMul, Nat.reduceSub, Nat.reduceLT, Nat.reduceLeDiff]; rfl) ?_
   refine Res.mk [] [none] rfl (resON resO0) (Tm.tup (TmL.cons (Tm.agg (e_Sender_tmx (by rfl) (Tm.thaw _ _ _))) (TmL.cons (Tm.v _) TmL.nil)))
  ·
   have h0 := cF h0 h2
   refine awp_skip ?_
   refine awp_nr [1,2] (fun _ => rfl) fun tz => ?_
   refine awp_regW fun KK hKK => ?_
   refine xw_id ?_
   try simp only [go_sem, Nat.reduceEqDiff, reduceIte, Nat.reduceAdd, Nat.reduceMul, Nat.reduceSub, Nat.reduceLT, Nat.reduceLeDiff]
   refine hKK _ _ (Wk.refl _ _ _) ?_; clear hKK KK
   refine awp_nr [1,2] (fun _ => rfl) fun tz => ?_
   refine awp_regW fun KK hKK => ?_
   refine xw_id ?_
   try simp only [go_sem, Nat.reduceEqDiff, reduceIte, Nat.reduceAdd, Nat.reduceMul, Nat.reduceSub, Nat.reduceLT, Nat.reduceLeDiff]
   refine hKK _ _ (Wk.refl _ _ _) ?_; clear hKK KK
   refine awp_ret1 ?_
   obtain rfl := someInj h0
   refine endW_i ?_
   refine end_ret0 rs51 (by simp only [go_sem, resV, resAll, resOf, packR, Nat.reduceEqDiff, reduceIte, Nat.reduceAdd, Nat.reduceMul, Nat.reduceSub, Nat.reduceLT, Nat.reduceLeDiff]; rfl) ?_
   refine Res.mk [] [some 1] rfl (resOU List.not_mem_nil (by simp only [upd_get, Nat.reduceEqDiff, reduceIte, Nat.reduceAdd, Nat.reduceMul, Nat.reduceSub, Nat.reduceLT, Nat.reduceLeDiff, if_true, if_false] <;> rfl) (TmL.of_eq (by first | rfl | (simp only [List.flatMap_append, List.flatMap_cons, List.flatMap_nil, List.map_append, List.map_cons, List.map_nil, List.append_nil, List.nil_append]; done) | (simp only [List.flatMap_append, List.flatMap_cons, List.flatMap_nil, List.map_append, List.map_cons, List.map_nil, List.append_nil, List.nil_append]; rfl)) (c_Unacked _)) resO0) (Tm.tup (TmL.cons (Tm.agg (e_Sender_tmx (by rfl) (Tm.refL rfl ?_))) (TmL.cons (Tm.v _) TmL.nil)))
   all_goals (first | rfl | (simp only [List.length_take]; omega) | (simp only [List.length_append, List.length_cons, List.length_nil, List.length_modify, List.length_set, Nat.zero_add]; done) | (simp only [List.length_append, List.length_take, List.length_drop, List.length_cons, List.length_nil, List.length_modify, List.length_set, Nat.zero_add]; omega))

theorem sender_Barred_m (a0 : Sender) {r : (Sender × Int)} (h0 : sender_Barred a0 = some r) : SndM K 51 [(.agg (E_Sender a0))] (fun q => (.tup [(.agg (e_Sender r.1 (.ref (q 0) 0 r.1.Out.length 44))), (vi r.2)])) [(List.flatMap E_Unacked r.1.Out)] :=
 fun hs => Snd.of_newM (RenM.tup (RenML.cons (RenM.agg (e_Sender_ren _ (RenM.ref 0 0 _ _))) (RenML.cons (RenM.const (Clean.v _)) RenML.nil))) (rows_all_cons (c_Unacked _) rows_all_nil) (clean_cons (Clean.agg (E_Sender_clean _)) clean_nil) (sender_Barred_r a0 h0) hs

theorem sender_Barred_e (a0 : Sender) {r : (Sender × Int)} (h0 : sender_Barred a0 = some r) (fr : Nat) (hs : HS) : SndE K 51 [(.agg (E_Sender a0))] hs fr ⟨(fun q : Nat → Nat => (.tup [(.agg (e_Sender r.1 (.ref (q 0) 0 r.1.Out.length 44))), (vi r.2)])) fun _ => fr, .new (List.flatMap E_Unacked r.1.Out)⟩ :=
 SndE.of_res (RenM.tup (RenML.cons (RenM.agg (e_Sender_ren _ (RenM.ref 0 0 _ _))) (RenML.cons (RenM.const (Clean.v _)) RenML.nil))) (c_Unacked _) (clean_cons (Clean.agg (E_Sender_clean _)) clean_nil) (fun a b h => by simp only [h]) (sender_Barred_r a0 h0) hs fr

theorem sender_Barred_p (a0 : Sender) {r : (Sender × Int)} (h0 : sender_Barred a0 = some r) : SndP K 51 [(.agg (E_Sender a0))] (.tup [(.agg (E_Sender r.1)), (vi r.2)]) :=
 SndM.pure (sender_Barred_m a0 h0) (Clean.tup (clean_cons (Clean.agg (E_Sender_clean _)) (clean_cons (Clean.v _) clean_nil))) (clean_cons (Clean.agg (E_Sender_clean _)) clean_nil) (by simp only [go_sem, newL_n, newL_c, upd_get, fz, nilS, cond_true, cond_false, List.drop_zero, List.take_length, List.length_map, ble_self, Nat.reduceEqDiff, reduceIte, Nat.reduceAdd, Nat.reduceMul, Nat.reduceSub, Nat.reduceLT, Nat.reduceLeDiff] <;> rfl)

end Go.AX.Z.TS

/-! (TSW hotspotlaw19 do) -/

set_option linter.unusedSimpArgs false
set_option linter.unusedVariables false
set_option maxHeartbeats 4000000
namespace Go.AX.Z.TS
open Go.AX Go.Proofs
attribute [local irreducible] awp xw xop xcall gsp ob xd xdop xcallD seqQ loopQ blkQ endQ

def hotspotlaw19_do_S0 (a0 : Sender) (a1 : Hotspotref19_Step) : AS :=
 { objs := (upd (upd (upd (upd (fun _ => .dead) 0 (.live (e_Sender a0 (.imm (List.flatMap E_Unacked a0.Out) a0.Out.length)))) 1 (.live (e_Hotspotref19_Step a1 (.imm (List.map vu a1.Frame.Body) a1.Frame.Body.length)))) 2 (.live (e_Hotspotref19_Told Hotspotref19_Told.z vnil vnil))) 3 (.live (e_Sender Sender.z vnil))), next := 4, tmps := (upd (upd (upd (upd (fun _ => .unk) 2 (.ptr 0 0)) 3 (.ptr 1 0)) 4 (.ptr 2 0)) 5 (.ptr 3 0)) }

def hotspotlaw19_do_S1 (x34 : (Frame × Sender × Int)) : AS :=
 { objs := (upd (upd (upd (upd (fun _ => .dead) 0 (.live (e_Hotspotref19_Told Hotspotref19_Told.z vnil vnil))) 1 (.live (e_Sender Sender.z vnil))) 2 (.live (e_Frame x34.1 (.imm (List.map vu x34.1.Body) x34.1.Body.length)))) 3 (.live (e_Sender x34.2.1 (.imm (List.flatMap E_Unacked x34.2.1.Out) x34.2.1.Out.length)))), next := 4, tmps := (upd (upd (upd (upd (upd (fun _ => .unk) 4 (.ptr 0 0)) 5 (.ptr 1 0)) 7 (.ptr 2 0)) 8 (.ptr 3 0)) 9 (vi x34.2.2)) }

theorem hotspotlaw19_do_p (a0 : Sender) (a1 : Hotspotref19_Step) {r : (Hotspotref19_Told × Sender × Int)} (h0 : hotspotlaw19_do a0 a1 = some r) : SndP K 26 [(.agg (E_Sender a0)), (.agg (E_Hotspotref19_Step a1))] (.tup [(.agg (E_Hotspotref19_Told r.1)), (.agg (E_Sender r.2.1)), (vi r.2.2)]) := by
 refine SndP.of_walkW hC (Clean.tup (clean_cons (Clean.agg (E_Hotspotref19_Told_clean _)) (clean_cons (Clean.agg (E_Sender_clean _)) (clean_cons (Clean.v _) clean_nil)))) (clean_cons (Clean.agg (E_Sender_clean _)) (clean_cons (Clean.agg (E_Hotspotref19_Step_clean _)) clean_nil)) (show K.P.funcs[26]? = some Try.f26 from Try.func26) rfl rfl (by decide +kernel) (Nat.le_of_ble_eq_true rfl) ?_
 unfold hotspotlaw19_do at h0
 refine awp_nr [0,1] (fun _ => rfl) fun tz => ?_
 refine awp_regW fun KK hKK => ?_
 refine xw_id ?_
 try simp only [go_sem, Nat.reduceEqDiff, reduceIte, Nat.reduceAdd, Nat.reduceMul, Nat.reduceSub, Nat.reduceLT, Nat.reduceLeDiff]
 refine hKK _ (hotspotlaw19_do_S0 a0 a1) (Wk.canonD [] [] [some 0, some 1, some 2, some 3] rfl trivial rfl (tmOU 3 (tmOU 2 (tmOU 1 (tmOU 0 tmO0 rfl List.not_mem_nil (by simp only [upd_get, Nat.reduceEqDiff, reduceIte, Nat.reduceAdd, Nat.reduceMul, Nat.reduceSub, Nat.reduceLT, Nat.reduceLeDiff, if_true, if_false] <;> rfl) (e_Sender_tmx (by rfl) (Tm.clean (Clean.imm (c_Unacked _))))) rfl List.not_mem_nil (by simp only [upd_get, Nat.reduceEqDiff, reduceIte, Nat.reduceAdd, Nat.reduceMul, Nat.reduceSub, Nat.reduceLT, Nat.reduceLeDiff, if_true, if_false] <;> rfl) (e_Hotspotref19_Step_tmx (by rfl) (Tm.clean (Clean.imm (vu_clean _))))) rfl List.not_mem_nil (by simp only [upd_get, Nat.reduceEqDiff, reduceIte, Nat.reduceAdd, Nat.reduceMul, Nat.reduceSub, Nat.reduceLT, Nat.reduceLeDiff, if_true, if_false] <;> rfl) (e_Hotspotref19_Told_tmx (by rfl) (Tm.v _) (Tm.v _))) rfl List.not_mem_nil (by simp only [upd_get, Nat.reduceEqDiff, reduceIte, Nat.reduceAdd, Nat.reduceMul, Nat.reduceSub, Nat.reduceLT, Nat.reduceLeDiff, if_true, if_false] <;> rfl) (e_Sender_tmx (by rfl) (Tm.v _))) (tmAllU 5 (tmAllU 4 (tmAllU 3 (tmAllU 2 tmAll0 (Tm.ptr rfl)) (Tm.ptr rfl)) (Tm.ptr rfl)) (Tm.ptr rfl))) ?_; clear hKK KK
 unfold hotspotlaw19_do_S0
 refine awp_nr [2,3,4,5] (fun _ => rfl) fun tz => ?_
 refine awp_regW fun KK hKK => ?_
 refine xw_id ?_
 try simp only [go_sem, Nat.reduceEqDiff, reduceIte, Nat.reduceAdd, Nat.reduceMul, Nat.reduceSub, Nat.reduceLT, Nat.reduceLeDiff]
 refine hKK _ _ (Wk.refl _ _ _) ?_; clear hKK KK
 refine awp_assoc ?_
 refine awp_nr [2,3,4,5,6] (fun _ => rfl) fun tz => ?_
 refine awp_regW fun KK hKK => ?_
 refine xw_id ?_
 try simp only [go_sem, Nat.reduceEqDiff, reduceIte, Nat.reduceAdd, Nat.reduceMul, Nat.reduceSub, Nat.reduceLT, Nat.reduceLeDiff]
 refine hKK _ _ (Wk.refl _ _ _) ?_; clear hKK KK
 refine awp_blockW ?_
 refine awp_nr [2,3,4,5,6,11] (fun _ => rfl) fun tz => ?_
 refine awp_regW fun KK hKK => ?_
 refine xw_id ?_
 try simp only [go_sem, Nat.reduceEqDiff, reduceIte, Nat.reduceAdd, Nat.reduceMul, Nat.reduceSub, Nat.reduceLT, Nat.reduceLeDiff]
 refine hKK _ _ (Wk.refl _ _ _) ?_; clear hKK KK
 refine awp_cond1 (b := (a1.Kind == 0)) rfl (fun h1 => ?_) (fun h1 => ?_)
 ·
  have h0 := cT h0 h1
  refine awp_nr1 [2,3,4,5] (fun _ => rfl) fun tz => ?_
  refine awp_reg1 fun KK hKK => ?_
  refine xw_id ?_
  obtain ⟨x31, bx31, h0⟩ := bnd h0
  try simp only [go_sem, Nat.reduceEqDiff, reduceIte, Nat.reduceAdd, Nat.reduceMul, Nat.reduceSub, Nat.reduceLT, Nat.reduceLeDiff]
  refine xcall_p (sender_Ask_p a0 a1.N bx31) ?_; try dsimp only
  try refine xw_id ?_
  try simp only [go_sem, Nat.reduceEqDiff, reduceIte, Nat.reduceAdd, Nat.reduceMul, Nat.reduceSub, Nat.reduceLT, Nat.reduceLeDiff]
  refine hKK _ ?_; clear hKK KK
  refine bq_n ?_
  refine seqW_i ?_
  refine awp_nr [4,5,6] (fun _ => rfl) fun tz => ?_
  refine awp_regDW fun KK hKK all hall => ?_
  refine xd_id ?_
  try simp only [List.toList_toArray, List.map_cons, List.map_nil, List.size_toArray, List.length_cons, List.length_nil, Nat.zero_add]
  try simp only [Nat.reduceAdd]
  simp only [go_sem, Nat.reduceEqDiff, reduceIte, Nat.reduceMul, Nat.reduceSub, Nat.reduceLT, Nat.reduceLeDiff]
  try simp only [Nat.reduceAdd]
  try simp only [go_sem, Nat.reduceEqDiff, reduceIte, Nat.reduceMul, Nat.reduceSub, Nat.reduceLT, Nat.reduceLeDiff]
  try simp only [Nat.reduceAdd]
  try simp only [go_sem, Nat.reduceEqDiff, reduceIte, Nat.reduceMul, Nat.reduceSub, Nat.reduceLT, Nat.reduceLeDiff]
  refine And.intro ?_ (hKK _ _ (Wk.refl _ _ _) ?_)
  ·
   subst hall
   clear hKK KK
   first | (simp [printsOk, apartP, clash, meet]; done) | (simp [printsOk, apartP, clash, meet]; decide +kernel) | decide +kernel
  ·
   clear hKK KK hall all
   refine awp_ret1 ?_
   obtain rfl := someInj h0
   refine endW_i ?_
   refine end_ret0 rs26 (by simp only [go_sem, resV, resAll, resOf, packR, Nat.reduceEqDiff, reduceIte, Nat.reduceAdd, Nat.reduceMul, Nat.reduceSub, Nat.reduceLT, Nat.reduceLeDiff]; rfl) ?_
   try simp only [go_sem, Nat.reduceEqDiff, reduceIte, Nat.reduceAdd, Nat.reduceMul, Nat.reduceSub, Nat.reduceLT, Nat.reduceLeDiff, fz, nilS, packR, List.take_nil, List.take_length, List.length_map, List.length_append, cond_true, cond_false, Nat.ble_eq, ble_self, List.map_append]
   all_goals rfl
 ·
  have h0 := cF h0 h1
  refine awp_nr [2,3,4,5,6,11] (fun _ => rfl) fun tz => ?_
  refine awp_regW fun KK hKK => ?_
  refine xw_id ?_
  try simp only [go_sem, Nat.reduceEqDiff, reduceIte, Nat.reduceAdd, Nat.reduceMul, Nat.reduceSub, Nat.reduceLT, Nat.reduceLeDiff]
  refine hKK _ _ (Wk.refl _ _ _) ?_; clear hKK KK
  refine awp_cond1 (b := (a1.Kind == 1)) rfl (fun h2 => ?_) (fun h2 => ?_)
  ·
   have h0 := cT h0 h2
   refine awp_nr1 [2,3,4,5] (fun _ => rfl) fun tz => ?_
   refine awp_reg1 fun KK hKK => ?_
   refine xw_id ?_
   obtain ⟨x32, bx32, h0⟩ := bnd h0
   try simp only [go_sem, Nat.reduceEqDiff, reduceIte, Nat.reduceAdd, Nat.reduceMul, Nat.reduceSub, Nat.reduceLT, Nat.reduceLeDiff]
   refine xcall_p (sender_Answer_p a0 a1.A bx32) ?_; try dsimp only
   try refine xw_id ?_
   try simp only [go_sem, Nat.reduceEqDiff, reduceIte, Nat.reduceAdd, Nat.reduceMul, Nat.reduceSub, Nat.reduceLT, Nat.reduceLeDiff]
   refine hKK _ ?_; clear hKK KK
   refine bq_n ?_
   refine seqW_i ?_
   refine awp_nr [4,5,6] (fun _ => rfl) fun tz => ?_
   refine awp_regDW fun KK hKK all hall => ?_
   refine xd_id ?_
   try simp only [List.toList_toArray, List.map_cons, List.map_nil, List.size_toArray, List.length_cons, List.length_nil, Nat.zero_add]
   try simp only [Nat.reduceAdd]
   simp only [go_sem, Nat.reduceEqDiff, reduceIte, Nat.reduceMul, Nat.reduceSub, Nat.reduceLT, Nat.reduceLeDiff]
   try simp only [Nat.reduceAdd]
   try simp only [go_sem, Nat.reduceEqDiff, reduceIte, Nat.reduceMul, Nat.reduceSub, Nat.reduceLT, Nat.reduceLeDiff]
   try simp only [Nat.reduceAdd]
   try simp only [go_sem, Nat.reduceEqDiff, reduceIte, Nat.reduceMul, Nat.reduceSub, Nat.reduceLT, Nat.reduceLeDiff]
   refine And.intro ?_ (hKK _ _ (Wk.refl _ _ _) ?_)
   ·
    subst hall
    clear hKK KK
    first | (simp [printsOk, apartP, clash, meet]; done) | (simp [printsOk, apartP, clash, meet]; decide +kernel) | decide +kernel
   ·
    clear hKK KK hall all
    refine awp_ret1 ?_
    obtain rfl := someInj h0
    refine endW_i ?_
    refine end_ret0 rs26 (by simp only [go_sem, resV, resAll, resOf, packR, Nat.reduceEqDiff, reduceIte, Nat.reduceAdd, Nat.reduceMul, Nat.reduceSub, Nat.reduceLT, Nat.reduceLeDiff]; rfl) ?_
    try simp only [go_sem, Nat.reduceEqDiff, reduceIte, Nat.reduceAdd, Nat.reduceMul, Nat.reduceSub, Nat.reduceLT, Nat.reduceLeDiff, fz, nilS, packR, List.take_nil, List.take_length, List.length_map, List.length_append, cond_true, cond_false, Nat.ble_eq, ble_self, List.map_append]
    all_goals rfl
  ·
   have h0 := cF h0 h2
   refine awp_nr [2,3,4,5,6,11] (fun _ => rfl) fun tz => ?_
   refine awp_regW fun KK hKK => ?_
   refine xw_id ?_
   try simp only [go_sem, Nat.reduceEqDiff, reduceIte, Nat.reduceAdd, Nat.reduceMul, Nat.reduceSub, Nat.reduceLT, Nat.reduceLeDiff]
   refine hKK _ _ (Wk.refl _ _ _) ?_; clear hKK KK
   refine awp_cond1 (b := (a1.Kind == 2)) rfl (fun h3 => ?_) (fun h3 => ?_)
   ·
    have h0 := cT h0 h3
    refine awp_nr1 [2,4,5] (fun _ => rfl) fun tz => ?_
    refine awp_reg1 fun KK hKK => ?_
    refine xw_id ?_
    obtain ⟨x33, bx33, h0⟩ := bnd h0
    try simp only [go_sem, Nat.reduceEqDiff, reduceIte, Nat.reduceAdd, Nat.reduceMul, Nat.reduceSub, Nat.reduceLT, Nat.reduceLeDiff]
    refine xcall_p (sender_Close_p a0 bx33) ?_; try dsimp only
    try refine xw_id ?_
    try simp only [go_sem, Nat.reduceEqDiff, reduceIte, Nat.reduceAdd, Nat.reduceMul, Nat.reduceSub, Nat.reduceLT, Nat.reduceLeDiff]
    refine hKK _ ?_; clear hKK KK
    refine bq_n ?_
    refine seqW_i ?_
    refine awp_nr [4,5,6] (fun _ => rfl) fun tz => ?_
    refine awp_regDW fun KK hKK all hall => ?_
    refine xd_id ?_
    try simp only [List.toList_toArray, List.map_cons, List.map_nil, List.size_toArray, List.length_cons, List.length_nil, Nat.zero_add]
    try simp only [Nat.reduceAdd]
    simp only [go_sem, Nat.reduceEqDiff, reduceIte, Nat.reduceMul, Nat.reduceSub, Nat.reduceLT, Nat.reduceLeDiff]
    try simp only [Nat.reduceAdd]
    try simp only [go_sem, Nat.reduceEqDiff, reduceIte, Nat.reduceMul, Nat.reduceSub, Nat.reduceLT, Nat.reduceLeDiff]
    try simp only [Nat.reduceAdd]
    try simp only [go_sem, Nat.reduceEqDiff, reduceIte, Nat.reduceMul, Nat.reduceSub, Nat.reduceLT, Nat.reduceLeDiff]
    refine And.intro ?_ (hKK _ _ (Wk.refl _ _ _) ?_)
    ·
     subst hall
     clear hKK KK
     first | (simp [printsOk, apartP, clash, meet]; done) | (simp [printsOk, apartP, clash, meet]; decide +kernel) | decide +kernel
    ·
     clear hKK KK hall all
     refine awp_ret1 ?_
     obtain rfl := someInj h0
     refine endW_i ?_
     refine end_ret0 rs26 (by simp only [go_sem, resV, resAll, resOf, packR, Nat.reduceEqDiff, reduceIte, Nat.reduceAdd, Nat.reduceMul, Nat.reduceSub, Nat.reduceLT, Nat.reduceLeDiff]; rfl) ?_
     try simp only [go_sem, Nat.reduceEqDiff, reduceIte, Nat.reduceAdd, Nat.reduceMul, Nat.reduceSub, Nat.reduceLT, Nat.reduceLeDiff, fz, nilS, packR, List.take_nil, List.take_length, List.length_map, List.length_append, cond_true, cond_false, Nat.ble_eq, ble_self, List.map_append]
     all_goals rfl
   ·
    have h0 := cF h0 h3
    refine awp_nr [2,3,4,5,6,11] (fun _ => rfl) fun tz => ?_
    refine awp_regW fun KK hKK => ?_
    refine xw_id ?_
    try simp only [go_sem, Nat.reduceEqDiff, reduceIte, Nat.reduceAdd, Nat.reduceMul, Nat.reduceSub, Nat.reduceLT, Nat.reduceLeDiff]
    refine hKK _ _ (Wk.refl _ _ _) ?_; clear hKK KK
    refine awp_cond1 (b := (a1.Kind == 3)) rfl (fun h4 => ?_) (fun h4 => ?_)
    ·
     have h0 := cT h0 h4
     refine awp_nr [2,3,4,5] (fun _ => rfl) fun tz => ?_
     refine awp_regW fun KK hKK => ?_
     refine xw_id ?_
     obtain ⟨x34, bx34, h0⟩ := bnd h0
     try simp only [go_sem, Nat.reduceEqDiff, reduceIte, Nat.reduceAdd, Nat.reduceMul, Nat.reduceSub, Nat.reduceLT, Nat.reduceLeDiff]
     refine xcall_p (sender_Offer_p a0 a1.Frame a1.N bx34) ?_; try dsimp only
     try refine xw_id ?_
     try simp only [go_sem, Nat.reduceEqDiff, reduceIte, Nat.reduceAdd, Nat.reduceMul, Nat.reduceSub, Nat.reduceLT, Nat.reduceLeDiff]
     refine hKK _ (hotspotlaw19_do_S1 x34) (Wk.canonD [] [] [some 2, some 3, some 25, some 26] rfl trivial rfl (tmOU 3 (tmOU 2 (tmOU 1 (tmOU 0 tmO0 rfl List.not_mem_nil (by simp only [upd_get, Nat.reduceEqDiff, reduceIte, Nat.reduceAdd, Nat.reduceMul, Nat.reduceSub, Nat.reduceLT, Nat.reduceLeDiff, if_true, if_false] <;> rfl) (e_Hotspotref19_Told_tmx (by rfl) (Tm.v _) (Tm.v _))) rfl List.not_mem_nil (by simp only [upd_get, Nat.reduceEqDiff, reduceIte, Nat.reduceAdd, Nat.reduceMul, Nat.reduceSub, Nat.reduceLT, Nat.reduceLeDiff, if_true, if_false] <;> rfl) (e_Sender_tmx (by rfl) (Tm.v _))) rfl List.not_mem_nil (by simp only [upd_get, Nat.reduceEqDiff, reduceIte, Nat.reduceAdd, Nat.reduceMul, Nat.reduceSub, Nat.reduceLT, Nat.reduceLeDiff, if_true, if_false] <;> rfl) (e_Frame_tmx (by rfl) (Tm.clean (Clean.imm (vu_clean _))))) rfl List.not_mem_nil (by simp only [upd_get, Nat.reduceEqDiff, reduceIte, Nat.reduceAdd, Nat.reduceMul, Nat.reduceSub, Nat.reduceLT, Nat.reduceLeDiff, if_true, if_false] <;> rfl) (e_Sender_tmx (by rfl) (Tm.clean (Clean.imm (c_Unacked _))))) (tmAllU 9 (tmAllU 8 (tmAllU 7 (tmAllU 5 (tmAllU 4 tmAll0 (Tm.ptr rfl)) (Tm.ptr rfl)) (Tm.ptr rfl)) (Tm.ptr rfl)) (Tm.v _))) ?_; clear hKK KK
     unfold hotspotlaw19_do_S1
     refine awp_nr [4,5,7,8,9] (fun _ => rfl) fun tz => ?_
     refine awp_regW fun KK hKK => ?_
     refine xw_id ?_
     try simp only [go_sem, Nat.reduceEqDiff, reduceIte, Nat.reduceAdd, Nat.reduceMul, Nat.reduceSub, Nat.reduceLT, Nat.reduceLeDiff]
     refine hKK _ _ (Wk.refl _ _ _) ?_; clear hKK KK
     refine awp_nr [4,5,6,7] (fun _ => rfl) fun tz => ?_
     refine awp_regW fun KK hKK => ?_
     refine xw_id ?_
     try simp only [go_sem, Nat.reduceEqDiff, reduceIte, Nat.reduceAdd, Nat.reduceMul, Nat.reduceSub, Nat.reduceLT, Nat.reduceLeDiff]
     refine hKK _ _ (Wk.refl _ _ _) ?_; clear hKK KK
     refine awp_cond1 (b := (x34.2.2 == 0)) rfl (fun h5 => ?_) (fun h5 => ?_)
     ·
      have h0 := cT h0 h5
      refine awp_nr1 [4,5,6,7] (fun _ => rfl) fun tz => ?_
      refine awp_reg1 fun KK hKK => ?_
      refine xw_id ?_
      try simp only [go_sem, Nat.reduceEqDiff, reduceIte, Nat.reduceAdd, Nat.reduceMul, Nat.reduceSub, Nat.reduceLT, Nat.reduceLeDiff]
      refine hKK _ ?_; clear hKK KK
      refine bq_n ?_
      refine seqW_i ?_
      refine awp_nr [4,5,6] (fun _ => rfl) fun tz => ?_
      refine awp_regDW fun KK hKK all hall => ?_
      refine xd_id ?_
      try simp only [List.toList_toArray, List.map_cons, List.map_nil, List.size_toArray, List.length_cons, List.length_nil, Nat.zero_add]
      try simp only [Nat.reduceAdd]
      simp only [go_sem, Nat.reduceEqDiff, reduceIte, Nat.reduceMul, Nat.reduceSub, Nat.reduceLT, Nat.reduceLeDiff]
      try simp only [Nat.reduceAdd]
      try simp only [go_sem, Nat.reduceEqDiff, reduceIte, Nat.reduceMul, Nat.reduceSub, Nat.reduceLT, Nat.reduceLeDiff]
      try simp only [Nat.reduceAdd]
      try simp only [go_sem, Nat.reduceEqDiff, reduceIte, Nat.reduceMul, Nat.reduceSub, Nat.reduceLT, Nat.reduceLeDiff]
      refine And.intro ?_ (hKK _ _ (Wk.refl _ _ _) ?_)
      ·
       subst hall
       clear hKK KK
       first | (simp [printsOk, apartP, clash, meet]; done) | (simp [printsOk, apartP, clash, meet]; decide +kernel) | decide +kernel
      ·
       clear hKK KK hall all
       refine awp_ret1 ?_
       obtain rfl := someInj h0
       refine endW_i ?_
       refine end_ret0 rs26 (by simp only [go_sem, resV, resAll, resOf, packR, Nat.reduceEqDiff, reduceIte, Nat.reduceAdd, Nat.reduceMul, Nat.reduceSub, Nat.reduceLT, Nat.reduceLeDiff]; rfl) ?_
       try simp only [go_sem, Nat.reduceEqDiff, reduceIte, Nat.reduceAdd, Nat.reduceMul, Nat.reduceSub, Nat.reduceLT, Nat.reduceLeDiff, fz, nilS, packR, List.take_nil, List.take_length, List.length_map, List.length_append, cond_true, cond_false, Nat.ble_eq, ble_self, List.map_append]
       all_goals rfl
     ·
      have h0 := cF h0 h5
      refine awp_skip1 ?_
      refine bq_n ?_
      refine seqW_i ?_
      refine awp_nr [4,5,6] (fun _ => rfl) fun tz => ?_
      refine awp_regDW fun KK hKK all hall => ?_
      refine xd_id ?_
      try simp only [List.toList_toArray, List.map_cons, List.map_nil, List.size_toArray, List.length_cons, List.length_nil, Nat.zero_add]
      try simp only [Nat.reduceAdd]
      simp only [go_sem, Nat.reduceEqDiff, reduceIte, Nat.reduceMul, Nat.reduceSub, Nat.reduceLT, Nat.reduceLeDiff]
      try simp only [Nat.reduceAdd]
      try simp only [go_sem, Nat.reduceEqDiff, reduceIte, Nat.reduceMul, Nat.reduceSub, Nat.reduceLT, Nat.reduceLeDiff]
      try simp only [Nat.reduceAdd]
      try simp only [go_sem, Nat.reduceEqDiff, reduceIte, Nat.reduceMul, Nat.reduceSub, Nat.reduceLT, Nat.reduceLeDiff]
      refine And.intro ?_ (hKK _ _ (Wk.refl _ _ _) ?_)
      ·
       subst hall
       clear hKK KK
       first | (simp [printsOk, apartP, clash, meet]; done) | (simp [printsOk, apartP, clash, meet]; decide +kernel) | decide +kernel
      ·
       clear hKK KK hall all
       refine awp_ret1 ?_
       obtain rfl := someInj h0
       refine endW_i ?_
       refine end_ret0 rs26 (by simp only [go_sem, resV, resAll, resOf, packR, Nat.reduceEqDiff, reduceIte, Nat.reduceAdd, Nat.reduceMul, Nat.reduceSub, Nat.reduceLT, Nat.reduceLeDiff]; rfl) ?_
       try simp only [go_sem, Nat.reduceEqDiff, reduceIte, Nat.reduceAdd, Nat.reduceMul, Nat.reduceSub, Nat.reduceLT, Nat.reduceLeDiff, fz, nilS, packR, List.take_nil, List.take_length, List.length_map, List.length_append, cond_true, cond_false, Nat.ble_eq, ble_self, List.map_append]
       all_goals rfl
    ·
     have h0 := cF h0 h4
     refine awp_nr [2,3,4,5,6,11] (fun _ => rfl) fun tz => ?_
     refine awp_regW fun KK hKK => ?_
     refine xw_id ?_
     try simp only [go_sem, Nat.reduceEqDiff, reduceIte, Nat.reduceAdd, Nat.reduceMul, Nat.reduceSub, Nat.reduceLT, Nat.reduceLeDiff]
     refine hKK _ _ (Wk.refl _ _ _) ?_; clear hKK KK
     refine awp_cond1 (b := (a1.Kind == 4)) rfl (fun h6 => ?_) (fun h6 => ?_)
     ·
      have h0 := cT h0 h6
      refine awp_nr1 [2,3,4,5] (fun _ => rfl) fun tz => ?_
      refine awp_reg1 fun KK hKK => ?_
      refine xw_id ?_
      obtain ⟨x35, bx35, h0⟩ := bnd h0
      try simp only [go_sem, Nat.reduceEqDiff, reduceIte, Nat.reduceAdd, Nat.reduceMul, Nat.reduceSub, Nat.reduceLT, Nat.reduceLeDiff]
      refine xcall_p (sender_Pick_p a0 a1.N bx35) ?_; try dsimp only
      try refine xw_id ?_
      try simp only [go_sem, Nat.reduceEqDiff, reduceIte, Nat.reduceAdd, Nat.reduceMul, Nat.reduceSub, Nat.reduceLT, Nat.reduceLeDiff]
      refine hKK _ ?_; clear hKK KK
      refine bq_n ?_
      refine seqW_i ?_
      refine awp_nr [4,5,6] (fun _ => rfl) fun tz => ?_
      refine awp_regDW fun KK hKK all hall => ?_
      refine xd_id ?_
      try simp only [List.toList_toArray, List.map_cons, List.map_nil, List.size_toArray, List.length_cons, List.length_nil, Nat.zero_add]
      try simp only [Nat.reduceAdd]
      simp only [go_sem, Nat.reduceEqDiff, reduceIte, Nat.reduceMul, Nat.reduceSub, Nat.reduceLT, Nat.reduceLeDiff]
      try simp only [Nat.reduceAdd]
      try simp only [go_sem, Nat.reduceEqDiff, reduceIte, Nat.reduceMul, Nat.reduceSub, Nat.reduceLT, Nat.reduceLeDiff]
      try simp only [Nat.reduceAdd]
      try simp only [go_sem, Nat.reduceEqDiff, reduceIte, Nat.reduceMul, Nat.reduceSub, Nat.reduceLT, Nat.reduceLeDiff]
      refine And.intro ?_ (hKK _ _ (Wk.refl _ _ _) ?_)
      ·
       subst hall
       clear hKK KK
       first | (simp [printsOk, apartP, clash, meet]; done) | (simp [printsOk, apartP, clash, meet]; decide +kernel) | decide +kernel
      ·
       clear hKK KK hall all
       refine awp_ret1 ?_
       obtain rfl := someInj h0
       refine endW_i ?_
       refine end_ret0 rs26 (by simp only [go_sem, resV, resAll, resOf, packR, Nat.reduceEqDiff, reduceIte, Nat.reduceAdd, Nat.reduceMul, Nat.reduceSub, Nat.reduceLT, Nat.reduceLeDiff]; rfl) ?_
       try simp only [go_sem, Nat.reduceEqDiff, reduceIte, Nat.reduceAdd, Nat.reduceMul, Nat.reduceSub, Nat.reduceLT, Nat.reduceLeDiff, fz, nilS, packR, List.take_nil, List.take_length, List.length_map, List.length_append, cond_true, cond_false, Nat.ble_eq, ble_self, List.map_append]
       all_goals rfl
     ·
      have h0 := cF h0 h6
      refine awp_nr [2,3,4,5,6,11] (fun _ => rfl) fun tz => ?_
      refine awp_regW fun KK hKK => ?_
      refine xw_id ?_
      try simp only [go_sem, Nat.reduceEqDiff, reduceIte, Nat.reduceAdd, Nat.reduceMul, Nat.reduceSub, Nat.reduceLT, Nat.reduceLeDiff]
      refine hKK _ _ (Wk.refl _ _ _) ?_; clear hKK KK
      refine awp_cond1 (b := (a1.Kind == 5)) rfl (fun h7 => ?_) (fun h7 => ?_)
      ·
       have h0 := cT h0 h7
       refine awp_nr1 [2,3,4,5] (fun _ => rfl) fun tz => ?_
       refine awp_reg1 fun KK hKK => ?_
       refine xw_id ?_
       obtain ⟨x36, bx36, h0⟩ := bnd h0
       try simp only [go_sem, Nat.reduceEqDiff, reduceIte, Nat.reduceAdd, Nat.reduceMul, Nat.reduceSub, Nat.reduceLT, Nat.reduceLeDiff]
       refine xcall_p (sender_Acked_p a0 a1.W bx36) ?_; try dsimp only
       try refine xw_id ?_
       try simp only [go_sem, Nat.reduceEqDiff, reduceIte, Nat.reduceAdd, Nat.reduceMul, Nat.reduceSub, Nat.reduceLT, Nat.reduceLeDiff]
       refine hKK _ ?_; clear hKK KK
       refine bq_n ?_
       refine seqW_i ?_
       refine awp_nr [4,5,6] (fun _ => rfl) fun tz => ?_
       refine awp_regDW fun KK hKK all hall => ?_
       refine xd_id ?_
       try simp only [List.toList_toArray, List.map_cons, List.map_nil, List.size_toArray, List.length_cons, List.length_nil, Nat.zero_add]
       try simp only [Nat.reduceAdd]
       simp only [go_sem, Nat.reduceEqDiff, reduceIte, Nat.reduceMul, Nat.reduceSub, Nat.reduceLT, Nat.reduceLeDiff]
       try simp only [Nat.reduceAdd]
       try simp only [go_sem, Nat.reduceEqDiff, reduceIte, Nat.reduceMul, Nat.reduceSub, Nat.reduceLT, Nat.reduceLeDiff]
       try simp only [Nat.reduceAdd]
       try simp only [go_sem, Nat.reduceEqDiff, reduceIte, Nat.reduceMul, Nat.reduceSub, Nat.reduceLT, Nat.reduceLeDiff]
       refine And.intro ?_ (hKK _ _ (Wk.refl _ _ _) ?_)
       ·
        subst hall
        clear hKK KK
        first | (simp [printsOk, apartP, clash, meet]; done) | (simp [printsOk, apartP, clash, meet]; decide +kernel) | decide +kernel
       ·
        clear hKK KK hall all
        refine awp_ret1 ?_
        obtain rfl := someInj h0
        refine endW_i ?_
        refine end_ret0 rs26 (by simp only [go_sem, resV, resAll, resOf, packR, Nat.reduceEqDiff, reduceIte, Nat.reduceAdd, Nat.reduceMul, Nat.reduceSub, Nat.reduceLT, Nat.reduceLeDiff]; rfl) ?_
        try simp only [go_sem, Nat.reduceEqDiff, reduceIte, Nat.reduceAdd, Nat.reduceMul, Nat.reduceSub, Nat.reduceLT, Nat.reduceLeDiff, fz, nilS, packR, List.take_nil, List.take_length, List.length_map, List.length_append, cond_true, cond_false, Nat.ble_eq, ble_self, List.map_append]
        all_goals rfl
      ·
       have h0 := cF h0 h7
       refine awp_nr [2,3,4,5,6,11] (fun _ => rfl) fun tz => ?_
       refine awp_regW fun KK hKK => ?_
       refine xw_id ?_
       try simp only [go_sem, Nat.reduceEqDiff, reduceIte, Nat.reduceAdd, Nat.reduceMul, Nat.reduceSub, Nat.reduceLT, Nat.reduceLeDiff]
       refine hKK _ _ (Wk.refl _ _ _) ?_; clear hKK KK
       refine awp_cond1 (b := (a1.Kind == 6)) rfl (fun h8 => ?_) (fun h8 => ?_)
       ·
        have h0 := cT h0 h8
        refine awp_nr1 [2,4,5] (fun _ => rfl) fun tz => ?_
        refine awp_reg1 fun KK hKK => ?_
        refine xw_id ?_
        obtain ⟨x37, bx37, h0⟩ := bnd h0
        try simp only [go_sem, Nat.reduceEqDiff, reduceIte, Nat.reduceAdd, Nat.reduceMul, Nat.reduceSub, Nat.reduceLT, Nat.reduceLeDiff]
        refine xcall_p (sender_Lost_p a0 bx37) ?_; try dsimp only
        try refine xw_id ?_
        try simp only [go_sem, Nat.reduceEqDiff, reduceIte, Nat.reduceAdd, Nat.reduceMul, Nat.reduceSub, Nat.reduceLT, Nat.reduceLeDiff]
        refine hKK _ ?_; clear hKK KK
        refine bq_n ?_
        refine seqW_i ?_
        refine awp_nr [4,5,6] (fun _ => rfl) fun tz => ?_
        refine awp_regDW fun KK hKK all hall => ?_
        refine xd_id ?_
        try simp only [List.toList_toArray, List.map_cons, List.map_nil, List.size_toArray, List.length_cons, List.length_nil, Nat.zero_add]
        try simp only [Nat.reduceAdd]
        simp only [go_sem, Nat.reduceEqDiff, reduceIte, Nat.reduceMul, Nat.reduceSub, Nat.reduceLT, Nat.reduceLeDiff]
        try simp only [Nat.reduceAdd]
        try simp only [go_sem, Nat.reduceEqDiff, reduceIte, Nat.reduceMul, Nat.reduceSub, Nat.reduceLT, Nat.reduceLeDiff]
        try simp only [Nat.reduceAdd]
        try simp only [go_sem, Nat.reduceEqDiff, reduceIte, Nat.reduceMul, Nat.reduceSub, Nat.reduceLT, Nat.reduceLeDiff]
        refine And.intro ?_ (hKK _ _ (Wk.refl _ _ _) ?_)
        ·
         subst hall
         clear hKK KK
         first | (simp [printsOk, apartP, clash, meet]; done) | (simp [printsOk, apartP, clash, meet]; decide +kernel) | decide +kernel
        ·
         clear hKK KK hall all
         refine awp_ret1 ?_
         obtain rfl := someInj h0
         refine endW_i ?_
         refine end_ret0 rs26 (by simp only [go_sem, resV, resAll, resOf, packR, Nat.reduceEqDiff, reduceIte, Nat.reduceAdd, Nat.reduceMul, Nat.reduceSub, Nat.reduceLT, Nat.reduceLeDiff]; rfl) ?_
         try simp only [go_sem, Nat.reduceEqDiff, reduceIte, Nat.reduceAdd, Nat.reduceMul, Nat.reduceSub, Nat.reduceLT, Nat.reduceLeDiff, fz, nilS, packR, List.take_nil, List.take_length, List.length_map, List.length_append, cond_true, cond_false, Nat.ble_eq, ble_self, List.map_append]
         all_goals rfl
       ·
        have h0 := cF h0 h8
        refine awp_nr [2,3,4,5,6,11] (fun _ => rfl) fun tz => ?_
        refine awp_regW fun KK hKK => ?_
        refine xw_id ?_
        try simp only [go_sem, Nat.reduceEqDiff, reduceIte, Nat.reduceAdd, Nat.reduceMul, Nat.reduceSub, Nat.reduceLT, Nat.reduceLeDiff]
        refine hKK _ _ (Wk.refl _ _ _) ?_; clear hKK KK
        refine awp_cond1 (b := (a1.Kind == 7)) rfl (fun h9 => ?_) (fun h9 => ?_)
        ·
         have h0 := cT h0 h9
         refine awp_nr1 [2,3,4,5] (fun _ => rfl) fun tz => ?_
         refine awp_reg1 fun KK hKK => ?_
         refine xw_id ?_
         obtain ⟨x38, bx38, h0⟩ := bnd h0
         try simp only [go_sem, Nat.reduceEqDiff, reduceIte, Nat.reduceAdd, Nat.reduceMul, Nat.reduceSub, Nat.reduceLT, Nat.reduceLeDiff]
         refine xcall_p (sender_Expire_p a0 a1.N bx38) ?_; try dsimp only
         try refine xw_id ?_
         try simp only [go_sem, Nat.reduceEqDiff, reduceIte, Nat.reduceAdd, Nat.reduceMul, Nat.reduceSub, Nat.reduceLT, Nat.reduceLeDiff]
         refine hKK _ ?_; clear hKK KK
         refine bq_n ?_
         refine seqW_i ?_
         refine awp_nr [4,5,6] (fun _ => rfl) fun tz => ?_
         refine awp_regDW fun KK hKK all hall => ?_
         refine xd_id ?_
         try simp only [List.toList_toArray, List.map_cons, List.map_nil, List.size_toArray, List.length_cons, List.length_nil, Nat.zero_add]
         try simp only [Nat.reduceAdd]
         simp only [go_sem, Nat.reduceEqDiff, reduceIte, Nat.reduceMul, Nat.reduceSub, Nat.reduceLT, Nat.reduceLeDiff]
         try simp only [Nat.reduceAdd]
         try simp only [go_sem, Nat.reduceEqDiff, reduceIte, Nat.reduceMul, Nat.reduceSub, Nat.reduceLT, Nat.reduceLeDiff]
         try simp only [Nat.reduceAdd]
         try simp only [go_sem, Nat.reduceEqDiff, reduceIte, Nat.reduceMul, Nat.reduceSub, Nat.reduceLT, Nat.reduceLeDiff]
         refine And.intro ?_ (hKK _ _ (Wk.refl _ _ _) ?_)
         ·
          subst hall
          clear hKK KK
          first | (simp [printsOk, apartP, clash, meet]; done) | (simp [printsOk, apartP, clash, meet]; decide +kernel) | decide +kernel
         ·
          clear hKK KK hall all
          refine awp_ret1 ?_
          obtain rfl := someInj h0
          refine endW_i ?_
          refine end_ret0 rs26 (by simp only [go_sem, resV, resAll, resOf, packR, Nat.reduceEqDiff, reduceIte, Nat.reduceAdd, Nat.reduceMul, Nat.reduceSub, Nat.reduceLT, Nat.reduceLeDiff]; rfl) ?_
          try simp only [go_sem, Nat.reduceEqDiff, reduceIte, Nat.reduceAdd, Nat.reduceMul, Nat.reduceSub, Nat.reduceLT, Nat.reduceLeDiff, fz, nilS, packR, List.take_nil, List.take_length, List.length_map, List.length_append, cond_true, cond_false, Nat.ble_eq, ble_self, List.map_append]
          all_goals rfl
        ·
         have h0 := cF h0 h9
         refine awp_nr [2,4,5,6,11] (fun _ => rfl) fun tz => ?_
         refine awp_regW fun KK hKK => ?_
         refine xw_id ?_
         try simp only [go_sem, Nat.reduceEqDiff, reduceIte, Nat.reduceAdd, Nat.reduceMul, Nat.reduceSub, Nat.reduceLT, Nat.reduceLeDiff]
         refine hKK _ _ (Wk.refl _ _ _) ?_; clear hKK KK
         refine awp_cond1 (b := (a1.Kind == 8)) rfl (fun h10 => ?_) (fun h10 => ?_)
         ·
          have h0 := cT h0 h10
          refine awp_nr1 [2,4,5] (fun _ => rfl) fun tz => ?_
          refine awp_reg1 fun KK hKK => ?_
          refine xw_id ?_
          obtain ⟨x39, bx39, h0⟩ := bnd h0
          try simp only [go_sem, Nat.reduceEqDiff, reduceIte, Nat.reduceAdd, Nat.reduceMul, Nat.reduceSub, Nat.reduceLT, Nat.reduceLeDiff]
          refine xcall_p (sender_Barred_p a0 bx39) ?_; try dsimp only
          try refine xw_id ?_
          try simp only [go_sem, Nat.reduceEqDiff, reduceIte, Nat.reduceAdd, Nat.reduceMul, Nat.reduceSub, Nat.reduceLT, Nat.reduceLeDiff]
          refine hKK _ ?_; clear hKK KK
          refine bq_n ?_
          refine seqW_i ?_
          refine awp_nr [4,5,6] (fun _ => rfl) fun tz => ?_
          refine awp_regDW fun KK hKK all hall => ?_
          refine xd_id ?_
          try simp only [List.toList_toArray, List.map_cons, List.map_nil, List.size_toArray, List.length_cons, List.length_nil, Nat.zero_add]
          try simp only [Nat.reduceAdd]
          simp only [go_sem, Nat.reduceEqDiff, reduceIte, Nat.reduceMul, Nat.reduceSub, Nat.reduceLT, Nat.reduceLeDiff]
          try simp only [Nat.reduceAdd]
          try simp only [go_sem, Nat.reduceEqDiff, reduceIte, Nat.reduceMul, Nat.reduceSub, Nat.reduceLT, Nat.reduceLeDiff]
          try simp only [Nat.reduceAdd]
          try simp only [go_sem, Nat.reduceEqDiff, reduceIte, Nat.reduceMul, Nat.reduceSub, Nat.reduceLT, Nat.reduceLeDiff]
          refine And.intro ?_ (hKK _ _ (Wk.refl _ _ _) ?_)
          ·
           subst hall
           clear hKK KK
           first | (simp [printsOk, apartP, clash, meet]; done) | (simp [printsOk, apartP, clash, meet]; decide +kernel) | decide +kernel
          ·
           clear hKK KK hall all
           refine awp_ret1 ?_
           obtain rfl := someInj h0
           refine endW_i ?_
           refine end_ret0 rs26 (by simp only [go_sem, resV, resAll, resOf, packR, Nat.reduceEqDiff, reduceIte, Nat.reduceAdd, Nat.reduceMul, Nat.reduceSub, Nat.reduceLT, Nat.reduceLeDiff]; rfl) ?_
           try simp only [go_sem, Nat.reduceEqDiff, reduceIte, Nat.reduceAdd, Nat.reduceMul, Nat.reduceSub, Nat.reduceLT, Nat.reduceLeDiff, fz, nilS, packR, List.take_nil, List.take_length, List.length_map, List.length_append, cond_true, cond_false, Nat.ble_eq, ble_self, List.map_append]
           all_goals rfl
         ·
          have h0 := cF h0 h10
          refine awp_skip1 ?_
          refine bq_n ?_
          refine seqW_i ?_
          refine awp_nr [4,5,6] (fun _ => rfl) fun tz => ?_
          refine awp_regDW fun KK hKK all hall => ?_
          refine xd_id ?_
          try simp only [List.toList_toArray, List.map_cons, List.map_nil, List.size_toArray, List.length_cons, List.length_nil, Nat.zero_add]
          try simp only [Nat.reduceAdd]
          simp only [go_sem, Nat.reduceEqDiff, reduceIte, Nat.reduceMul, Nat.reduceSub, Nat.reduceLT, Nat.reduceLeDiff]
          try simp only [Nat.reduceAdd]
          try simp only [go_sem, Nat.reduceEqDiff, reduceIte, Nat.reduceMul, Nat.reduceSub, Nat.reduceLT, Nat.reduceLeDiff]
          try simp only [Nat.reduceAdd]
          try simp only [go_sem, Nat.reduceEqDiff, reduceIte, Nat.reduceMul, Nat.reduceSub, Nat.reduceLT, Nat.reduceLeDiff]
          refine And.intro ?_ (hKK _ _ (Wk.refl _ _ _) ?_)
          ·
           subst hall
           clear hKK KK
           first | (simp [printsOk, apartP, clash, meet]; done) | (simp [printsOk, apartP, clash, meet]; decide +kernel) | decide +kernel
          ·
           clear hKK KK hall all
           refine awp_ret1 ?_
           obtain rfl := someInj h0
           refine endW_i ?_
           refine end_ret0 rs26 (by simp only [go_sem, resV, resAll, resOf, packR, Nat.reduceEqDiff, reduceIte, Nat.reduceAdd, Nat.reduceMul, Nat.reduceSub, Nat.reduceLT, Nat.reduceLeDiff]; rfl) ?_
           try simp only [go_sem, Nat.reduceEqDiff, reduceIte, Nat.reduceAdd, Nat.reduceMul, Nat.reduceSub, Nat.reduceLT, Nat.reduceLeDiff, fz, nilS, packR, List.take_nil, List.take_length, List.length_map, List.length_append, cond_true, cond_false, Nat.ble_eq, ble_self, List.map_append]
           all_goals rfl

end Go.AX.Z.TS
