/- A part of the proof: walks through the functions that the statement reaches. -/
import Derived.Test.YtlnpmlkhbnjgnaaWalka
set_option linter.unusedVariables false
set_option linter.unusedSimpArgs false

/-! (TMW hotspotref38 Heard) -/

set_option linter.unusedSimpArgs false
set_option linter.unusedVariables false
set_option maxHeartbeats 4000000
namespace Go.AX.Z.TM
open Go.AX Go.Proofs
attribute [local irreducible] awp xw xop xcall gsp ob xd xdop xcallD seqQ loopQ blkQ endQ

def hotspotref38_Heard_S0 (a0 : MetricTable) (a1 : Addr) (a2 : Int) (a3 : Bool) (a4 : Int) (x69 : Int) : AS :=
 { objs := (upd (upd (upd (fun _ => .dead) 0 (.live (e_MetricTable a0 (.imm (List.flatMap e_MetricLink a0.Links) a0.Links.length)))) 1 (.live (e_Addr a1))) 2 (.live (e_MetricTable MetricTable.z vnil))), next := 3, tmps := (upd (upd (upd (upd (upd (upd (upd (fun _ => .unk) 2 (vi a2)) 3 (vb a3)) 4 (vi a4)) 5 (.ptr 0 0)) 6 (.ptr 1 0)) 10 (.ptr 2 0)) 12 (vi x69)) }

def hotspotref38_Heard_S1 (a0 : MetricTable) (a1 : Addr) (a2 : Int) (a3 : Bool) (a4 : Int) (d70 : Int) : AS :=
 { objs := (upd (upd (upd (fun _ => .dead) 0 (.live (e_MetricTable a0 (.imm (List.flatMap e_MetricLink a0.Links) a0.Links.length)))) 1 (.live (e_Addr a1))) 2 (.live (e_MetricTable MetricTable.z vnil))), next := 3, tmps := (upd (upd (upd (upd (upd (upd (upd (fun _ => .unk) 2 (vi a2)) 3 (vb a3)) 4 (vi a4)) 5 (.ptr 0 0)) 6 (.ptr 1 0)) 10 (.ptr 2 0)) 12 (vi d70)) }

def hotspotref38_Heard_S2 (a0 : MetricTable) (a1 : Addr) (a2 : Int) (a3 : Bool) (a4 : Int) (d71 : (MetricTable × List MetricLink × Bool)) : AS :=
 { objs := (upd (upd (upd (upd (upd (fun _ => .dead) 0 (.live (e_MetricTable a0 (.imm (List.flatMap e_MetricLink a0.Links) a0.Links.length)))) 1 (.live (e_Addr a1))) 2 (.live (e_MetricTable MetricTable.z vnil))) 3 (.live (e_MetricTable d71.1 (.ref 4 0 ((d71.2.1).length) 9)))) 4 (.live (List.flatMap e_MetricLink d71.2.1))), next := 5, tmps := (upd (upd (upd (upd (upd (upd (upd (upd (fun _ => .unk) 2 (vi a2)) 3 (vb a3)) 4 (vi a4)) 5 (.ptr 0 0)) 6 (.ptr 1 0)) 10 (.ptr 2 0)) 13 (.ptr 3 0)) 14 (vb d71.2.2)) }

def hotspotref38_Heard_S3 (a0 : MetricTable) (a1 : Addr) (a2 : Int) (a3 : Bool) (a4 : Int) (d72 : (MetricTable × List MetricLink × Bool × Int)) : AS :=
 { objs := (upd (upd (upd (upd (upd (fun _ => .dead) 0 (.live (e_MetricTable a0 (.imm (List.flatMap e_MetricLink a0.Links) a0.Links.length)))) 1 (.live (e_Addr a1))) 2 (.live (e_MetricTable MetricTable.z vnil))) 3 (.live (e_MetricTable d72.1 (.ref 4 0 ((d72.2.1).length) 9)))) 4 (.live (List.flatMap e_MetricLink d72.2.1))), next := 5, tmps := (upd (upd (upd (upd (upd (upd (upd (upd (upd (fun _ => .unk) 2 (vi a2)) 3 (vb a3)) 4 (vi a4)) 5 (.ptr 0 0)) 6 (.ptr 1 0)) 10 (.ptr 2 0)) 13 (.ptr 3 0)) 14 (vb d72.2.2.1)) 15 (vi d72.2.2.2)) }

def hotspotref38_Heard_S5 (a0 : MetricTable) (a1 : Addr) (d72 : (MetricTable × List MetricLink × Bool × Int)) (a2 : Int) (a3 : Bool) (a4 : Int) (d74 : (Bool × MetricLink)) : AS :=
 { objs := (upd (upd (upd (upd (upd (upd (fun _ => .dead) 0 (.live (e_MetricTable a0 (.imm (List.flatMap e_MetricLink a0.Links) a0.Links.length)))) 1 (.live (e_Addr a1))) 2 (.live (e_MetricTable MetricTable.z vnil))) 3 (.live (e_MetricTable d72.1 (.ref 4 0 d72.2.1.length 9)))) 4 (.live (List.flatMap e_MetricLink d72.2.1))) 5 (.live (e_MetricLink d74.2))), next := 6, tmps := (upd (upd (upd (upd (upd (upd (upd (upd (upd (upd (fun _ => .unk) 2 (vi a2)) 3 (vb a3)) 4 (vi a4)) 5 (.ptr 0 0)) 6 (.ptr 1 0)) 10 (.ptr 2 0)) 13 (.ptr 3 0)) 14 (vb d74.1)) 15 (vi d72.2.2.2)) 16 (.ptr 5 0)) }

def hotspotref38_Heard_S6 (a0 : MetricTable) (a1 : Addr) (d72 : (MetricTable × List MetricLink × Bool × Int)) (x73 : MetricLink) (a2 : Int) (a3 : Bool) (a4 : Int) : AS :=
 { objs := (upd (upd (upd (upd (upd (upd (fun _ => .dead) 0 (.live (e_MetricTable a0 (.imm (List.flatMap e_MetricLink a0.Links) a0.Links.length)))) 1 (.live (e_Addr a1))) 2 (.live (e_MetricTable MetricTable.z vnil))) 3 (.live (e_MetricTable d72.1 (.ref 4 0 d72.2.1.length 9)))) 4 (.live (List.flatMap e_MetricLink d72.2.1))) 5 (.live (e_MetricLink { x73 with Loss := IntKind.wrap .i64 (((IntKind.wrap .i64 (7 * x73.Loss))).tdiv 8), Rate := a2 }))), next := 6, tmps := (upd (upd (upd (upd (upd (upd (upd (upd (upd (upd (fun _ => .unk) 2 (vi a2)) 3 (vb a3)) 4 (vi a4)) 5 (.ptr 0 0)) 6 (.ptr 1 0)) 10 (.ptr 2 0)) 13 (.ptr 3 0)) 14 (vb true)) 15 (vi d72.2.2.2)) 16 (.ptr 5 0)) }

def hotspotref38_Heard_S7 (a4 : Int) (a1 : Addr) (a2 : Int) (d76 : (MetricTable × List MetricLink × Bool)) : AS :=
 { objs := (upd (upd (upd (upd (fun _ => .dead) 0 (.live (e_MetricTable MetricTable.z vnil))) 1 (.live (e_MetricTable d76.1 (.ref 2 0 ((d76.2.1).length) 9)))) 2 (.live (List.flatMap e_MetricLink d76.2.1))) 3 (.live (e_MetricLink { MetricLink.z with Heard := a4, Peer := a1, Rate := a2 }))), next := 4, tmps := (upd (upd (upd (upd (fun _ => .unk) 10 (.ptr 0 0)) 13 (.ptr 1 0)) 17 (.ptr 3 0)) 18 (vb d76.2.2)) }

def hotspotref38_Heard_S8 (a0 : MetricTable) (a1 : Addr) (a4 : Int) (a2 : Int) (d77 : (MetricTable × List MetricLink × Bool × Int)) : AS :=
 { objs := (upd (upd (upd (upd (upd (upd (fun _ => .dead) 0 (.live (e_MetricTable a0 (.imm (List.flatMap e_MetricLink a0.Links) a0.Links.length)))) 1 (.live (e_Addr a1))) 2 (.live (e_MetricTable MetricTable.z vnil))) 3 (.live (e_MetricTable d77.1 (.ref 4 0 ((d77.2.1).length) 9)))) 4 (.live (List.flatMap e_MetricLink d77.2.1))) 5 (.live (e_MetricLink { MetricLink.z with Heard := a4, Peer := a1, Rate := a2 }))), next := 6, tmps := (upd (upd (upd (upd (upd (upd (upd (fun _ => .unk) 5 (.ptr 0 0)) 6 (.ptr 1 0)) 10 (.ptr 2 0)) 13 (.ptr 3 0)) 17 (.ptr 5 0)) 18 (vb d77.2.2.1)) 19 (vi d77.2.2.2)) }

def hotspotref38_Heard_S10 (a0 : MetricTable) (a1 : Addr) (d77 : (MetricTable × List MetricLink × Bool × Int)) (a4 : Int) (a2 : Int) (d81 : (List MetricLink × Bool)) : AS :=
 { objs := (upd (upd (upd (upd (upd (upd (fun _ => .dead) 0 (.live (e_MetricTable a0 (.imm (List.flatMap e_MetricLink a0.Links) a0.Links.length)))) 1 (.live (e_Addr a1))) 2 (.live (e_MetricTable MetricTable.z vnil))) 3 (.live (e_MetricTable d77.1 (.ref 4 0 ((d81.1).length) 9)))) 4 (.live (List.flatMap e_MetricLink d81.1))) 5 (.live (e_MetricLink { MetricLink.z with Heard := a4, Peer := a1, Rate := a2 }))), next := 6, tmps := (upd (upd (upd (upd (upd (upd (upd (fun _ => .unk) 5 (.ptr 0 0)) 6 (.ptr 1 0)) 10 (.ptr 2 0)) 13 (.ptr 3 0)) 17 (.ptr 5 0)) 18 (vb d81.2)) 19 (vi d77.2.2.2)) }

theorem hotspotref38_Heard_r (a0 : MetricTable) (a1 : Addr) (a2 : Int) (a3 : Bool) (a4 : Int) {r : (MetricTable × Int)} (h0 : hotspotref38_Heard a0 a1 a2 a3 a4 = some r) : SndR K 21 [(.agg (E_MetricTable a0)), (.agg (e_Addr a1)), (vi a2), (vb a3), (vi a4)] (fun q => (.tup [(.agg (e_MetricTable r.1 (.ref (q 0) 0 r.1.Links.length 9))), (vi r.2)])) [(List.flatMap e_MetricLink r.1.Links)] := by
 refine SndR.of_walkW hC (show K.P.funcs[21]? = some Try.f21 from Try.func21) rfl rfl (by decide +kernel) (Nat.le_of_ble_eq_true rfl) ?_
 unfold hotspotref38_Heard at h0
 refine awp_nr [0,1,2,3,4] (fun _ => rfl) fun tz => ?_
 refine awp_regW fun KK hKK => ?_
 refine xw_id ?_
 try simp only [go_sem, Nat.reduceEqDiff, reduceIte, Nat.reduceAdd, Nat.reduceMul, Nat.reduceSub, Nat.reduceLT, Nat.reduceLeDiff]
 refine hKK _ _ (Wk.refl _ _ _) ?_; clear hKK KK
 refine awp_nr [2,3,4,5,6,10] (fun _ => rfl) fun tz => ?_
 refine awp_regW fun KK hKK => ?_
 refine xw_id ?_
 obtain ⟨x69, bx69, h0⟩ := bnd h0
 try simp only [go_sem, Nat.reduceEqDiff, reduceIte, Nat.reduceAdd, Nat.reduceMul, Nat.reduceSub, Nat.reduceLT, Nat.reduceLeDiff]
 refine xcall_p (hotspotref38_before_p a0 a4 bx69) ?_; try dsimp only
 try refine xw_id ?_
 try simp only [go_sem, Nat.reduceEqDiff, reduceIte, Nat.reduceAdd, Nat.reduceMul, Nat.reduceSub, Nat.reduceLT, Nat.reduceLeDiff]
 refine hKK _ (hotspotref38_Heard_S0 a0 a1 a2 a3 a4 x69) (Wk.canonD [] [] [some 0, some 1, some 2] rfl trivial rfl (tmOU 2 (tmOU 1 (tmOU 0 tmO0 rfl List.not_mem_nil (by simp only [upd_get, Nat.reduceEqDiff, reduceIte, Nat.reduceAdd, Nat.reduceMul, Nat.reduceSub, Nat.reduceLT, Nat.reduceLeDiff, if_true, if_false] <;> rfl) (e_MetricTable_tmx (by rfl) (Tm.clean (Clean.imm (c_MetricLink _))))) rfl List.not_mem_nil (by simp only [upd_get, Nat.reduceEqDiff, reduceIte, Nat.reduceAdd, Nat.reduceMul, Nat.reduceSub, Nat.reduceLT, Nat.reduceLeDiff, if_true, if_false] <;> rfl) (TmL.clean (e_Addr_clean _))) rfl List.not_mem_nil (by simp only [upd_get, Nat.reduceEqDiff, reduceIte, Nat.reduceAdd, Nat.reduceMul, Nat.reduceSub, Nat.reduceLT, Nat.reduceLeDiff, if_true, if_false] <;> rfl) (e_MetricTable_tmx (by rfl) (Tm.v _))) (tmAllU 12 (tmAllU 10 (tmAllU 6 (tmAllU 5 (tmAllU 4 (tmAllU 3 (tmAllU 2 tmAll0 (Tm.v _)) (Tm.v _)) (Tm.v _)) (Tm.ptr rfl)) (Tm.ptr rfl)) (Tm.ptr rfl)) (Tm.v _))) ?_; clear hKK KK
 unfold hotspotref38_Heard_S0
 refine awp_assoc ?_
 refine awp_nr [2,3,4,5,6,10,12] (fun _ => rfl) fun tz => ?_
 refine awp_regW fun KK hKK => ?_
 refine xw_id ?_
 refine xw_stop 3 (by (try simp only [go_sem]); rfl) (by (try simp only [go_sem]); rfl) (by rfl) fun K1 hK1 => ?_
 refine xw_id ?_
 try simp only [go_sem, Nat.reduceEqDiff, reduceIte, Nat.reduceAdd, Nat.reduceMul, Nat.reduceSub, Nat.reduceLT, Nat.reduceLeDiff]
 refine hK1 _ ?_; clear hK1 K1
 refine xw_cut 7 [(2, (vi a2)), (3, (vb a3)), (4, (vi a4)), (5, (.ptr 0 0)), (6, (.ptr 1 0)), (10, (.ptr 2 0)), (12, (vi x69)), (32, (vb ((x69 == 0) && ((decide (a2 < 0)) || (decide (12 ≤ a2))))))] (by (try simp only [go_sem]); rfl) (by (try simp only [go_sem]); rfl) (by rfl) (fun K1 hK1 => ?_) fun tz => ?_
 ·
  refine xw_id ?_
  rcases Bool.eq_false_or_eq_true (x69 == 0) with h1 | h1
  ·
   refine xw_stop 3 (by (try simp only [go_sem]); rfl) (by (try simp only [go_sem]); rfl) (by rfl) fun K1 hK1 => ?_
   refine xw_id ?_
   try simp only [go_sem, Nat.reduceEqDiff, reduceIte, Nat.reduceAdd, Nat.reduceMul, Nat.reduceSub, Nat.reduceLT, Nat.reduceLeDiff, h1]
   refine hK1 _ ?_; clear hK1 K1
   refine xw_cut 3 [(2, (vi a2)), (3, (vb a3)), (4, (vi a4)), (5, (.ptr 0 0)), (6, (.ptr 1 0)), (10, (.ptr 2 0)), (12, (vi x69)), (25, (vb true)), (31, (vb ((decide (a2 < 0)) || (decide (12 ≤ a2)))))] (by (try simp only [go_sem]); rfl) (by (try simp only [go_sem]); rfl) (by rfl) (fun K1 hK1 => ?_) fun tz => ?_
   ·
    refine xw_id ?_
    rcases Bool.eq_false_or_eq_true (decide (a2 < 0)) with h2 | h2
    ·
     try simp only [go_sem, Nat.reduceEqDiff, reduceIte, Nat.reduceAdd, Nat.reduceMul, Nat.reduceSub, Nat.reduceLT, Nat.reduceLeDiff, h1, h2]
     exact hK1 _ ⟨rfl, rfl, rfl, rfl, rfl, rfl, rfl, rfl, rfl, (by first | rfl | (rw [h2]; rfl) | (simp only [h2, Bool.true_and, Bool.false_and, Bool.true_or, Bool.false_or, cond_true, cond_false]; done)), trivial⟩
    ·
     try simp only [go_sem, Nat.reduceEqDiff, reduceIte, Nat.reduceAdd, Nat.reduceMul, Nat.reduceSub, Nat.reduceLT, Nat.reduceLeDiff, h1, h2]
     exact hK1 _ ⟨rfl, rfl, rfl, rfl, rfl, rfl, rfl, rfl, rfl, (by first | rfl | (rw [h2]; rfl) | (simp only [h2, Bool.true_and, Bool.false_and, Bool.true_or, Bool.false_or, cond_true, cond_false]; done)), trivial⟩
   ·
    refine xw_id ?_
    try simp only [go_sem, Nat.reduceEqDiff, reduceIte, Nat.reduceAdd, Nat.reduceMul, Nat.reduceSub, Nat.reduceLT, Nat.reduceLeDiff, h1]
    exact hK1 _ ⟨rfl, rfl, rfl, rfl, rfl, rfl, rfl, rfl, (by first | rfl | (rw [h1]; rfl) | (simp only [h1, Bool.true_and, Bool.false_and, Bool.true_or, Bool.false_or, cond_true, cond_false]; done)), trivial⟩
  ·
   try simp only [go_sem, Nat.reduceEqDiff, reduceIte, Nat.reduceAdd, Nat.reduceMul, Nat.reduceSub, Nat.reduceLT, Nat.reduceLeDiff, h1]
   exact hK1 _ ⟨rfl, rfl, rfl, rfl, rfl, rfl, rfl, rfl, (by first | rfl | (rw [h1]; rfl) | (simp only [h1, Bool.true_and, Bool.false_and, Bool.true_or, Bool.false_or, cond_true, cond_false]; done)), trivial⟩
 ·
  refine xw_id ?_
  try simp only [go_sem, Nat.reduceEqDiff, reduceIte, Nat.reduceAdd, Nat.reduceMul, Nat.reduceSub, Nat.reduceLT, Nat.reduceLeDiff]
  refine hKK _ _ (Wk.refl _ _ _) ?_; clear hKK KK
  obtain ⟨d70, hi3, h0⟩ := bnd h0
  refine awp_cut (fun z => d70 = z) (fun d70 : Int => hotspotref38_Heard_S1 a0 a1 a2 a3 a4 d70) ?_ ?_
  ·
   refine awp_cond1 (b := ((x69 == 0) && ((decide (a2 < 0)) || (decide (12 ≤ a2))))) rfl (fun h4 => ?_) (fun h4 => ?_)
   ·
    have hi3 := cT hi3 h4
    refine awp_nr1 [2,3,4,5,6,10] (fun _ => rfl) fun tz => ?_
    refine awp_reg1 fun KK hKK => ?_
    refine xw_id ?_
    try simp only [go_sem, Nat.reduceEqDiff, reduceIte, Nat.reduceAdd, Nat.reduceMul, Nat.reduceSub, Nat.reduceLT, Nat.reduceLeDiff]
    refine hKK _ ?_; clear hKK KK
    refine sq_n ?_
    obtain rfl := someInj hi3
    exact ⟨_, rfl, (Wk.canonD [] [] [some 0, some 1, some 2] rfl trivial rfl (tmOU 2 (tmOU 1 (tmOU 0 tmO0 rfl List.not_mem_nil (by simp only [upd_get, Nat.reduceEqDiff, reduceIte, Nat.reduceAdd, Nat.reduceMul, Nat.reduceSub, Nat.reduceLT, Nat.reduceLeDiff, if_true, if_false] <;> rfl) (e_MetricTable_tmx (by rfl) (Tm.clean (Clean.imm (c_MetricLink _))))) rfl List.not_mem_nil (by simp only [upd_get, Nat.reduceEqDiff, reduceIte, Nat.reduceAdd, Nat.reduceMul, Nat.reduceSub, Nat.reduceLT, Nat.reduceLeDiff, if_true, if_false] <;> rfl) (TmL.clean (e_Addr_clean _))) rfl List.not_mem_nil (by simp only [upd_get, Nat.reduceEqDiff, reduceIte, Nat.reduceAdd, Nat.reduceMul, Nat.reduceSub, Nat.reduceLT, Nat.reduceLeDiff, if_true, if_false] <;> rfl) (e_MetricTable_tmx (by rfl) (Tm.v _))) (tmAllU 12 (tmAllU 10 (tmAllU 6 (tmAllU 5 (tmAllU 4 (tmAllU 3 (tmAllU 2 tmAll0 (Tm.v _)) (Tm.v _)) (Tm.v _)) (Tm.ptr rfl)) (Tm.ptr rfl)) (Tm.ptr rfl)) (Tm.v _)))⟩
   ·
    have hi3 := cF hi3 h4
    refine awp_skip1 ?_
    refine sq_n ?_
    obtain rfl := someInj hi3
    exact ⟨_, rfl, (Wk.canonD [] [] [some 0, some 1, some 2] rfl trivial rfl (tmOU 2 (tmOU 1 (tmOU 0 tmO0 rfl List.not_mem_nil (by simp only [upd_get, Nat.reduceEqDiff, reduceIte, Nat.reduceAdd, Nat.reduceMul, Nat.reduceSub, Nat.reduceLT, Nat.reduceLeDiff, if_true, if_false] <;> rfl) (e_MetricTable_tmx (by rfl) (Tm.clean (Clean.imm (c_MetricLink _))))) rfl List.not_mem_nil (by simp only [upd_get, Nat.reduceEqDiff, reduceIte, Nat.reduceAdd, Nat.reduceMul, Nat.reduceSub, Nat.reduceLT, Nat.reduceLeDiff, if_true, if_false] <;> rfl) (TmL.clean (e_Addr_clean _))) rfl List.not_mem_nil (by simp only [upd_get, Nat.reduceEqDiff, reduceIte, Nat.reduceAdd, Nat.reduceMul, Nat.reduceSub, Nat.reduceLT, Nat.reduceLeDiff, if_true, if_false] <;> rfl) (e_MetricTable_tmx (by rfl) (Tm.v _))) (tmAllU 12 (tmAllU 10 (tmAllU 6 (tmAllU 5 (tmAllU 4 (tmAllU 3 (tmAllU 2 tmAll0 (Tm.v _)) (Tm.v _)) (Tm.v _)) (Tm.ptr rfl)) (Tm.ptr rfl)) (Tm.ptr rfl)) (Tm.v _)))⟩
  ·
   rintro _ rfl
   clear hi3
   unfold hotspotref38_Heard_S1
   refine awp_assoc ?_
   refine awp_nr [2,3,4,5,6,10,12] (fun _ => rfl) fun tz => ?_
   refine awp_regW fun KK hKK => ?_
   refine xw_id ?_
   try simp only [go_sem, Nat.reduceEqDiff, reduceIte, Nat.reduceAdd, Nat.reduceMul, Nat.reduceSub, Nat.reduceLT, Nat.reduceLeDiff]
   refine hKK _ _ (Wk.refl _ _ _) ?_; clear hKK KK
   refine awp_cond (b := (d70 != 0)) rfl (fun h5 => ?_) (fun h5 => ?_)
   ·
    have h0 := cT h0 h5
    refine awp_assoc ?_
    refine awp_nr [10,12] (fun _ => rfl) fun tz => ?_
    refine awp_regW fun KK hKK => ?_
    refine xw_id ?_
    try simp only [go_sem, Nat.reduceEqDiff, reduceIte, Nat.reduceAdd, Nat.reduceMul, Nat.reduceSub, Nat.reduceLT, Nat.reduceLeDiff]
    refine hKK _ _ (Wk.refl _ _ _) ?_; clear hKK KK
    refine awp_ret ?_
    obtain rfl := someInj h0
    refine endW_i ?_
    refine end_ret0 rs21 (by simp only [go_sem, resV, resAll, resOf, packR, Nat.reduceEqDiff, reduceIte, Nat.reduceAdd, Nat.reduceMul, Nat.reduceSub, Nat.reduceLT, Nat.reduceLeDiff]; rfl) ?_
    refine Res.mk [] [none] rfl (resON resO0) (Tm.tup (TmL.cons (Tm.agg (e_MetricTable_tmx (by rfl) (Tm.thaw _ _ _))) (TmL.cons (Tm.v _) TmL.nil)))
   ·
    have h0 := cF h0 h5
    refine awp_skip ?_
    refine awp_nr [2,3,4,5,6,10] (fun _ => rfl) fun tz => ?_
    refine awp_regW fun KK hKK => ?_
    refine xw_id ?_
    try simp only [go_sem, Nat.reduceEqDiff, reduceIte, Nat.reduceAdd, Nat.reduceMul, Nat.reduceSub, Nat.reduceLT, Nat.reduceLeDiff]
    refine hKK _ _ (Wk.refl _ _ _) ?_; clear hKK KK
    refine awp_nr [2,3,4,5,6,10,13] (fun _ => rfl) fun tz => ?_
    refine awp_regW fun KK hKK => ?_
    refine xw_id ?_
    try simp only [go_sem, Nat.reduceEqDiff, reduceIte, Nat.reduceAdd, Nat.reduceMul, Nat.reduceSub, Nat.reduceLT, Nat.reduceLeDiff]
    refine hKK _ _ (Wk.refl _ _ _) ?_; clear hKK KK
    refine awp_assoc ?_
    refine awp_nr [2,3,4,5,6,10,13,14] (fun _ => rfl) fun tz => ?_
    refine awp_regW fun KK hKK => ?_
    refine xw_id ?_
    try simp only [go_sem, Nat.reduceEqDiff, reduceIte, Nat.reduceAdd, Nat.reduceMul, Nat.reduceSub, Nat.reduceLT, Nat.reduceLeDiff]
    refine hKK _ _ (Wk.refl _ _ _) ?_; clear hKK KK
    obtain ⟨d71, hi6, h0⟩ := bnd h0
    refine awp_cut (fun z => d71 = z) (fun d71 : (MetricTable × List MetricLink × Bool) => hotspotref38_Heard_S2 a0 a1 a2 a3 a4 d71) ?_ ?_
    ·
     refine awp_block1 ?_
     refine awp_loopS (fun n (d72 : (MetricTable × List MetricLink × Bool × Int)) => hotspotref38_Heard_L4 a0 a1 a3 a4 a2 n d72 = some d71) (fun d72 : (MetricTable × List MetricLink × Bool × Int) => hotspotref38_Heard_S3 a0 a1 a2 a3 a4 d72) big (MetricTable.z, [], false, 0) (Wk.canonD [] [] [some 0, some 1, some 2, some 5, none] rfl trivial rfl (tmON 4 (tmOU 3 (tmOU 2 (tmOU 1 (tmOU 0 tmO0 rfl List.not_mem_nil (by simp only [upd_get, Nat.reduceEqDiff, reduceIte, Nat.reduceAdd, Nat.reduceMul, Nat.reduceSub, Nat.reduceLT, Nat.reduceLeDiff, if_true, if_false] <;> rfl) (e_MetricTable_tmx (by rfl) (Tm.clean (Clean.imm (c_MetricLink _))))) rfl List.not_mem_nil (by simp only [upd_get, Nat.reduceEqDiff, reduceIte, Nat.reduceAdd, Nat.reduceMul, Nat.reduceSub, Nat.reduceLT, Nat.reduceLeDiff, if_true, if_false] <;> rfl) (TmL.clean (e_Addr_clean _))) rfl List.not_mem_nil (by simp only [upd_get, Nat.reduceEqDiff, reduceIte, Nat.reduceAdd, Nat.reduceMul, Nat.reduceSub, Nat.reduceLT, Nat.reduceLeDiff, if_true, if_false] <;> rfl) (e_MetricTable_tmx (by rfl) (Tm.v _))) rfl List.not_mem_nil (by simp only [upd_get, Nat.reduceEqDiff, reduceIte, Nat.reduceAdd, Nat.reduceMul, Nat.reduceSub, Nat.reduceLT, Nat.reduceLeDiff, if_true, if_false] <;> rfl) (e_MetricTable_tmx (by rfl) (Tm.thaw _ _ _))) rfl) (tmAllU 15 (tmAllU 14 (tmAllU 13 (tmAllU 10 (tmAllU 6 (tmAllU 5 (tmAllU 4 (tmAllU 3 (tmAllU 2 tmAll0 (Tm.v _)) (Tm.v _)) (Tm.v _)) (Tm.ptr rfl)) (Tm.ptr rfl)) (Tm.ptr rfl)) (Tm.ptr rfl)) (Tm.v _)) (Tm.v _))) hi6 ?_
     clear hi6
     rintro n d72 hl8
     rcases n with _ | n7
     ·
      (rw [hotspotref38_Heard_L4] at hl8; cases hl8)
     ·
      rw [hotspotref38_Heard_L4] at hl8
      unfold hotspotref38_Heard_S3
      refine awp_assoc ?_
      refine awp_nr [2,3,4,5,6,10,13,14,15] (fun _ => rfl) fun tz => ?_
      refine awp_regW fun KK hKK => ?_
      refine xw_id ?_
      try simp only [go_sem, Nat.reduceEqDiff, reduceIte, Nat.reduceAdd, Nat.reduceMul, Nat.reduceSub, Nat.reduceLT, Nat.reduceLeDiff, Int.reduceToNat, Int.reduceBEq, Int.reduceBNe, Int.reduceLT, Int.reduceLE, Int.reduceAdd, Int.reduceSub, Int.reduceMul, Int.reduceNeg, Int.reduceEq, Int.reduceNe]
      refine hKK _ _ (Wk.refl _ _ _) ?_; clear hKK KK
      refine awp_cond (b := (decide (d72.2.2.2 < (a0.Links.length : Int)))) rfl (fun h9 => ?_) (fun h9 => ?_)
      ·
       have hl8 := cT hl8 h9
       refine awp_skip ?_
       refine awp_blockW ?_
       refine awp_nr [2,3,4,5,6,10,13,14,15] (fun _ => rfl) fun tz => ?_
       refine awp_regW fun KK hKK => ?_
       refine xw_id ?_
       obtain ⟨x73, bx73, hl8⟩ := bnd hl8
       obtain ⟨fx73_0, fx73_1, fx73_2, fx73_3⟩ := idx_some bx73
       try simp only [go_sem, Nat.reduceEqDiff, reduceIte, Nat.reduceAdd, Nat.reduceMul, Nat.reduceSub, Nat.reduceLT, Nat.reduceLeDiff, fx73_0, fx73_1, fx73_2]
       refine hKK _ _ (Wk.refl _ _ _) ?_; clear hKK KK
       refine awp_assoc ?_
       refine awp_nr [2,3,4,5,6,10,13,14,15,16] (fun _ => rfl) fun tz => ?_
       refine awp_regW fun KK hKK => ?_
       refine xw_id ?_
       try simp only [go_sem, Nat.reduceEqDiff, reduceIte, Nat.reduceAdd, Nat.reduceMul, Nat.reduceSub, Nat.reduceLT, Nat.reduceLeDiff, fx73_0, fx73_1, fx73_2]
       refine hKK _ _ (Wk.refl _ _ _) ?_; clear hKK KK
       obtain ⟨d74, hi10, hl8⟩ := bnd hl8
       refine awp_cut (fun z => d74 = z) (fun d74 : (Bool × MetricLink) => hotspotref38_Heard_S5 a0 a1 d72 a2 a3 a4 d74) ?_ ?_
       ·
        refine awp_cond1 (b := (decide (x73.Peer = a1))) rfl (fun h11 => ?_) (fun h11 => ?_)
        ·
         have hi10 := cT hi10 h11
         refine awp_nr [2,3,4,5,6,10,13,15,16] (fun _ => rfl) fun tz => ?_
         refine awp_regW fun KK hKK => ?_
         refine xw_id ?_
         try simp only [go_sem, Nat.reduceEqDiff, reduceIte, Nat.reduceAdd, Nat.reduceMul, Nat.reduceSub, Nat.reduceLT, Nat.reduceLeDiff, fx73_0, fx73_1, fx73_2]
         refine hKK _ _ (Wk.refl _ _ _) ?_; clear hKK KK
         refine awp_nr [2,3,4,5,6,10,13,14,15,16] (fun _ => rfl) fun tz => ?_
         refine awp_regW fun KK hKK => ?_
         refine xw_id ?_
         try simp only [go_sem, Nat.reduceEqDiff, reduceIte, Nat.reduceAdd, Nat.reduceMul, Nat.reduceSub, Nat.reduceLT, Nat.reduceLeDiff, fx73_0, fx73_1, fx73_2]
         refine hKK _ _ (Wk.refl _ _ _) ?_; clear hKK KK
         refine awp_nr [2,3,4,5,6,10,13,14,15,16] (fun _ => rfl) fun tz => ?_
         refine awp_regW fun KK hKK => ?_
         refine xw_id ?_
         try simp only [go_sem, Nat.reduceEqDiff, reduceIte, Nat.reduceAdd, Nat.reduceMul, Nat.reduceSub, Nat.reduceLT, Nat.reduceLeDiff, fx73_0, fx73_1, fx73_2]
         refine hKK _ _ (Wk.refl _ _ _) ?_; clear hKK KK
         refine awp_cond1 (b := a3) rfl (fun h12 => ?_) (fun h12 => ?_)
         ·
          have hi10 := cT hi10 h12
          refine awp_nr [2,3,4,5,6,10,13,14,15,16] (fun _ => rfl) fun tz => ?_
          refine awp_regW fun KK hKK => ?_
          refine xw_id ?_
          try simp only [go_sem, Nat.reduceEqDiff, reduceIte, Nat.reduceAdd, Nat.reduceMul, Nat.reduceSub, Nat.reduceLT, Nat.reduceLeDiff, Int.reduceToNat, Int.reduceBEq, Int.reduceBNe, Int.reduceLT, Int.reduceLE, Int.reduceAdd, Int.reduceSub, Int.reduceMul, Int.reduceNeg, Int.reduceEq, Int.reduceNe, fx73_0, fx73_1, fx73_2]
          refine hKK _ (hotspotref38_Heard_S6 a0 a1 d72 x73 a2 a3 a4) (by refine Wk.canonD [] [] [some 0, some 1, some 2, some 3, some 4, some 15] rfl trivial rfl (tmOU 5 (tmOU 4 (tmOU 3 (tmOU 2 (tmOU 1 (tmOU 0 tmO0 rfl List.not_mem_nil (by simp only [upd_get, Nat.reduceEqDiff, reduceIte, Nat.reduceAdd, Nat.reduceMul, Nat.reduceSub, Nat.reduceLT, Nat.reduceLeDiff, if_true, if_false] <;> rfl) (e_MetricTable_tmx (by rfl) (Tm.clean (Clean.imm (c_MetricLink _))))) rfl List.not_mem_nil (by simp only [upd_get, Nat.reduceEqDiff, reduceIte, Nat.reduceAdd, Nat.reduceMul, Nat.reduceSub, Nat.reduceLT, Nat.reduceLeDiff, if_true, if_false] <;> rfl) (TmL.clean (e_Addr_clean _))) rfl List.not_mem_nil (by simp only [upd_get, Nat.reduceEqDiff, reduceIte, Nat.reduceAdd, Nat.reduceMul, Nat.reduceSub, Nat.reduceLT, Nat.reduceLeDiff, if_true, if_false] <;> rfl) (e_MetricTable_tmx (by rfl) (Tm.v _))) rfl List.not_mem_nil (by simp only [upd_get, Nat.reduceEqDiff, reduceIte, Nat.reduceAdd, Nat.reduceMul, Nat.reduceSub, Nat.reduceLT, Nat.reduceLeDiff, if_true, if_false] <;> rfl) (e_MetricTable_tmx (by rfl) (Tm.refL rfl ?_))) rfl List.not_mem_nil (by simp only [upd_get, Nat.reduceEqDiff, reduceIte, Nat.reduceAdd, Nat.reduceMul, Nat.reduceSub, Nat.reduceLT, Nat.reduceLeDiff, if_true, if_false] <;> rfl) (TmL.of_eq (by first | rfl | (simp only [List.flatMap_append, List.flatMap_cons, List.flatMap_nil, List.map_append, List.map_cons, List.map_nil, List.append_nil, List.nil_append]; done) | (simp only [List.flatMap_append, List.flatMap_cons, List.flatMap_nil, List.map_append, List.map_cons, List.map_nil, List.append_nil, List.nil_append]; rfl)) (c_MetricLink _))) rfl List.not_mem_nil (by simp only [upd_get, Nat.reduceEqDiff, reduceIte, Nat.reduceAdd, Nat.reduceMul, Nat.reduceSub, Nat.reduceLT, Nat.reduceLeDiff, if_true, if_false] <;> rfl) (TmL.clean (e_MetricLink_clean _))) (tmAllU 16 (tmAllU 15 (tmAllU 14 (tmAllU 13 (tmAllU 10 (tmAllU 6 (tmAllU 5 (tmAllU 4 (tmAllU 3 (tmAllU 2 tmAll0 (Tm.v _)) (Tm.v _)) (Tm.v _)) (Tm.ptr rfl)) (Tm.ptr rfl)) (Tm.ptr rfl)) (Tm.ptr rfl)) (Tm.v _)) (Tm.v _)) (Tm.ptr rfl)); all_goals (first | rfl | (simp only [List.length_take]; omega) | (simp only [List.length_append, List.length_cons, List.length_nil, List.length_modify, List.length_set, Nat.zero_add]; done) | (simp only [List.length_append, List.length_take, List.length_drop, List.length_cons, List.length_nil, List.length_modify, List.length_set, Nat.zero_add]; omega))) ?_; clear hKK KK
          unfold hotspotref38_Heard_S6
          refine awp_nr1 [2,3,4,5,6,10,13,14,15,16] (fun _ => rfl) fun tz => ?_
          refine awp_reg1 fun KK hKK => ?_
          refine xw_id ?_
          try simp only [go_sem, Nat.reduceEqDiff, reduceIte, Nat.reduceAdd, Nat.reduceMul, Nat.reduceSub, Nat.reduceLT, Nat.reduceLeDiff, Int.reduceToNat, Int.reduceBEq, Int.reduceBNe, Int.reduceLT, Int.reduceLE, Int.reduceAdd, Int.reduceSub, Int.reduceMul, Int.reduceNeg, Int.reduceEq, Int.reduceNe, fx73_0, fx73_1, fx73_2]
          refine hKK _ ?_; clear hKK KK
          refine sq_n ?_
          obtain rfl := someInj hi10
          exact ⟨_, rfl, (by refine Wk.canonD [] [] [some 0, some 1, some 2, some 3, some 4, some 5] rfl trivial rfl (tmOU 5 (tmOU 4 (tmOU 3 (tmOU 2 (tmOU 1 (tmOU 0 tmO0 rfl List.not_mem_nil (by simp only [upd_get, Nat.reduceEqDiff, reduceIte, Nat.reduceAdd, Nat.reduceMul, Nat.reduceSub, Nat.reduceLT, Nat.reduceLeDiff, if_true, if_false] <;> rfl) (e_MetricTable_tmx (by rfl) (Tm.clean (Clean.imm (c_MetricLink _))))) rfl List.not_mem_nil (by simp only [upd_get, Nat.reduceEqDiff, reduceIte, Nat.reduceAdd, Nat.reduceMul, Nat.reduceSub, Nat.reduceLT, Nat.reduceLeDiff, if_true, if_false] <;> rfl) (TmL.clean (e_Addr_clean _))) rfl List.not_mem_nil (by simp only [upd_get, Nat.reduceEqDiff, reduceIte, Nat.reduceAdd, Nat.reduceMul, Nat.reduceSub, Nat.reduceLT, Nat.reduceLeDiff, if_true, if_false] <;> rfl) (e_MetricTable_tmx (by rfl) (Tm.v _))) rfl List.not_mem_nil (by simp only [upd_get, Nat.reduceEqDiff, reduceIte, Nat.reduceAdd, Nat.reduceMul, Nat.reduceSub, Nat.reduceLT, Nat.reduceLeDiff, if_true, if_false] <;> rfl) (e_MetricTable_tmx (by rfl) (Tm.refL rfl ?_))) rfl List.not_mem_nil (by simp only [upd_get, Nat.reduceEqDiff, reduceIte, Nat.reduceAdd, Nat.reduceMul, Nat.reduceSub, Nat.reduceLT, Nat.reduceLeDiff, if_true, if_false] <;> rfl) (TmL.of_eq (by first | rfl | (simp only [List.flatMap_append, List.flatMap_cons, List.flatMap_nil, List.map_append, List.map_cons, List.map_nil, List.append_nil, List.nil_append]; done) | (simp only [List.flatMap_append, List.flatMap_cons, List.flatMap_nil, List.map_append, List.map_cons, List.map_nil, List.append_nil, List.nil_append]; rfl)) (c_MetricLink _))) rfl List.not_mem_nil (by simp only [upd_get, Nat.reduceEqDiff, reduceIte, Nat.reduceAdd, Nat.reduceMul, Nat.reduceSub, Nat.reduceLT, Nat.reduceLeDiff, if_true, if_false] <;> rfl) (TmL.clean (e_MetricLink_clean _))) (tmAllU 16 (tmAllU 15 (tmAllU 14 (tmAllU 13 (tmAllU 10 (tmAllU 6 (tmAllU 5 (tmAllU 4 (tmAllU 3 (tmAllU 2 tmAll0 (Tm.v _)) (Tm.v _)) (Tm.v _)) (Tm.ptr rfl)) (Tm.ptr rfl)) (Tm.ptr rfl)) (Tm.ptr rfl)) (Tm.v _)) (Tm.v _)) (Tm.ptr rfl)); all_goals (first | rfl | (simp only [List.length_take]; omega) | (simp only [List.length_append, List.length_cons, List.length_nil, List.length_modify, List.length_set, Nat.zero_add]; done) | (simp only [List.length_append, List.length_take, List.length_drop, List.length_cons, List.length_nil, List.length_modify, List.length_set, Nat.zero_add]; omega)))⟩
         ·
          have hi10 := cF hi10 h12
          refine awp_nr1 [2,3,4,5,6,10,13,14,15,16] (fun _ => rfl) fun tz => ?_
          refine awp_reg1 fun KK hKK => ?_
          refine xw_id ?_
          try simp only [go_sem, Nat.reduceEqDiff, reduceIte, Nat.reduceAdd, Nat.reduceMul, Nat.reduceSub, Nat.reduceLT, Nat.reduceLeDiff, Int.reduceToNat, Int.reduceBEq, Int.reduceBNe, Int.reduceLT, Int.reduceLE, Int.reduceAdd, Int.reduceSub, Int.reduceMul, Int.reduceNeg, Int.reduceEq, Int.reduceNe, fx73_0, fx73_1, fx73_2]
          refine hKK _ ?_; clear hKK KK
          refine sq_n ?_
          obtain rfl := someInj hi10
          exact ⟨_, rfl, (by refine Wk.canonD [] [] [some 0, some 1, some 2, some 3, some 4, some 15] rfl trivial rfl (tmOU 5 (tmOU 4 (tmOU 3 (tmOU 2 (tmOU 1 (tmOU 0 tmO0 rfl List.not_mem_nil (by simp only [upd_get, Nat.reduceEqDiff, reduceIte, Nat.reduceAdd, Nat.reduceMul, Nat.reduceSub, Nat.reduceLT, Nat.reduceLeDiff, if_true, if_false] <;> rfl) (e_MetricTable_tmx (by rfl) (Tm.clean (Clean.imm (c_MetricLink _))))) rfl List.not_mem_nil (by simp only [upd_get, Nat.reduceEqDiff, reduceIte, Nat.reduceAdd, Nat.reduceMul, Nat.reduceSub, Nat.reduceLT, Nat.reduceLeDiff, if_true, if_false] <;> rfl) (TmL.clean (e_Addr_clean _))) rfl List.not_mem_nil (by simp only [upd_get, Nat.reduceEqDiff, reduceIte, Nat.reduceAdd, Nat.reduceMul, Nat.reduceSub, Nat.reduceLT, Nat.reduceLeDiff, if_true, if_false] <;> rfl) (e_MetricTable_tmx (by rfl) (Tm.v _))) rfl List.not_mem_nil (by simp only [upd_get, Nat.reduceEqDiff, reduceIte, Nat.reduceAdd, Nat.reduceMul, Nat.reduceSub, Nat.reduceLT, Nat.reduceLeDiff, if_true, if_false] <;> rfl) (e_MetricTable_tmx (by rfl) (Tm.refL rfl ?_))) rfl List.not_mem_nil (by simp only [upd_get, Nat.reduceEqDiff, reduceIte, Nat.reduceAdd, Nat.reduceMul, Nat.reduceSub, Nat.reduceLT, Nat.reduceLeDiff, if_true, if_false] <;> rfl) (TmL.of_eq (by first | rfl | (simp only [List.flatMap_append, List.flatMap_cons, List.flatMap_nil, List.map_append, List.map_cons, List.map_nil, List.append_nil, List.nil_append]; done) | (simp only [List.flatMap_append, List.flatMap_cons, List.flatMap_nil, List.map_append, List.map_cons, List.map_nil, List.append_nil, List.nil_append]; rfl)) (c_MetricLink _))) rfl List.not_mem_nil (by simp only [upd_get, Nat.reduceEqDiff, reduceIte, Nat.reduceAdd, Nat.reduceMul, Nat.reduceSub, Nat.reduceLT, Nat.reduceLeDiff, if_true, if_false] <;> rfl) (TmL.clean (e_MetricLink_clean _))) (tmAllU 16 (tmAllU 15 (tmAllU 14 (tmAllU 13 (tmAllU 10 (tmAllU 6 (tmAllU 5 (tmAllU 4 (tmAllU 3 (tmAllU 2 tmAll0 (Tm.v _)) (Tm.v _)) (Tm.v _)) (Tm.ptr rfl)) (Tm.ptr rfl)) (Tm.ptr rfl)) (Tm.ptr rfl)) (Tm.v _)) (Tm.v _)) (Tm.ptr rfl)); all_goals (first | rfl | (simp only [List.length_take]; omega) | (simp only [List.length_append, List.length_cons, List.length_nil, List.length_modify, List.length_set, Nat.zero_add]; done) | (simp only [List.length_append, List.length_take, List.length_drop, List.length_cons, List.length_nil, List.length_modify, List.length_set, Nat.zero_add]; omega)))⟩
        ·
         have hi10 := cF hi10 h11
         refine awp_skip1 ?_
         refine sq_n ?_
         obtain rfl := someInj hi10
         exact ⟨_, rfl, (by refine Wk.canonD [] [] [some 0, some 1, some 2, some 3, some 4, some 15] rfl trivial rfl (tmOU 5 (tmOU 4 (tmOU 3 (tmOU 2 (tmOU 1 (tmOU 0 tmO0 rfl List.not_mem_nil (by simp only [upd_get, Nat.reduceEqDiff, reduceIte, Nat.reduceAdd, Nat.reduceMul, Nat.reduceSub, Nat.reduceLT, Nat.reduceLeDiff, if_true, if_false] <;> rfl) (e_MetricTable_tmx (by rfl) (Tm.clean (Clean.imm (c_MetricLink _))))) rfl List.not_mem_nil (by simp only [upd_get, Nat.reduceEqDiff, reduceIte, Nat.reduceAdd, Nat.reduceMul, Nat.reduceSub, Nat.reduceLT, Nat.reduceLeDiff, if_true, if_false] <;> rfl) (TmL.clean (e_Addr_clean _))) rfl List.not_mem_nil (by simp only [upd_get, Nat.reduceEqDiff, reduceIte, Nat.reduceAdd, Nat.reduceMul, Nat.reduceSub, Nat.reduceLT, Nat.reduceLeDiff, if_true, if_false] <;> rfl) (e_MetricTable_tmx (by rfl) (Tm.v _))) rfl List.not_mem_nil (by simp only [upd_get, Nat.reduceEqDiff, reduceIte, Nat.reduceAdd, Nat.reduceMul, Nat.reduceSub, Nat.reduceLT, Nat.reduceLeDiff, if_true, if_false] <;> rfl) (e_MetricTable_tmx (by rfl) (Tm.refL rfl ?_))) rfl List.not_mem_nil (by simp only [upd_get, Nat.reduceEqDiff, reduceIte, Nat.reduceAdd, Nat.reduceMul, Nat.reduceSub, Nat.reduceLT, Nat.reduceLeDiff, if_true, if_false] <;> rfl) (TmL.of_eq (by first | rfl | (simp only [List.flatMap_append, List.flatMap_cons, List.flatMap_nil, List.map_append, List.map_cons, List.map_nil, List.append_nil, List.nil_append]; done) | (simp only [List.flatMap_append, List.flatMap_cons, List.flatMap_nil, List.map_append, List.map_cons, List.map_nil, List.append_nil, List.nil_append]; rfl)) (c_MetricLink _))) rfl List.not_mem_nil (by simp only [upd_get, Nat.reduceEqDiff, reduceIte, Nat.reduceAdd, Nat.reduceMul, Nat.reduceSub, Nat.reduceLT, Nat.reduceLeDiff, if_true, if_false] <;> rfl) (TmL.clean (e_MetricLink_clean _))) (tmAllU 16 (tmAllU 15 (tmAllU 14 (tmAllU 13 (tmAllU 10 (tmAllU 6 (tmAllU 5 (tmAllU 4 (tmAllU 3 (tmAllU 2 tmAll0 (Tm.v _)) (Tm.v _)) (Tm.v _)) (Tm.ptr rfl)) (Tm.ptr rfl)) (Tm.ptr rfl)) (Tm.ptr rfl)) (Tm.v _)) (Tm.v _)) (Tm.ptr rfl)); all_goals (first | rfl | (simp only [List.length_take]; omega) | (simp only [List.length_append, List.length_cons, List.length_nil, List.length_modify, List.length_set, Nat.zero_add]; done) | (simp only [List.length_append, List.length_take, List.length_drop, List.length_cons, List.length_nil, List.length_modify, List.length_set, Nat.zero_add]; omega)))⟩
       ·
        rintro _ rfl
        clear hi10
        unfold hotspotref38_Heard_S5
        refine awp_nr1 [2,3,4,5,6,10,13,14,15,16] (fun _ => rfl) fun tz => ?_
        refine awp_reg1 fun KK hKK => ?_
        refine xw_id ?_
        obtain ⟨x75, bx75, hl8⟩ := bnd hl8
        have bx75 := chk_some bx75
        simp only [Bool.and_eq_true, decide_eq_true_eq] at bx75
        have gx75_0 := bx75
        try simp only [go_sem, Nat.reduceEqDiff, reduceIte, Nat.reduceAdd, Nat.reduceMul, Nat.reduceSub, Nat.reduceLT, Nat.reduceLeDiff, Int.reduceToNat, Int.reduceBEq, Int.reduceBNe, Int.reduceLT, Int.reduceLE, Int.reduceAdd, Int.reduceSub, Int.reduceMul, Int.reduceNeg, Int.reduceEq, Int.reduceNe, gx75_0]
        refine hKK _ ?_; clear hKK KK
        refine bq_n ?_
        refine seqW_i ?_
        refine awp_nr1 [2,3,4,5,6,10,13,14,15] (fun _ => rfl) fun tz => ?_
        refine awp_reg1 fun KK hKK => ?_
        refine xw_id ?_
        try simp only [go_sem, Nat.reduceEqDiff, reduceIte, Nat.reduceAdd, Nat.reduceMul, Nat.reduceSub, Nat.reduceLT, Nat.reduceLeDiff]
        refine hKK _ ?_; clear hKK KK
        refine lq_n ?_
        exact ⟨n7, (d72.1, (d72.2.1 ++ [d74.2]), d74.1, IntKind.wrap .i64 (d72.2.2.2 + 1)), rfl, hl8, (by refine Wk.canonD [] [] [some 0, some 1, some 2, some 3, some 10] rfl trivial rfl (tmOU 4 (tmOU 3 (tmOU 2 (tmOU 1 (tmOU 0 tmO0 rfl List.not_mem_nil (by simp only [upd_get, Nat.reduceEqDiff, reduceIte, Nat.reduceAdd, Nat.reduceMul, Nat.reduceSub, Nat.reduceLT, Nat.reduceLeDiff, if_true, if_false] <;> rfl) (e_MetricTable_tmx (by rfl) (Tm.clean (Clean.imm (c_MetricLink _))))) rfl List.not_mem_nil (by simp only [upd_get, Nat.reduceEqDiff, reduceIte, Nat.reduceAdd, Nat.reduceMul, Nat.reduceSub, Nat.reduceLT, Nat.reduceLeDiff, if_true, if_false] <;> rfl) (TmL.clean (e_Addr_clean _))) rfl List.not_mem_nil (by simp only [upd_get, Nat.reduceEqDiff, reduceIte, Nat.reduceAdd, Nat.reduceMul, Nat.reduceSub, Nat.reduceLT, Nat.reduceLeDiff, if_true, if_false] <;> rfl) (e_MetricTable_tmx (by rfl) (Tm.v _))) rfl List.not_mem_nil (by simp only [upd_get, Nat.reduceEqDiff, reduceIte, Nat.reduceAdd, Nat.reduceMul, Nat.reduceSub, Nat.reduceLT, Nat.reduceLeDiff, if_true, if_false] <;> rfl) (e_MetricTable_tmx (by rfl) (Tm.refL rfl ?_))) rfl List.not_mem_nil (by simp only [upd_get, Nat.reduceEqDiff, reduceIte, Nat.reduceAdd, Nat.reduceMul, Nat.reduceSub, Nat.reduceLT, Nat.reduceLeDiff, if_true, if_false] <;> rfl) (TmL.of_eq (by first | rfl | (simp only [List.flatMap_append, List.flatMap_cons, List.flatMap_nil, List.map_append, List.map_cons, List.map_nil, List.append_nil, List.nil_append]; done) | (simp only [List.flatMap_append, List.flatMap_cons, List.flatMap_nil, List.map_append, List.map_cons, List.map_nil, List.append_nil, List.nil_append]; rfl)) (c_MetricLink _))) (tmAllU 15 (tmAllU 14 (tmAllU 13 (tmAllU 10 (tmAllU 6 (tmAllU 5 (tmAllU 4 (tmAllU 3 (tmAllU 2 tmAll0 (Tm.v _)) (Tm.v _)) (Tm.v _)) (Tm.ptr rfl)) (Tm.ptr rfl)) (Tm.ptr rfl)) (Tm.ptr rfl)) (Tm.v _)) (Tm.v _)); all_goals (first | rfl | (simp only [List.length_take]; omega) | (simp only [List.length_append, List.length_cons, List.length_nil, List.length_modify, List.length_set, Nat.zero_add]; done) | (simp only [List.length_append, List.length_take, List.length_drop, List.length_cons, List.length_nil, List.length_modify, List.length_set, Nat.zero_add]; omega)))⟩
      ·
       have hl8 := cF hl8 h9
       refine awp_exit ?_
       refine lq_e ?_
       refine bq_e ?_
       refine sq_n ?_
       obtain rfl := someInj hl8
       exact ⟨_, rfl, (by refine Wk.canonD [] [] [some 0, some 1, some 2, some 3, some 4] rfl trivial rfl (tmOU 4 (tmOU 3 (tmOU 2 (tmOU 1 (tmOU 0 tmO0 rfl List.not_mem_nil (by simp only [upd_get, Nat.reduceEqDiff, reduceIte, Nat.reduceAdd, Nat.reduceMul, Nat.reduceSub, Nat.reduceLT, Nat.reduceLeDiff, if_true, if_false] <;> rfl) (e_MetricTable_tmx (by rfl) (Tm.clean (Clean.imm (c_MetricLink _))))) rfl List.not_mem_nil (by simp only [upd_get, Nat.reduceEqDiff, reduceIte, Nat.reduceAdd, Nat.reduceMul, Nat.reduceSub, Nat.reduceLT, Nat.reduceLeDiff, if_true, if_false] <;> rfl) (TmL.clean (e_Addr_clean _))) rfl List.not_mem_nil (by simp only [upd_get, Nat.reduceEqDiff, reduceIte, Nat.reduceAdd, Nat.reduceMul, Nat.reduceSub, Nat.reduceLT, Nat.reduceLeDiff, if_true, if_false] <;> rfl) (e_MetricTable_tmx (by rfl) (Tm.v _))) rfl List.not_mem_nil (by simp only [upd_get, Nat.reduceEqDiff, reduceIte, Nat.reduceAdd, Nat.reduceMul, Nat.reduceSub, Nat.reduceLT, Nat.reduceLeDiff, if_true, if_false] <;> rfl) (e_MetricTable_tmx (by rfl) (Tm.refL rfl ?_))) rfl List.not_mem_nil (by simp only [upd_get, Nat.reduceEqDiff, reduceIte, Nat.reduceAdd, Nat.reduceMul, Nat.reduceSub, Nat.reduceLT, Nat.reduceLeDiff, if_true, if_false] <;> rfl) (TmL.of_eq (by first | rfl | (simp only [List.flatMap_append, List.flatMap_cons, List.flatMap_nil, List.map_append, List.map_cons, List.map_nil, List.append_nil, List.nil_append]; done) | (simp only [List.flatMap_append, List.flatMap_cons, List.flatMap_nil, List.map_append, List.map_cons, List.map_nil, List.append_nil, List.nil_append]; rfl)) (c_MetricLink _))) (tmAllU 14 (tmAllU 13 (tmAllU 10 (tmAllU 6 (tmAllU 5 (tmAllU 4 (tmAllU 3 (tmAllU 2 tmAll0 (Tm.v _)) (Tm.v _)) (Tm.v _)) (Tm.ptr rfl)) (Tm.ptr rfl)) (Tm.ptr rfl)) (Tm.ptr rfl)) (Tm.v _)); all_goals (first | rfl | (simp only [List.length_take]; omega) | (simp only [List.length_append, List.length_cons, List.length_nil, List.length_modify, List.length_set, Nat.zero_add]; done) | (simp only [List.length_append, List.length_take, List.length_drop, List.length_cons, List.length_nil, List.length_modify, List.length_set, Nat.zero_add]; omega)))⟩
    ·
     rintro _ rfl
     clear hi6
     unfold hotspotref38_Heard_S2
     refine awp_assoc ?_
     refine awp_nr [2,3,4,5,6,10,13,14] (fun _ => rfl) fun tz => ?_
     refine awp_regW fun KK hKK => ?_
     refine xw_id ?_
     try simp only [go_sem, Nat.reduceEqDiff, reduceIte, Nat.reduceAdd, Nat.reduceMul, Nat.reduceSub, Nat.reduceLT, Nat.reduceLeDiff]
     refine hKK _ _ (Wk.refl _ _ _) ?_; clear hKK KK
     refine awp_cond (b := d71.2.2) rfl (fun h13 => ?_) (fun h13 => ?_)
     ·
      have h0 := cT h0 h13
      refine awp_assoc ?_
      refine awp_nr [10,13] (fun _ => rfl) fun tz => ?_
      refine awp_regW fun KK hKK => ?_
      refine xw_id ?_
      try simp only [go_sem, Nat.reduceEqDiff, reduceIte, Nat.reduceAdd, Nat.reduceMul, Nat.reduceSub, Nat.reduceLT, Nat.reduceLeDiff]
      refine hKK _ _ (Wk.refl _ _ _) ?_; clear hKK KK
      refine awp_ret ?_
      obtain rfl := someInj h0
      refine endW_i ?_
      refine end_ret0 rs21 (by simp only [go_sem, resV, resAll, resOf, packR, Nat.reduceEqDiff, reduceIte, Nat.reduceAdd, Nat.reduceMul, Nat.reduceSub, Nat.reduceLT, Nat.reduceLeDiff]; rfl) ?_
      refine Res.mk [] [some 4] rfl (resOU List.not_mem_nil (by simp only [upd_get, Nat.reduceEqDiff, reduceIte, Nat.reduceAdd, Nat.reduceMul, Nat.reduceSub, Nat.reduceLT, Nat.reduceLeDiff, if_true, if_false] <;> rfl) (TmL.of_eq (by first | rfl | (simp only [List.flatMap_append, List.flatMap_cons, List.flatMap_nil, List.map_append, List.map_cons, List.map_nil, List.append_nil, List.nil_append]; done) | (simp only [List.flatMap_append, List.flatMap_cons, List.flatMap_nil, List.map_append, List.map_cons, List.map_nil, List.append_nil, List.nil_append]; rfl)) (c_MetricLink _)) resO0) (Tm.tup (TmL.cons (Tm.agg (e_MetricTable_tmx (by rfl) (Tm.refL rfl ?_))) (TmL.cons (Tm.v _) TmL.nil)))
      all_goals (first | rfl | (simp only [List.length_take]; omega) | (simp only [List.length_append, List.length_cons, List.length_nil, List.length_modify, List.length_set, Nat.zero_add]; done) | (simp only [List.length_append, List.length_take, List.length_drop, List.length_cons, List.length_nil, List.length_modify, List.length_set, Nat.zero_add]; omega))
     ·
      have h0 := cF h0 h13
      refine awp_skip ?_
      refine awp_assoc ?_
      refine awp_nr [2,3,4,5,6,10,13] (fun _ => rfl) fun tz => ?_
      refine awp_regW fun KK hKK => ?_
      refine xw_id ?_
      try simp only [go_sem, Nat.reduceEqDiff, reduceIte, Nat.reduceAdd, Nat.reduceMul, Nat.reduceSub, Nat.reduceLT, Nat.reduceLeDiff]
      refine hKK _ _ (Wk.refl _ _ _) ?_; clear hKK KK
      refine awp_cond (b := (!a3)) rfl (fun h14 => ?_) (fun h14 => ?_)
      ·
       have h0 := cT h0 h14
       refine awp_assoc ?_
       refine awp_nr [10] (fun _ => rfl) fun tz => ?_
       refine awp_regW fun KK hKK => ?_
       refine xw_id ?_
       try simp only [go_sem, Nat.reduceEqDiff, reduceIte, Nat.reduceAdd, Nat.reduceMul, Nat.reduceSub, Nat.reduceLT, Nat.reduceLeDiff]
       refine hKK _ _ (Wk.refl _ _ _) ?_; clear hKK KK
       refine awp_ret ?_
       obtain rfl := someInj h0
       refine endW_i ?_
       refine end_ret0 rs21 (by simp only [go_sem, resV, resAll, resOf, packR, Nat.reduceEqDiff, reduceIte, Nat.reduceAdd, Nat.reduceMul, Nat.reduceSub, Nat.reduceLT, Nat.reduceLeDiff]; rfl) ?_
       refine Res.mk [] [none] rfl (resON resO0) (Tm.tup (TmL.cons (Tm.agg (e_MetricTable_tmx (by rfl) (Tm.thaw _ _ _))) (TmL.cons (Tm.v _) TmL.nil)))
      ·
       have h0 := cF h0 h14
       refine awp_skip ?_
       refine awp_assoc ?_
       refine awp_nr [2,4,5,6,10,13] (fun _ => rfl) fun tz => ?_
       refine awp_regW fun KK hKK => ?_
       refine xw_id ?_
       try simp only [go_sem, Nat.reduceEqDiff, reduceIte, Nat.reduceAdd, Nat.reduceMul, Nat.reduceSub, Nat.reduceLT, Nat.reduceLeDiff, Int.reduceToNat, Int.reduceBEq, Int.reduceBNe, Int.reduceLT, Int.reduceLE, Int.reduceAdd, Int.reduceSub, Int.reduceMul, Int.reduceNeg, Int.reduceEq, Int.reduceNe]
       refine hKK _ _ (Wk.refl _ _ _) ?_; clear hKK KK
       refine awp_cond (b := (decide (32 ≤ (a0.Links.length : Int)))) rfl (fun h15 => ?_) (fun h15 => ?_)
       ·
        have h0 := cT h0 h15
        refine awp_assoc ?_
        refine awp_nr [10] (fun _ => rfl) fun tz => ?_
        refine awp_regW fun KK hKK => ?_
        refine xw_id ?_
        try simp only [go_sem, Nat.reduceEqDiff, reduceIte, Nat.reduceAdd, Nat.reduceMul, Nat.reduceSub, Nat.reduceLT, Nat.reduceLeDiff]
        refine hKK _ _ (Wk.refl _ _ _) ?_; clear hKK KK
        refine awp_ret ?_
        obtain rfl := someInj h0
        refine endW_i ?_
        refine end_ret0 rs21 (by simp only [go_sem, resV, resAll, resOf, packR, Nat.reduceEqDiff, reduceIte, Nat.reduceAdd, Nat.reduceMul, Nat.reduceSub, Nat.reduceLT, Nat.reduceLeDiff]; rfl) ?_
        refine Res.mk [] [none] rfl (resON resO0) (Tm.tup (TmL.cons (Tm.agg (e_MetricTable_tmx (by rfl) (Tm.thaw _ _ _))) (TmL.cons (Tm.v _) TmL.nil)))
       ·
        have h0 := cF h0 h15
        refine awp_skip ?_
        refine awp_nr [2,4,5,6,10,13] (fun _ => rfl) fun tz => ?_
        refine awp_regW fun KK hKK => ?_
        refine xw_id ?_
        try simp only [go_sem, Nat.reduceEqDiff, reduceIte, Nat.reduceAdd, Nat.reduceMul, Nat.reduceSub, Nat.reduceLT, Nat.reduceLeDiff]
        refine hKK _ _ (Wk.refl _ _ _) ?_; clear hKK KK
        refine awp_nr [2,4,5,6,10,13] (fun _ => rfl) fun tz => ?_
        refine awp_regW fun KK hKK => ?_
        refine xw_id ?_
        try simp only [go_sem, Nat.reduceEqDiff, reduceIte, Nat.reduceAdd, Nat.reduceMul, Nat.reduceSub, Nat.reduceLT, Nat.reduceLeDiff]
        refine hKK _ _ (Wk.refl _ _ _) ?_; clear hKK KK
        refine awp_nr [5,6,10,13,17] (fun _ => rfl) fun tz => ?_
        refine awp_regW fun KK hKK => ?_
        refine xw_id ?_
        try simp only [go_sem, Nat.reduceEqDiff, reduceIte, Nat.reduceAdd, Nat.reduceMul, Nat.reduceSub, Nat.reduceLT, Nat.reduceLeDiff]
        refine hKK _ _ (Wk.refl _ _ _) ?_; clear hKK KK
        refine awp_assoc ?_
        refine awp_nr [5,6,10,13,17,18] (fun _ => rfl) fun tz => ?_
        refine awp_regW fun KK hKK => ?_
        refine xw_id ?_
        try simp only [go_sem, Nat.reduceEqDiff, reduceIte, Nat.reduceAdd, Nat.reduceMul, Nat.reduceSub, Nat.reduceLT, Nat.reduceLeDiff]
        refine hKK _ _ (Wk.refl _ _ _) ?_; clear hKK KK
        obtain ⟨d76, hi16, h0⟩ := bnd h0
        refine awp_cut (fun z => d76 = z) (fun d76 : (MetricTable × List MetricLink × Bool) => hotspotref38_Heard_S7 a4 a1 a2 d76) ?_ ?_
        ·
         refine awp_block1 ?_
         refine awp_loopS (fun n (d77 : (MetricTable × List MetricLink × Bool × Int)) => hotspotref38_Heard_L9 a0 a1 a4 a2 n d77 = some d76) (fun d77 : (MetricTable × List MetricLink × Bool × Int) => hotspotref38_Heard_S8 a0 a1 a4 a2 d77) big (MetricTable.z, [], false, 0) (Wk.canonD [] [] [some 0, some 1, some 2, some 3, none, some 18] rfl trivial rfl (tmOU 5 (tmON 4 (tmOU 3 (tmOU 2 (tmOU 1 (tmOU 0 tmO0 rfl List.not_mem_nil (by simp only [upd_get, Nat.reduceEqDiff, reduceIte, Nat.reduceAdd, Nat.reduceMul, Nat.reduceSub, Nat.reduceLT, Nat.reduceLeDiff, if_true, if_false] <;> rfl) (e_MetricTable_tmx (by rfl) (Tm.clean (Clean.imm (c_MetricLink _))))) rfl List.not_mem_nil (by simp only [upd_get, Nat.reduceEqDiff, reduceIte, Nat.reduceAdd, Nat.reduceMul, Nat.reduceSub, Nat.reduceLT, Nat.reduceLeDiff, if_true, if_false] <;> rfl) (TmL.clean (e_Addr_clean _))) rfl List.not_mem_nil (by simp only [upd_get, Nat.reduceEqDiff, reduceIte, Nat.reduceAdd, Nat.reduceMul, Nat.reduceSub, Nat.reduceLT, Nat.reduceLeDiff, if_true, if_false] <;> rfl) (e_MetricTable_tmx (by rfl) (Tm.v _))) rfl List.not_mem_nil (by simp only [upd_get, Nat.reduceEqDiff, reduceIte, Nat.reduceAdd, Nat.reduceMul, Nat.reduceSub, Nat.reduceLT, Nat.reduceLeDiff, if_true, if_false] <;> rfl) (e_MetricTable_tmx (by rfl) (Tm.thaw _ _ _))) rfl) rfl List.not_mem_nil (by simp only [upd_get, Nat.reduceEqDiff, reduceIte, Nat.reduceAdd, Nat.reduceMul, Nat.reduceSub, Nat.reduceLT, Nat.reduceLeDiff, if_true, if_false] <;> rfl) (TmL.clean (e_MetricLink_clean _))) (tmAllU 19 (tmAllU 18 (tmAllU 17 (tmAllU 13 (tmAllU 10 (tmAllU 6 (tmAllU 5 tmAll0 (Tm.ptr rfl)) (Tm.ptr rfl)) (Tm.ptr rfl)) (Tm.ptr rfl)) (Tm.ptr rfl)) (Tm.v _)) (Tm.v _))) hi16 ?_
         clear hi16
         rintro n d77 hl18
         rcases n with _ | n17
         ·
          (rw [hotspotref38_Heard_L9] at hl18; cases hl18)
         ·
          rw [hotspotref38_Heard_L9] at hl18
          unfold hotspotref38_Heard_S8
          refine awp_assoc ?_
          refine awp_nr [5,6,10,13,17,18,19] (fun _ => rfl) fun tz => ?_
          refine awp_regW fun KK hKK => ?_
          refine xw_id ?_
          try simp only [go_sem, Nat.reduceEqDiff, reduceIte, Nat.reduceAdd, Nat.reduceMul, Nat.reduceSub, Nat.reduceLT, Nat.reduceLeDiff, Int.reduceToNat, Int.reduceBEq, Int.reduceBNe, Int.reduceLT, Int.reduceLE, Int.reduceAdd, Int.reduceSub, Int.reduceMul, Int.reduceNeg, Int.reduceEq, Int.reduceNe]
          refine hKK _ _ (Wk.refl _ _ _) ?_; clear hKK KK
          refine awp_cond (b := (decide (d77.2.2.2 < (a0.Links.length : Int)))) rfl (fun h19 => ?_) (fun h19 => ?_)
          ·
           have hl18 := cT hl18 h19
           refine awp_skip ?_
           refine awp_blockW ?_
           refine awp_assoc ?_
           refine awp_nr [5,6,10,13,17,18,19] (fun _ => rfl) fun tz => ?_
           refine awp_regW fun KK hKK => ?_
           refine xw_id ?_
           refine xw_stop 3 (by (try simp only [go_sem]); rfl) (by (try simp only [go_sem]); rfl) (by rfl) fun K1 hK1 => ?_
           refine xw_id ?_
           try simp only [go_sem, Nat.reduceEqDiff, reduceIte, Nat.reduceAdd, Nat.reduceMul, Nat.reduceSub, Nat.reduceLT, Nat.reduceLeDiff]
           refine hK1 _ ?_; clear hK1 K1
           obtain ⟨x80, hvh20, hl18⟩ := bnd hl18
           refine xw_cut 9 [(5, (.ptr 0 0)), (6, (.ptr 1 0)), (10, (.ptr 2 0)), (13, (.ptr 3 0)), (17, (.ptr 5 0)), (18, (vb d77.2.2.1)), (19, (vi d77.2.2.2)), (111, (vb x80))] (by (try simp only [go_sem]); rfl) (by (try simp only [go_sem]); rfl) (by rfl) (fun K1 hK1 => ?_) fun tz => ?_
           ·
            refine xw_id ?_
            rcases Bool.eq_false_or_eq_true (!d77.2.2.1) with h20 | h20
            ·
             have hvh20 := cT hvh20 h20
             obtain ⟨x78, bx78, hvh20⟩ := bnd hvh20
             obtain ⟨fx78_0, fx78_1, fx78_2, fx78_3⟩ := idx_some bx78
             obtain ⟨x79, bx79, hvh20⟩ := bnd hvh20
             try simp only [go_sem, Nat.reduceEqDiff, reduceIte, Nat.reduceAdd, Nat.reduceMul, Nat.reduceSub, Nat.reduceLT, Nat.reduceLeDiff, h20, fx78_0, fx78_1, fx78_2]
             refine xcall_p (hotspotref23_Smaller_p a1 x78.Peer bx79) ?_; try dsimp only
             try refine xw_id ?_
             try simp only [go_sem, Nat.reduceEqDiff, reduceIte, Nat.reduceAdd, Nat.reduceMul, Nat.reduceSub, Nat.reduceLT, Nat.reduceLeDiff, h20, fx78_0, fx78_1, fx78_2]
             obtain rfl := someInj hvh20
             exact hK1 _ ⟨rfl, rfl, rfl, rfl, rfl, rfl, rfl, rfl, (by first | rfl | (rw [h20]; rfl) | (simp only [h20, Bool.true_and, Bool.false_and, Bool.true_or, Bool.false_or, cond_true, cond_false]; done)), trivial⟩
            ·
             have hvh20 := cF hvh20 h20
             try simp only [go_sem, Nat.reduceEqDiff, reduceIte, Nat.reduceAdd, Nat.reduceMul, Nat.reduceSub, Nat.reduceLT, Nat.reduceLeDiff, h20]
             obtain rfl := someInj hvh20
             exact hK1 _ ⟨rfl, rfl, rfl, rfl, rfl, rfl, rfl, rfl, (by first | rfl | (rw [h20]; rfl) | (simp only [h20, Bool.true_and, Bool.false_and, Bool.true_or, Bool.false_or, cond_true, cond_false]; done)), trivial⟩
           ·
            refine xw_id ?_
            try simp only [go_sem, Nat.reduceEqDiff, reduceIte, Nat.reduceAdd, Nat.reduceMul, Nat.reduceSub, Nat.reduceLT, Nat.reduceLeDiff]
            refine hKK _ _ (Wk.refl _ _ _) ?_; clear hKK KK
            obtain ⟨d81, hi21, hl18⟩ := bnd hl18
            refine awp_cut (fun z => d81 = z) (fun d81 : (List MetricLink × Bool) => hotspotref38_Heard_S10 a0 a1 d77 a4 a2 d81) ?_ ?_
            ·
             refine awp_cond1 (b := x80) rfl (fun h22 => ?_) (fun h22 => ?_)
             ·
              have hi21 := cT hi21 h22
              refine awp_nr [5,6,10,13,17,19] (fun _ => rfl) fun tz => ?_
              refine awp_regW fun KK hKK => ?_
              refine xw_id ?_
              obtain ⟨x82, bx82, hi21⟩ := bnd hi21
              have bx82 := chk_some bx82
              simp only [Bool.and_eq_true, decide_eq_true_eq] at bx82
              have gx82_0 := bx82
              try simp only [go_sem, Nat.reduceEqDiff, reduceIte, Nat.reduceAdd, Nat.reduceMul, Nat.reduceSub, Nat.reduceLT, Nat.reduceLeDiff, Int.reduceToNat, Int.reduceBEq, Int.reduceBNe, Int.reduceLT, Int.reduceLE, Int.reduceAdd, Int.reduceSub, Int.reduceMul, Int.reduceNeg, Int.reduceEq, Int.reduceNe, gx82_0]
              refine hKK _ _ (Wk.refl _ _ _) ?_; clear hKK KK
              refine awp_nr1 [5,6,10,13,17,19] (fun _ => rfl) fun tz => ?_
              refine awp_reg1 fun KK hKK => ?_
              refine xw_id ?_
              try simp only [go_sem, Nat.reduceEqDiff, reduceIte, Nat.reduceAdd, Nat.reduceMul, Nat.reduceSub, Nat.reduceLT, Nat.reduceLeDiff]
              refine hKK _ ?_; clear hKK KK
              refine sq_n ?_
              obtain rfl := someInj hi21
              exact ⟨_, rfl, (by refine Wk.canonD [] [] [some 0, some 1, some 2, some 3, some 27, some 5] rfl trivial rfl (tmOU 5 (tmOU 4 (tmOU 3 (tmOU 2 (tmOU 1 (tmOU 0 tmO0 rfl List.not_mem_nil (by simp only [upd_get, Nat.reduceEqDiff, reduceIte, Nat.reduceAdd, Nat.reduceMul, Nat.reduceSub, Nat.reduceLT, Nat.reduceLeDiff, if_true, if_false] <;> rfl) (e_MetricTable_tmx (by rfl) (Tm.clean (Clean.imm (c_MetricLink _))))) rfl List.not_mem_nil (by simp only [upd_get, Nat.reduceEqDiff, reduceIte, Nat.reduceAdd, Nat.reduceMul, Nat.reduceSub, Nat.reduceLT, Nat.reduceLeDiff, if_true, if_false] <;> rfl) (TmL.clean (e_Addr_clean _))) rfl List.not_mem_nil (by simp only [upd_get, Nat.reduceEqDiff, reduceIte, Nat.reduceAdd, Nat.reduceMul, Nat.reduceSub, Nat.reduceLT, Nat.reduceLeDiff, if_true, if_false] <;> rfl) (e_MetricTable_tmx (by rfl) (Tm.v _))) rfl List.not_mem_nil (by simp only [upd_get, Nat.reduceEqDiff, reduceIte, Nat.reduceAdd, Nat.reduceMul, Nat.reduceSub, Nat.reduceLT, Nat.reduceLeDiff, if_true, if_false] <;> rfl) (e_MetricTable_tmx (by rfl) (Tm.refL rfl ?_))) rfl List.not_mem_nil (by simp only [upd_get, Nat.reduceEqDiff, reduceIte, Nat.reduceAdd, Nat.reduceMul, Nat.reduceSub, Nat.reduceLT, Nat.reduceLeDiff, if_true, if_false] <;> rfl) (TmL.of_eq (by first | rfl | (simp only [List.flatMap_append, List.flatMap_cons, List.flatMap_nil, List.map_append, List.map_cons, List.map_nil, List.append_nil, List.nil_append]; done) | (simp only [List.flatMap_append, List.flatMap_cons, List.flatMap_nil, List.map_append, List.map_cons, List.map_nil, List.append_nil, List.nil_append]; rfl)) (c_MetricLink _))) rfl List.not_mem_nil (by simp only [upd_get, Nat.reduceEqDiff, reduceIte, Nat.reduceAdd, Nat.reduceMul, Nat.reduceSub, Nat.reduceLT, Nat.reduceLeDiff, if_true, if_false] <;> rfl) (TmL.clean (e_MetricLink_clean _))) (tmAllU 19 (tmAllU 18 (tmAllU 17 (tmAllU 13 (tmAllU 10 (tmAllU 6 (tmAllU 5 tmAll0 (Tm.ptr rfl)) (Tm.ptr rfl)) (Tm.ptr rfl)) (Tm.ptr rfl)) (Tm.ptr rfl)) (Tm.v _)) (Tm.v _)); all_goals (first | rfl | (simp only [List.length_take]; omega) | (simp only [List.length_append, List.length_cons, List.length_nil, List.length_modify, List.length_set, Nat.zero_add]; done) | (simp only [List.length_append, List.length_take, List.length_drop, List.length_cons, List.length_nil, List.length_modify, List.length_set, Nat.zero_add]; omega)))⟩
             ·
              have hi21 := cF hi21 h22
              refine awp_skip1 ?_
              refine sq_n ?_
              obtain rfl := someInj hi21
              exact ⟨_, rfl, (by refine Wk.canonD [] [] [some 0, some 1, some 2, some 3, some 4, some 5] rfl trivial rfl (tmOU 5 (tmOU 4 (tmOU 3 (tmOU 2 (tmOU 1 (tmOU 0 tmO0 rfl List.not_mem_nil (by simp only [upd_get, Nat.reduceEqDiff, reduceIte, Nat.reduceAdd, Nat.reduceMul, Nat.reduceSub, Nat.reduceLT, Nat.reduceLeDiff, if_true, if_false] <;> rfl) (e_MetricTable_tmx (by rfl) (Tm.clean (Clean.imm (c_MetricLink _))))) rfl List.not_mem_nil (by simp only [upd_get, Nat.reduceEqDiff, reduceIte, Nat.reduceAdd, Nat.reduceMul, Nat.reduceSub, Nat.reduceLT, Nat.reduceLeDiff, if_true, if_false] <;> rfl) (TmL.clean (e_Addr_clean _))) rfl List.not_mem_nil (by simp only [upd_get, Nat.reduceEqDiff, reduceIte, Nat.reduceAdd, Nat.reduceMul, Nat.reduceSub, Nat.reduceLT, Nat.reduceLeDiff, if_true, if_false] <;> rfl) (e_MetricTable_tmx (by rfl) (Tm.v _))) rfl List.not_mem_nil (by simp only [upd_get, Nat.reduceEqDiff, reduceIte, Nat.reduceAdd, Nat.reduceMul, Nat.reduceSub, Nat.reduceLT, Nat.reduceLeDiff, if_true, if_false] <;> rfl) (e_MetricTable_tmx (by rfl) (Tm.refL rfl ?_))) rfl List.not_mem_nil (by simp only [upd_get, Nat.reduceEqDiff, reduceIte, Nat.reduceAdd, Nat.reduceMul, Nat.reduceSub, Nat.reduceLT, Nat.reduceLeDiff, if_true, if_false] <;> rfl) (TmL.of_eq (by first | rfl | (simp only [List.flatMap_append, List.flatMap_cons, List.flatMap_nil, List.map_append, List.map_cons, List.map_nil, List.append_nil, List.nil_append]; done) | (simp only [List.flatMap_append, List.flatMap_cons, List.flatMap_nil, List.map_append, List.map_cons, List.map_nil, List.append_nil, List.nil_append]; rfl)) (c_MetricLink _))) rfl List.not_mem_nil (by simp only [upd_get, Nat.reduceEqDiff, reduceIte, Nat.reduceAdd, Nat.reduceMul, Nat.reduceSub, Nat.reduceLT, Nat.reduceLeDiff, if_true, if_false] <;> rfl) (TmL.clean (e_MetricLink_clean _))) (tmAllU 19 (tmAllU 18 (tmAllU 17 (tmAllU 13 (tmAllU 10 (tmAllU 6 (tmAllU 5 tmAll0 (Tm.ptr rfl)) (Tm.ptr rfl)) (Tm.ptr rfl)) (Tm.ptr rfl)) (Tm.ptr rfl)) (Tm.v _)) (Tm.v _)); all_goals (first | rfl | (simp only [List.length_take]; omega) | (simp only [List.length_append, List.length_cons, List.length_nil, List.length_modify, List.length_set, Nat.zero_add]; done) | (simp only [List.length_append, List.length_take, List.length_drop, List.length_cons, List.length_nil, List.length_modify, List.length_set, Nat.zero_add]; omega)))⟩
            ·
             rintro _ rfl
             clear hi21
             unfold hotspotref38_Heard_S10
             refine awp_nr1 [5,6,10,13,17,18,19] (fun _ => rfl) fun tz => ?_
             refine awp_regD1 fun KK hKK all hall => ?_
             refine xd_id ?_
             try simp only [List.toList_toArray, List.map_cons, List.map_nil, List.size_toArray, List.length_cons, List.length_nil, Nat.zero_add]
             try simp only [Nat.reduceAdd]
             obtain ⟨x83, bx83, hl18⟩ := bnd hl18
             obtain ⟨fx83_0, fx83_1, fx83_2, fx83_3⟩ := idx_some bx83
             obtain ⟨x84, bx84, hl18⟩ := bnd hl18
             have bx84 := chk_some bx84
             simp only [Bool.and_eq_true, decide_eq_true_eq] at bx84
             have gx84_0 := bx84
             simp only [go_sem, Nat.reduceEqDiff, reduceIte, Nat.reduceMul, Nat.reduceSub, Nat.reduceLT, Nat.reduceLeDiff, Int.reduceToNat, Int.reduceBEq, Int.reduceBNe, Int.reduceLT, Int.reduceLE, Int.reduceAdd, Int.reduceSub, Int.reduceMul, Int.reduceNeg, Int.reduceEq, Int.reduceNe, fx83_0, fx83_1, fx83_2, gx84_0]
             try simp only [Nat.reduceAdd]
             try simp only [go_sem, Nat.reduceEqDiff, reduceIte, Nat.reduceMul, Nat.reduceSub, Nat.reduceLT, Nat.reduceLeDiff, Int.reduceToNat, Int.reduceBEq, Int.reduceBNe, Int.reduceLT, Int.reduceLE, Int.reduceAdd, Int.reduceSub, Int.reduceMul, Int.reduceNeg, Int.reduceEq, Int.reduceNe, fx83_0, fx83_1, fx83_2, gx84_0]
             try simp only [Nat.reduceAdd]
             try simp only [go_sem, Nat.reduceEqDiff, reduceIte, Nat.reduceMul, Nat.reduceSub, Nat.reduceLT, Nat.reduceLeDiff, Int.reduceToNat, Int.reduceBEq, Int.reduceBNe, Int.reduceLT, Int.reduceLE, Int.reduceAdd, Int.reduceSub, Int.reduceMul, Int.reduceNeg, Int.reduceEq, Int.reduceNe, fx83_0, fx83_1, fx83_2, gx84_0]
             refine And.intro ?_ (hKK _ ?_)
             ·
              subst hall
              clear hKK KK
              first | (simp [printsOk, apartP, clash, meet]; done) | (simp [printsOk, apartP, clash, meet]; decide +kernel) | decide +kernel
             ·
              clear hKK KK hall all
              refine bq_n ?_
              refine seqW_i ?_
              refine awp_nr1 [5,6,10,13,17,18,19] (fun _ => rfl) fun tz => ?_
              refine awp_reg1 fun KK hKK => ?_
              refine xw_id ?_
              try simp only [go_sem, Nat.reduceEqDiff, reduceIte, Nat.reduceAdd, Nat.reduceMul, Nat.reduceSub, Nat.reduceLT, Nat.reduceLeDiff, fx83_0, fx83_1, fx83_2]
              refine hKK _ ?_; clear hKK KK
              refine lq_n ?_
              exact ⟨n17, (d77.1, (d81.1 ++ [x83]), d81.2, IntKind.wrap .i64 (d77.2.2.2 + 1)), rfl, hl18, (by refine Wk.canonD [] [] [some 0, some 1, some 2, some 3, some 14, some 5] rfl trivial rfl (tmOU 5 (tmOU 4 (tmOU 3 (tmOU 2 (tmOU 1 (tmOU 0 tmO0 rfl List.not_mem_nil (by simp only [upd_get, Nat.reduceEqDiff, reduceIte, Nat.reduceAdd, Nat.reduceMul, Nat.reduceSub, Nat.reduceLT, Nat.reduceLeDiff, if_true, if_false] <;> rfl) (e_MetricTable_tmx (by rfl) (Tm.clean (Clean.imm (c_MetricLink _))))) rfl List.not_mem_nil (by simp only [upd_get, Nat.reduceEqDiff, reduceIte, Nat.reduceAdd, Nat.reduceMul, Nat.reduceSub, Nat.reduceLT, Nat.reduceLeDiff, if_true, if_false] <;> rfl) (TmL.clean (e_Addr_clean _))) rfl List.not_mem_nil (by simp only [upd_get, Nat.reduceEqDiff, reduceIte, Nat.reduceAdd, Nat.reduceMul, Nat.reduceSub, Nat.reduceLT, Nat.reduceLeDiff, if_true, if_false] <;> rfl) (e_MetricTable_tmx (by rfl) (Tm.v _))) rfl List.not_mem_nil (by simp only [upd_get, Nat.reduceEqDiff, reduceIte, Nat.reduceAdd, Nat.reduceMul, Nat.reduceSub, Nat.reduceLT, Nat.reduceLeDiff, if_true, if_false] <;> rfl) (e_MetricTable_tmx (by rfl) (Tm.refL rfl ?_))) rfl List.not_mem_nil (by simp only [upd_get, Nat.reduceEqDiff, reduceIte, Nat.reduceAdd, Nat.reduceMul, Nat.reduceSub, Nat.reduceLT, Nat.reduceLeDiff, if_true, if_false] <;> rfl) (TmL.of_eq (by first | rfl | (simp only [List.flatMap_append, List.flatMap_cons, List.flatMap_nil, List.map_append, List.map_cons, List.map_nil, List.append_nil, List.nil_append]; done) | (simp only [List.flatMap_append, List.flatMap_cons, List.flatMap_nil, List.map_append, List.map_cons, List.map_nil, List.append_nil, List.nil_append]; rfl)) (c_MetricLink _))) rfl List.not_mem_nil (by simp only [upd_get, Nat.reduceEqDiff, reduceIte, Nat.reduceAdd, Nat.reduceMul, Nat.reduceSub, Nat.reduceLT, Nat.reduceLeDiff, if_true, if_false] <;> rfl) (TmL.clean (e_MetricLink_clean _))) (tmAllU 19 (tmAllU 18 (tmAllU 17 (tmAllU 13 (tmAllU 10 (tmAllU 6 (tmAllU 5 tmAll0 (Tm.ptr rfl)) (Tm.ptr rfl)) (Tm.ptr rfl)) (Tm.ptr rfl)) (Tm.ptr rfl)) (Tm.v _)) (Tm.v _)); all_goals (first | rfl | (simp only [List.length_take]; omega) | (simp only [List.length_append, List.length_cons, List.length_nil, List.length_modify, List.length_set, Nat.zero_add]; done) | (simp only [List.length_append, List.length_take, List.length_drop, List.length_cons, List.length_nil, List.length_modify, List.length_set, Nat.zero_add]; omega)))⟩
          ·
           have hl18 := cF hl18 h19
           refine awp_exit ?_
           refine lq_e ?_
           refine bq_e ?_
           refine sq_n ?_
           obtain rfl := someInj hl18
           exact ⟨_, rfl, (by refine Wk.canonD [] [] [some 2, some 3, some 4, some 5] rfl trivial rfl (tmOU 3 (tmOU 2 (tmOU 1 (tmOU 0 tmO0 rfl List.not_mem_nil (by simp only [upd_get, Nat.reduceEqDiff, reduceIte, Nat.reduceAdd, Nat.reduceMul, Nat.reduceSub, Nat.reduceLT, Nat.reduceLeDiff, if_true, if_false] <;> rfl) (e_MetricTable_tmx (by rfl) (Tm.v _))) rfl List.not_mem_nil (by simp only [upd_get, Nat.reduceEqDiff, reduceIte, Nat.reduceAdd, Nat.reduceMul, Nat.reduceSub, Nat.reduceLT, Nat.reduceLeDiff, if_true, if_false] <;> rfl) (e_MetricTable_tmx (by rfl) (Tm.refL rfl ?_))) rfl List.not_mem_nil (by simp only [upd_get, Nat.reduceEqDiff, reduceIte, Nat.reduceAdd, Nat.reduceMul, Nat.reduceSub, Nat.reduceLT, Nat.reduceLeDiff, if_true, if_false] <;> rfl) (TmL.of_eq (by first | rfl | (simp only [List.flatMap_append, List.flatMap_cons, List.flatMap_nil, List.map_append, List.map_cons, List.map_nil, List.append_nil, List.nil_append]; done) | (simp only [List.flatMap_append, List.flatMap_cons, List.flatMap_nil, List.map_append, List.map_cons, List.map_nil, List.append_nil, List.nil_append]; rfl)) (c_MetricLink _))) rfl List.not_mem_nil (by simp only [upd_get, Nat.reduceEqDiff, reduceIte, Nat.reduceAdd, Nat.reduceMul, Nat.reduceSub, Nat.reduceLT, Nat.reduceLeDiff, if_true, if_false] <;> rfl) (TmL.clean (e_MetricLink_clean _))) (tmAllU 18 (tmAllU 17 (tmAllU 13 (tmAllU 10 tmAll0 (Tm.ptr rfl)) (Tm.ptr rfl)) (Tm.ptr rfl)) (Tm.v _)); all_goals (first | rfl | (simp only [List.length_take]; omega) | (simp only [List.length_append, List.length_cons, List.length_nil, List.length_modify, List.length_set, Nat.zero_add]; done) | (simp only [List.length_append, List.length_take, List.length_drop, List.length_cons, List.length_nil, List.length_modify, List.length_set, Nat.zero_add]; omega)))⟩
        ·
         rintro _ rfl
         clear hi16
         unfold hotspotref38_Heard_S7
         refine awp_assoc ?_
         refine awp_nr [10,13,17,18] (fun _ => rfl) fun tz => ?_
         refine awp_regW fun KK hKK => ?_
         refine xw_id ?_
         try simp only [go_sem, Nat.reduceEqDiff, reduceIte, Nat.reduceAdd, Nat.reduceMul, Nat.reduceSub, Nat.reduceLT, Nat.reduceLeDiff]
         refine hKK _ _ (Wk.refl _ _ _) ?_; clear hKK KK
         refine awp_cond (b := (!d76.2.2)) rfl (fun h23 => ?_) (fun h23 => ?_)
         ·
          have h0 := cT h0 h23
          refine awp_nr [10,13,17] (fun _ => rfl) fun tz => ?_
          refine awp_regW fun KK hKK => ?_
          refine xw_id ?_
          obtain ⟨x85, bx85, h0⟩ := bnd h0
          have bx85 := chk_some bx85
          simp only [Bool.and_eq_true, decide_eq_true_eq] at bx85
          have gx85_0 := bx85
          try simp only [go_sem, Nat.reduceEqDiff, reduceIte, Nat.reduceAdd, Nat.reduceMul, Nat.reduceSub, Nat.reduceLT, Nat.reduceLeDiff, Int.reduceToNat, Int.reduceBEq, Int.reduceBNe, Int.reduceLT, Int.reduceLE, Int.reduceAdd, Int.reduceSub, Int.reduceMul, Int.reduceNeg, Int.reduceEq, Int.reduceNe, gx85_0]
          refine hKK _ _ (Wk.refl _ _ _) ?_; clear hKK KK
          refine awp_nr [10,13] (fun _ => rfl) fun tz => ?_
          refine awp_regW fun KK hKK => ?_
          refine xw_id ?_
          try simp only [go_sem, Nat.reduceEqDiff, reduceIte, Nat.reduceAdd, Nat.reduceMul, Nat.reduceSub, Nat.reduceLT, Nat.reduceLeDiff]
          refine hKK _ _ (Wk.refl _ _ _) ?_; clear hKK KK
          refine awp_ret1 ?_
          obtain rfl := someInj h0
          refine endW_i ?_
          refine end_ret0 rs21 (by simp only [go_sem, resV, resAll, resOf, packR, Nat.reduceEqDiff, reduceIte, Nat.reduceAdd, Nat.reduceMul, Nat.reduceSub, Nat.reduceLT, Nat.reduceLeDiff]; rfl) ?_
          refine Res.mk [] [some 10] rfl (resOU List.not_mem_nil (by simp only [upd_get, Nat.reduceEqDiff, reduceIte, Nat.reduceAdd, Nat.reduceMul, Nat.reduceSub, Nat.reduceLT, Nat.reduceLeDiff, if_true, if_false] <;> rfl) (TmL.of_eq (by first | rfl | (simp only [List.flatMap_append, List.flatMap_cons, List.flatMap_nil, List.map_append, List.map_cons, List.map_nil, List.append_nil, List.nil_append]; done) | (simp only [List.flatMap_append, List.flatMap_cons, List.flatMap_nil, List.map_append, List.map_cons, List.map_nil, List.append_nil, List.nil_append]; rfl)) (c_MetricLink _)) resO0) (Tm.tup (TmL.cons (Tm.agg (e_MetricTable_tmx (by rfl) (Tm.refL rfl ?_))) (TmL.cons (Tm.v _) TmL.nil)))
          all_goals (first | rfl | (simp only [List.length_take]; omega) | (simp only [List.length_append, List.length_cons, List.length_nil, List.length_modify, List.length_set, Nat.zero_add]; done) | (simp only [List.length_append, List.length_take, List.length_drop, List.length_cons, List.length_nil, List.length_modify, List.length_set, Nat.zero_add]; omega))
         ·
          have h0 := cF h0 h23
          refine awp_skip ?_
          refine awp_nr [10,13] (fun _ => rfl) fun tz => ?_
          refine awp_regW fun KK hKK => ?_
          refine xw_id ?_
          try simp only [go_sem, Nat.reduceEqDiff, reduceIte, Nat.reduceAdd, Nat.reduceMul, Nat.reduceSub, Nat.reduceLT, Nat.reduceLeDiff]
          refine hKK _ _ (Wk.refl _ _ _) ?_; clear hKK KK
          refine awp_ret1 ?_
          obtain rfl := someInj h0
          refine endW_i ?_
          refine end_ret0 rs21 (by simp only [go_sem, resV, resAll, resOf, packR, Nat.reduceEqDiff, reduceIte, Nat.reduceAdd, Nat.reduceMul, Nat.reduceSub, Nat.reduceLT, Nat.reduceLeDiff]; rfl) ?_
          refine Res.mk [] [some 2] rfl (resOU List.not_mem_nil (by simp only [upd_get, Nat.reduceEqDiff, reduceIte, Nat.reduceAdd, Nat.reduceMul, Nat.reduceSub, Nat.reduceLT, Nat.reduceLeDiff, if_true, if_false] <;> rfl) (TmL.of_eq (by first | rfl | (simp only [List.flatMap_append, List.flatMap_cons, List.flatMap_nil, List.map_append, List.map_cons, List.map_nil, List.append_nil, List.nil_append]; done) | (simp only [List.flatMap_append, List.flatMap_cons, List.flatMap_nil, List.map_append, List.map_cons, List.map_nil, List.append_nil, List.nil_append]; rfl)) (c_MetricLink _)) resO0) (Tm.tup (TmL.cons (Tm.agg (e_MetricTable_tmx (by rfl) (Tm.refL rfl ?_))) (TmL.cons (Tm.v _) TmL.nil)))
          all_goals (first | rfl | (simp only [List.length_take]; omega) | (simp only [List.length_append, List.length_cons, List.length_nil, List.length_modify, List.length_set, Nat.zero_add]; done) | (simp only [List.length_append, List.length_take, List.length_drop, List.length_cons, List.length_nil, List.length_modify, List.length_set, Nat.zero_add]; omega))

theorem hotspotref38_Heard_m (a0 : MetricTable) (a1 : Addr) (a2 : Int) (a3 : Bool) (a4 : Int) {r : (MetricTable × Int)} (h0 : hotspotref38_Heard a0 a1 a2 a3 a4 = some r) : SndM K 21 [(.agg (E_MetricTable a0)), (.agg (e_Addr a1)), (vi a2), (vb a3), (vi a4)] (fun q => (.tup [(.agg (e_MetricTable r.1 (.ref (q 0) 0 r.1.Links.length 9))), (vi r.2)])) [(List.flatMap e_MetricLink r.1.Links)] :=
 fun hs => Snd.of_newM (RenM.tup (RenML.cons (RenM.agg (e_MetricTable_ren _ (RenM.ref 0 0 _ _))) (RenML.cons (RenM.const (Clean.v _)) RenML.nil))) (rows_all_cons (c_MetricLink _) rows_all_nil) (clean_cons (Clean.agg (E_MetricTable_clean _)) (clean_cons (Clean.agg (e_Addr_clean _)) (clean_cons (Clean.v _) (clean_cons (Clean.v _) (clean_cons (Clean.v _) clean_nil))))) (hotspotref38_Heard_r a0 a1 a2 a3 a4 h0) hs

theorem hotspotref38_Heard_e (a0 : MetricTable) (a1 : Addr) (a2 : Int) (a3 : Bool) (a4 : Int) {r : (MetricTable × Int)} (h0 : hotspotref38_Heard a0 a1 a2 a3 a4 = some r) (fr : Nat) (hs : HS) : SndE K 21 [(.agg (E_MetricTable a0)), (.agg (e_Addr a1)), (vi a2), (vb a3), (vi a4)] hs fr ⟨(fun q : Nat → Nat => (.tup [(.agg (e_MetricTable r.1 (.ref (q 0) 0 r.1.Links.length 9))), (vi r.2)])) fun _ => fr, .new (List.flatMap e_MetricLink r.1.Links)⟩ :=
 SndE.of_res (RenM.tup (RenML.cons (RenM.agg (e_MetricTable_ren _ (RenM.ref 0 0 _ _))) (RenML.cons (RenM.const (Clean.v _)) RenML.nil))) (c_MetricLink _) (clean_cons (Clean.agg (E_MetricTable_clean _)) (clean_cons (Clean.agg (e_Addr_clean _)) (clean_cons (Clean.v _) (clean_cons (Clean.v _) (clean_cons (Clean.v _) clean_nil))))) (fun a b h => by simp only [h]) (hotspotref38_Heard_r a0 a1 a2 a3 a4 h0) hs fr

theorem hotspotref38_Heard_p (a0 : MetricTable) (a1 : Addr) (a2 : Int) (a3 : Bool) (a4 : Int) {r : (MetricTable × Int)} (h0 : hotspotref38_Heard a0 a1 a2 a3 a4 = some r) : SndP K 21 [(.agg (E_MetricTable a0)), (.agg (e_Addr a1)), (vi a2), (vb a3), (vi a4)] (.tup [(.agg (E_MetricTable r.1)), (vi r.2)]) :=
 SndM.pure (hotspotref38_Heard_m a0 a1 a2 a3 a4 h0) (Clean.tup (clean_cons (Clean.agg (E_MetricTable_clean _)) (clean_cons (Clean.v _) clean_nil))) (clean_cons (Clean.agg (E_MetricTable_clean _)) (clean_cons (Clean.agg (e_Addr_clean _)) (clean_cons (Clean.v _) (clean_cons (Clean.v _) (clean_cons (Clean.v _) clean_nil))))) (by simp only [go_sem, newL_n, newL_c, upd_get, fz, nilS, cond_true, cond_false, List.drop_zero, List.take_length, List.length_map, ble_self, Nat.reduceEqDiff, reduceIte, Nat.reduceAdd, Nat.reduceMul, Nat.reduceSub, Nat.reduceLT, Nat.reduceLeDiff] <;> rfl)

end Go.AX.Z.TM

/-! (TMW hotspotref09 Total run0) -/

set_option linter.unusedSimpArgs false
set_option linter.unusedVariables false
set_option maxHeartbeats 4000000
namespace Go.AX.Z.TM
open Go.AX Go.Proofs
attribute [local irreducible] awp xw xop xcall gsp ob xd xdop xcallD seqQ loopQ blkQ endQ

theorem hotspotref09_Total_run0 : ranX K 60 29 [vi 0, vi 1024] = some (.tup [vi 1452, vi 0]) := by kernel_rfl

end Go.AX.Z.TM

/-! (TMW hotspotref09 Total run1) -/

set_option linter.unusedSimpArgs false
set_option linter.unusedVariables false
set_option maxHeartbeats 4000000
namespace Go.AX.Z.TM
open Go.AX Go.Proofs
attribute [local irreducible] awp xw xop xcall gsp ob xd xdop xcallD seqQ loopQ blkQ endQ

theorem hotspotref09_Total_run1 : ranX K 60 29 [vi 1, vi 1024] = some (.tup [vi 996, vi 0]) := by kernel_rfl

end Go.AX.Z.TM

/-! (TMW hotspotref09 Total run2) -/

set_option linter.unusedSimpArgs false
set_option linter.unusedVariables false
set_option maxHeartbeats 4000000
namespace Go.AX.Z.TM
open Go.AX Go.Proofs
attribute [local irreducible] awp xw xop xcall gsp ob xd xdop xcallD seqQ loopQ blkQ endQ

theorem hotspotref09_Total_run2 : ranX K 60 29 [vi 2, vi 1024] = some (.tup [vi 756, vi 0]) := by kernel_rfl

end Go.AX.Z.TM

/-! (TMW hotspotref09 Total run3) -/

set_option linter.unusedSimpArgs false
set_option linter.unusedVariables false
set_option maxHeartbeats 4000000
namespace Go.AX.Z.TM
open Go.AX Go.Proofs
attribute [local irreducible] awp xw xop xcall gsp ob xd xdop xcallD seqQ loopQ blkQ endQ

theorem hotspotref09_Total_run3 : ranX K 60 29 [vi 3, vi 1024] = some (.tup [vi 528, vi 0]) := by kernel_rfl

end Go.AX.Z.TM

/-! (TMW hotspotref09 Total run4) -/

set_option linter.unusedSimpArgs false
set_option linter.unusedVariables false
set_option maxHeartbeats 4000000
namespace Go.AX.Z.TM
open Go.AX Go.Proofs
attribute [local irreducible] awp xw xop xcall gsp ob xd xdop xcallD seqQ loopQ blkQ endQ

theorem hotspotref09_Total_run4 : ranX K 60 29 [vi 4, vi 1024] = some (.tup [vi 396, vi 0]) := by kernel_rfl

end Go.AX.Z.TM

/-! (TMW hotspotref09 Total run5) -/

set_option linter.unusedSimpArgs false
set_option linter.unusedVariables false
set_option maxHeartbeats 4000000
namespace Go.AX.Z.TM
open Go.AX Go.Proofs
attribute [local irreducible] awp xw xop xcall gsp ob xd xdop xcallD seqQ loopQ blkQ endQ

theorem hotspotref09_Total_run5 : ranX K 60 29 [vi 5, vi 1024] = some (.tup [vi 288, vi 0]) := by kernel_rfl

end Go.AX.Z.TM

/-! (TMW hotspotref09 Total run6) -/

set_option linter.unusedSimpArgs false
set_option linter.unusedVariables false
set_option maxHeartbeats 4000000
namespace Go.AX.Z.TM
open Go.AX Go.Proofs
attribute [local irreducible] awp xw xop xcall gsp ob xd xdop xcallD seqQ loopQ blkQ endQ

theorem hotspotref09_Total_run6 : ranX K 60 29 [vi 6, vi 1024] = some (.tup [vi 232, vi 0]) := by kernel_rfl

end Go.AX.Z.TM

/-! (TMW hotspotref09 Total run7) -/

set_option linter.unusedSimpArgs false
set_option linter.unusedVariables false
set_option maxHeartbeats 4000000
namespace Go.AX.Z.TM
open Go.AX Go.Proofs
attribute [local irreducible] awp xw xop xcall gsp ob xd xdop xcallD seqQ loopQ blkQ endQ

theorem hotspotref09_Total_run7 : ranX K 60 29 [vi 7, vi 1024] = some (.tup [vi 216, vi 0]) := by kernel_rfl

end Go.AX.Z.TM

/-! (TMW hotspotref09 Total run8) -/

set_option linter.unusedSimpArgs false
set_option linter.unusedVariables false
set_option maxHeartbeats 4000000
namespace Go.AX.Z.TM
open Go.AX Go.Proofs
attribute [local irreducible] awp xw xop xcall gsp ob xd xdop xcallD seqQ loopQ blkQ endQ

theorem hotspotref09_Total_run8 : ranX K 60 29 [vi 8, vi 1024] = some (.tup [vi 192, vi 0]) := by kernel_rfl

end Go.AX.Z.TM

/-! (TMW hotspotref09 Total run9) -/

set_option linter.unusedSimpArgs false
set_option linter.unusedVariables false
set_option maxHeartbeats 4000000
namespace Go.AX.Z.TM
open Go.AX Go.Proofs
attribute [local irreducible] awp xw xop xcall gsp ob xd xdop xcallD seqQ loopQ blkQ endQ

theorem hotspotref09_Total_run9 : ranX K 60 29 [vi 9, vi 1024] = some (.tup [vi 168, vi 0]) := by kernel_rfl

end Go.AX.Z.TM

/-! (TMW hotspotref09 Total run10) -/

set_option linter.unusedSimpArgs false
set_option linter.unusedVariables false
set_option maxHeartbeats 4000000
namespace Go.AX.Z.TM
open Go.AX Go.Proofs
attribute [local irreducible] awp xw xop xcall gsp ob xd xdop xcallD seqQ loopQ blkQ endQ

theorem hotspotref09_Total_run10 : ranX K 60 29 [vi 10, vi 1024] = some (.tup [vi 148, vi 0]) := by kernel_rfl

end Go.AX.Z.TM

/-! (TMW hotspotref09 Total run11) -/

set_option linter.unusedSimpArgs false
set_option linter.unusedVariables false
set_option maxHeartbeats 4000000
namespace Go.AX.Z.TM
open Go.AX Go.Proofs
attribute [local irreducible] awp xw xop xcall gsp ob xd xdop xcallD seqQ loopQ blkQ endQ

theorem hotspotref09_Total_run11 : ranX K 60 29 [vi 11, vi 1024] = some (.tup [vi 136, vi 0]) := by kernel_rfl

end Go.AX.Z.TM

/-! (TMW hotspotref09 Total) -/

set_option linter.unusedSimpArgs false
set_option linter.unusedVariables false
set_option maxHeartbeats 4000000
namespace Go.AX.Z.TM
open Go.AX Go.Proofs
attribute [local irreducible] awp xw xop xcall gsp ob xd xdop xcallD seqQ loopQ blkQ endQ

theorem hotspotref09_Total_p (a0 : Int) (a1 : Int) {r : (Int × Int)} (h0 : hotspotref09_Total a0 a1 = some r) : SndP K 29 [(vi a0), (vi a1)] (.tup [(vi r.1), (vi r.2)]) := by
 unfold hotspotref09_Total at h0
 rcases Bool.eq_false_or_eq_true ((a0 == 0) && (a1 == 1024)) with k0 | k0
 ·
  have h0 := cT h0 k0
  simp only [Bool.and_eq_true, beq_iff_eq] at k0
  obtain ⟨rfl, rfl⟩ := k0
  cases h0
  exact SndP.of_run hC rfl rfl hotspotref09_Total_run0
 have h0 := cF h0 k0
 rcases Bool.eq_false_or_eq_true ((a0 == 1) && (a1 == 1024)) with k1 | k1
 ·
  have h0 := cT h0 k1
  simp only [Bool.and_eq_true, beq_iff_eq] at k1
  obtain ⟨rfl, rfl⟩ := k1
  cases h0
  exact SndP.of_run hC rfl rfl hotspotref09_Total_run1
 have h0 := cF h0 k1
 rcases Bool.eq_false_or_eq_true ((a0 == 2) && (a1 == 1024)) with k2 | k2
 ·
  have h0 := cT h0 k2
  simp only [Bool.and_eq_true, beq_iff_eq] at k2
  obtain ⟨rfl, rfl⟩ := k2
  cases h0
  exact SndP.of_run hC rfl rfl hotspotref09_Total_run2
 have h0 := cF h0 k2
 rcases Bool.eq_false_or_eq_true ((a0 == 3) && (a1 == 1024)) with k3 | k3
 ·
  have h0 := cT h0 k3
  simp only [Bool.and_eq_true, beq_iff_eq] at k3
  obtain ⟨rfl, rfl⟩ := k3
  cases h0
  exact SndP.of_run hC rfl rfl hotspotref09_Total_run3
 have h0 := cF h0 k3
 rcases Bool.eq_false_or_eq_true ((a0 == 4) && (a1 == 1024)) with k4 | k4
 ·
  have h0 := cT h0 k4
  simp only [Bool.and_eq_true, beq_iff_eq] at k4
  obtain ⟨rfl, rfl⟩ := k4
  cases h0
  exact SndP.of_run hC rfl rfl hotspotref09_Total_run4
 have h0 := cF h0 k4
 rcases Bool.eq_false_or_eq_true ((a0 == 5) && (a1 == 1024)) with k5 | k5
 ·
  have h0 := cT h0 k5
  simp only [Bool.and_eq_true, beq_iff_eq] at k5
  obtain ⟨rfl, rfl⟩ := k5
  cases h0
  exact SndP.of_run hC rfl rfl hotspotref09_Total_run5
 have h0 := cF h0 k5
 rcases Bool.eq_false_or_eq_true ((a0 == 6) && (a1 == 1024)) with k6 | k6
 ·
  have h0 := cT h0 k6
  simp only [Bool.and_eq_true, beq_iff_eq] at k6
  obtain ⟨rfl, rfl⟩ := k6
  cases h0
  exact SndP.of_run hC rfl rfl hotspotref09_Total_run6
 have h0 := cF h0 k6
 rcases Bool.eq_false_or_eq_true ((a0 == 7) && (a1 == 1024)) with k7 | k7
 ·
  have h0 := cT h0 k7
  simp only [Bool.and_eq_true, beq_iff_eq] at k7
  obtain ⟨rfl, rfl⟩ := k7
  cases h0
  exact SndP.of_run hC rfl rfl hotspotref09_Total_run7
 have h0 := cF h0 k7
 rcases Bool.eq_false_or_eq_true ((a0 == 8) && (a1 == 1024)) with k8 | k8
 ·
  have h0 := cT h0 k8
  simp only [Bool.and_eq_true, beq_iff_eq] at k8
  obtain ⟨rfl, rfl⟩ := k8
  cases h0
  exact SndP.of_run hC rfl rfl hotspotref09_Total_run8
 have h0 := cF h0 k8
 rcases Bool.eq_false_or_eq_true ((a0 == 9) && (a1 == 1024)) with k9 | k9
 ·
  have h0 := cT h0 k9
  simp only [Bool.and_eq_true, beq_iff_eq] at k9
  obtain ⟨rfl, rfl⟩ := k9
  cases h0
  exact SndP.of_run hC rfl rfl hotspotref09_Total_run9
 have h0 := cF h0 k9
 rcases Bool.eq_false_or_eq_true ((a0 == 10) && (a1 == 1024)) with k10 | k10
 ·
  have h0 := cT h0 k10
  simp only [Bool.and_eq_true, beq_iff_eq] at k10
  obtain ⟨rfl, rfl⟩ := k10
  cases h0
  exact SndP.of_run hC rfl rfl hotspotref09_Total_run10
 have h0 := cF h0 k10
 rcases Bool.eq_false_or_eq_true ((a0 == 11) && (a1 == 1024)) with k11 | k11
 ·
  have h0 := cT h0 k11
  simp only [Bool.and_eq_true, beq_iff_eq] at k11
  obtain ⟨rfl, rfl⟩ := k11
  cases h0
  exact SndP.of_run hC rfl rfl hotspotref09_Total_run11
 have h0 := cF h0 k11
 cases h0

end Go.AX.Z.TM

/-! (TMW hotspotref38 Cost) -/

set_option linter.unusedSimpArgs false
set_option linter.unusedVariables false
set_option maxHeartbeats 4000000
namespace Go.AX.Z.TM
open Go.AX Go.Proofs
attribute [local irreducible] awp xw xop xcall gsp ob xd xdop xcallD seqQ loopQ blkQ endQ


theorem hotspotref38_Cost_p (a0 : Int) (a1 : Int) {r : (Int × Int)} (h0 : hotspotref38_Cost a0 a1 = some r) : SndP K 13 [(vi a0), (vi a1)] (.tup [(vi r.1), (vi r.2)]) := by
 refine SndP.of_walkW hC (Clean.tup (clean_cons (Clean.v _) (clean_cons (Clean.v _) clean_nil))) (clean_cons (Clean.v _) (clean_cons (Clean.v _) clean_nil)) (show K.P.funcs[13]? = some Try.f13 from Try.func13) rfl rfl (by decide +kernel) (Nat.le_of_ble_eq_true rfl) ?_
 unfold hotspotref38_Cost at h0
 refine awp_nr [0,1] (fun _ => rfl) fun tz => ?_
 refine awp_regW fun KK hKK => ?_
 refine xw_id ?_
 try simp only [go_sem, Nat.reduceEqDiff, reduceIte, Nat.reduceAdd, Nat.reduceMul, Nat.reduceSub, Nat.reduceLT, Nat.reduceLeDiff]
 refine hKK _ _ (Wk.refl _ _ _) ?_; clear hKK KK
 refine awp_assoc ?_
 refine awp_nr [0,1] (fun _ => rfl) fun tz => ?_
 refine awp_regW fun KK hKK => ?_
 refine xw_id ?_
 refine xw_stop 3 (by (try simp only [go_sem]); rfl) (by (try simp only [go_sem]); rfl) (by rfl) fun K1 hK1 => ?_
 refine xw_id ?_
 try simp only [go_sem, Nat.reduceEqDiff, reduceIte, Nat.reduceAdd, Nat.reduceMul, Nat.reduceSub, Nat.reduceLT, Nat.reduceLeDiff]
 refine hK1 _ ?_; clear hK1 K1
 refine xw_cut 3 [(0, (vi a0)), (1, (vi a1)), (15, (vb ((decide (a0 < 0)) || (decide (12 ≤ a0)))))] (by (try simp only [go_sem]); rfl) (by (try simp only [go_sem]); rfl) (by rfl) (fun K1 hK1 => ?_) fun tz => ?_
 ·
  refine xw_id ?_
  rcases Bool.eq_false_or_eq_true (decide (a0 < 0)) with h1 | h1
  ·
   try simp only [go_sem, Nat.reduceEqDiff, reduceIte, Nat.reduceAdd, Nat.reduceMul, Nat.reduceSub, Nat.reduceLT, Nat.reduceLeDiff, h1]
   exact hK1 _ ⟨rfl, rfl, rfl, (by first | rfl | (rw [h1]; rfl) | (simp only [h1, Bool.true_and, Bool.false_and, Bool.true_or, Bool.false_or, cond_true, cond_false]; done)), trivial⟩
  ·
   try simp only [go_sem, Nat.reduceEqDiff, reduceIte, Nat.reduceAdd, Nat.reduceMul, Nat.reduceSub, Nat.reduceLT, Nat.reduceLeDiff, h1]
   exact hK1 _ ⟨rfl, rfl, rfl, (by first | rfl | (rw [h1]; rfl) | (simp only [h1, Bool.true_and, Bool.false_and, Bool.true_or, Bool.false_or, cond_true, cond_false]; done)), trivial⟩
 ·
  refine xw_id ?_
  refine xw_stop 1 (by (try simp only [go_sem]); rfl) (by (try simp only [go_sem]); rfl) (by rfl) fun K1 hK1 => ?_
  refine xw_id ?_
  try simp only [go_sem, Nat.reduceEqDiff, reduceIte, Nat.reduceAdd, Nat.reduceMul, Nat.reduceSub, Nat.reduceLT, Nat.reduceLeDiff]
  refine hK1 _ ?_; clear hK1 K1
  refine xw_cut 3 [(0, (vi a0)), (1, (vi a1)), (19, (vb (((decide (a0 < 0)) || (decide (12 ≤ a0))) || (decide (a1 < 0)))))] (by (try simp only [go_sem]); rfl) (by (try simp only [go_sem]); rfl) (by rfl) (fun K1 hK1 => ?_) fun tz => ?_
  ·
   refine xw_id ?_
   rcases Bool.eq_false_or_eq_true ((decide (a0 < 0)) || (decide (12 ≤ a0))) with h2 | h2
   ·
    try simp only [go_sem, Nat.reduceEqDiff, reduceIte, Nat.reduceAdd, Nat.reduceMul, Nat.reduceSub, Nat.reduceLT, Nat.reduceLeDiff, h2]
    exact hK1 _ ⟨rfl, rfl, rfl, (by first | rfl | (rw [h2]; rfl) | (simp only [h2, Bool.true_and, Bool.false_and, Bool.true_or, Bool.false_or, cond_true, cond_false]; done)), trivial⟩
   ·
    try simp only [go_sem, Nat.reduceEqDiff, reduceIte, Nat.reduceAdd, Nat.reduceMul, Nat.reduceSub, Nat.reduceLT, Nat.reduceLeDiff, h2]
    exact hK1 _ ⟨rfl, rfl, rfl, (by first | rfl | (rw [h2]; rfl) | (simp only [h2, Bool.true_and, Bool.false_and, Bool.true_or, Bool.false_or, cond_true, cond_false]; done)), trivial⟩
  ·
   refine xw_id ?_
   refine xw_stop 1 (by (try simp only [go_sem]); rfl) (by (try simp only [go_sem]); rfl) (by rfl) fun K1 hK1 => ?_
   refine xw_id ?_
   try simp only [go_sem, Nat.reduceEqDiff, reduceIte, Nat.reduceAdd, Nat.reduceMul, Nat.reduceSub, Nat.reduceLT, Nat.reduceLeDiff]
   refine hK1 _ ?_; clear hK1 K1
   refine xw_cut 3 [(0, (vi a0)), (1, (vi a1)), (23, (vb ((((decide (a0 < 0)) || (decide (12 ≤ a0))) || (decide (a1 < 0))) || (decide (1000 < a1)))))] (by (try simp only [go_sem]); rfl) (by (try simp only [go_sem]); rfl) (by rfl) (fun K1 hK1 => ?_) fun tz => ?_
   ·
    refine xw_id ?_
    rcases Bool.eq_false_or_eq_true (((decide (a0 < 0)) || (decide (12 ≤ a0))) || (decide (a1 < 0))) with h3 | h3
    ·
     try simp only [go_sem, Nat.reduceEqDiff, reduceIte, Nat.reduceAdd, Nat.reduceMul, Nat.reduceSub, Nat.reduceLT, Nat.reduceLeDiff, h3]
     exact hK1 _ ⟨rfl, rfl, rfl, (by first | rfl | (rw [h3]; rfl) | (simp only [h3, Bool.true_and, Bool.false_and, Bool.true_or, Bool.false_or, cond_true, cond_false]; done)), trivial⟩
    ·
     try simp only [go_sem, Nat.reduceEqDiff, reduceIte, Nat.reduceAdd, Nat.reduceMul, Nat.reduceSub, Nat.reduceLT, Nat.reduceLeDiff, h3]
     exact hK1 _ ⟨rfl, rfl, rfl, (by first | rfl | (rw [h3]; rfl) | (simp only [h3, Bool.true_and, Bool.false_and, Bool.true_or, Bool.false_or, cond_true, cond_false]; done)), trivial⟩
   ·
    refine xw_id ?_
    try simp only [go_sem, Nat.reduceEqDiff, reduceIte, Nat.reduceAdd, Nat.reduceMul, Nat.reduceSub, Nat.reduceLT, Nat.reduceLeDiff]
    refine hKK _ _ (Wk.refl _ _ _) ?_; clear hKK KK
    refine awp_cond (b := ((((decide (a0 < 0)) || (decide (12 ≤ a0))) || (decide (a1 < 0))) || (decide (1000 < a1)))) rfl (fun h4 => ?_) (fun h4 => ?_)
    ·
     have h0 := cT h0 h4
     refine awp_assoc ?_
     refine awp_nr [] (fun _ => rfl) fun tz => ?_
     refine awp_regW fun KK hKK => ?_
     refine xw_id ?_
     try simp only [go_sem, Nat.reduceEqDiff, reduceIte, Nat.reduceAdd, Nat.reduceMul, Nat.reduceSub, Nat.reduceLT, Nat.reduceLeDiff]
     refine hKK _ _ (Wk.refl _ _ _) ?_; clear hKK KK
     refine awp_ret ?_
     obtain rfl := someInj h0
     refine endW_i ?_
     refine end_ret0 rs13 (rfl) ?_
     try simp only [go_sem, Nat.reduceEqDiff, reduceIte, Nat.reduceAdd, Nat.reduceMul, Nat.reduceSub, Nat.reduceLT, Nat.reduceLeDiff, fz, nilS, packR, List.take_nil, List.take_length, List.length_map, List.length_append, cond_true, cond_false, Nat.ble_eq, ble_self, List.map_append]
     all_goals rfl
    ·
     have h0 := cF h0 h4
     refine awp_skip ?_
     refine awp_assoc ?_
     refine awp_nr [0,1] (fun _ => rfl) fun tz => ?_
     refine awp_regW fun KK hKK => ?_
     refine xw_id ?_
     try simp only [go_sem, Nat.reduceEqDiff, reduceIte, Nat.reduceAdd, Nat.reduceMul, Nat.reduceSub, Nat.reduceLT, Nat.reduceLeDiff]
     refine hKK _ _ (Wk.refl _ _ _) ?_; clear hKK KK
     refine awp_cond (b := (a1 == 1000)) rfl (fun h5 => ?_) (fun h5 => ?_)
     ·
      have h0 := cT h0 h5
      refine awp_assoc ?_
      refine awp_nr [] (fun _ => rfl) fun tz => ?_
      refine awp_regW fun KK hKK => ?_
      refine xw_id ?_
      try simp only [go_sem, Nat.reduceEqDiff, reduceIte, Nat.reduceAdd, Nat.reduceMul, Nat.reduceSub, Nat.reduceLT, Nat.reduceLeDiff]
      refine hKK _ _ (Wk.refl _ _ _) ?_; clear hKK KK
      refine awp_ret ?_
      obtain rfl := someInj h0
      refine endW_i ?_
      refine end_ret0 rs13 (rfl) ?_
      try simp only [go_sem, Nat.reduceEqDiff, reduceIte, Nat.reduceAdd, Nat.reduceMul, Nat.reduceSub, Nat.reduceLT, Nat.reduceLeDiff, fz, nilS, packR, List.take_nil, List.take_length, List.length_map, List.length_append, cond_true, cond_false, Nat.ble_eq, ble_self, List.map_append]
      all_goals rfl
     ·
      have h0 := cF h0 h5
      refine awp_skip ?_
      refine awp_nr [0,1] (fun _ => rfl) fun tz => ?_
      refine awp_regW fun KK hKK => ?_
      refine xw_id ?_
      obtain ⟨x91, bx91, h0⟩ := bnd h0
      try simp only [go_sem, Nat.reduceEqDiff, reduceIte, Nat.reduceAdd, Nat.reduceMul, Nat.reduceSub, Nat.reduceLT, Nat.reduceLeDiff]
      refine xcall_p (hotspotref09_Total_p a0 1024 bx91) ?_; try dsimp only
      try refine xw_id ?_
      try simp only [go_sem, Nat.reduceEqDiff, reduceIte, Nat.reduceAdd, Nat.reduceMul, Nat.reduceSub, Nat.reduceLT, Nat.reduceLeDiff]
      refine hKK _ _ (Wk.refl _ _ _) ?_; clear hKK KK
      refine awp_nr [1,6] (fun _ => rfl) fun tz => ?_
      refine awp_regW fun KK hKK => ?_
      refine xw_id ?_
      try simp only [go_sem, Nat.reduceEqDiff, reduceIte, Nat.reduceAdd, Nat.reduceMul, Nat.reduceSub, Nat.reduceLT, Nat.reduceLeDiff]
      refine hKK _ _ (Wk.refl _ _ _) ?_; clear hKK KK
      refine awp_nr [1,8] (fun _ => rfl) fun tz => ?_
      refine awp_regW fun KK hKK => ?_
      refine xw_id ?_
      obtain ⟨x92, bx92, h0⟩ := bnd h0
      have bx92 := chk_some bx92
      simp only [Bool.and_eq_true, decide_eq_true_eq] at bx92
      have gx92_0 := bx92
      try simp only [go_sem, Nat.reduceEqDiff, reduceIte, Nat.reduceAdd, Nat.reduceMul, Nat.reduceSub, Nat.reduceLT, Nat.reduceLeDiff, gx92_0]
      refine hKK _ _ (Wk.refl _ _ _) ?_; clear hKK KK
      refine awp_assoc ?_
      refine awp_nr [1,8,9] (fun _ => rfl) fun tz => ?_
      refine awp_regW fun KK hKK => ?_
      refine xw_id ?_
      try simp only [go_sem, Nat.reduceEqDiff, reduceIte, Nat.reduceAdd, Nat.reduceMul, Nat.reduceSub, Nat.reduceLT, Nat.reduceLeDiff]
      refine hKK _ _ (Wk.refl _ _ _) ?_; clear hKK KK
      refine awp_cond (b := (decide ((IntKind.wrap .i64 ((IntKind.wrap .i64 (((IntKind.wrap .i64 ((IntKind.wrap .i64 (x91.1 * 100)) * 1000))).tdiv (IntKind.wrap .i64 (1000 - a1)))) * (IntKind.wrap .i64 (1000 - a1)))) < (IntKind.wrap .i64 ((IntKind.wrap .i64 (x91.1 * 100)) * 1000))))) rfl (fun h6 => ?_) (fun h6 => ?_)
      ·
       have h0 := cT h0 h6
       refine awp_nr [9] (fun _ => rfl) fun tz => ?_
       refine awp_regW fun KK hKK => ?_
       refine xw_id ?_
       try simp only [go_sem, Nat.reduceEqDiff, reduceIte, Nat.reduceAdd, Nat.reduceMul, Nat.reduceSub, Nat.reduceLT, Nat.reduceLeDiff]
       refine hKK _ _ (Wk.refl _ _ _) ?_; clear hKK KK
       refine awp_nr [9] (fun _ => rfl) fun tz => ?_
       refine awp_regW fun KK hKK => ?_
       refine xw_id ?_
       try simp only [go_sem, Nat.reduceEqDiff, reduceIte, Nat.reduceAdd, Nat.reduceMul, Nat.reduceSub, Nat.reduceLT, Nat.reduceLeDiff]
       refine hKK _ _ (Wk.refl _ _ _) ?_; clear hKK KK
       refine awp_ret1 ?_
       obtain rfl := someInj h0
       refine endW_i ?_
       refine end_ret0 rs13 (rfl) ?_
       try simp only [go_sem, Nat.reduceEqDiff, reduceIte, Nat.reduceAdd, Nat.reduceMul, Nat.reduceSub, Nat.reduceLT, Nat.reduceLeDiff, fz, nilS, packR, List.take_nil, List.take_length, List.length_map, List.length_append, cond_true, cond_false, Nat.ble_eq, ble_self, List.map_append]
       all_goals rfl
      ·
       have h0 := cF h0 h6
       refine awp_skip ?_
       refine awp_nr [9] (fun _ => rfl) fun tz => ?_
       refine awp_regW fun KK hKK => ?_
       refine xw_id ?_
       try simp only [go_sem, Nat.reduceEqDiff, reduceIte, Nat.reduceAdd, Nat.reduceMul, Nat.reduceSub, Nat.reduceLT, Nat.reduceLeDiff]
       refine hKK _ _ (Wk.refl _ _ _) ?_; clear hKK KK
       refine awp_ret1 ?_
       obtain rfl := someInj h0
       refine endW_i ?_
       refine end_ret0 rs13 (rfl) ?_
       try simp only [go_sem, Nat.reduceEqDiff, reduceIte, Nat.reduceAdd, Nat.reduceMul, Nat.reduceSub, Nat.reduceLT, Nat.reduceLeDiff, fz, nilS, packR, List.take_nil, List.take_length, List.length_map, List.length_append, cond_true, cond_false, Nat.ble_eq, ble_self, List.map_append]
       all_goals rfl

end Go.AX.Z.TM

/-! (TMW hotspotref38 Of) -/

set_option linter.unusedSimpArgs false
set_option linter.unusedVariables false
set_option maxHeartbeats 4000000
namespace Go.AX.Z.TM
open Go.AX Go.Proofs
attribute [local irreducible] awp xw xop xcall gsp ob xd xdop xcallD seqQ loopQ blkQ endQ

def hotspotref38_Of_S0 (d89 : Unit) : AS :=
 { objs := (fun _ => .dead), next := 0, tmps := (fun _ => .unk) }

def hotspotref38_Of_S1 (a0 : MetricTable) (a1 : Addr) (a2 : Int) (d91 : Int) : AS :=
 { objs := (upd (upd (fun _ => .dead) 0 (.live (e_MetricTable a0 (.imm (List.flatMap e_MetricLink a0.Links) a0.Links.length)))) 1 (.live (e_Addr a1))), next := 2, tmps := (upd (upd (upd (upd (fun _ => .unk) 2 (vi a2)) 3 (.ptr 0 0)) 4 (.ptr 1 0)) 9 (vi d91)) }

theorem hotspotref38_Of_p (a0 : MetricTable) (a1 : Addr) (a2 : Int) {r : (Int × Int)} (h0 : hotspotref38_Of a0 a1 a2 = some r) : SndP K 23 [(.agg (E_MetricTable a0)), (.agg (e_Addr a1)), (vi a2)] (.tup [(vi r.1), (vi r.2)]) := by
 refine SndP.of_walkW hC (Clean.tup (clean_cons (Clean.v _) (clean_cons (Clean.v _) clean_nil))) (clean_cons (Clean.agg (E_MetricTable_clean _)) (clean_cons (Clean.agg (e_Addr_clean _)) (clean_cons (Clean.v _) clean_nil))) (show K.P.funcs[23]? = some Try.f23 from Try.func23) rfl rfl (by decide +kernel) (Nat.le_of_ble_eq_true rfl) ?_
 unfold hotspotref38_Of at h0
 refine awp_nr [0,1,2] (fun _ => rfl) fun tz => ?_
 refine awp_regW fun KK hKK => ?_
 refine xw_id ?_
 try simp only [go_sem, Nat.reduceEqDiff, reduceIte, Nat.reduceAdd, Nat.reduceMul, Nat.reduceSub, Nat.reduceLT, Nat.reduceLeDiff]
 refine hKK _ _ (Wk.refl _ _ _) ?_; clear hKK KK
 refine awp_nr [2,3,4] (fun _ => rfl) fun tz => ?_
 refine awp_regW fun KK hKK => ?_
 refine xw_id ?_
 obtain ⟨x88, bx88, h0⟩ := bnd h0
 try simp only [go_sem, Nat.reduceEqDiff, reduceIte, Nat.reduceAdd, Nat.reduceMul, Nat.reduceSub, Nat.reduceLT, Nat.reduceLeDiff]
 refine xcall_p (hotspotref38_before_p a0 a2 bx88) ?_; try dsimp only
 try refine xw_id ?_
 try simp only [go_sem, Nat.reduceEqDiff, reduceIte, Nat.reduceAdd, Nat.reduceMul, Nat.reduceSub, Nat.reduceLT, Nat.reduceLeDiff]
 refine hKK _ _ (Wk.refl _ _ _) ?_; clear hKK KK
 refine awp_assoc ?_
 refine awp_nr [2,3,4,8] (fun _ => rfl) fun tz => ?_
 refine awp_regW fun KK hKK => ?_
 refine xw_id ?_
 try simp only [go_sem, Nat.reduceEqDiff, reduceIte, Nat.reduceAdd, Nat.reduceMul, Nat.reduceSub, Nat.reduceLT, Nat.reduceLeDiff]
 refine hKK _ _ (Wk.refl _ _ _) ?_; clear hKK KK
 refine awp_cond (b := (x88 != 0)) rfl (fun h1 => ?_) (fun h1 => ?_)
 ·
  have h0 := cT h0 h1
  refine awp_assoc ?_
  refine awp_nr [8] (fun _ => rfl) fun tz => ?_
  refine awp_regW fun KK hKK => ?_
  refine xw_id ?_
  try simp only [go_sem, Nat.reduceEqDiff, reduceIte, Nat.reduceAdd, Nat.reduceMul, Nat.reduceSub, Nat.reduceLT, Nat.reduceLeDiff]
  refine hKK _ _ (Wk.refl _ _ _) ?_; clear hKK KK
  refine awp_ret ?_
  obtain rfl := someInj h0
  refine endW_i ?_
  refine end_ret0 rs23 (rfl) ?_
  try simp only [go_sem, Nat.reduceEqDiff, reduceIte, Nat.reduceAdd, Nat.reduceMul, Nat.reduceSub, Nat.reduceLT, Nat.reduceLeDiff, fz, nilS, packR, List.take_nil, List.take_length, List.length_map, List.length_append, cond_true, cond_false, Nat.ble_eq, ble_self, List.map_append]
  all_goals rfl
 ·
  have h0 := cF h0 h1
  refine awp_skip ?_
  refine awp_assoc ?_
  refine awp_nr [2,3,4] (fun _ => rfl) fun tz => ?_
  refine awp_regW fun KK hKK => ?_
  refine xw_id ?_
  try simp only [go_sem, Nat.reduceEqDiff, reduceIte, Nat.reduceAdd, Nat.reduceMul, Nat.reduceSub, Nat.reduceLT, Nat.reduceLeDiff]
  refine hKK _ _ (Wk.refl _ _ _) ?_; clear hKK KK
  obtain ⟨o90, hi2, h0⟩ := bnd h0
  refine awp_cut (fun d89 : Unit => o90 = Ex.go d89) (fun d89 : Unit => hotspotref38_Of_S0 d89) ?_ ?_
  ·
   refine awp_block1 ?_
   refine awp_loopS (fun n (d91 : Int) => hotspotref38_Of_L2 a0 a1 a2 n d91 = some o90) (fun d91 : Int => hotspotref38_Of_S1 a0 a1 a2 d91) big 0 (Wk.canonD [] [] [some 0, some 1] rfl trivial rfl (tmOU 1 (tmOU 0 tmO0 rfl List.not_mem_nil (by simp only [upd_get, Nat.reduceEqDiff, reduceIte, Nat.reduceAdd, Nat.reduceMul, Nat.reduceSub, Nat.reduceLT, Nat.reduceLeDiff, if_true, if_false] <;> rfl) (e_MetricTable_tmx (by rfl) (Tm.clean (Clean.imm (c_MetricLink _))))) rfl List.not_mem_nil (by simp only [upd_get, Nat.reduceEqDiff, reduceIte, Nat.reduceAdd, Nat.reduceMul, Nat.reduceSub, Nat.reduceLT, Nat.reduceLeDiff, if_true, if_false] <;> rfl) (TmL.clean (e_Addr_clean _))) (tmAllU 9 (tmAllU 4 (tmAllU 3 (tmAllU 2 tmAll0 (Tm.v _)) (Tm.ptr rfl)) (Tm.ptr rfl)) (Tm.v _))) hi2 ?_
   clear hi2
   rintro n d91 hl4
   rcases n with _ | n3
   ·
    (rw [hotspotref38_Of_L2] at hl4; cases hl4)
   ·
    rw [hotspotref38_Of_L2] at hl4
    unfold hotspotref38_Of_S1
    refine awp_assoc ?_
    refine awp_nr [2,3,4,9] (fun _ => rfl) fun tz => ?_
    refine awp_regW fun KK hKK => ?_
    refine xw_id ?_
    try simp only [go_sem, Nat.reduceEqDiff, reduceIte, Nat.reduceAdd, Nat.reduceMul, Nat.reduceSub, Nat.reduceLT, Nat.reduceLeDiff, Int.reduceToNat, Int.reduceBEq, Int.reduceBNe, Int.reduceLT, Int.reduceLE, Int.reduceAdd, Int.reduceSub, Int.reduceMul, Int.reduceNeg, Int.reduceEq, Int.reduceNe]
    refine hKK _ _ (Wk.refl _ _ _) ?_; clear hKK KK
    refine awp_cond (b := (decide (d91 < (a0.Links.length : Int)))) rfl (fun h5 => ?_) (fun h5 => ?_)
    ·
     have hl4 := cT hl4 h5
     refine awp_skip ?_
     refine awp_blockW ?_
     refine awp_nr [2,3,4,9] (fun _ => rfl) fun tz => ?_
     refine awp_regW fun KK hKK => ?_
     refine xw_id ?_
     obtain ⟨x92, bx92, hl4⟩ := bnd hl4
     obtain ⟨fx92_0, fx92_1, fx92_2, fx92_3⟩ := idx_some bx92
     try simp only [go_sem, Nat.reduceEqDiff, reduceIte, Nat.reduceAdd, Nat.reduceMul, Nat.reduceSub, Nat.reduceLT, Nat.reduceLeDiff, fx92_0, fx92_1, fx92_2]
     refine hKK _ _ (Wk.refl _ _ _) ?_; clear hKK KK
     refine awp_nr [2,3,4,9,10] (fun _ => rfl) fun tz => ?_
     refine awp_regW fun KK hKK => ?_
     refine xw_id ?_
     refine xw_stop 5 (by (try simp only [go_sem]); rfl) (by (try simp only [go_sem]); rfl) (by rfl) fun K1 hK1 => ?_
     refine xw_id ?_
     try simp only [go_sem, Nat.reduceEqDiff, reduceIte, Nat.reduceAdd, Nat.reduceMul, Nat.reduceSub, Nat.reduceLT, Nat.reduceLeDiff, fx92_0, fx92_1, fx92_2]
     refine hK1 _ ?_; clear hK1 K1
     refine xw_cut 6 [(2, (vi a2)), (3, (.ptr 0 0)), (4, (.ptr 1 0)), (9, (vi d91)), (10, (.ptr 12 0)), (41, (vb ((decide (x92.Peer = a1)) && (decide (a2 ≤ (IntKind.wrap .i64 (x92.Heard + 5000000)))))))] (by (try simp only [go_sem]); rfl) (by (try simp only [go_sem]); rfl) (by rfl) (fun K1 hK1 => ?_) fun tz => ?_
     ·
      refine xw_id ?_
      rcases Bool.eq_false_or_eq_true (decide (x92.Peer = a1)) with h6 | h6
      ·
       try simp only [go_sem, Nat.reduceEqDiff, reduceIte, Nat.reduceAdd, Nat.reduceMul, Nat.reduceSub, Nat.reduceLT, Nat.reduceLeDiff, fx92_0, fx92_1, fx92_2, h6]
       exact hK1 _ ⟨rfl, rfl, rfl, rfl, rfl, rfl, (by first | rfl | (rw [h6]; rfl) | (simp only [h6, Bool.true_and, Bool.false_and, Bool.true_or, Bool.false_or, cond_true, cond_false]; done)), trivial⟩
      ·
       try simp only [go_sem, Nat.reduceEqDiff, reduceIte, Nat.reduceAdd, Nat.reduceMul, Nat.reduceSub, Nat.reduceLT, Nat.reduceLeDiff, fx92_0, fx92_1, fx92_2, h6]
       exact hK1 _ ⟨rfl, rfl, rfl, rfl, rfl, rfl, (by first | rfl | (rw [h6]; rfl) | (simp only [h6, Bool.true_and, Bool.false_and, Bool.true_or, Bool.false_or, cond_true, cond_false]; done)), trivial⟩
     ·
      refine xw_id ?_
      try simp only [go_sem, Nat.reduceEqDiff, reduceIte, Nat.reduceAdd, Nat.reduceMul, Nat.reduceSub, Nat.reduceLT, Nat.reduceLeDiff, fx92_0, fx92_1, fx92_2]
      refine hKK _ _ (Wk.refl _ _ _) ?_; clear hKK KK
      refine awp_cond1 (b := ((decide (x92.Peer = a1)) && (decide (a2 ≤ (IntKind.wrap .i64 (x92.Heard + 5000000)))))) rfl (fun h7 => ?_) (fun h7 => ?_)
      ·
       have hl4 := cT hl4 h7
       refine awp_nr [10] (fun _ => rfl) fun tz => ?_
       refine awp_regW fun KK hKK => ?_
       refine xw_id ?_
       obtain ⟨x93, bx93, hl4⟩ := bnd hl4
       try simp only [go_sem, Nat.reduceEqDiff, reduceIte, Nat.reduceAdd, Nat.reduceMul, Nat.reduceSub, Nat.reduceLT, Nat.reduceLeDiff, fx92_0, fx92_1, fx92_2]
       refine xcall_p (hotspotref38_Cost_p x92.Rate x92.Loss bx93) ?_; try dsimp only
       try refine xw_id ?_
       try simp only [go_sem, Nat.reduceEqDiff, reduceIte, Nat.reduceAdd, Nat.reduceMul, Nat.reduceSub, Nat.reduceLT, Nat.reduceLeDiff, fx92_0, fx92_1, fx92_2]
       refine hKK _ _ (Wk.refl _ _ _) ?_; clear hKK KK
       refine awp_nr [11,12] (fun _ => rfl) fun tz => ?_
       refine awp_regW fun KK hKK => ?_
       refine xw_id ?_
       try simp only [go_sem, Nat.reduceEqDiff, reduceIte, Nat.reduceAdd, Nat.reduceMul, Nat.reduceSub, Nat.reduceLT, Nat.reduceLeDiff, fx92_0, fx92_1, fx92_2]
       refine hKK _ _ (Wk.refl _ _ _) ?_; clear hKK KK
       refine awp_ret1 ?_
       refine bq_r ?_
       refine sq_r ?_
       refine lq_r ?_
       refine bq_r ?_
       refine sq_r ?_
       obtain rfl := someInj hl4
       obtain rfl := Ex.k_ret h0
       refine endW_i ?_
       refine end_ret0 rs23 (rfl) ?_
       try simp only [go_sem, Nat.reduceEqDiff, reduceIte, Nat.reduceAdd, Nat.reduceMul, Nat.reduceSub, Nat.reduceLT, Nat.reduceLeDiff, fz, nilS, packR, List.take_nil, List.take_length, List.length_map, List.length_append, cond_true, cond_false, Nat.ble_eq, ble_self, List.map_append]
       all_goals rfl
      ·
       have hl4 := cF hl4 h7
       refine awp_skip1 ?_
       refine bq_n ?_
       refine seqW_i ?_
       refine awp_nr1 [2,3,4,9] (fun _ => rfl) fun tz => ?_
       refine awp_reg1 fun KK hKK => ?_
       refine xw_id ?_
       try simp only [go_sem, Nat.reduceEqDiff, reduceIte, Nat.reduceAdd, Nat.reduceMul, Nat.reduceSub, Nat.reduceLT, Nat.reduceLeDiff, fx92_0, fx92_1, fx92_2]
       refine hKK _ ?_; clear hKK KK
       refine lq_n ?_
       exact ⟨n3, IntKind.wrap .i64 (d91 + 1), rfl, hl4, (Wk.canonD [] [] [some 0, some 1] rfl trivial rfl (tmOU 1 (tmOU 0 tmO0 rfl List.not_mem_nil (by simp only [upd_get, Nat.reduceEqDiff, reduceIte, Nat.reduceAdd, Nat.reduceMul, Nat.reduceSub, Nat.reduceLT, Nat.reduceLeDiff, if_true, if_false] <;> rfl) (e_MetricTable_tmx (by rfl) (Tm.clean (Clean.imm (c_MetricLink _))))) rfl List.not_mem_nil (by simp only [upd_get, Nat.reduceEqDiff, reduceIte, Nat.reduceAdd, Nat.reduceMul, Nat.reduceSub, Nat.reduceLT, Nat.reduceLeDiff, if_true, if_false] <;> rfl) (TmL.clean (e_Addr_clean _))) (tmAllU 9 (tmAllU 4 (tmAllU 3 (tmAllU 2 tmAll0 (Tm.v _)) (Tm.ptr rfl)) (Tm.ptr rfl)) (Tm.v _)))⟩
    ·
     have hl4 := cF hl4 h5
     refine awp_exit ?_
     refine lq_e ?_
     refine bq_e ?_
     refine sq_n ?_
     obtain rfl := someInj hl4
     exact ⟨_, rfl, (Wk.canonD [] [] [] rfl trivial rfl tmO0 tmAll0)⟩
  ·
   rintro d89 rfl
   have h0 := Ex.k_go h0
   clear hi2
   unfold hotspotref38_Of_S0
   refine awp_nr [] (fun _ => rfl) fun tz => ?_
   refine awp_regW fun KK hKK => ?_
   refine xw_id ?_
   try simp only [go_sem, Nat.reduceEqDiff, reduceIte, Nat.reduceAdd, Nat.reduceMul, Nat.reduceSub, Nat.reduceLT, Nat.reduceLeDiff]
   refine hKK _ _ (Wk.refl _ _ _) ?_; clear hKK KK
   refine awp_ret1 ?_
   obtain rfl := someInj h0
   refine endW_i ?_
   refine end_ret0 rs23 (rfl) ?_
   try simp only [go_sem, Nat.reduceEqDiff, reduceIte, Nat.reduceAdd, Nat.reduceMul, Nat.reduceSub, Nat.reduceLT, Nat.reduceLeDiff, fz, nilS, packR, List.take_nil, List.take_length, List.length_map, List.length_append, cond_true, cond_false, Nat.ble_eq, ble_self, List.map_append]
   all_goals rfl

end Go.AX.Z.TM

/-! (TMW hotspotref38 Age) -/

set_option linter.unusedSimpArgs false
set_option linter.unusedVariables false
set_option maxHeartbeats 4000000
namespace Go.AX.Z.TM
open Go.AX Go.Proofs
attribute [local irreducible] awp xw xop xcall gsp ob xd xdop xcallD seqQ loopQ blkQ endQ

def hotspotref38_Age_S0 (a0 : MetricTable) (a1 : Int) : AS :=
 { objs := (upd (upd (upd (fun _ => .dead) 0 (.live (e_MetricTable a0 (.imm (List.flatMap e_MetricLink a0.Links) a0.Links.length)))) 1 (.live (e_MetricTable MetricTable.z vnil))) 2 (.live (e_MetricTable MetricTable.z vnil))), next := 3, tmps := (upd (upd (upd (upd (fun _ => .unk) 1 (vi a1)) 2 (.ptr 0 0)) 4 (.ptr 1 0)) 8 (.ptr 2 0)) }

def hotspotref38_Age_S1 (d97 : (MetricTable × List MetricLink × List Addr)) : AS :=
 { objs := (upd (upd (upd (upd (fun _ => .dead) 0 (.live (e_MetricTable MetricTable.z vnil))) 1 (.live (e_MetricTable d97.1 (.ref 2 0 ((d97.2.1).length) 9)))) 2 (.live (List.flatMap e_MetricLink d97.2.1))) 3 (.live (List.flatMap e_Addr d97.2.2))), next := 4, tmps := (upd (upd (upd (fun _ => .unk) 4 (.ptr 0 0)) 8 (.ptr 1 0)) 9 (.ref 3 0 ((d97.2.2).length) 6)) }

def hotspotref38_Age_S2 (a0 : MetricTable) (a1 : Int) (d98 : (MetricTable × List MetricLink × List Addr × Int)) : AS :=
 { objs := (upd (upd (upd (upd (upd (fun _ => .dead) 0 (.live (e_MetricTable a0 (.imm (List.flatMap e_MetricLink a0.Links) a0.Links.length)))) 1 (.live (e_MetricTable MetricTable.z vnil))) 2 (.live (e_MetricTable d98.1 (.ref 3 0 ((d98.2.1).length) 9)))) 3 (.live (List.flatMap e_MetricLink d98.2.1))) 4 (.live (List.flatMap e_Addr d98.2.2.1))), next := 5, tmps := (upd (upd (upd (upd (upd (upd (fun _ => .unk) 1 (vi a1)) 2 (.ptr 0 0)) 4 (.ptr 1 0)) 8 (.ptr 2 0)) 9 (.ref 4 0 ((d98.2.2.1).length) 6)) 10 (vi d98.2.2.2)) }

theorem hotspotref38_Age_r (a0 : MetricTable) (a1 : Int) {r : (MetricTable × (List Addr) × Int)} (h0 : hotspotref38_Age a0 a1 = some r) : SndR K 25 [(.agg (E_MetricTable a0)), (vi a1)] (fun q => (.tup [(.agg (e_MetricTable r.1 (.ref (q 0) 0 r.1.Links.length 9))), (.ref (q 1) 0 r.2.1.length 6), (vi r.2.2)])) [(List.flatMap e_MetricLink r.1.Links), (List.flatMap e_Addr r.2.1)] := by
 refine SndR.of_walkW hC (show K.P.funcs[25]? = some Try.f25 from Try.func25) rfl rfl (by decide +kernel) (Nat.le_of_ble_eq_true rfl) ?_
 unfold hotspotref38_Age at h0
 refine awp_nr [0,1] (fun _ => rfl) fun tz => ?_
 refine awp_regW fun KK hKK => ?_
 refine xw_id ?_
 try simp only [go_sem, Nat.reduceEqDiff, reduceIte, Nat.reduceAdd, Nat.reduceMul, Nat.reduceSub, Nat.reduceLT, Nat.reduceLeDiff]
 refine hKK _ _ (Wk.refl _ _ _) ?_; clear hKK KK
 refine awp_nr [1,2,4] (fun _ => rfl) fun tz => ?_
 refine awp_regW fun KK hKK => ?_
 refine xw_id ?_
 obtain ⟨x96, bx96, h0⟩ := bnd h0
 try simp only [go_sem, Nat.reduceEqDiff, reduceIte, Nat.reduceAdd, Nat.reduceMul, Nat.reduceSub, Nat.reduceLT, Nat.reduceLeDiff]
 refine xcall_p (hotspotref38_before_p a0 a1 bx96) ?_; try dsimp only
 try refine xw_id ?_
 try simp only [go_sem, Nat.reduceEqDiff, reduceIte, Nat.reduceAdd, Nat.reduceMul, Nat.reduceSub, Nat.reduceLT, Nat.reduceLeDiff]
 refine hKK _ _ (Wk.refl _ _ _) ?_; clear hKK KK
 refine awp_assoc ?_
 refine awp_nr [1,2,4,7] (fun _ => rfl) fun tz => ?_
 refine awp_regW fun KK hKK => ?_
 refine xw_id ?_
 try simp only [go_sem, Nat.reduceEqDiff, reduceIte, Nat.reduceAdd, Nat.reduceMul, Nat.reduceSub, Nat.reduceLT, Nat.reduceLeDiff]
 refine hKK _ _ (Wk.refl _ _ _) ?_; clear hKK KK
 refine awp_cond (b := (x96 != 0)) rfl (fun h1 => ?_) (fun h1 => ?_)
 ·
  have h0 := cT h0 h1
  refine awp_assoc ?_
  refine awp_nr [4,7] (fun _ => rfl) fun tz => ?_
  refine awp_regW fun KK hKK => ?_
  refine xw_id ?_
  try simp only [go_sem, Nat.reduceEqDiff, reduceIte, Nat.reduceAdd, Nat.reduceMul, Nat.reduceSub, Nat.reduceLT, Nat.reduceLeDiff]
  refine hKK _ _ (Wk.refl _ _ _) ?_; clear hKK KK
  refine awp_ret ?_
  obtain rfl := someInj h0
  refine endW_i ?_
  refine end_ret0 rs25 (by simp only [go_sem, resV, resAll, resOf, packR, Nat.reduceEqDiff, reduceIte, Nat.reduceAdd, Nat.reduceMul, Nat.reduceSub, Nat.reduceLT, Nat.reduceLeDiff]; rfl) ?_
  refine Res.mk [] [none, none] rfl (resON (resON resO0)) (Tm.tup (TmL.cons (Tm.agg (e_MetricTable_tmx (by rfl) (Tm.thaw _ _ _))) (TmL.cons (Tm.thaw _ _ _) (TmL.cons (Tm.v _) TmL.nil))))
 ·
  have h0 := cF h0 h1
  refine awp_skip ?_
  refine awp_nr [1,2,4] (fun _ => rfl) fun tz => ?_
  refine awp_regW fun KK hKK => ?_
  refine xw_id ?_
  try simp only [go_sem, Nat.reduceEqDiff, reduceIte, Nat.reduceAdd, Nat.reduceMul, Nat.reduceSub, Nat.reduceLT, Nat.reduceLeDiff]
  refine hKK _ (hotspotref38_Age_S0 a0 a1) (Wk.canonD [] [] [some 0, some 1, some 10] rfl trivial rfl (tmOU 2 (tmOU 1 (tmOU 0 tmO0 rfl List.not_mem_nil (by simp only [upd_get, Nat.reduceEqDiff, reduceIte, Nat.reduceAdd, Nat.reduceMul, Nat.reduceSub, Nat.reduceLT, Nat.reduceLeDiff, if_true, if_false] <;> rfl) (e_MetricTable_tmx (by rfl) (Tm.clean (Clean.imm (c_MetricLink _))))) rfl List.not_mem_nil (by simp only [upd_get, Nat.reduceEqDiff, reduceIte, Nat.reduceAdd, Nat.reduceMul, Nat.reduceSub, Nat.reduceLT, Nat.reduceLeDiff, if_true, if_false] <;> rfl) (e_MetricTable_tmx (by rfl) (Tm.v _))) rfl List.not_mem_nil (by simp only [upd_get, Nat.reduceEqDiff, reduceIte, Nat.reduceAdd, Nat.reduceMul, Nat.reduceSub, Nat.reduceLT, Nat.reduceLeDiff, if_true, if_false] <;> rfl) (e_MetricTable_tmx (by rfl) (Tm.v _))) (tmAllU 8 (tmAllU 4 (tmAllU 2 (tmAllU 1 tmAll0 (Tm.v _)) (Tm.ptr rfl)) (Tm.ptr rfl)) (Tm.ptr rfl))) ?_; clear hKK KK
  unfold hotspotref38_Age_S0
  refine awp_nr [1,2,4,8] (fun _ => rfl) fun tz => ?_
  refine awp_regW fun KK hKK => ?_
  refine xw_id ?_
  try simp only [go_sem, Nat.reduceEqDiff, reduceIte, Nat.reduceAdd, Nat.reduceMul, Nat.reduceSub, Nat.reduceLT, Nat.reduceLeDiff]
  refine hKK _ _ (Wk.refl _ _ _) ?_; clear hKK KK
  refine awp_assoc ?_
  refine awp_nr [1,2,4,8,9] (fun _ => rfl) fun tz => ?_
  refine awp_regW fun KK hKK => ?_
  refine xw_id ?_
  try simp only [go_sem, Nat.reduceEqDiff, reduceIte, Nat.reduceAdd, Nat.reduceMul, Nat.reduceSub, Nat.reduceLT, Nat.reduceLeDiff]
  refine hKK _ _ (Wk.refl _ _ _) ?_; clear hKK KK
  obtain ⟨d97, hi2, h0⟩ := bnd h0
  refine awp_cut (fun z => d97 = z) (fun d97 : (MetricTable × List MetricLink × List Addr) => hotspotref38_Age_S1 d97) ?_ ?_
  ·
   refine awp_block1 ?_
   refine awp_loopS (fun n (d98 : (MetricTable × List MetricLink × List Addr × Int)) => hotspotref38_Age_L3 a0 a1 n d98 = some d97) (fun d98 : (MetricTable × List MetricLink × List Addr × Int) => hotspotref38_Age_S2 a0 a1 d98) big (MetricTable.z, [], [], 0) (Wk.canonD [] [] [some 0, some 1, some 2, none, none] rfl trivial rfl (tmON 4 (tmON 3 (tmOU 2 (tmOU 1 (tmOU 0 tmO0 rfl List.not_mem_nil (by simp only [upd_get, Nat.reduceEqDiff, reduceIte, Nat.reduceAdd, Nat.reduceMul, Nat.reduceSub, Nat.reduceLT, Nat.reduceLeDiff, if_true, if_false] <;> rfl) (e_MetricTable_tmx (by rfl) (Tm.clean (Clean.imm (c_MetricLink _))))) rfl List.not_mem_nil (by simp only [upd_get, Nat.reduceEqDiff, reduceIte, Nat.reduceAdd, Nat.reduceMul, Nat.reduceSub, Nat.reduceLT, Nat.reduceLeDiff, if_true, if_false] <;> rfl) (e_MetricTable_tmx (by rfl) (Tm.v _))) rfl List.not_mem_nil (by simp only [upd_get, Nat.reduceEqDiff, reduceIte, Nat.reduceAdd, Nat.reduceMul, Nat.reduceSub, Nat.reduceLT, Nat.reduceLeDiff, if_true, if_false] <;> rfl) (e_MetricTable_tmx (by rfl) (Tm.thaw _ _ _))) rfl) rfl) (tmAllU 10 (tmAllU 9 (tmAllU 8 (tmAllU 4 (tmAllU 2 (tmAllU 1 tmAll0 (Tm.v _)) (Tm.ptr rfl)) (Tm.ptr rfl)) (Tm.ptr rfl)) (Tm.thaw _ _ _)) (Tm.v _))) hi2 ?_
   clear hi2
   rintro n d98 hl4
   rcases n with _ | n3
   ·
    (rw [hotspotref38_Age_L3] at hl4; cases hl4)
   ·
    rw [hotspotref38_Age_L3] at hl4
    unfold hotspotref38_Age_S2
    refine awp_assoc ?_
    refine awp_nr [1,2,4,8,9,10] (fun _ => rfl) fun tz => ?_
    refine awp_regW fun KK hKK => ?_
    refine xw_id ?_
    try simp only [go_sem, Nat.reduceEqDiff, reduceIte, Nat.reduceAdd, Nat.reduceMul, Nat.reduceSub, Nat.reduceLT, Nat.reduceLeDiff, Int.reduceToNat, Int.reduceBEq, Int.reduceBNe, Int.reduceLT, Int.reduceLE, Int.reduceAdd, Int.reduceSub, Int.reduceMul, Int.reduceNeg, Int.reduceEq, Int.reduceNe]
    refine hKK _ _ (Wk.refl _ _ _) ?_; clear hKK KK
    refine awp_cond (b := (decide (d98.2.2.2 < (a0.Links.length : Int)))) rfl (fun h5 => ?_) (fun h5 => ?_)
    ·
     have hl4 := cT hl4 h5
     refine awp_skip ?_
     refine awp_blockW ?_
     refine awp_nr [1,2,4,8,9,10] (fun _ => rfl) fun tz => ?_
     refine awp_regW fun KK hKK => ?_
     refine xw_id ?_
     obtain ⟨x99, bx99, hl4⟩ := bnd hl4
     obtain ⟨fx99_0, fx99_1, fx99_2, fx99_3⟩ := idx_some bx99
     try simp only [go_sem, Nat.reduceEqDiff, reduceIte, Nat.reduceAdd, Nat.reduceMul, Nat.reduceSub, Nat.reduceLT, Nat.reduceLeDiff, fx99_0, fx99_1, fx99_2]
     refine hKK _ _ (Wk.refl _ _ _) ?_; clear hKK KK
     refine awp_cond1 (b := (decide ((IntKind.wrap .i64 (x99.Heard + 5000000)) < a1))) rfl (fun h6 => ?_) (fun h6 => ?_)
     ·
      have hl4 := cT hl4 h6
      refine awp_nr1 [1,2,4,8,9,10] (fun _ => rfl) fun tz => ?_
      refine awp_reg1 fun KK hKK => ?_
      refine xw_id ?_
      obtain ⟨x100, bx100, hl4⟩ := bnd hl4
      have bx100 := chk_some bx100
      simp only [Bool.and_eq_true, decide_eq_true_eq] at bx100
      have gx100_0 := bx100
      try simp only [go_sem, Nat.reduceEqDiff, reduceIte, Nat.reduceAdd, Nat.reduceMul, Nat.reduceSub, Nat.reduceLT, Nat.reduceLeDiff, Int.reduceToNat, Int.reduceBEq, Int.reduceBNe, Int.reduceLT, Int.reduceLE, Int.reduceAdd, Int.reduceSub, Int.reduceMul, Int.reduceNeg, Int.reduceEq, Int.reduceNe, fx99_0, fx99_1, fx99_2, gx100_0]
      refine hKK _ ?_; clear hKK KK
      refine bq_n ?_
      refine seqW_i ?_
      refine awp_nr1 [1,2,4,8,9,10] (fun _ => rfl) fun tz => ?_
      refine awp_reg1 fun KK hKK => ?_
      refine xw_id ?_
      try simp only [go_sem, Nat.reduceEqDiff, reduceIte, Nat.reduceAdd, Nat.reduceMul, Nat.reduceSub, Nat.reduceLT, Nat.reduceLeDiff, fx99_0, fx99_1, fx99_2]
      refine hKK _ ?_; clear hKK KK
      refine lq_n ?_
      exact ⟨n3, (d98.1, d98.2.1, (d98.2.2.1 ++ [x99.Peer]), IntKind.wrap .i64 (d98.2.2.2 + 1)), rfl, hl4, (by refine Wk.canonD [] [] [some 0, some 1, some 2, some 3, some 27] rfl trivial rfl (tmOU 4 (tmOU 3 (tmOU 2 (tmOU 1 (tmOU 0 tmO0 rfl List.not_mem_nil (by simp only [upd_get, Nat.reduceEqDiff, reduceIte, Nat.reduceAdd, Nat.reduceMul, Nat.reduceSub, Nat.reduceLT, Nat.reduceLeDiff, if_true, if_false] <;> rfl) (e_MetricTable_tmx (by rfl) (Tm.clean (Clean.imm (c_MetricLink _))))) rfl List.not_mem_nil (by simp only [upd_get, Nat.reduceEqDiff, reduceIte, Nat.reduceAdd, Nat.reduceMul, Nat.reduceSub, Nat.reduceLT, Nat.reduceLeDiff, if_true, if_false] <;> rfl) (e_MetricTable_tmx (by rfl) (Tm.v _))) rfl List.not_mem_nil (by simp only [upd_get, Nat.reduceEqDiff, reduceIte, Nat.reduceAdd, Nat.reduceMul, Nat.reduceSub, Nat.reduceLT, Nat.reduceLeDiff, if_true, if_false] <;> rfl) (e_MetricTable_tmx (by rfl) (Tm.refL rfl ?_))) rfl List.not_mem_nil (by simp only [upd_get, Nat.reduceEqDiff, reduceIte, Nat.reduceAdd, Nat.reduceMul, Nat.reduceSub, Nat.reduceLT, Nat.reduceLeDiff, if_true, if_false] <;> rfl) (TmL.of_eq (by first | rfl | (simp only [List.flatMap_append, List.flatMap_cons, List.flatMap_nil, List.map_append, List.map_cons, List.map_nil, List.append_nil, List.nil_append]; done) | (simp only [List.flatMap_append, List.flatMap_cons, List.flatMap_nil, List.map_append, List.map_cons, List.map_nil, List.append_nil, List.nil_append]; rfl)) (c_MetricLink _))) rfl List.not_mem_nil (by simp only [upd_get, Nat.reduceEqDiff, reduceIte, Nat.reduceAdd, Nat.reduceMul, Nat.reduceSub, Nat.reduceLT, Nat.reduceLeDiff, if_true, if_false] <;> rfl) (TmL.of_eq (by first | rfl | (simp only [List.flatMap_append, List.flatMap_cons, List.flatMap_nil, List.map_append, List.map_cons, List.map_nil, List.append_nil, List.nil_append]; done) | (simp only [List.flatMap_append, List.flatMap_cons, List.flatMap_nil, List.map_append, List.map_cons, List.map_nil, List.append_nil, List.nil_append]; rfl)) (c_Addr _))) (tmAllU 10 (tmAllU 9 (tmAllU 8 (tmAllU 4 (tmAllU 2 (tmAllU 1 tmAll0 (Tm.v _)) (Tm.ptr rfl)) (Tm.ptr rfl)) (Tm.ptr rfl)) (Tm.refL rfl ?_)) (Tm.v _)); all_goals (first | rfl | (simp only [List.length_take]; omega) | (simp only [List.length_append, List.length_cons, List.length_nil, List.length_modify, List.length_set, Nat.zero_add]; done) | (simp only [List.length_append, List.length_take, List.length_drop, List.length_cons, List.length_nil, List.length_modify, List.length_set, Nat.zero_add]; omega)))⟩
     ·
      have hl4 := cF hl4 h6
      refine awp_nr1 [1,2,4,8,9,10] (fun _ => rfl) fun tz => ?_
      refine awp_regD1 fun KK hKK all hall => ?_
      refine xd_id ?_
      try simp only [List.toList_toArray, List.map_cons, List.map_nil, List.size_toArray, List.length_cons, List.length_nil, Nat.zero_add]
      try simp only [Nat.reduceAdd]
      obtain ⟨x101, bx101, hl4⟩ := bnd hl4
      have bx101 := chk_some bx101
      simp only [Bool.and_eq_true, decide_eq_true_eq] at bx101
      have gx101_0 := bx101
      simp only [go_sem, Nat.reduceEqDiff, reduceIte, Nat.reduceMul, Nat.reduceSub, Nat.reduceLT, Nat.reduceLeDiff, Int.reduceToNat, Int.reduceBEq, Int.reduceBNe, Int.reduceLT, Int.reduceLE, Int.reduceAdd, Int.reduceSub, Int.reduceMul, Int.reduceNeg, Int.reduceEq, Int.reduceNe, fx99_0, fx99_1, fx99_2, gx101_0]
      try simp only [Nat.reduceAdd]
      try simp only [go_sem, Nat.reduceEqDiff, reduceIte, Nat.reduceMul, Nat.reduceSub, Nat.reduceLT, Nat.reduceLeDiff, Int.reduceToNat, Int.reduceBEq, Int.reduceBNe, Int.reduceLT, Int.reduceLE, Int.reduceAdd, Int.reduceSub, Int.reduceMul, Int.reduceNeg, Int.reduceEq, Int.reduceNe, fx99_0, fx99_1, fx99_2, gx101_0]
      try simp only [Nat.reduceAdd]
      try simp only [go_sem, Nat.reduceEqDiff, reduceIte, Nat.reduceMul, Nat.reduceSub, Nat.reduceLT, Nat.reduceLeDiff, Int.reduceToNat, Int.reduceBEq, Int.reduceBNe, Int.reduceLT, Int.reduceLE, Int.reduceAdd, Int.reduceSub, Int.reduceMul, Int.reduceNeg, Int.reduceEq, Int.reduceNe, fx99_0, fx99_1, fx99_2, gx101_0]
      refine And.intro ?_ (hKK _ ?_)
      ·
       subst hall
       clear hKK KK
       first | (simp [printsOk, apartP, clash, meet]; done) | (simp [printsOk, apartP, clash, meet]; decide +kernel) | decide +kernel
      ·
       clear hKK KK hall all
       refine bq_n ?_
       refine seqW_i ?_
       refine awp_nr1 [1,2,4,8,9,10] (fun _ => rfl) fun tz => ?_
       refine awp_reg1 fun KK hKK => ?_
       refine xw_id ?_
       try simp only [go_sem, Nat.reduceEqDiff, reduceIte, Nat.reduceAdd, Nat.reduceMul, Nat.reduceSub, Nat.reduceLT, Nat.reduceLeDiff, fx99_0, fx99_1, fx99_2]
       refine hKK _ ?_; clear hKK KK
       refine lq_n ?_
       exact ⟨n3, (d98.1, (d98.2.1 ++ [x99]), d98.2.2.1, IntKind.wrap .i64 (d98.2.2.2 + 1)), rfl, hl4, (by refine Wk.canonD [] [] [some 0, some 1, some 2, some 27, some 4] rfl trivial rfl (tmOU 4 (tmOU 3 (tmOU 2 (tmOU 1 (tmOU 0 tmO0 rfl List.not_mem_nil (by simp only [upd_get, Nat.reduceEqDiff, reduceIte, Nat.reduceAdd, Nat.reduceMul, Nat.reduceSub, Nat.reduceLT, Nat.reduceLeDiff, if_true, if_false] <;> rfl) (e_MetricTable_tmx (by rfl) (Tm.clean (Clean.imm (c_MetricLink _))))) rfl List.not_mem_nil (by simp only [upd_get, Nat.reduceEqDiff, reduceIte, Nat.reduceAdd, Nat.reduceMul, Nat.reduceSub, Nat.reduceLT, Nat.reduceLeDiff, if_true, if_false] <;> rfl) (e_MetricTable_tmx (by rfl) (Tm.v _))) rfl List.not_mem_nil (by simp only [upd_get, Nat.reduceEqDiff, reduceIte, Nat.reduceAdd, Nat.reduceMul, Nat.reduceSub, Nat.reduceLT, Nat.reduceLeDiff, if_true, if_false] <;> rfl) (e_MetricTable_tmx (by rfl) (Tm.refL rfl ?_))) rfl List.not_mem_nil (by simp only [upd_get, Nat.reduceEqDiff, reduceIte, Nat.reduceAdd, Nat.reduceMul, Nat.reduceSub, Nat.reduceLT, Nat.reduceLeDiff, if_true, if_false] <;> rfl) (TmL.of_eq (by first | rfl | (simp only [List.flatMap_append, List.flatMap_cons, List.flatMap_nil, List.map_append, List.map_cons, List.map_nil, List.append_nil, List.nil_append]; done) | (simp only [List.flatMap_append, List.flatMap_cons, List.flatMap_nil, List.map_append, List.map_cons, List.map_nil, List.append_nil, List.nil_append]; rfl)) (c_MetricLink _))) rfl List.not_mem_nil (by simp only [upd_get, Nat.reduceEqDiff, reduceIte, Nat.reduceAdd, Nat.reduceMul, Nat.reduceSub, Nat.reduceLT, Nat.reduceLeDiff, if_true, if_false] <;> rfl) (TmL.of_eq (by first | rfl | (simp only [List.flatMap_append, List.flatMap_cons, List.flatMap_nil, List.map_append, List.map_cons, List.map_nil, List.append_nil, List.nil_append]; done) | (simp only [List.flatMap_append, List.flatMap_cons, List.flatMap_nil, List.map_append, List.map_cons, List.map_nil, List.append_nil, List.nil_append]; rfl)) (c_Addr _))) (tmAllU 10 (tmAllU 9 (tmAllU 8 (tmAllU 4 (tmAllU 2 (tmAllU 1 tmAll0 (Tm.v _)) (Tm.ptr rfl)) (Tm.ptr rfl)) (Tm.ptr rfl)) (Tm.refL rfl ?_)) (Tm.v _)); all_goals (first | rfl | (simp only [List.length_take]; omega) | (simp only [List.length_append, List.length_cons, List.length_nil, List.length_modify, List.length_set, Nat.zero_add]; done) | (simp only [List.length_append, List.length_take, List.length_drop, List.length_cons, List.length_nil, List.length_modify, List.length_set, Nat.zero_add]; omega)))⟩
    ·
     have hl4 := cF hl4 h5
     refine awp_exit ?_
     refine lq_e ?_
     refine bq_e ?_
     refine sq_n ?_
     obtain rfl := someInj hl4
     exact ⟨_, rfl, (by refine Wk.canonD [] [] [some 1, some 2, some 3, some 4] rfl trivial rfl (tmOU 3 (tmOU 2 (tmOU 1 (tmOU 0 tmO0 rfl List.not_mem_nil (by simp only [upd_get, Nat.reduceEqDiff, reduceIte, Nat.reduceAdd, Nat.reduceMul, Nat.reduceSub, Nat.reduceLT, Nat.reduceLeDiff, if_true, if_false] <;> rfl) (e_MetricTable_tmx (by rfl) (Tm.v _))) rfl List.not_mem_nil (by simp only [upd_get, Nat.reduceEqDiff, reduceIte, Nat.reduceAdd, Nat.reduceMul, Nat.reduceSub, Nat.reduceLT, Nat.reduceLeDiff, if_true, if_false] <;> rfl) (e_MetricTable_tmx (by rfl) (Tm.refL rfl ?_))) rfl List.not_mem_nil (by simp only [upd_get, Nat.reduceEqDiff, reduceIte, Nat.reduceAdd, Nat.reduceMul, Nat.reduceSub, Nat.reduceLT, Nat.reduceLeDiff, if_true, if_false] <;> rfl) (TmL.of_eq (by first | rfl | (simp only [List.flatMap_append, List.flatMap_cons, List.flatMap_nil, List.map_append, List.map_cons, List.map_nil, List.append_nil, List.nil_append]; done) | (simp only [List.flatMap_append, List.flatMap_cons, List.flatMap_nil, List.map_append, List.map_cons, List.map_nil, List.append_nil, List.nil_append]; rfl)) (c_MetricLink _))) rfl List.not_mem_nil (by simp only [upd_get, Nat.reduceEqDiff, reduceIte, Nat.reduceAdd, Nat.reduceMul, Nat.reduceSub, Nat.reduceLT, Nat.reduceLeDiff, if_true, if_false] <;> rfl) (TmL.of_eq (by first | rfl | (simp only [List.flatMap_append, List.flatMap_cons, List.flatMap_nil, List.map_append, List.map_cons, List.map_nil, List.append_nil, List.nil_append]; done) | (simp only [List.flatMap_append, List.flatMap_cons, List.flatMap_nil, List.map_append, List.map_cons, List.map_nil, List.append_nil, List.nil_append]; rfl)) (c_Addr _))) (tmAllU 9 (tmAllU 8 (tmAllU 4 tmAll0 (Tm.ptr rfl)) (Tm.ptr rfl)) (Tm.refL rfl ?_)); all_goals (first | rfl | (simp only [List.length_take]; omega) | (simp only [List.length_append, List.length_cons, List.length_nil, List.length_modify, List.length_set, Nat.zero_add]; done) | (simp only [List.length_append, List.length_take, List.length_drop, List.length_cons, List.length_nil, List.length_modify, List.length_set, Nat.zero_add]; omega)))⟩
  ·
   rintro _ rfl
   clear hi2
   unfold hotspotref38_Age_S1
   refine awp_nr [4,8,9] (fun _ => rfl) fun tz => ?_
   refine awp_regW fun KK hKK => ?_
   refine xw_id ?_
   try simp only [go_sem, Nat.reduceEqDiff, reduceIte, Nat.reduceAdd, Nat.reduceMul, Nat.reduceSub, Nat.reduceLT, Nat.reduceLeDiff]
   refine hKK _ _ (Wk.refl _ _ _) ?_; clear hKK KK
   refine awp_ret1 ?_
   obtain rfl := someInj h0
   refine endW_i ?_
   refine end_ret0 rs25 (by simp only [go_sem, resV, resAll, resOf, packR, Nat.reduceEqDiff, reduceIte, Nat.reduceAdd, Nat.reduceMul, Nat.reduceSub, Nat.reduceLT, Nat.reduceLeDiff]; rfl) ?_
   refine Res.mk [] [some 2, some 3] rfl (resOU List.not_mem_nil (by simp only [upd_get, Nat.reduceEqDiff, reduceIte, Nat.reduceAdd, Nat.reduceMul, Nat.reduceSub, Nat.reduceLT, Nat.reduceLeDiff, if_true, if_false] <;> rfl) (TmL.of_eq (by first | rfl | (simp only [List.flatMap_append, List.flatMap_cons, List.flatMap_nil, List.map_append, List.map_cons, List.map_nil, List.append_nil, List.nil_append]; done) | (simp only [List.flatMap_append, List.flatMap_cons, List.flatMap_nil, List.map_append, List.map_cons, List.map_nil, List.append_nil, List.nil_append]; rfl)) (c_MetricLink _)) (resOU List.not_mem_nil (by simp only [upd_get, Nat.reduceEqDiff, reduceIte, Nat.reduceAdd, Nat.reduceMul, Nat.reduceSub, Nat.reduceLT, Nat.reduceLeDiff, if_true, if_false] <;> rfl) (TmL.of_eq (by first | rfl | (simp only [List.flatMap_append, List.flatMap_cons, List.flatMap_nil, List.map_append, List.map_cons, List.map_nil, List.append_nil, List.nil_append]; done) | (simp only [List.flatMap_append, List.flatMap_cons, List.flatMap_nil, List.map_append, List.map_cons, List.map_nil, List.append_nil, List.nil_append]; rfl)) (c_Addr _)) resO0)) (Tm.tup (TmL.cons (Tm.agg (e_MetricTable_tmx (by rfl) (Tm.refL rfl ?_))) (TmL.cons (Tm.refL rfl ?_) (TmL.cons (Tm.v _) TmL.nil))))
   all_goals (first | rfl | (simp only [List.length_take]; omega) | (simp only [List.length_append, List.length_cons, List.length_nil, List.length_modify, List.length_set, Nat.zero_add]; done) | (simp only [List.length_append, List.length_take, List.length_drop, List.length_cons, List.length_nil, List.length_modify, List.length_set, Nat.zero_add]; omega))

theorem hotspotref38_Age_m (a0 : MetricTable) (a1 : Int) {r : (MetricTable × (List Addr) × Int)} (h0 : hotspotref38_Age a0 a1 = some r) : SndM K 25 [(.agg (E_MetricTable a0)), (vi a1)] (fun q => (.tup [(.agg (e_MetricTable r.1 (.ref (q 0) 0 r.1.Links.length 9))), (.ref (q 1) 0 r.2.1.length 6), (vi r.2.2)])) [(List.flatMap e_MetricLink r.1.Links), (List.flatMap e_Addr r.2.1)] :=
 fun hs => Snd.of_newM (RenM.tup (RenML.cons (RenM.agg (e_MetricTable_ren _ (RenM.ref 0 0 _ _))) (RenML.cons (RenM.ref 1 0 _ _) (RenML.cons (RenM.const (Clean.v _)) RenML.nil)))) (rows_all_cons (c_MetricLink _) (rows_all_cons (c_Addr _) rows_all_nil)) (clean_cons (Clean.agg (E_MetricTable_clean _)) (clean_cons (Clean.v _) clean_nil)) (hotspotref38_Age_r a0 a1 h0) hs

theorem hotspotref38_Age_p (a0 : MetricTable) (a1 : Int) {r : (MetricTable × (List Addr) × Int)} (h0 : hotspotref38_Age a0 a1 = some r) : SndP K 25 [(.agg (E_MetricTable a0)), (vi a1)] (.tup [(.agg (E_MetricTable r.1)), (S_Addr r.2.1), (vi r.2.2)]) :=
 SndM.pure (hotspotref38_Age_m a0 a1 h0) (Clean.tup (clean_cons (Clean.agg (E_MetricTable_clean _)) (clean_cons (S_Addr_clean _) (clean_cons (Clean.v _) clean_nil)))) (clean_cons (Clean.agg (E_MetricTable_clean _)) (clean_cons (Clean.v _) clean_nil)) (by simp only [go_sem, newL_n, newL_c, upd_get, fz, nilS, cond_true, cond_false, List.drop_zero, List.take_length, List.length_map, ble_self, Nat.reduceEqDiff, reduceIte, Nat.reduceAdd, Nat.reduceMul, Nat.reduceSub, Nat.reduceLT, Nat.reduceLeDiff] <;> rfl)

end Go.AX.Z.TM

/-! (TMW hotspotref38 SameAddrs) -/

set_option linter.unusedSimpArgs false
set_option linter.unusedVariables false
set_option maxHeartbeats 4000000
namespace Go.AX.Z.TM
open Go.AX Go.Proofs
attribute [local irreducible] awp xw xop xcall gsp ob xd xdop xcallD seqQ loopQ blkQ endQ

def hotspotref38_SameAddrs_S0 (d106 : Unit) : AS :=
 { objs := (fun _ => .dead), next := 0, tmps := (fun _ => .unk) }

def hotspotref38_SameAddrs_S1 (a0 : (List Addr)) (a1 : (List Addr)) (d108 : Int) : AS :=
 { objs := (fun _ => .dead), next := 0, tmps := (upd (upd (upd (fun _ => .unk) 0 (.imm (List.flatMap e_Addr a0) a0.length)) 1 (.imm (List.flatMap e_Addr a1) a1.length)) 5 (vi d108)) }

theorem hotspotref38_SameAddrs_p (a0 : (List Addr)) (a1 : (List Addr)) {r : Bool} (h0 : hotspotref38_SameAddrs a0 a1 = some r) : SndP K 26 [(S_Addr a0), (S_Addr a1)] (vb r) := by
 refine SndP.of_walkW hC (Clean.v _) (clean_cons (S_Addr_clean _) (clean_cons (S_Addr_clean _) clean_nil)) (show K.P.funcs[26]? = some Try.f26 from Try.func26) rfl rfl (by decide +kernel) (Nat.le_of_ble_eq_true rfl) ?_
 unfold hotspotref38_SameAddrs at h0
 refine awp_nr [0,1] (fun _ => rfl) fun tz => ?_
 refine awp_regW fun KK hKK => ?_
 refine xw_id ?_
 try simp only [go_sem, Nat.reduceEqDiff, reduceIte, Nat.reduceAdd, Nat.reduceMul, Nat.reduceSub, Nat.reduceLT, Nat.reduceLeDiff]
 refine hKK _ _ (Wk.refl _ _ _) ?_; clear hKK KK
 refine awp_assoc ?_
 refine awp_nr [0,1] (fun _ => rfl) fun tz => ?_
 refine awp_regW fun KK hKK => ?_
 refine xw_id ?_
 try simp only [go_sem, Nat.reduceEqDiff, reduceIte, Nat.reduceAdd, Nat.reduceMul, Nat.reduceSub, Nat.reduceLT, Nat.reduceLeDiff, Int.reduceToNat, Int.reduceBEq, Int.reduceBNe, Int.reduceLT, Int.reduceLE, Int.reduceAdd, Int.reduceSub, Int.reduceMul, Int.reduceNeg, Int.reduceEq, Int.reduceNe]
 refine hKK _ _ (Wk.refl _ _ _) ?_; clear hKK KK
 refine awp_cond (b := ((a0.length : Int) != (a1.length : Int))) rfl (fun h1 => ?_) (fun h1 => ?_)
 ·
  have h0 := cT h0 h1
  refine awp_assoc ?_
  refine awp_nr [] (fun _ => rfl) fun tz => ?_
  refine awp_regW fun KK hKK => ?_
  refine xw_id ?_
  try simp only [go_sem, Nat.reduceEqDiff, reduceIte, Nat.reduceAdd, Nat.reduceMul, Nat.reduceSub, Nat.reduceLT, Nat.reduceLeDiff]
  refine hKK _ _ (Wk.refl _ _ _) ?_; clear hKK KK
  refine awp_ret ?_
  obtain rfl := someInj h0
  refine endW_i ?_
  refine end_ret0 rs26 (rfl) ?_
  try simp only [go_sem, Nat.reduceEqDiff, reduceIte, Nat.reduceAdd, Nat.reduceMul, Nat.reduceSub, Nat.reduceLT, Nat.reduceLeDiff, fz, nilS, packR, List.take_nil, List.take_length, List.length_map, List.length_append, cond_true, cond_false, Nat.ble_eq, ble_self, List.map_append]
  all_goals rfl
 ·
  have h0 := cF h0 h1
  refine awp_skip ?_
  refine awp_assoc ?_
  refine awp_nr [0,1] (fun _ => rfl) fun tz => ?_
  refine awp_regW fun KK hKK => ?_
  refine xw_id ?_
  try simp only [go_sem, Nat.reduceEqDiff, reduceIte, Nat.reduceAdd, Nat.reduceMul, Nat.reduceSub, Nat.reduceLT, Nat.reduceLeDiff]
  refine hKK _ _ (Wk.refl _ _ _) ?_; clear hKK KK
  obtain ⟨o107, hi2, h0⟩ := bnd h0
  refine awp_cut (fun d106 : Unit => o107 = Ex.go d106) (fun d106 : Unit => hotspotref38_SameAddrs_S0 d106) ?_ ?_
  ·
   refine awp_block1 ?_
   refine awp_loopS (fun n (d108 : Int) => hotspotref38_SameAddrs_L2 a0 a1 n d108 = some o107) (fun d108 : Int => hotspotref38_SameAddrs_S1 a0 a1 d108) big 0 (Wk.canonD [] [] [] rfl trivial rfl tmO0 (tmAllU 5 (tmAllU 1 (tmAllU 0 tmAll0 (Tm.clean (Clean.imm (c_Addr _)))) (Tm.clean (Clean.imm (c_Addr _)))) (Tm.v _))) hi2 ?_
   clear hi2
   rintro n d108 hl4
   rcases n with _ | n3
   ·
    (rw [hotspotref38_SameAddrs_L2] at hl4; cases hl4)
   ·
    rw [hotspotref38_SameAddrs_L2] at hl4
    unfold hotspotref38_SameAddrs_S1
    refine awp_assoc ?_
    refine awp_nr [0,1,5] (fun _ => rfl) fun tz => ?_
    refine awp_regW fun KK hKK => ?_
    refine xw_id ?_
    try simp only [go_sem, Nat.reduceEqDiff, reduceIte, Nat.reduceAdd, Nat.reduceMul, Nat.reduceSub, Nat.reduceLT, Nat.reduceLeDiff, Int.reduceToNat, Int.reduceBEq, Int.reduceBNe, Int.reduceLT, Int.reduceLE, Int.reduceAdd, Int.reduceSub, Int.reduceMul, Int.reduceNeg, Int.reduceEq, Int.reduceNe]
    refine hKK _ _ (Wk.refl _ _ _) ?_; clear hKK KK
    refine awp_cond (b := (decide (d108 < (a0.length : Int)))) rfl (fun h5 => ?_) (fun h5 => ?_)
    ·
     have hl4 := cT hl4 h5
     refine awp_skip ?_
     refine awp_blockW ?_
     refine awp_nr [0,1,5] (fun _ => rfl) fun tz => ?_
     refine awp_regW fun KK hKK => ?_
     refine xw_id ?_
     obtain ⟨x109, bx109, hl4⟩ := bnd hl4
     obtain ⟨fx109_0, fx109_1, fx109_2, fx109_3⟩ := idx_some bx109
     obtain ⟨x110, bx110, hl4⟩ := bnd hl4
     obtain ⟨fx110_0, fx110_1, fx110_2, fx110_3⟩ := idx_some bx110
     try simp only [go_sem, Nat.reduceEqDiff, reduceIte, Nat.reduceAdd, Nat.reduceMul, Nat.reduceSub, Nat.reduceLT, Nat.reduceLeDiff, fx109_0, fx109_1, fx109_2, fx110_0, fx110_1, fx110_2]
     refine hKK _ _ (Wk.refl _ _ _) ?_; clear hKK KK
     refine awp_cond1 (b := (!decide (x109 = x110))) rfl (fun h6 => ?_) (fun h6 => ?_)
     ·
      have hl4 := cT hl4 h6
      refine awp_nr [] (fun _ => rfl) fun tz => ?_
      refine awp_regW fun KK hKK => ?_
      refine xw_id ?_
      try simp only [go_sem, Nat.reduceEqDiff, reduceIte, Nat.reduceAdd, Nat.reduceMul, Nat.reduceSub, Nat.reduceLT, Nat.reduceLeDiff, fx109_0, fx109_1, fx109_2, fx110_0, fx110_1, fx110_2]
      refine hKK _ _ (Wk.refl _ _ _) ?_; clear hKK KK
      refine awp_ret1 ?_
      refine bq_r ?_
      refine sq_r ?_
      refine lq_r ?_
      refine bq_r ?_
      refine sq_r ?_
      obtain rfl := someInj hl4
      obtain rfl := Ex.k_ret h0
      refine endW_i ?_
      refine end_ret0 rs26 (rfl) ?_
      try simp only [go_sem, Nat.reduceEqDiff, reduceIte, Nat.reduceAdd, Nat.reduceMul, Nat.reduceSub, Nat.reduceLT, Nat.reduceLeDiff, fz, nilS, packR, List.take_nil, List.take_length, List.length_map, List.length_append, cond_true, cond_false, Nat.ble_eq, ble_self, List.map_append]
      all_goals rfl
     ·
      have hl4 := cF hl4 h6
      refine awp_skip1 ?_
      refine bq_n ?_
      refine seqW_i ?_
      refine awp_nr1 [0,1,5] (fun _ => rfl) fun tz => ?_
      refine awp_reg1 fun KK hKK => ?_
      refine xw_id ?_
      try simp only [go_sem, Nat.reduceEqDiff, reduceIte, Nat.reduceAdd, Nat.reduceMul, Nat.reduceSub, Nat.reduceLT, Nat.reduceLeDiff, fx109_0, fx109_1, fx109_2, fx110_0, fx110_1, fx110_2]
      refine hKK _ ?_; clear hKK KK
      refine lq_n ?_
      exact ⟨n3, IntKind.wrap .i64 (d108 + 1), rfl, hl4, (Wk.canonD [] [] [] rfl trivial rfl tmO0 (tmAllU 5 (tmAllU 1 (tmAllU 0 tmAll0 (Tm.clean (Clean.imm (c_Addr _)))) (Tm.clean (Clean.imm (c_Addr _)))) (Tm.v _)))⟩
    ·
     have hl4 := cF hl4 h5
     refine awp_exit ?_
     refine lq_e ?_
     refine bq_e ?_
     refine sq_n ?_
     obtain rfl := someInj hl4
     exact ⟨_, rfl, (Wk.canonD [] [] [] rfl trivial rfl tmO0 tmAll0)⟩
  ·
   rintro d106 rfl
   have h0 := Ex.k_go h0
   clear hi2
   unfold hotspotref38_SameAddrs_S0
   refine awp_nr [] (fun _ => rfl) fun tz => ?_
   refine awp_regW fun KK hKK => ?_
   refine xw_id ?_
   try simp only [go_sem, Nat.reduceEqDiff, reduceIte, Nat.reduceAdd, Nat.reduceMul, Nat.reduceSub, Nat.reduceLT, Nat.reduceLeDiff]
   refine hKK _ _ (Wk.refl _ _ _) ?_; clear hKK KK
   refine awp_ret1 ?_
   obtain rfl := someInj h0
   refine endW_i ?_
   refine end_ret0 rs26 (rfl) ?_
   try simp only [go_sem, Nat.reduceEqDiff, reduceIte, Nat.reduceAdd, Nat.reduceMul, Nat.reduceSub, Nat.reduceLT, Nat.reduceLeDiff, fz, nilS, packR, List.take_nil, List.take_length, List.length_map, List.length_append, cond_true, cond_false, Nat.ble_eq, ble_self, List.map_append]
   all_goals rfl

end Go.AX.Z.TM

/-! (TMW hotspotlaw38 MetricTables) -/

set_option linter.unusedSimpArgs false
set_option linter.unusedVariables false
set_option maxHeartbeats 4000000
namespace Go.AX.Z.TM
open Go.AX Go.Proofs
attribute [local irreducible] awp xw xop xcall gsp ob xd xdop xcallD seqQ loopQ blkQ endQ

def hotspotlaw38_MetricTables_S0 (a0 : MetricTable) (a1 : Addr) (x67 : MetricTable) (a2 : Int) (a3 : Bool) (a4 : Int) : AS :=
 { objs := (upd (upd (upd (fun _ => .dead) 0 (.live (e_MetricTable a0 (.imm (List.flatMap e_MetricLink a0.Links) a0.Links.length)))) 1 (.live (e_Addr a1))) 2 (.live (e_MetricTable x67 (.imm (List.flatMap e_MetricLink x67.Links) x67.Links.length)))), next := 3, tmps := (upd (upd (upd (upd (upd (upd (fun _ => .unk) 2 (vi a2)) 3 (vb a3)) 4 (vi a4)) 5 (.ptr 0 0)) 6 (.ptr 1 0)) 11 (.ptr 2 0)) }

def hotspotlaw38_MetricTables_S1 (a0 : MetricTable) (a1 : Addr) (x67 : MetricTable) (x68 : (MetricTable × Int)) (x69 : (MetricTable × Int)) (a4 : Int) : AS :=
 { objs := (upd (upd (upd (upd (upd (upd (upd (fun _ => .dead) 0 (.live (e_MetricTable a0 (.imm (List.flatMap e_MetricLink a0.Links) a0.Links.length)))) 1 (.live (e_Addr a1))) 2 (.live (e_MetricTable x67 (.imm (List.flatMap e_MetricLink x67.Links) x67.Links.length)))) 3 (.live (e_MetricTable x68.1 (.ref 4 0 x68.1.Links.length 9)))) 4 (.live (List.flatMap e_MetricLink x68.1.Links))) 5 (.live (e_MetricTable x69.1 (.ref 6 0 x69.1.Links.length 9)))) 6 (.live (List.flatMap e_MetricLink x69.1.Links))), next := 7, tmps := (upd (upd (upd (upd (upd (upd (upd (upd (fun _ => .unk) 4 (vi a4)) 5 (.ptr 0 0)) 6 (.ptr 1 0)) 11 (.ptr 2 0)) 12 (.ptr 3 0)) 13 (vi x68.2)) 14 (.ptr 5 0)) 15 (vi x69.2)) }

def hotspotlaw38_MetricTables_S2 (a0 : MetricTable) (x67 : MetricTable) (x68 : (MetricTable × Int)) (x69 : (MetricTable × Int)) (x72 : (MetricTable × (List Addr) × Int)) (a4 : Int) (x70 : (Int × Int)) (x71 : (Int × Int)) : AS :=
 { objs := (upd (upd (upd (upd (upd (upd (upd (upd (fun _ => .dead) 0 (.live (e_MetricTable a0 (.imm (List.flatMap e_MetricLink a0.Links) a0.Links.length)))) 1 (.live (e_MetricTable x67 (.imm (List.flatMap e_MetricLink x67.Links) x67.Links.length)))) 2 (.live (e_MetricTable x68.1 (.ref 3 0 x68.1.Links.length 9)))) 3 (.live (List.flatMap e_MetricLink x68.1.Links))) 4 (.live (e_MetricTable x69.1 (.ref 5 0 x69.1.Links.length 9)))) 5 (.live (List.flatMap e_MetricLink x69.1.Links))) 6 (.live (e_MetricTable x72.1 (.ref 7 0 x72.1.Links.length 9)))) 7 (.live (List.flatMap e_MetricLink x72.1.Links))), next := 8, tmps := (upd (upd (upd (upd (upd (upd (upd (upd (upd (upd (upd (upd (upd (upd (fun _ => .unk) 4 (vi a4)) 5 (.ptr 0 0)) 11 (.ptr 1 0)) 12 (.ptr 2 0)) 13 (vi x68.2)) 14 (.ptr 4 0)) 15 (vi x69.2)) 16 (vi x70.1)) 17 (vi x70.2)) 18 (vi x71.1)) 19 (vi x71.2)) 20 (.ptr 6 0)) 21 (.imm (List.flatMap e_Addr x72.2.1) x72.2.1.length)) 22 (vi x72.2.2)) }

def hotspotlaw38_MetricTables_S3 (a0 : MetricTable) (x67 : MetricTable) (x68 : (MetricTable × Int)) (x72 : (MetricTable × (List Addr) × Int)) (x81 : Bool) : AS :=
 { objs := (upd (upd (upd (upd (upd (upd (fun _ => .dead) 0 (.live (e_MetricTable a0 (.imm (List.flatMap e_MetricLink a0.Links) a0.Links.length)))) 1 (.live (e_MetricTable x67 (.imm (List.flatMap e_MetricLink x67.Links) x67.Links.length)))) 2 (.live (e_MetricTable x68.1 (.ref 3 0 x68.1.Links.length 9)))) 3 (.live (List.flatMap e_MetricLink x68.1.Links))) 4 (.live (e_MetricTable x72.1 (.ref 5 0 x72.1.Links.length 9)))) 5 (.live (List.flatMap e_MetricLink x72.1.Links))), next := 6, tmps := (upd (upd (upd (upd (upd (fun _ => .unk) 5 (.ptr 0 0)) 11 (.ptr 1 0)) 12 (.ptr 2 0)) 20 (.ptr 4 0)) 26 (vb x81)) }

def hotspotlaw38_MetricTables_S4 (a0 : MetricTable) (x67 : MetricTable) (x72 : (MetricTable × (List Addr) × Int)) (x81 : Bool) (d82 : Unit) : AS :=
 { objs := (upd (upd (upd (upd (fun _ => .dead) 0 (.live (e_MetricTable a0 (.imm (List.flatMap e_MetricLink a0.Links) a0.Links.length)))) 1 (.live (e_MetricTable x67 (.imm (List.flatMap e_MetricLink x67.Links) x67.Links.length)))) 2 (.live (e_MetricTable x72.1 (.ref 3 0 x72.1.Links.length 9)))) 3 (.live (List.flatMap e_MetricLink x72.1.Links))), next := 4, tmps := (upd (upd (upd (upd (fun _ => .unk) 5 (.ptr 0 0)) 11 (.ptr 1 0)) 20 (.ptr 2 0)) 26 (vb x81)) }

def hotspotlaw38_MetricTables_S5 (a0 : MetricTable) (x67 : MetricTable) (x68 : (MetricTable × Int)) (x72 : (MetricTable × (List Addr) × Int)) (x81 : Bool) (d83 : (List MetricLink × Int)) : AS :=
 { objs := (upd (upd (upd (upd (upd (upd (fun _ => .dead) 0 (.live (e_MetricTable a0 (.imm (List.flatMap e_MetricLink a0.Links) a0.Links.length)))) 1 (.live (e_MetricTable x67 (.imm (List.flatMap e_MetricLink x67.Links) x67.Links.length)))) 2 (.live (e_MetricTable x68.1 (.ref 3 0 ((d83.1).length) 9)))) 3 (.live (List.flatMap e_MetricLink d83.1))) 4 (.live (e_MetricTable x72.1 (.ref 5 0 x72.1.Links.length 9)))) 5 (.live (List.flatMap e_MetricLink x72.1.Links))), next := 6, tmps := (upd (upd (upd (upd (upd (upd (fun _ => .unk) 5 (.ptr 0 0)) 11 (.ptr 1 0)) 12 (.ptr 2 0)) 20 (.ptr 4 0)) 26 (vb x81)) 27 (vi d83.2)) }

def hotspotlaw38_MetricTables_S7 (a0 : MetricTable) (x67 : MetricTable) (x81 : Bool) (d85 : Unit) : AS :=
 { objs := (upd (upd (fun _ => .dead) 0 (.live (e_MetricTable a0 (.imm (List.flatMap e_MetricLink a0.Links) a0.Links.length)))) 1 (.live (e_MetricTable x67 (.imm (List.flatMap e_MetricLink x67.Links) x67.Links.length)))), next := 2, tmps := (upd (upd (upd (fun _ => .unk) 5 (.ptr 0 0)) 11 (.ptr 1 0)) 26 (vb x81)) }

def hotspotlaw38_MetricTables_S8 (a0 : MetricTable) (x67 : MetricTable) (x72 : (MetricTable × (List Addr) × Int)) (x81 : Bool) (d86 : (List MetricLink × Int)) : AS :=
 { objs := (upd (upd (upd (upd (fun _ => .dead) 0 (.live (e_MetricTable a0 (.imm (List.flatMap e_MetricLink a0.Links) a0.Links.length)))) 1 (.live (e_MetricTable x67 (.imm (List.flatMap e_MetricLink x67.Links) x67.Links.length)))) 2 (.live (e_MetricTable x72.1 (.ref 3 0 ((d86.1).length) 9)))) 3 (.live (List.flatMap e_MetricLink d86.1))), next := 4, tmps := (upd (upd (upd (upd (upd (fun _ => .unk) 5 (.ptr 0 0)) 11 (.ptr 1 0)) 20 (.ptr 2 0)) 26 (vb x81)) 28 (vi d86.2)) }

theorem hotspotlaw38_MetricTables_p (a0 : MetricTable) (a1 : Addr) (a2 : Int) (a3 : Bool) (a4 : Int) {r : Bool} (h0 : hotspotlaw38_MetricTables a0 a1 a2 a3 a4 = some r) : SndP K 10 [(.agg (E_MetricTable a0)), (.agg (e_Addr a1)), (vi a2), (vb a3), (vi a4)] (vb r) := by
 refine SndP.of_walkW hC (Clean.v _) (clean_cons (Clean.agg (E_MetricTable_clean _)) (clean_cons (Clean.agg (e_Addr_clean _)) (clean_cons (Clean.v _) (clean_cons (Clean.v _) (clean_cons (Clean.v _) clean_nil))))) (show K.P.funcs[10]? = some Try.f10 from Try.func10) rfl rfl (by decide +kernel) (Nat.le_of_ble_eq_true rfl) ?_
 unfold hotspotlaw38_MetricTables at h0
 refine awp_nr [0,1,2,3,4] (fun _ => rfl) fun tz => ?_
 refine awp_regW fun KK hKK => ?_
 refine xw_id ?_
 try simp only [go_sem, Nat.reduceEqDiff, reduceIte, Nat.reduceAdd, Nat.reduceMul, Nat.reduceSub, Nat.reduceLT, Nat.reduceLeDiff]
 refine hKK _ _ (Wk.refl _ _ _) ?_; clear hKK KK
 refine awp_assoc ?_
 refine awp_nr [2,3,4,5,6] (fun _ => rfl) fun tz => ?_
 refine awp_regW fun KK hKK => ?_
 refine xw_id ?_
 try simp only [go_sem, Nat.reduceEqDiff, reduceIte, Nat.reduceAdd, Nat.reduceMul, Nat.reduceSub, Nat.reduceLT, Nat.reduceLeDiff, Int.reduceToNat, Int.reduceBEq, Int.reduceBNe, Int.reduceLT, Int.reduceLE, Int.reduceAdd, Int.reduceSub, Int.reduceMul, Int.reduceNeg, Int.reduceEq, Int.reduceNe]
 refine hKK _ _ (Wk.refl _ _ _) ?_; clear hKK KK
 refine awp_cond (b := (decide (40 < (a0.Links.length : Int)))) rfl (fun h1 => ?_) (fun h1 => ?_)
 ·
  have h0 := cT h0 h1
  refine awp_assoc ?_
  refine awp_nr [] (fun _ => rfl) fun tz => ?_
  refine awp_regW fun KK hKK => ?_
  refine xw_id ?_
  try simp only [go_sem, Nat.reduceEqDiff, reduceIte, Nat.reduceAdd, Nat.reduceMul, Nat.reduceSub, Nat.reduceLT, Nat.reduceLeDiff]
  refine hKK _ _ (Wk.refl _ _ _) ?_; clear hKK KK
  refine awp_ret ?_
  obtain rfl := someInj h0
  refine endW_i ?_
  refine end_ret0 rs10 (rfl) ?_
  try simp only [go_sem, Nat.reduceEqDiff, reduceIte, Nat.reduceAdd, Nat.reduceMul, Nat.reduceSub, Nat.reduceLT, Nat.reduceLeDiff, fz, nilS, packR, List.take_nil, List.take_length, List.length_map, List.length_append, cond_true, cond_false, Nat.ble_eq, ble_self, List.map_append]
  all_goals rfl
 ·
  have h0 := cF h0 h1
  refine awp_skip ?_
  refine awp_nr [2,3,4,5,6] (fun _ => rfl) fun tz => ?_
  refine awp_regW fun KK hKK => ?_
  refine xw_id ?_
  obtain ⟨x67, bx67, h0⟩ := bnd h0
  try simp only [go_sem, Nat.reduceEqDiff, reduceIte, Nat.reduceAdd, Nat.reduceMul, Nat.reduceSub, Nat.reduceLT, Nat.reduceLeDiff]
  refine xcall_p (hotspotref38_Twin_p a0 bx67) ?_; try dsimp only
  try refine xw_id ?_
  try simp only [go_sem, Nat.reduceEqDiff, reduceIte, Nat.reduceAdd, Nat.reduceMul, Nat.reduceSub, Nat.reduceLT, Nat.reduceLeDiff]
  refine hKK _ (hotspotlaw38_MetricTables_S0 a0 a1 x67 a2 a3 a4) (Wk.canonD [] [] [some 0, some 1, some 9] rfl trivial rfl (tmOU 2 (tmOU 1 (tmOU 0 tmO0 rfl List.not_mem_nil (by simp only [upd_get, Nat.reduceEqDiff, reduceIte, Nat.reduceAdd, Nat.reduceMul, Nat.reduceSub, Nat.reduceLT, Nat.reduceLeDiff, if_true, if_false] <;> rfl) (e_MetricTable_tmx (by rfl) (Tm.clean (Clean.imm (c_MetricLink _))))) rfl List.not_mem_nil (by simp only [upd_get, Nat.reduceEqDiff, reduceIte, Nat.reduceAdd, Nat.reduceMul, Nat.reduceSub, Nat.reduceLT, Nat.reduceLeDiff, if_true, if_false] <;> rfl) (TmL.clean (e_Addr_clean _))) rfl List.not_mem_nil (by simp only [upd_get, Nat.reduceEqDiff, reduceIte, Nat.reduceAdd, Nat.reduceMul, Nat.reduceSub, Nat.reduceLT, Nat.reduceLeDiff, if_true, if_false] <;> rfl) (e_MetricTable_tmx (by rfl) (Tm.clean (Clean.imm (c_MetricLink _))))) (tmAllU 11 (tmAllU 6 (tmAllU 5 (tmAllU 4 (tmAllU 3 (tmAllU 2 tmAll0 (Tm.v _)) (Tm.v _)) (Tm.v _)) (Tm.ptr rfl)) (Tm.ptr rfl)) (Tm.ptr rfl))) ?_; clear hKK KK
  unfold hotspotlaw38_MetricTables_S0
  refine awp_nr [2,3,4,5,6,11] (fun _ => rfl) fun tz => ?_
  refine awp_regW fun KK hKK => ?_
  refine xw_id ?_
  obtain ⟨x68, bx68, h0⟩ := bnd h0
  try simp only [go_sem, Nat.reduceEqDiff, reduceIte, Nat.reduceAdd, Nat.reduceMul, Nat.reduceSub, Nat.reduceLT, Nat.reduceLeDiff]
  refine xcall_M (metric_Heard_m x67 a1 a2 a3 a4 bx68) ?_; try dsimp only
  try refine xw_id ?_
  try simp only [go_sem, Nat.reduceEqDiff, reduceIte, Nat.reduceAdd, Nat.reduceMul, Nat.reduceSub, Nat.reduceLT, Nat.reduceLeDiff]
  refine hKK _ _ (Wk.refl _ _ _) ?_; clear hKK KK
  refine awp_nr [2,3,4,5,6,11,12,13] (fun _ => rfl) fun tz => ?_
  refine awp_regW fun KK hKK => ?_
  refine xw_id ?_
  obtain ⟨x69, bx69, h0⟩ := bnd h0
  try simp only [go_sem, Nat.reduceEqDiff, reduceIte, Nat.reduceAdd, Nat.reduceMul, Nat.reduceSub, Nat.reduceLT, Nat.reduceLeDiff]
  refine xcall_M (hotspotref38_Heard_m a0 a1 a2 a3 a4 bx69) ?_; try dsimp only
  try refine xw_id ?_
  try simp only [go_sem, Nat.reduceEqDiff, reduceIte, Nat.reduceAdd, Nat.reduceMul, Nat.reduceSub, Nat.reduceLT, Nat.reduceLeDiff]
  refine hKK _ (hotspotlaw38_MetricTables_S1 a0 a1 x67 x68 x69 a4) (by refine Wk.canonD [] [] [some 0, some 1, some 2, some 12, some 15, some 25, some 28] rfl trivial rfl (tmOU 6 (tmOU 5 (tmOU 4 (tmOU 3 (tmOU 2 (tmOU 1 (tmOU 0 tmO0 rfl List.not_mem_nil (by simp only [upd_get, Nat.reduceEqDiff, reduceIte, Nat.reduceAdd, Nat.reduceMul, Nat.reduceSub, Nat.reduceLT, Nat.reduceLeDiff, if_true, if_false] <;> rfl) (e_MetricTable_tmx (by rfl) (Tm.clean (Clean.imm (c_MetricLink _))))) rfl List.not_mem_nil (by simp only [upd_get, Nat.reduceEqDiff, reduceIte, Nat.reduceAdd, Nat.reduceMul, Nat.reduceSub, Nat.reduceLT, Nat.reduceLeDiff, if_true, if_false] <;> rfl) (TmL.clean (e_Addr_clean _))) rfl List.not_mem_nil (by simp only [upd_get, Nat.reduceEqDiff, reduceIte, Nat.reduceAdd, Nat.reduceMul, Nat.reduceSub, Nat.reduceLT, Nat.reduceLeDiff, if_true, if_false] <;> rfl) (e_MetricTable_tmx (by rfl) (Tm.clean (Clean.imm (c_MetricLink _))))) rfl List.not_mem_nil (by simp only [upd_get, Nat.reduceEqDiff, reduceIte, Nat.reduceAdd, Nat.reduceMul, Nat.reduceSub, Nat.reduceLT, Nat.reduceLeDiff, if_true, if_false] <;> rfl) (e_MetricTable_tmx (by rfl) (Tm.refL rfl ?_))) rfl List.not_mem_nil (by simp only [upd_get, Nat.reduceEqDiff, reduceIte, Nat.reduceAdd, Nat.reduceMul, Nat.reduceSub, Nat.reduceLT, Nat.reduceLeDiff, if_true, if_false] <;> rfl) (TmL.of_eq (by first | rfl | (simp only [List.flatMap_append, List.flatMap_cons, List.flatMap_nil, List.map_append, List.map_cons, List.map_nil, List.append_nil, List.nil_append]; done) | (simp only [List.flatMap_append, List.flatMap_cons, List.flatMap_nil, List.map_append, List.map_cons, List.map_nil, List.append_nil, List.nil_append]; rfl)) (c_MetricLink _))) rfl List.not_mem_nil (by simp only [upd_get, Nat.reduceEqDiff, reduceIte, Nat.reduceAdd, Nat.reduceMul, Nat.reduceSub, Nat.reduceLT, Nat.reduceLeDiff, if_true, if_false] <;> rfl) (e_MetricTable_tmx (by rfl) (Tm.refL rfl ?_))) rfl List.not_mem_nil (by simp only [upd_get, Nat.reduceEqDiff, reduceIte, Nat.reduceAdd, Nat.reduceMul, Nat.reduceSub, Nat.reduceLT, Nat.reduceLeDiff, if_true, if_false] <;> rfl) (TmL.of_eq (by first | rfl | (simp only [List.flatMap_append, List.flatMap_cons, List.flatMap_nil, List.map_append, List.map_cons, List.map_nil, List.append_nil, List.nil_append]; done) | (simp only [List.flatMap_append, List.flatMap_cons, List.flatMap_nil, List.map_append, List.map_cons, List.map_nil, List.append_nil, List.nil_append]; rfl)) (c_MetricLink _))) (tmAllU 15 (tmAllU 14 (tmAllU 13 (tmAllU 12 (tmAllU 11 (tmAllU 6 (tmAllU 5 (tmAllU 4 tmAll0 (Tm.v _)) (Tm.ptr rfl)) (Tm.ptr rfl)) (Tm.ptr rfl)) (Tm.ptr rfl)) (Tm.v _)) (Tm.ptr rfl)) (Tm.v _)); all_goals (first | rfl | (simp only [List.length_take]; omega) | (simp only [List.length_append, List.length_cons, List.length_nil, List.length_modify, List.length_set, Nat.zero_add]; done) | (simp only [List.length_append, List.length_take, List.length_drop, List.length_cons, List.length_nil, List.length_modify, List.length_set, Nat.zero_add]; omega))) ?_; clear hKK KK
  unfold hotspotlaw38_MetricTables_S1
  refine awp_nr [4,5,6,11,12,13,14,15] (fun _ => rfl) fun tz => ?_
  refine awp_regW fun KK hKK => ?_
  refine xw_id ?_
  obtain ⟨x70, bx70, h0⟩ := bnd h0
  try simp only [go_sem, Nat.reduceEqDiff, reduceIte, Nat.reduceAdd, Nat.reduceMul, Nat.reduceSub, Nat.reduceLT, Nat.reduceLeDiff]
  refine xcall_p (metric_Of_p x67 a1 a4 bx70) ?_; try dsimp only
  try refine xw_id ?_
  try simp only [go_sem, Nat.reduceEqDiff, reduceIte, Nat.reduceAdd, Nat.reduceMul, Nat.reduceSub, Nat.reduceLT, Nat.reduceLeDiff]
  refine hKK _ _ (Wk.refl _ _ _) ?_; clear hKK KK
  refine awp_nr [4,5,6,11,12,13,14,15,16,17] (fun _ => rfl) fun tz => ?_
  refine awp_regW fun KK hKK => ?_
  refine xw_id ?_
  obtain ⟨x71, bx71, h0⟩ := bnd h0
  try simp only [go_sem, Nat.reduceEqDiff, reduceIte, Nat.reduceAdd, Nat.reduceMul, Nat.reduceSub, Nat.reduceLT, Nat.reduceLeDiff]
  refine xcall_p (hotspotref38_Of_p a0 a1 a4 bx71) ?_; try dsimp only
  try refine xw_id ?_
  try simp only [go_sem, Nat.reduceEqDiff, reduceIte, Nat.reduceAdd, Nat.reduceMul, Nat.reduceSub, Nat.reduceLT, Nat.reduceLeDiff]
  refine hKK _ _ (Wk.refl _ _ _) ?_; clear hKK KK
  refine awp_nr [4,5,11,12,13,14,15,16,17,18,19] (fun _ => rfl) fun tz => ?_
  refine awp_regW fun KK hKK => ?_
  refine xw_id ?_
  obtain ⟨x72, bx72, h0⟩ := bnd h0
  try simp only [go_sem, Nat.reduceEqDiff, reduceIte, Nat.reduceAdd, Nat.reduceMul, Nat.reduceSub, Nat.reduceLT, Nat.reduceLeDiff]
  refine xcall_M (metric_Age_m x67 a4 bx72) ?_; try dsimp only
  try refine xw_id ?_
  try simp only [go_sem, Nat.reduceEqDiff, reduceIte, Nat.reduceAdd, Nat.reduceMul, Nat.reduceSub, Nat.reduceLT, Nat.reduceLeDiff]
  refine hKK _ (hotspotlaw38_MetricTables_S2 a0 x67 x68 x69 x72 a4 x70 x71) (by refine Wk.canonD [] [] [some 0, some 2, some 3, some 4, some 5, some 6, some 32, some 36] rfl trivial rfl (tmOU 7 (tmOU 6 (tmOU 5 (tmOU 4 (tmOU 3 (tmOU 2 (tmOU 1 (tmOU 0 tmO0 rfl List.not_mem_nil (by simp only [upd_get, Nat.reduceEqDiff, reduceIte, Nat.reduceAdd, Nat.reduceMul, Nat.reduceSub, Nat.reduceLT, Nat.reduceLeDiff, if_true, if_false] <;> rfl) (e_MetricTable_tmx (by rfl) (Tm.clean (Clean.imm (c_MetricLink _))))) rfl List.not_mem_nil (by simp only [upd_get, Nat.reduceEqDiff, reduceIte, Nat.reduceAdd, Nat.reduceMul, Nat.reduceSub, Nat.reduceLT, Nat.reduceLeDiff, if_true, if_false] <;> rfl) (e_MetricTable_tmx (by rfl) (Tm.clean (Clean.imm (c_MetricLink _))))) rfl List.not_mem_nil (by simp only [upd_get, Nat.reduceEqDiff, reduceIte, Nat.reduceAdd, Nat.reduceMul, Nat.reduceSub, Nat.reduceLT, Nat.reduceLeDiff, if_true, if_false] <;> rfl) (e_MetricTable_tmx (by rfl) (Tm.refL rfl ?_))) rfl List.not_mem_nil (by simp only [upd_get, Nat.reduceEqDiff, reduceIte, Nat.reduceAdd, Nat.reduceMul, Nat.reduceSub, Nat.reduceLT, Nat.reduceLeDiff, if_true, if_false] <;> rfl) (TmL.of_eq (by first | rfl | (simp only [List.flatMap_append, List.flatMap_cons, List.flatMap_nil, List.map_append, List.map_cons, List.map_nil, List.append_nil, List.nil_append]; done) | (simp only [List.flatMap_append, List.flatMap_cons, List.flatMap_nil, List.map_append, List.map_cons, List.map_nil, List.append_nil, List.nil_append]; rfl)) (c_MetricLink _))) rfl List.not_mem_nil (by simp only [upd_get, Nat.reduceEqDiff, reduceIte, Nat.reduceAdd, Nat.reduceMul, Nat.reduceSub, Nat.reduceLT, Nat.reduceLeDiff, if_true, if_false] <;> rfl) (e_MetricTable_tmx (by rfl) (Tm.refL rfl ?_))) rfl List.not_mem_nil (by simp only [upd_get, Nat.reduceEqDiff, reduceIte, Nat.reduceAdd, Nat.reduceMul, Nat.reduceSub, Nat.reduceLT, Nat.reduceLeDiff, if_true, if_false] <;> rfl) (TmL.of_eq (by first | rfl | (simp only [List.flatMap_append, List.flatMap_cons, List.flatMap_nil, List.map_append, List.map_cons, List.map_nil, List.append_nil, List.nil_append]; done) | (simp only [List.flatMap_append, List.flatMap_cons, List.flatMap_nil, List.map_append, List.map_cons, List.map_nil, List.append_nil, List.nil_append]; rfl)) (c_MetricLink _))) rfl List.not_mem_nil (by simp only [upd_get, Nat.reduceEqDiff, reduceIte, Nat.reduceAdd, Nat.reduceMul, Nat.reduceSub, Nat.reduceLT, Nat.reduceLeDiff, if_true, if_false] <;> rfl) (e_MetricTable_tmx (by rfl) (Tm.refL rfl ?_))) rfl List.not_mem_nil (by simp only [upd_get, Nat.reduceEqDiff, reduceIte, Nat.reduceAdd, Nat.reduceMul, Nat.reduceSub, Nat.reduceLT, Nat.reduceLeDiff, if_true, if_false] <;> rfl) (TmL.of_eq (by first | rfl | (simp only [List.flatMap_append, List.flatMap_cons, List.flatMap_nil, List.map_append, List.map_cons, List.map_nil, List.append_nil, List.nil_append]; done) | (simp only [List.flatMap_append, List.flatMap_cons, List.flatMap_nil, List.map_append, List.map_cons, List.map_nil, List.append_nil, List.nil_append]; rfl)) (c_MetricLink _))) (tmAllU 22 (tmAllU 21 (tmAllU 20 (tmAllU 19 (tmAllU 18 (tmAllU 17 (tmAllU 16 (tmAllU 15 (tmAllU 14 (tmAllU 13 (tmAllU 12 (tmAllU 11 (tmAllU 5 (tmAllU 4 tmAll0 (Tm.v _)) (Tm.ptr rfl)) (Tm.ptr rfl)) (Tm.ptr rfl)) (Tm.v _)) (Tm.ptr rfl)) (Tm.v _)) (Tm.v _)) (Tm.v _)) (Tm.v _)) (Tm.v _)) (Tm.ptr rfl)) (Tm.clean (Clean.imm (c_Addr _)))) (Tm.v _)); all_goals (first | rfl | (simp only [List.length_take]; omega) | (simp only [List.length_append, List.length_cons, List.length_nil, List.length_modify, List.length_set, Nat.zero_add]; done) | (simp only [List.length_append, List.length_take, List.length_drop, List.length_cons, List.length_nil, List.length_modify, List.length_set, Nat.zero_add]; omega))) ?_; clear hKK KK
  unfold hotspotlaw38_MetricTables_S2
  refine awp_nr [4,5,11,12,13,14,15,16,17,18,19,20,21,22] (fun _ => rfl) fun tz => ?_
  refine awp_regW fun KK hKK => ?_
  refine xw_id ?_
  obtain ⟨x73, bx73, h0⟩ := bnd h0
  try simp only [go_sem, Nat.reduceEqDiff, reduceIte, Nat.reduceAdd, Nat.reduceMul, Nat.reduceSub, Nat.reduceLT, Nat.reduceLeDiff]
  refine xcall_M (hotspotref38_Age_m a0 a4 bx73) ?_; try dsimp only
  try refine xw_id ?_
  try simp only [go_sem, Nat.reduceEqDiff, reduceIte, Nat.reduceAdd, Nat.reduceMul, Nat.reduceSub, Nat.reduceLT, Nat.reduceLeDiff]
  refine hKK _ _ (Wk.refl _ _ _) ?_; clear hKK KK
  refine awp_nr [5,11,12,13,14,15,16,17,18,19,20,21,22,23,24,25] (fun _ => rfl) fun tz => ?_
  refine awp_regW fun KK hKK => ?_
  refine xw_id ?_
  try simp only [List.append_eq, Array.toList_append, List.append_toArray, List.toList_toArray, List.cons_append, List.nil_append]
  obtain ⟨x74, bx74, h0⟩ := bnd h0
  try simp only [go_sem, Nat.reduceEqDiff, reduceIte, Nat.reduceAdd, Nat.reduceMul, Nat.reduceSub, Nat.reduceLT, Nat.reduceLeDiff]
  refine xcall_L (by first | (simp only [go_sem, fz, Nat.reduceEqDiff, reduceIte, Nat.reduceAdd, Nat.reduceMul, Nat.reduceSub, Nat.reduceLT, Nat.reduceLeDiff]; done) | (simp only [go_sem, fz, Nat.reduceEqDiff, reduceIte, Nat.reduceAdd, Nat.reduceMul, Nat.reduceSub, Nat.reduceLT, Nat.reduceLeDiff]; rfl) | (simp only [go_sem, fz, List.length_set, ble_self, take_set, cond_true, cond_false, Nat.reduceEqDiff, reduceIte, Nat.reduceAdd, Nat.reduceMul, Nat.reduceSub, Nat.reduceLT, Nat.reduceLeDiff]; done) | (simp only [go_sem, fz, List.length_set, ble_self, take_set, cond_true, cond_false, Nat.reduceEqDiff, reduceIte, Nat.reduceAdd, Nat.reduceMul, Nat.reduceSub, Nat.reduceLT, Nat.reduceLeDiff]; rfl)) (hotspotref38_Same_p x68.1 x69.1 bx74) (Bare.v _) ?_; try dsimp only
  try refine xw_id ?_
  refine xw_stop 1 (by (try simp only [go_sem]); rfl) (by (try simp only [go_sem]); rfl) (by rfl) fun K1 hK1 => ?_
  refine xw_id ?_
  try simp only [go_sem, Nat.reduceEqDiff, reduceIte, Nat.reduceAdd, Nat.reduceMul, Nat.reduceSub, Nat.reduceLT, Nat.reduceLeDiff]
  refine hK1 _ ?_; clear hK1 K1
  refine xw_cut 4 [(5, (.ptr 0 0)), (11, (.ptr 1 0)), (12, (.ptr 2 0)), (16, (vi x70.1)), (17, (vi x70.2)), (18, (vi x71.1)), (19, (vi x71.2)), (20, (.ptr 6 0)), (21, (.imm (List.flatMap e_Addr x72.2.1) x72.2.1.length)), (22, (vi x72.2.2)), (23, (.ptr 15 0)), (24, (.ref 20 0 x73.2.1.length 6)), (25, (vi x73.2.2)), (88, (vb (x74 && (x68.2 == x69.2))))] (by (try simp only [go_sem]); rfl) (by (try simp only [go_sem]); rfl) (by rfl) (fun K1 hK1 => ?_) fun tz => ?_
  ·
   refine xw_id ?_
   rcases Bool.eq_false_or_eq_true x74 with h2 | h2
   ·
    try simp only [go_sem, Nat.reduceEqDiff, reduceIte, Nat.reduceAdd, Nat.reduceMul, Nat.reduceSub, Nat.reduceLT, Nat.reduceLeDiff, h2]
    exact hK1 _ ⟨rfl, rfl, rfl, rfl, rfl, rfl, rfl, rfl, rfl, rfl, rfl, rfl, rfl, rfl, (by first | rfl | (rw [h2]; rfl) | (simp only [h2, Bool.true_and, Bool.false_and, Bool.true_or, Bool.false_or, cond_true, cond_false]; done)), trivial⟩
   ·
    try simp only [go_sem, Nat.reduceEqDiff, reduceIte, Nat.reduceAdd, Nat.reduceMul, Nat.reduceSub, Nat.reduceLT, Nat.reduceLeDiff, h2]
    exact hK1 _ ⟨rfl, rfl, rfl, rfl, rfl, rfl, rfl, rfl, rfl, rfl, rfl, rfl, rfl, rfl, (by first | rfl | (rw [h2]; rfl) | (simp only [h2, Bool.true_and, Bool.false_and, Bool.true_or, Bool.false_or, cond_true, cond_false]; done)), trivial⟩
  ·
   refine xw_id ?_
   refine xw_stop 1 (by (try simp only [go_sem]); rfl) (by (try simp only [go_sem]); rfl) (by rfl) fun K1 hK1 => ?_
   refine xw_id ?_
   try simp only [go_sem, Nat.reduceEqDiff, reduceIte, Nat.reduceAdd, Nat.reduceMul, Nat.reduceSub, Nat.reduceLT, Nat.reduceLeDiff]
   refine hK1 _ ?_; clear hK1 K1
   refine xw_cut 4 [(5, (.ptr 0 0)), (11, (.ptr 1 0)), (12, (.ptr 2 0)), (17, (vi x70.2)), (19, (vi x71.2)), (20, (.ptr 6 0)), (21, (.imm (List.flatMap e_Addr x72.2.1) x72.2.1.length)), (22, (vi x72.2.2)), (23, (.ptr 15 0)), (24, (.ref 20 0 x73.2.1.length 6)), (25, (vi x73.2.2)), (93, (vb ((x74 && (x68.2 == x69.2)) && (x70.1 == x71.1))))] (by (try simp only [go_sem]); rfl) (by (try simp only [go_sem]); rfl) (by rfl) (fun K1 hK1 => ?_) fun tz => ?_
   ·
    refine xw_id ?_
    rcases Bool.eq_false_or_eq_true (x74 && (x68.2 == x69.2)) with h3 | h3
    ·
     have h3_0 : (x74) = true := by simp only [Bool.and_eq_true] at h3; exact h3.1
     have h3_1 : (x68.2 == x69.2) = true := by simp only [Bool.and_eq_true] at h3; exact h3.2
     try simp only [go_sem, Nat.reduceEqDiff, reduceIte, Nat.reduceAdd, Nat.reduceMul, Nat.reduceSub, Nat.reduceLT, Nat.reduceLeDiff, h3, h3_0, h3_1]
     exact hK1 _ ⟨rfl, (by first | rfl | (rw [h3_0]; rfl) | (rw [h3_1]; rfl)), (by first | rfl | (rw [h3_0]; rfl) | (rw [h3_1]; rfl)), (by first | rfl | (rw [h3_0]; rfl) | (rw [h3_1]; rfl)), (by first | rfl | (rw [h3_0]; rfl) | (rw [h3_1]; rfl)), (by first | rfl | (rw [h3_0]; rfl) | (rw [h3_1]; rfl)), (by first | rfl | (rw [h3_0]; rfl) | (rw [h3_1]; rfl)), (by first | rfl | (rw [h3_0]; rfl) | (rw [h3_1]; rfl)), (by first | rfl | (rw [h3_0]; rfl) | (rw [h3_1]; rfl)), (by first | rfl | (rw [h3_0]; rfl) | (rw [h3_1]; rfl)), (by first | rfl | (rw [h3_0]; rfl) | (rw [h3_1]; rfl)), (by first | rfl | (rw [h3_0]; rfl) | (rw [h3_1]; rfl)), (by first | rfl | (rw [h3]; rfl) | (simp only [h3, Bool.true_and, Bool.false_and, Bool.true_or, Bool.false_or, cond_true, cond_false]; done)), trivial⟩
    ·
     try simp only [go_sem, Nat.reduceEqDiff, reduceIte, Nat.reduceAdd, Nat.reduceMul, Nat.reduceSub, Nat.reduceLT, Nat.reduceLeDiff, h3]
     exact hK1 _ ⟨rfl, rfl, rfl, rfl, rfl, rfl, rfl, rfl, rfl, rfl, rfl, rfl, (by first | rfl | (rw [h3]; rfl) | (simp only [h3, Bool.true_and, Bool.false_and, Bool.true_or, Bool.false_or, cond_true, cond_false]; done)), trivial⟩
   ·
    refine xw_id ?_
    refine xw_stop 1 (by (try simp only [go_sem]); rfl) (by (try simp only [go_sem]); rfl) (by rfl) fun K1 hK1 => ?_
    refine xw_id ?_
    try simp only [go_sem, Nat.reduceEqDiff, reduceIte, Nat.reduceAdd, Nat.reduceMul, Nat.reduceSub, Nat.reduceLT, Nat.reduceLeDiff]
    refine hK1 _ ?_; clear hK1 K1
    refine xw_cut 4 [(5, (.ptr 0 0)), (11, (.ptr 1 0)), (12, (.ptr 2 0)), (20, (.ptr 6 0)), (21, (.imm (List.flatMap e_Addr x72.2.1) x72.2.1.length)), (22, (vi x72.2.2)), (23, (.ptr 15 0)), (24, (.ref 20 0 x73.2.1.length 6)), (25, (vi x73.2.2)), (98, (vb (((x74 && (x68.2 == x69.2)) && (x70.1 == x71.1)) && (x70.2 == x71.2))))] (by (try simp only [go_sem]); rfl) (by (try simp only [go_sem]); rfl) (by rfl) (fun K1 hK1 => ?_) fun tz => ?_
    ·
     refine xw_id ?_
     rcases Bool.eq_false_or_eq_true ((x74 && (x68.2 == x69.2)) && (x70.1 == x71.1)) with h4 | h4
     ·
      have h4_0 : (x74) = true := by simp only [Bool.and_eq_true] at h4; exact h4.1.1
      have h4_1 : (x68.2 == x69.2) = true := by simp only [Bool.and_eq_true] at h4; exact h4.1.2
      have h4_2 : (x70.1 == x71.1) = true := by simp only [Bool.and_eq_true] at h4; exact h4.2
      try simp only [go_sem, Nat.reduceEqDiff, reduceIte, Nat.reduceAdd, Nat.reduceMul, Nat.reduceSub, Nat.reduceLT, Nat.reduceLeDiff, h4, h4_0, h4_1, h4_2]
      exact hK1 _ ⟨rfl, (by first | rfl | (rw [h4_0]; rfl) | (rw [h4_1]; rfl) | (rw [h4_2]; rfl)), (by first | rfl | (rw [h4_0]; rfl) | (rw [h4_1]; rfl) | (rw [h4_2]; rfl)), (by first | rfl | (rw [h4_0]; rfl) | (rw [h4_1]; rfl) | (rw [h4_2]; rfl)), (by first | rfl | (rw [h4_0]; rfl) | (rw [h4_1]; rfl) | (rw [h4_2]; rfl)), (by first | rfl | (rw [h4_0]; rfl) | (rw [h4_1]; rfl) | (rw [h4_2]; rfl)), (by first | rfl | (rw [h4_0]; rfl) | (rw [h4_1]; rfl) | (rw [h4_2]; rfl)), (by first | rfl | (rw [h4_0]; rfl) | (rw [h4_1]; rfl) | (rw [h4_2]; rfl)), (by first | rfl | (rw [h4_0]; rfl) | (rw [h4_1]; rfl) | (rw [h4_2]; rfl)), (by first | rfl | (rw [h4_0]; rfl) | (rw [h4_1]; rfl) | (rw [h4_2]; rfl)), (by first | rfl | (rw [h4]; rfl) | (simp only [h4, Bool.true_and, Bool.false_and, Bool.true_or, Bool.false_or, cond_true, cond_false]; done)), trivial⟩
     ·
      try simp only [go_sem, Nat.reduceEqDiff, reduceIte, Nat.reduceAdd, Nat.reduceMul, Nat.reduceSub, Nat.reduceLT, Nat.reduceLeDiff, h4]
      exact hK1 _ ⟨rfl, rfl, rfl, rfl, rfl, rfl, rfl, rfl, rfl, rfl, (by first | rfl | (rw [h4]; rfl) | (simp only [h4, Bool.true_and, Bool.false_and, Bool.true_or, Bool.false_or, cond_true, cond_false]; done)), trivial⟩
    ·
     refine xw_id ?_
     refine xw_stop 1 (by (try simp only [go_sem]); rfl) (by (try simp only [go_sem]); rfl) (by rfl) fun K1 hK1 => ?_
     refine xw_id ?_
     try simp only [go_sem, Nat.reduceEqDiff, reduceIte, Nat.reduceAdd, Nat.reduceMul, Nat.reduceSub, Nat.reduceLT, Nat.reduceLeDiff]
     refine hK1 _ ?_; clear hK1 K1
     obtain ⟨x76, hvh5, h0⟩ := bnd h0
     refine xw_cut 4 [(5, (.ptr 0 0)), (11, (.ptr 1 0)), (12, (.ptr 2 0)), (20, (.ptr 6 0)), (21, (.imm (List.flatMap e_Addr x72.2.1) x72.2.1.length)), (22, (vi x72.2.2)), (24, (.ref 20 0 x73.2.1.length 6)), (25, (vi x73.2.2)), (103, (vb x76))] (by (try simp only [go_sem]); rfl) (by (try simp only [go_sem]); rfl) (by rfl) (fun K1 hK1 => ?_) fun tz => ?_
     ·
      refine xw_id ?_
      rcases Bool.eq_false_or_eq_true (((x74 && (x68.2 == x69.2)) && (x70.1 == x71.1)) && (x70.2 == x71.2)) with h5 | h5
      ·
       have hvh5 := cT hvh5 h5
       have h5_0 : (x74) = true := by simp only [Bool.and_eq_true] at h5; exact h5.1.1.1
       have h5_1 : (x68.2 == x69.2) = true := by simp only [Bool.and_eq_true] at h5; exact h5.1.1.2
       have h5_2 : (x70.1 == x71.1) = true := by simp only [Bool.and_eq_true] at h5; exact h5.1.2
       have h5_3 : (x70.2 == x71.2) = true := by simp only [Bool.and_eq_true] at h5; exact h5.2
       obtain ⟨x75, bx75, hvh5⟩ := bnd hvh5
       try simp only [go_sem, Nat.reduceEqDiff, reduceIte, Nat.reduceAdd, Nat.reduceMul, Nat.reduceSub, Nat.reduceLT, Nat.reduceLeDiff, h5, h5_0, h5_1, h5_2, h5_3]
       refine xcall_L (by first | (simp only [go_sem, fz, Nat.reduceEqDiff, reduceIte, Nat.reduceAdd, Nat.reduceMul, Nat.reduceSub, Nat.reduceLT, Nat.reduceLeDiff, h5, h5_0, h5_1, h5_2, h5_3]; done) | (simp only [go_sem, fz, Nat.reduceEqDiff, reduceIte, Nat.reduceAdd, Nat.reduceMul, Nat.reduceSub, Nat.reduceLT, Nat.reduceLeDiff, h5, h5_0, h5_1, h5_2, h5_3]; rfl) | (simp only [go_sem, fz, List.length_set, ble_self, take_set, cond_true, cond_false, Nat.reduceEqDiff, reduceIte, Nat.reduceAdd, Nat.reduceMul, Nat.reduceSub, Nat.reduceLT, Nat.reduceLeDiff, h5, h5_0, h5_1, h5_2, h5_3]; done) | (simp only [go_sem, fz, List.length_set, ble_self, take_set, cond_true, cond_false, Nat.reduceEqDiff, reduceIte, Nat.reduceAdd, Nat.reduceMul, Nat.reduceSub, Nat.reduceLT, Nat.reduceLeDiff, h5, h5_0, h5_1, h5_2, h5_3]; rfl)) (hotspotref38_Same_p x72.1 x73.1 bx75) (Bare.v _) ?_; try dsimp only
       try refine xw_id ?_
       try simp only [go_sem, Nat.reduceEqDiff, reduceIte, Nat.reduceAdd, Nat.reduceMul, Nat.reduceSub, Nat.reduceLT, Nat.reduceLeDiff, h5, h5_0, h5_1, h5_2, h5_3]
       obtain rfl := someInj hvh5
       exact hK1 _ ⟨rfl, (by first | rfl | (rw [h5_0]; rfl) | (rw [h5_1]; rfl) | (rw [h5_2]; rfl) | (rw [h5_3]; rfl)), (by first | rfl | (rw [h5_0]; rfl) | (rw [h5_1]; rfl) | (rw [h5_2]; rfl) | (rw [h5_3]; rfl)), (by first | rfl | (rw [h5_0]; rfl) | (rw [h5_1]; rfl) | (rw [h5_2]; rfl) | (rw [h5_3]; rfl)), (by first | rfl | (rw [h5_0]; rfl) | (rw [h5_1]; rfl) | (rw [h5_2]; rfl) | (rw [h5_3]; rfl)), (by first | rfl | (rw [h5_0]; rfl) | (rw [h5_1]; rfl) | (rw [h5_2]; rfl) | (rw [h5_3]; rfl)), (by first | rfl | (rw [h5_0]; rfl) | (rw [h5_1]; rfl) | (rw [h5_2]; rfl) | (rw [h5_3]; rfl)), (by first | rfl | (rw [h5_0]; rfl) | (rw [h5_1]; rfl) | (rw [h5_2]; rfl) | (rw [h5_3]; rfl)), (by first | rfl | (rw [h5_0]; rfl) | (rw [h5_1]; rfl) | (rw [h5_2]; rfl) | (rw [h5_3]; rfl)), (by first | rfl | (rw [h5]; rfl) | (simp only [h5, Bool.true_and, Bool.false_and, Bool.true_or, Bool.false_or, cond_true, cond_false]; done)), trivial⟩
      ·
       have hvh5 := cF hvh5 h5
       try simp only [go_sem, Nat.reduceEqDiff, reduceIte, Nat.reduceAdd, Nat.reduceMul, Nat.reduceSub, Nat.reduceLT, Nat.reduceLeDiff, h5]
       obtain rfl := someInj hvh5
       exact hK1 _ ⟨rfl, rfl, rfl, rfl, rfl, rfl, rfl, rfl, rfl, (by first | rfl | (rw [h5]; rfl) | (simp only [h5, Bool.true_and, Bool.false_and, Bool.true_or, Bool.false_or, cond_true, cond_false]; done)), trivial⟩
     ·
      refine xw_id ?_
      refine xw_stop 1 (by (try simp only [go_sem]); rfl) (by (try simp only [go_sem]); rfl) (by rfl) fun K1 hK1 => ?_
      refine xw_id ?_
      try simp only [go_sem, Nat.reduceEqDiff, reduceIte, Nat.reduceAdd, Nat.reduceMul, Nat.reduceSub, Nat.reduceLT, Nat.reduceLeDiff]
      refine hK1 _ ?_; clear hK1 K1
      obtain ⟨x78, hvh6, h0⟩ := bnd h0
      refine xw_cut 4 [(5, (.ptr 0 0)), (11, (.ptr 1 0)), (12, (.ptr 2 0)), (20, (.ptr 6 0)), (22, (vi x72.2.2)), (25, (vi x73.2.2)), (108, (vb x78))] (by (try simp only [go_sem]); rfl) (by (try simp only [go_sem]); rfl) (by rfl) (fun K1 hK1 => ?_) fun tz => ?_
      ·
       refine xw_id ?_
       rcases Bool.eq_false_or_eq_true x76 with h6 | h6
       ·
        have hvh6 := cT hvh6 h6
        obtain ⟨x77, bx77, hvh6⟩ := bnd hvh6
        try simp only [go_sem, Nat.reduceEqDiff, reduceIte, Nat.reduceAdd, Nat.reduceMul, Nat.reduceSub, Nat.reduceLT, Nat.reduceLeDiff, h6]
        refine xcall_L (by first | (simp only [go_sem, fz, Nat.reduceEqDiff, reduceIte, Nat.reduceAdd, Nat.reduceMul, Nat.reduceSub, Nat.reduceLT, Nat.reduceLeDiff, h6]; done) | (simp only [go_sem, fz, Nat.reduceEqDiff, reduceIte, Nat.reduceAdd, Nat.reduceMul, Nat.reduceSub, Nat.reduceLT, Nat.reduceLeDiff, h6]; rfl) | (simp only [go_sem, fz, List.length_set, ble_self, take_set, cond_true, cond_false, Nat.reduceEqDiff, reduceIte, Nat.reduceAdd, Nat.reduceMul, Nat.reduceSub, Nat.reduceLT, Nat.reduceLeDiff, h6]; done) | (simp only [go_sem, fz, List.length_set, ble_self, take_set, cond_true, cond_false, Nat.reduceEqDiff, reduceIte, Nat.reduceAdd, Nat.reduceMul, Nat.reduceSub, Nat.reduceLT, Nat.reduceLeDiff, h6]; rfl)) (hotspotref38_SameAddrs_p x72.2.1 x73.2.1 bx77) (Bare.v _) ?_; try dsimp only
        try refine xw_id ?_
        try simp only [go_sem, Nat.reduceEqDiff, reduceIte, Nat.reduceAdd, Nat.reduceMul, Nat.reduceSub, Nat.reduceLT, Nat.reduceLeDiff, h6]
        obtain rfl := someInj hvh6
        exact hK1 _ ⟨rfl, rfl, rfl, rfl, rfl, rfl, rfl, (by first | rfl | (rw [h6]; rfl) | (simp only [h6, Bool.true_and, Bool.false_and, Bool.true_or, Bool.false_or, cond_true, cond_false]; done)), trivial⟩
       ·
        have hvh6 := cF hvh6 h6
        try simp only [go_sem, Nat.reduceEqDiff, reduceIte, Nat.reduceAdd, Nat.reduceMul, Nat.reduceSub, Nat.reduceLT, Nat.reduceLeDiff, h6]
        obtain rfl := someInj hvh6
        exact hK1 _ ⟨rfl, rfl, rfl, rfl, rfl, rfl, rfl, (by first | rfl | (rw [h6]; rfl) | (simp only [h6, Bool.true_and, Bool.false_and, Bool.true_or, Bool.false_or, cond_true, cond_false]; done)), trivial⟩
      ·
       refine xw_id ?_
       refine xw_stop 1 (by (try simp only [go_sem]); rfl) (by (try simp only [go_sem]); rfl) (by rfl) fun K1 hK1 => ?_
       refine xw_id ?_
       try simp only [go_sem, Nat.reduceEqDiff, reduceIte, Nat.reduceAdd, Nat.reduceMul, Nat.reduceSub, Nat.reduceLT, Nat.reduceLeDiff]
       refine hK1 _ ?_; clear hK1 K1
       refine xw_cut 4 [(5, (.ptr 0 0)), (11, (.ptr 1 0)), (12, (.ptr 2 0)), (20, (.ptr 6 0)), (113, (vb (x78 && (x72.2.2 == x73.2.2))))] (by (try simp only [go_sem]); rfl) (by (try simp only [go_sem]); rfl) (by rfl) (fun K1 hK1 => ?_) fun tz => ?_
       ·
        refine xw_id ?_
        rcases Bool.eq_false_or_eq_true x78 with h7 | h7
        ·
         try simp only [go_sem, Nat.reduceEqDiff, reduceIte, Nat.reduceAdd, Nat.reduceMul, Nat.reduceSub, Nat.reduceLT, Nat.reduceLeDiff, h7]
         exact hK1 _ ⟨rfl, rfl, rfl, rfl, rfl, (by first | rfl | (rw [h7]; rfl) | (simp only [h7, Bool.true_and, Bool.false_and, Bool.true_or, Bool.false_or, cond_true, cond_false]; done)), trivial⟩
        ·
         try simp only [go_sem, Nat.reduceEqDiff, reduceIte, Nat.reduceAdd, Nat.reduceMul, Nat.reduceSub, Nat.reduceLT, Nat.reduceLeDiff, h7]
         exact hK1 _ ⟨rfl, rfl, rfl, rfl, rfl, (by first | rfl | (rw [h7]; rfl) | (simp only [h7, Bool.true_and, Bool.false_and, Bool.true_or, Bool.false_or, cond_true, cond_false]; done)), trivial⟩
       ·
        refine xw_id ?_
        refine xw_stop 1 (by (try simp only [go_sem]); rfl) (by (try simp only [go_sem]); rfl) (by rfl) fun K1 hK1 => ?_
        refine xw_id ?_
        try simp only [go_sem, Nat.reduceEqDiff, reduceIte, Nat.reduceAdd, Nat.reduceMul, Nat.reduceSub, Nat.reduceLT, Nat.reduceLeDiff]
        refine hK1 _ ?_; clear hK1 K1
        obtain ⟨x81, hvh8, h0⟩ := bnd h0
        refine xw_cut 6 [(5, (.ptr 0 0)), (11, (.ptr 1 0)), (12, (.ptr 2 0)), (20, (.ptr 6 0)), (120, (vb x81))] (by (try simp only [go_sem]); rfl) (by (try simp only [go_sem]); rfl) (by rfl) (fun K1 hK1 => ?_) fun tz => ?_
        ·
         refine xw_id ?_
         rcases Bool.eq_false_or_eq_true (x78 && (x72.2.2 == x73.2.2)) with h8 | h8
         ·
          have hvh8 := cT hvh8 h8
          have h8_0 : (x78) = true := by simp only [Bool.and_eq_true] at h8; exact h8.1
          have h8_1 : (x72.2.2 == x73.2.2) = true := by simp only [Bool.and_eq_true] at h8; exact h8.2
          obtain ⟨x79, bx79, hvh8⟩ := bnd hvh8
          try simp only [go_sem, Nat.reduceEqDiff, reduceIte, Nat.reduceAdd, Nat.reduceMul, Nat.reduceSub, Nat.reduceLT, Nat.reduceLeDiff, h8, h8_0, h8_1]
          refine xcall_p (metric_Check_p x67 bx79) ?_; try dsimp only
          try refine xw_id ?_
          obtain ⟨x80, bx80, hvh8⟩ := bnd hvh8
          try simp only [go_sem, Nat.reduceEqDiff, reduceIte, Nat.reduceAdd, Nat.reduceMul, Nat.reduceSub, Nat.reduceLT, Nat.reduceLeDiff, h8, h8_0, h8_1]
          refine xcall_p (hotspotref38_Check_p a0 bx80) ?_; try dsimp only
          try refine xw_id ?_
          try simp only [go_sem, Nat.reduceEqDiff, reduceIte, Nat.reduceAdd, Nat.reduceMul, Nat.reduceSub, Nat.reduceLT, Nat.reduceLeDiff, h8, h8_0, h8_1]
          obtain rfl := someInj hvh8
          exact hK1 _ ⟨rfl, (by first | rfl | (rw [h8_0]; rfl) | (rw [h8_1]; rfl)), (by first | rfl | (rw [h8_0]; rfl) | (rw [h8_1]; rfl)), (by first | rfl | (rw [h8_0]; rfl) | (rw [h8_1]; rfl)), (by first | rfl | (rw [h8_0]; rfl) | (rw [h8_1]; rfl)), (by first | rfl | (rw [h8]; rfl) | (simp only [h8, Bool.true_and, Bool.false_and, Bool.true_or, Bool.false_or, cond_true, cond_false]; done)), trivial⟩
         ·
          have hvh8 := cF hvh8 h8
          try simp only [go_sem, Nat.reduceEqDiff, reduceIte, Nat.reduceAdd, Nat.reduceMul, Nat.reduceSub, Nat.reduceLT, Nat.reduceLeDiff, h8]
          obtain rfl := someInj hvh8
          exact hK1 _ ⟨rfl, rfl, rfl, rfl, rfl, (by first | rfl | (rw [h8]; rfl) | (simp only [h8, Bool.true_and, Bool.false_and, Bool.true_or, Bool.false_or, cond_true, cond_false]; done)), trivial⟩
        ·
         refine xw_id ?_
         try simp only [go_sem, Nat.reduceEqDiff, reduceIte, Nat.reduceAdd, Nat.reduceMul, Nat.reduceSub, Nat.reduceLT, Nat.reduceLeDiff]
         refine hKK _ (hotspotlaw38_MetricTables_S3 a0 x67 x68 x72 x81) (by refine Wk.canonD [] [] [some 0, some 1, some 2, some 3, some 6, some 7] rfl trivial rfl (tmOU 5 (tmOU 4 (tmOU 3 (tmOU 2 (tmOU 1 (tmOU 0 tmO0 rfl List.not_mem_nil (by simp only [upd_get, Nat.reduceEqDiff, reduceIte, Nat.reduceAdd, Nat.reduceMul, Nat.reduceSub, Nat.reduceLT, Nat.reduceLeDiff, if_true, if_false] <;> rfl) (e_MetricTable_tmx (by rfl) (Tm.clean (Clean.imm (c_MetricLink _))))) rfl List.not_mem_nil (by simp only [upd_get, Nat.reduceEqDiff, reduceIte, Nat.reduceAdd, Nat.reduceMul, Nat.reduceSub, Nat.reduceLT, Nat.reduceLeDiff, if_true, if_false] <;> rfl) (e_MetricTable_tmx (by rfl) (Tm.clean (Clean.imm (c_MetricLink _))))) rfl List.not_mem_nil (by simp only [upd_get, Nat.reduceEqDiff, reduceIte, Nat.reduceAdd, Nat.reduceMul, Nat.reduceSub, Nat.reduceLT, Nat.reduceLeDiff, if_true, if_false] <;> rfl) (e_MetricTable_tmx (by rfl) (Tm.refL rfl ?_))) rfl List.not_mem_nil (by simp only [upd_get, Nat.reduceEqDiff, reduceIte, Nat.reduceAdd, Nat.reduceMul, Nat.reduceSub, Nat.reduceLT, Nat.reduceLeDiff, if_true, if_false] <;> rfl) (TmL.of_eq (by first | rfl | (simp only [List.flatMap_append, List.flatMap_cons, List.flatMap_nil, List.map_append, List.map_cons, List.map_nil, List.append_nil, List.nil_append]; done) | (simp only [List.flatMap_append, List.flatMap_cons, List.flatMap_nil, List.map_append, List.map_cons, List.map_nil, List.append_nil, List.nil_append]; rfl)) (c_MetricLink _))) rfl List.not_mem_nil (by simp only [upd_get, Nat.reduceEqDiff, reduceIte, Nat.reduceAdd, Nat.reduceMul, Nat.reduceSub, Nat.reduceLT, Nat.reduceLeDiff, if_true, if_false] <;> rfl) (e_MetricTable_tmx (by rfl) (Tm.refL rfl ?_))) rfl List.not_mem_nil (by simp only [upd_get, Nat.reduceEqDiff, reduceIte, Nat.reduceAdd, Nat.reduceMul, Nat.reduceSub, Nat.reduceLT, Nat.reduceLeDiff, if_true, if_false] <;> rfl) (TmL.of_eq (by first | rfl | (simp only [List.flatMap_append, List.flatMap_cons, List.flatMap_nil, List.map_append, List.map_cons, List.map_nil, List.append_nil, List.nil_append]; done) | (simp only [List.flatMap_append, List.flatMap_cons, List.flatMap_nil, List.map_append, List.map_cons, List.map_nil, List.append_nil, List.nil_append]; rfl)) (c_MetricLink _))) (tmAllU 26 (tmAllU 20 (tmAllU 12 (tmAllU 11 (tmAllU 5 tmAll0 (Tm.ptr rfl)) (Tm.ptr rfl)) (Tm.ptr rfl)) (Tm.ptr rfl)) (Tm.v _)); all_goals (first | rfl | (simp only [List.length_take]; omega) | (simp only [List.length_append, List.length_cons, List.length_nil, List.length_modify, List.length_set, Nat.zero_add]; done) | (simp only [List.length_append, List.length_take, List.length_drop, List.length_cons, List.length_nil, List.length_modify, List.length_set, Nat.zero_add]; omega))) ?_; clear hKK KK
         unfold hotspotlaw38_MetricTables_S3
         refine awp_assoc ?_
         refine awp_nr [5,11,12,20,26] (fun _ => rfl) fun tz => ?_
         refine awp_regW fun KK hKK => ?_
         refine xw_id ?_
         try simp only [go_sem, Nat.reduceEqDiff, reduceIte, Nat.reduceAdd, Nat.reduceMul, Nat.reduceSub, Nat.reduceLT, Nat.reduceLeDiff]
         refine hKK _ _ (Wk.refl _ _ _) ?_; clear hKK KK
         obtain ⟨d82, hi9, h0⟩ := bnd h0
         refine awp_cut (fun z => d82 = z) (fun d82 : Unit => hotspotlaw38_MetricTables_S4 a0 x67 x72 x81 d82) ?_ ?_
         ·
          refine awp_block1 ?_
          refine awp_loopS (fun n (d83 : (List MetricLink × Int)) => hotspotlaw38_MetricTables_L6 n d83 = some d82) (fun d83 : (List MetricLink × Int) => hotspotlaw38_MetricTables_S5 a0 x67 x68 x72 x81 d83) big (x68.1.Links, 0) (by refine Wk.canonD [] [] [some 0, some 1, some 2, some 3, some 4, some 5] rfl trivial rfl (tmOU 5 (tmOU 4 (tmOU 3 (tmOU 2 (tmOU 1 (tmOU 0 tmO0 rfl List.not_mem_nil (by simp only [upd_get, Nat.reduceEqDiff, reduceIte, Nat.reduceAdd, Nat.reduceMul, Nat.reduceSub, Nat.reduceLT, Nat.reduceLeDiff, if_true, if_false] <;> rfl) (e_MetricTable_tmx (by rfl) (Tm.clean (Clean.imm (c_MetricLink _))))) rfl List.not_mem_nil (by simp only [upd_get, Nat.reduceEqDiff, reduceIte, Nat.reduceAdd, Nat.reduceMul, Nat.reduceSub, Nat.reduceLT, Nat.reduceLeDiff, if_true, if_false] <;> rfl) (e_MetricTable_tmx (by rfl) (Tm.clean (Clean.imm (c_MetricLink _))))) rfl List.not_mem_nil (by simp only [upd_get, Nat.reduceEqDiff, reduceIte, Nat.reduceAdd, Nat.reduceMul, Nat.reduceSub, Nat.reduceLT, Nat.reduceLeDiff, if_true, if_false] <;> rfl) (e_MetricTable_tmx (by rfl) (Tm.refL rfl ?_))) rfl List.not_mem_nil (by simp only [upd_get, Nat.reduceEqDiff, reduceIte, Nat.reduceAdd, Nat.reduceMul, Nat.reduceSub, Nat.reduceLT, Nat.reduceLeDiff, if_true, if_false] <;> rfl) (TmL.of_eq (by first | rfl | (simp only [List.flatMap_append, List.flatMap_cons, List.flatMap_nil, List.map_append, List.map_cons, List.map_nil, List.append_nil, List.nil_append]; done) | (simp only [List.flatMap_append, List.flatMap_cons, List.flatMap_nil, List.map_append, List.map_cons, List.map_nil, List.append_nil, List.nil_append]; rfl)) (c_MetricLink _))) rfl List.not_mem_nil (by simp only [upd_get, Nat.reduceEqDiff, reduceIte, Nat.reduceAdd, Nat.reduceMul, Nat.reduceSub, Nat.reduceLT, Nat.reduceLeDiff, if_true, if_false] <;> rfl) (e_MetricTable_tmx (by rfl) (Tm.refL rfl ?_))) rfl List.not_mem_nil (by simp only [upd_get, Nat.reduceEqDiff, reduceIte, Nat.reduceAdd, Nat.reduceMul, Nat.reduceSub, Nat.reduceLT, Nat.reduceLeDiff, if_true, if_false] <;> rfl) (TmL.of_eq (by first | rfl | (simp only [List.flatMap_append, List.flatMap_cons, List.flatMap_nil, List.map_append, List.map_cons, List.map_nil, List.append_nil, List.nil_append]; done) | (simp only [List.flatMap_append, List.flatMap_cons, List.flatMap_nil, List.map_append, List.map_cons, List.map_nil, List.append_nil, List.nil_append]; rfl)) (c_MetricLink _))) (tmAllU 27 (tmAllU 26 (tmAllU 20 (tmAllU 12 (tmAllU 11 (tmAllU 5 tmAll0 (Tm.ptr rfl)) (Tm.ptr rfl)) (Tm.ptr rfl)) (Tm.ptr rfl)) (Tm.v _)) (Tm.v _)); all_goals (first | rfl | (simp only [List.length_take]; omega) | (simp only [List.length_append, List.length_cons, List.length_nil, List.length_modify, List.length_set, Nat.zero_add]; done) | (simp only [List.length_append, List.length_take, List.length_drop, List.length_cons, List.length_nil, List.length_modify, List.length_set, Nat.zero_add]; omega))) hi9 ?_
          clear hi9
          rintro n d83 hl11
          rcases n with _ | n10
          ·
           (rw [hotspotlaw38_MetricTables_L6] at hl11; cases hl11)
          ·
           rw [hotspotlaw38_MetricTables_L6] at hl11
           unfold hotspotlaw38_MetricTables_S5
           refine awp_assoc ?_
           refine awp_nr [5,11,12,20,26,27] (fun _ => rfl) fun tz => ?_
           refine awp_regW fun KK hKK => ?_
           refine xw_id ?_
           try simp only [go_sem, Nat.reduceEqDiff, reduceIte, Nat.reduceAdd, Nat.reduceMul, Nat.reduceSub, Nat.reduceLT, Nat.reduceLeDiff, Int.reduceToNat, Int.reduceBEq, Int.reduceBNe, Int.reduceLT, Int.reduceLE, Int.reduceAdd, Int.reduceSub, Int.reduceMul, Int.reduceNeg, Int.reduceEq, Int.reduceNe]
           refine hKK _ _ (Wk.refl _ _ _) ?_; clear hKK KK
           refine awp_cond (b := (decide (d83.2 < (((d83.1).length : Nat) : Int)))) rfl (fun h12 => ?_) (fun h12 => ?_)
           ·
            have hl11 := cT hl11 h12
            refine awp_skip ?_
            refine awp_blockW ?_
            refine awp_nr1 [5,11,12,20,26,27] (fun _ => rfl) fun tz => ?_
            refine awp_reg1 fun KK hKK => ?_
            refine xw_id ?_
            obtain ⟨x84, bx84, hl11⟩ := bnd hl11
            obtain ⟨fx84_0, fx84_1, fx84_2, fx84_3⟩ := idx_some bx84
            have fx84_5 : ((d83.2 : Int) < (((d83.1).length : Nat) : Int)) = True := by first | exact fx84_1 | (simp [List.length_modify, List.length_set]; omega)
            have gs13 : ((d83.2).toNat * 9 + 7 ≤ d83.1.length * 9) = True := eq_true (by (try simp only [List.length_modify, List.length_set]); omega)
            have gm14 : (d83.1.modify ((d83.2).toNat) fun y => { y with Rate := IntKind.wrap .i64 (x84.Rate + 1) })[(d83.2).toNat]? = some ({ x84 with Rate := IntKind.wrap .i64 (x84.Rate + 1) }) := getMod _ fx84_2
            try simp only [go_sem, Nat.reduceEqDiff, reduceIte, Nat.reduceAdd, Nat.reduceMul, Nat.reduceSub, Nat.reduceLT, Nat.reduceLeDiff, fx84_0, fx84_1, fx84_2, fx84_5, gs13, gm14]
            refine hKK _ ?_; clear hKK KK
            refine bq_n ?_
            refine seqW_i ?_
            refine awp_nr1 [5,11,12,20,26,27] (fun _ => rfl) fun tz => ?_
            refine awp_reg1 fun KK hKK => ?_
            refine xw_id ?_
            try simp only [go_sem, Nat.reduceEqDiff, reduceIte, Nat.reduceAdd, Nat.reduceMul, Nat.reduceSub, Nat.reduceLT, Nat.reduceLeDiff, fx84_0, fx84_1, fx84_2, fx84_5, gm14]
            refine hKK _ ?_; clear hKK KK
            refine lq_n ?_
            exact ⟨n10, ((d83.1.modify ((d83.2).toNat) fun y => { y with Rate := IntKind.wrap .i64 (x84.Rate + 1) }), IntKind.wrap .i64 (d83.2 + 1)), rfl, hl11, (by refine Wk.canonD [] [] [some 0, some 1, some 2, some 3, some 4, some 5] rfl trivial rfl (tmOU 5 (tmOU 4 (tmOU 3 (tmOU 2 (tmOU 1 (tmOU 0 tmO0 rfl List.not_mem_nil (by simp only [upd_get, Nat.reduceEqDiff, reduceIte, Nat.reduceAdd, Nat.reduceMul, Nat.reduceSub, Nat.reduceLT, Nat.reduceLeDiff, if_true, if_false] <;> rfl) (e_MetricTable_tmx (by rfl) (Tm.clean (Clean.imm (c_MetricLink _))))) rfl List.not_mem_nil (by simp only [upd_get, Nat.reduceEqDiff, reduceIte, Nat.reduceAdd, Nat.reduceMul, Nat.reduceSub, Nat.reduceLT, Nat.reduceLeDiff, if_true, if_false] <;> rfl) (e_MetricTable_tmx (by rfl) (Tm.clean (Clean.imm (c_MetricLink _))))) rfl List.not_mem_nil (by simp only [upd_get, Nat.reduceEqDiff, reduceIte, Nat.reduceAdd, Nat.reduceMul, Nat.reduceSub, Nat.reduceLT, Nat.reduceLeDiff, if_true, if_false] <;> rfl) (e_MetricTable_tmx (by rfl) (Tm.refL rfl ?_))) rfl List.not_mem_nil (by simp only [upd_get, Nat.reduceEqDiff, reduceIte, Nat.reduceAdd, Nat.reduceMul, Nat.reduceSub, Nat.reduceLT, Nat.reduceLeDiff, if_true, if_false] <;> rfl) (TmL.of_eq (by first | rfl | (simp only [List.flatMap_append, List.flatMap_cons, List.flatMap_nil, List.map_append, List.map_cons, List.map_nil, List.append_nil, List.nil_append]; done) | (simp only [List.flatMap_append, List.flatMap_cons, List.flatMap_nil, List.map_append, List.map_cons, List.map_nil, List.append_nil, List.nil_append]; rfl)) (c_MetricLink _))) rfl List.not_mem_nil (by simp only [upd_get, Nat.reduceEqDiff, reduceIte, Nat.reduceAdd, Nat.reduceMul, Nat.reduceSub, Nat.reduceLT, Nat.reduceLeDiff, if_true, if_false] <;> rfl) (e_MetricTable_tmx (by rfl) (Tm.refL rfl ?_))) rfl List.not_mem_nil (by simp only [upd_get, Nat.reduceEqDiff, reduceIte, Nat.reduceAdd, Nat.reduceMul, Nat.reduceSub, Nat.reduceLT, Nat.reduceLeDiff, if_true, if_false] <;> rfl) (TmL.of_eq (by first | rfl | (simp only [List.flatMap_append, List.flatMap_cons, List.flatMap_nil, List.map_append, List.map_cons, List.map_nil, List.append_nil, List.nil_append]; done) | (simp only [List.flatMap_append, List.flatMap_cons, List.flatMap_nil, List.map_append, List.map_cons, List.map_nil, List.append_nil, List.nil_append]; rfl)) (c_MetricLink _))) (tmAllU 27 (tmAllU 26 (tmAllU 20 (tmAllU 12 (tmAllU 11 (tmAllU 5 tmAll0 (Tm.ptr rfl)) (Tm.ptr rfl)) (Tm.ptr rfl)) (Tm.ptr rfl)) (Tm.v _)) (Tm.v _)); all_goals (first | rfl | (simp only [List.length_take]; omega) | (simp only [List.length_append, List.length_cons, List.length_nil, List.length_modify, List.length_set, Nat.zero_add]; done) | (simp only [List.length_append, List.length_take, List.length_drop, List.length_cons, List.length_nil, List.length_modify, List.length_set, Nat.zero_add]; omega)))⟩
           ·
            have hl11 := cF hl11 h12
            refine awp_exit ?_
            refine lq_e ?_
            refine bq_e ?_
            refine sq_n ?_
            obtain rfl := someInj hl11
            exact ⟨_, rfl, (by refine Wk.canonD [] [] [some 0, some 1, some 4, some 5] rfl trivial rfl (tmOU 3 (tmOU 2 (tmOU 1 (tmOU 0 tmO0 rfl List.not_mem_nil (by simp only [upd_get, Nat.reduceEqDiff, reduceIte, Nat.reduceAdd, Nat.reduceMul, Nat.reduceSub, Nat.reduceLT, Nat.reduceLeDiff, if_true, if_false] <;> rfl) (e_MetricTable_tmx (by rfl) (Tm.clean (Clean.imm (c_MetricLink _))))) rfl List.not_mem_nil (by simp only [upd_get, Nat.reduceEqDiff, reduceIte, Nat.reduceAdd, Nat.reduceMul, Nat.reduceSub, Nat.reduceLT, Nat.reduceLeDiff, if_true, if_false] <;> rfl) (e_MetricTable_tmx (by rfl) (Tm.clean (Clean.imm (c_MetricLink _))))) rfl List.not_mem_nil (by simp only [upd_get, Nat.reduceEqDiff, reduceIte, Nat.reduceAdd, Nat.reduceMul, Nat.reduceSub, Nat.reduceLT, Nat.reduceLeDiff, if_true, if_false] <;> rfl) (e_MetricTable_tmx (by rfl) (Tm.refL rfl ?_))) rfl List.not_mem_nil (by simp only [upd_get, Nat.reduceEqDiff, reduceIte, Nat.reduceAdd, Nat.reduceMul, Nat.reduceSub, Nat.reduceLT, Nat.reduceLeDiff, if_true, if_false] <;> rfl) (TmL.of_eq (by first | rfl | (simp only [List.flatMap_append, List.flatMap_cons, List.flatMap_nil, List.map_append, List.map_cons, List.map_nil, List.append_nil, List.nil_append]; done) | (simp only [List.flatMap_append, List.flatMap_cons, List.flatMap_nil, List.map_append, List.map_cons, List.map_nil, List.append_nil, List.nil_append]; rfl)) (c_MetricLink _))) (tmAllU 26 (tmAllU 20 (tmAllU 11 (tmAllU 5 tmAll0 (Tm.ptr rfl)) (Tm.ptr rfl)) (Tm.ptr rfl)) (Tm.v _)); all_goals (first | rfl | (simp only [List.length_take]; omega) | (simp only [List.length_append, List.length_cons, List.length_nil, List.length_modify, List.length_set, Nat.zero_add]; done) | (simp only [List.length_append, List.length_take, List.length_drop, List.length_cons, List.length_nil, List.length_modify, List.length_set, Nat.zero_add]; omega)))⟩
         ·
          rintro _ rfl
          clear hi9
          unfold hotspotlaw38_MetricTables_S4
          refine awp_assoc ?_
          refine awp_nr [5,11,20,26] (fun _ => rfl) fun tz => ?_
          refine awp_regW fun KK hKK => ?_
          refine xw_id ?_
          try simp only [go_sem, Nat.reduceEqDiff, reduceIte, Nat.reduceAdd, Nat.reduceMul, Nat.reduceSub, Nat.reduceLT, Nat.reduceLeDiff]
          refine hKK _ _ (Wk.refl _ _ _) ?_; clear hKK KK
          obtain ⟨d85, hi15, h0⟩ := bnd h0
          refine awp_cut (fun z => d85 = z) (fun d85 : Unit => hotspotlaw38_MetricTables_S7 a0 x67 x81 d85) ?_ ?_
          ·
           refine awp_block1 ?_
           refine awp_loopS (fun n (d86 : (List MetricLink × Int)) => hotspotlaw38_MetricTables_L9 n d86 = some d85) (fun d86 : (List MetricLink × Int) => hotspotlaw38_MetricTables_S8 a0 x67 x72 x81 d86) big (x72.1.Links, 0) (by refine Wk.canonD [] [] [some 0, some 1, some 2, some 3] rfl trivial rfl (tmOU 3 (tmOU 2 (tmOU 1 (tmOU 0 tmO0 rfl List.not_mem_nil (by simp only [upd_get, Nat.reduceEqDiff, reduceIte, Nat.reduceAdd, Nat.reduceMul, Nat.reduceSub, Nat.reduceLT, Nat.reduceLeDiff, if_true, if_false] <;> rfl) (e_MetricTable_tmx (by rfl) (Tm.clean (Clean.imm (c_MetricLink _))))) rfl List.not_mem_nil (by simp only [upd_get, Nat.reduceEqDiff, reduceIte, Nat.reduceAdd, Nat.reduceMul, Nat.reduceSub, Nat.reduceLT, Nat.reduceLeDiff, if_true, if_false] <;> rfl) (e_MetricTable_tmx (by rfl) (Tm.clean (Clean.imm (c_MetricLink _))))) rfl List.not_mem_nil (by simp only [upd_get, Nat.reduceEqDiff, reduceIte, Nat.reduceAdd, Nat.reduceMul, Nat.reduceSub, Nat.reduceLT, Nat.reduceLeDiff, if_true, if_false] <;> rfl) (e_MetricTable_tmx (by rfl) (Tm.refL rfl ?_))) rfl List.not_mem_nil (by simp only [upd_get, Nat.reduceEqDiff, reduceIte, Nat.reduceAdd, Nat.reduceMul, Nat.reduceSub, Nat.reduceLT, Nat.reduceLeDiff, if_true, if_false] <;> rfl) (TmL.of_eq (by first | rfl | (simp only [List.flatMap_append, List.flatMap_cons, List.flatMap_nil, List.map_append, List.map_cons, List.map_nil, List.append_nil, List.nil_append]; done) | (simp only [List.flatMap_append, List.flatMap_cons, List.flatMap_nil, List.map_append, List.map_cons, List.map_nil, List.append_nil, List.nil_append]; rfl)) (c_MetricLink _))) (tmAllU 28 (tmAllU 26 (tmAllU 20 (tmAllU 11 (tmAllU 5 tmAll0 (Tm.ptr rfl)) (Tm.ptr rfl)) (Tm.ptr rfl)) (Tm.v _)) (Tm.v _)); all_goals (first | rfl | (simp only [List.length_take]; omega) | (simp only [List.length_append, List.length_cons, List.length_nil, List.length_modify, List.length_set, Nat.zero_add]; done) | (simp only [List.length_append, List.length_take, List.length_drop, List.length_cons, List.length_nil, List.length_modify, List.length_set, Nat.zero_add]; omega))) hi15 ?_
           clear hi15
           rintro n d86 hl17
           rcases n with _ | n16
           ·
            (rw [hotspotlaw38_MetricTables_L9] at hl17; cases hl17)
           ·
            rw [hotspotlaw38_MetricTables_L9] at hl17
            unfold hotspotlaw38_MetricTables_S8
            refine awp_assoc ?_
            refine awp_nr [5,11,20,26,28] (fun _ => rfl) fun tz => ?_
            refine awp_regW fun KK hKK => ?_
            refine xw_id ?_
            try simp only [go_sem, Nat.reduceEqDiff, reduceIte, Nat.reduceAdd, Nat.reduceMul, Nat.reduceSub, Nat.reduceLT, Nat.reduceLeDiff, Int.reduceToNat, Int.reduceBEq, Int.reduceBNe, Int.reduceLT, Int.reduceLE, Int.reduceAdd, Int.reduceSub, Int.reduceMul, Int.reduceNeg, Int.reduceEq, Int.reduceNe]
            refine hKK _ _ (Wk.refl _ _ _) ?_; clear hKK KK
            refine awp_cond (b := (decide (d86.2 < (((d86.1).length : Nat) : Int)))) rfl (fun h18 => ?_) (fun h18 => ?_)
            ·
             have hl17 := cT hl17 h18
             refine awp_skip ?_
             refine awp_blockW ?_
             refine awp_nr1 [5,11,20,26,28] (fun _ => rfl) fun tz => ?_
             refine awp_reg1 fun KK hKK => ?_
             refine xw_id ?_
             obtain ⟨x87, bx87, hl17⟩ := bnd hl17
             obtain ⟨fx87_0, fx87_1, fx87_2, fx87_3⟩ := idx_some bx87
             have fx87_5 : ((d86.2 : Int) < (((d86.1).length : Nat) : Int)) = True := by first | exact fx87_1 | (simp [List.length_modify, List.length_set]; omega)
             have gs19 : ((d86.2).toNat * 9 + 7 ≤ d86.1.length * 9) = True := eq_true (by (try simp only [List.length_modify, List.length_set]); omega)
             have gm20 : (d86.1.modify ((d86.2).toNat) fun y => { y with Rate := IntKind.wrap .i64 (x87.Rate + 1) })[(d86.2).toNat]? = some ({ x87 with Rate := IntKind.wrap .i64 (x87.Rate + 1) }) := getMod _ fx87_2
             try simp only [go_sem, Nat.reduceEqDiff, reduceIte, Nat.reduceAdd, Nat.reduceMul, Nat.reduceSub, Nat.reduceLT, Nat.reduceLeDiff, fx87_0, fx87_1, fx87_2, fx87_5, gs19, gm20]
             refine hKK _ ?_; clear hKK KK
             refine bq_n ?_
             refine seqW_i ?_
             refine awp_nr1 [5,11,20,26,28] (fun _ => rfl) fun tz => ?_
             refine awp_reg1 fun KK hKK => ?_
             refine xw_id ?_
             try simp only [go_sem, Nat.reduceEqDiff, reduceIte, Nat.reduceAdd, Nat.reduceMul, Nat.reduceSub, Nat.reduceLT, Nat.reduceLeDiff, fx87_0, fx87_1, fx87_2, fx87_5, gm20]
             refine hKK _ ?_; clear hKK KK
             refine lq_n ?_
             exact ⟨n16, ((d86.1.modify ((d86.2).toNat) fun y => { y with Rate := IntKind.wrap .i64 (x87.Rate + 1) }), IntKind.wrap .i64 (d86.2 + 1)), rfl, hl17, (by refine Wk.canonD [] [] [some 0, some 1, some 2, some 3] rfl trivial rfl (tmOU 3 (tmOU 2 (tmOU 1 (tmOU 0 tmO0 rfl List.not_mem_nil (by simp only [upd_get, Nat.reduceEqDiff, reduceIte, Nat.reduceAdd, Nat.reduceMul, Nat.reduceSub, Nat.reduceLT, Nat.reduceLeDiff, if_true, if_false] <;> rfl) (e_MetricTable_tmx (by rfl) (Tm.clean (Clean.imm (c_MetricLink _))))) rfl List.not_mem_nil (by simp only [upd_get, Nat.reduceEqDiff, reduceIte, Nat.reduceAdd, Nat.reduceMul, Nat.reduceSub, Nat.reduceLT, Nat.reduceLeDiff, if_true, if_false] <;> rfl) (e_MetricTable_tmx (by rfl) (Tm.clean (Clean.imm (c_MetricLink _))))) rfl List.not_mem_nil (by simp only [upd_get, Nat.reduceEqDiff, reduceIte, Nat.reduceAdd, Nat.reduceMul, Nat.reduceSub, Nat.reduceLT, Nat.reduceLeDiff, if_true, if_false] <;> rfl) (e_MetricTable_tmx (by rfl) (Tm.refL rfl ?_))) rfl List.not_mem_nil (by simp only [upd_get, Nat.reduceEqDiff, reduceIte, Nat.reduceAdd, Nat.reduceMul, Nat.reduceSub, Nat.reduceLT, Nat.reduceLeDiff, if_true, if_false] <;> rfl) (TmL.of_eq (by first | rfl | (simp only [List.flatMap_append, List.flatMap_cons, List.flatMap_nil, List.map_append, List.map_cons, List.map_nil, List.append_nil, List.nil_append]; done) | (simp only [List.flatMap_append, List.flatMap_cons, List.flatMap_nil, List.map_append, List.map_cons, List.map_nil, List.append_nil, List.nil_append]; rfl)) (c_MetricLink _))) (tmAllU 28 (tmAllU 26 (tmAllU 20 (tmAllU 11 (tmAllU 5 tmAll0 (Tm.ptr rfl)) (Tm.ptr rfl)) (Tm.ptr rfl)) (Tm.v _)) (Tm.v _)); all_goals (first | rfl | (simp only [List.length_take]; omega) | (simp only [List.length_append, List.length_cons, List.length_nil, List.length_modify, List.length_set, Nat.zero_add]; done) | (simp only [List.length_append, List.length_take, List.length_drop, List.length_cons, List.length_nil, List.length_modify, List.length_set, Nat.zero_add]; omega)))⟩
            ·
             have hl17 := cF hl17 h18
             refine awp_exit ?_
             refine lq_e ?_
             refine bq_e ?_
             refine sq_n ?_
             obtain rfl := someInj hl17
             exact ⟨_, rfl, (Wk.canonD [] [] [some 0, some 1] rfl trivial rfl (tmOU 1 (tmOU 0 tmO0 rfl List.not_mem_nil (by simp only [upd_get, Nat.reduceEqDiff, reduceIte, Nat.reduceAdd, Nat.reduceMul, Nat.reduceSub, Nat.reduceLT, Nat.reduceLeDiff, if_true, if_false] <;> rfl) (e_MetricTable_tmx (by rfl) (Tm.clean (Clean.imm (c_MetricLink _))))) rfl List.not_mem_nil (by simp only [upd_get, Nat.reduceEqDiff, reduceIte, Nat.reduceAdd, Nat.reduceMul, Nat.reduceSub, Nat.reduceLT, Nat.reduceLeDiff, if_true, if_false] <;> rfl) (e_MetricTable_tmx (by rfl) (Tm.clean (Clean.imm (c_MetricLink _))))) (tmAllU 26 (tmAllU 11 (tmAllU 5 tmAll0 (Tm.ptr rfl)) (Tm.ptr rfl)) (Tm.v _)))⟩
          ·
           rintro _ rfl
           clear hi15
           unfold hotspotlaw38_MetricTables_S7
           refine awp_nr [5,11,26] (fun _ => rfl) fun tz => ?_
           refine awp_regW fun KK hKK => ?_
           refine xw_id ?_
           refine xw_stop 2 (by (try simp only [go_sem]); rfl) (by (try simp only [go_sem]); rfl) (by rfl) fun K1 hK1 => ?_
           refine xw_id ?_
           try simp only [go_sem, Nat.reduceEqDiff, reduceIte, Nat.reduceAdd, Nat.reduceMul, Nat.reduceSub, Nat.reduceLT, Nat.reduceLeDiff]
           refine hK1 _ ?_; clear hK1 K1
           obtain ⟨x89, hvh21, h0⟩ := bnd h0
           refine xw_cut 4 [(158, (vb x89))] (by (try simp only [go_sem]); rfl) (by (try simp only [go_sem]); rfl) (by rfl) (fun K1 hK1 => ?_) fun tz => ?_
           ·
            refine xw_id ?_
            rcases Bool.eq_false_or_eq_true x81 with h21 | h21
            ·
             have hvh21 := cT hvh21 h21
             obtain ⟨x88, bx88, hvh21⟩ := bnd hvh21
             try simp only [go_sem, Nat.reduceEqDiff, reduceIte, Nat.reduceAdd, Nat.reduceMul, Nat.reduceSub, Nat.reduceLT, Nat.reduceLeDiff, h21]
             refine xcall_p (hotspotref38_Same_p x67 a0 bx88) ?_; try dsimp only
             try refine xw_id ?_
             try simp only [go_sem, Nat.reduceEqDiff, reduceIte, Nat.reduceAdd, Nat.reduceMul, Nat.reduceSub, Nat.reduceLT, Nat.reduceLeDiff, h21]
             obtain rfl := someInj hvh21
             exact hK1 _ ⟨rfl, (by first | rfl | (rw [h21]; rfl) | (simp only [h21, Bool.true_and, Bool.false_and, Bool.true_or, Bool.false_or, cond_true, cond_false]; done)), trivial⟩
            ·
             have hvh21 := cF hvh21 h21
             try simp only [go_sem, Nat.reduceEqDiff, reduceIte, Nat.reduceAdd, Nat.reduceMul, Nat.reduceSub, Nat.reduceLT, Nat.reduceLeDiff, h21]
             obtain rfl := someInj hvh21
             exact hK1 _ ⟨rfl, (by first | rfl | (rw [h21]; rfl) | (simp only [h21, Bool.true_and, Bool.false_and, Bool.true_or, Bool.false_or, cond_true, cond_false]; done)), trivial⟩
           ·
            refine xw_id ?_
            try simp only [go_sem, Nat.reduceEqDiff, reduceIte, Nat.reduceAdd, Nat.reduceMul, Nat.reduceSub, Nat.reduceLT, Nat.reduceLeDiff]
            refine hKK _ _ (Wk.refl _ _ _) ?_; clear hKK KK
            refine awp_ret1 ?_
            obtain rfl := someInj h0
            refine endW_i ?_
            refine end_ret0 rs10 (rfl) ?_
            try simp only [go_sem, Nat.reduceEqDiff, reduceIte, Nat.reduceAdd, Nat.reduceMul, Nat.reduceSub, Nat.reduceLT, Nat.reduceLeDiff, fz, nilS, packR, List.take_nil, List.take_length, List.length_map, List.length_append, cond_true, cond_false, Nat.ble_eq, ble_self, List.map_append]
            all_goals rfl

end Go.AX.Z.TM
