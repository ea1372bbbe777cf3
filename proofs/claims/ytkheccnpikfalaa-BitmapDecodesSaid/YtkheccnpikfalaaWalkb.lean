/- A part of the proof: walks through the functions that the statement reaches. -/
import Derived.Test.YtkheccnpikfalaaWalka
set_option linter.unusedVariables false
set_option linter.unusedSimpArgs false

/-! (TDW hotspotref33 EncodeAs) -/

set_option linter.unusedSimpArgs false
set_option linter.unusedVariables false
set_option maxHeartbeats 4000000
namespace Go.AX.Z.TD
open Go.AX Go.Proofs
attribute [local irreducible] awp xw xop xcall gsp ob xd xdop xcallD seqQ loopQ blkQ endQ

def hotspotref33_EncodeAs_S0 (a0 : Traffic) (a1 : Int) (d19 : Int) : AS :=
 { objs := (upd (fun _ => .dead) 0 (.live (e_Traffic a0 (.imm (List.map vi a0.Aids) a0.Aids.length)))), next := 1, tmps := (upd (upd (upd (fun _ => .unk) 1 (vu a1)) 2 (.ptr 0 0)) 6 (vi d19)) }

def hotspotref33_EncodeAs_S1 (d20 : (List Int)) : AS :=
 { objs := (upd (fun _ => .dead) 0 (.live (List.map vi d20))), next := 1, tmps := (upd (fun _ => .unk) 7 (.ref 0 0 ((d20).length) 1)) }

def hotspotref33_EncodeAs_S2 (d21 : (List Int)) : AS :=
 { objs := (upd (fun _ => .dead) 0 (.live (List.map vi d21))), next := 1, tmps := (upd (fun _ => .unk) 7 (.ref 0 0 ((d21).length) 1)) }

def hotspotref33_EncodeAs_S3 (a0 : Traffic) (d22 : (List Int × Int)) : AS :=
 { objs := (upd (fun _ => .dead) 0 (.live (List.map vi d22.1))), next := 1, tmps := (upd (upd (upd (fun _ => .unk) 7 (.ref 0 0 ((d22.1).length) 1)) 8 (.imm (List.map vi a0.Aids) a0.Aids.length)) 9 (vi d22.2)) }

def hotspotref33_EncodeAs_S5 (d19 : Int) (a0 : Traffic) (d25 : Int) : AS :=
 { objs := (upd (fun _ => .dead) 0 (.live (List.map vi [d19]))), next := 1, tmps := (upd (upd (upd (upd (fun _ => .unk) 7 (.ref 0 0 1 1)) 8 (.imm (List.map vi a0.Aids) a0.Aids.length)) 10 (vi d25)) 11 (vi 0)) }

def hotspotref33_EncodeAs_S6 (d19 : Int) (a0 : Traffic) (d26 : (Int × Int)) : AS :=
 { objs := (upd (fun _ => .dead) 0 (.live (List.map vi [d19]))), next := 1, tmps := (upd (upd (upd (upd (upd (fun _ => .unk) 7 (.ref 0 0 1 1)) 8 (.imm (List.map vi a0.Aids) a0.Aids.length)) 10 (vi d26.1)) 11 (vi 0)) 12 (vi d26.2)) }

def hotspotref33_EncodeAs_S8 (d19 : Int) (a0 : Traffic) (d25 : Int) (d28 : Int) : AS :=
 { objs := (upd (fun _ => .dead) 0 (.live (List.map vi [d19]))), next := 1, tmps := (upd (upd (upd (upd (fun _ => .unk) 7 (.ref 0 0 1 1)) 8 (.imm (List.map vi a0.Aids) a0.Aids.length)) 10 (vi d25)) 11 (vi d28)) }

def hotspotref33_EncodeAs_S9 (d19 : Int) (a0 : Traffic) (d25 : Int) (d29 : (Int × Int)) : AS :=
 { objs := (upd (fun _ => .dead) 0 (.live (List.map vi [d19]))), next := 1, tmps := (upd (upd (upd (upd (upd (fun _ => .unk) 7 (.ref 0 0 1 1)) 8 (.imm (List.map vi a0.Aids) a0.Aids.length)) 10 (vi d25)) 11 (vi d29.1)) 13 (vi d29.2)) }

def hotspotref33_EncodeAs_S11 (d31 : (List Int)) : AS :=
 { objs := (upd (fun _ => .dead) 0 (.live (List.map vi d31))), next := 1, tmps := (upd (fun _ => .unk) 7 (.ref 0 0 ((d31).length) 1)) }

def hotspotref33_EncodeAs_S12 (a0 : Traffic) (d28 : Int) (d32 : (List Int × Int)) : AS :=
 { objs := (upd (fun _ => .dead) 0 (.live (List.map vi d32.1))), next := 1, tmps := (upd (upd (upd (upd (fun _ => .unk) 7 (.ref 0 0 ((d32.1).length) 1)) 8 (.imm (List.map vi a0.Aids) a0.Aids.length)) 11 (vi d28)) 14 (vi d32.2)) }

def hotspotref33_EncodeAs_S14 (d19 : Int) (a0 : Traffic) (d36 : Int) : AS :=
 { objs := (upd (fun _ => .dead) 0 (.live (List.map vi [d19]))), next := 1, tmps := (upd (upd (upd (fun _ => .unk) 7 (.ref 0 0 1 1)) 8 (.imm (List.map vi a0.Aids) a0.Aids.length)) 15 (vi d36)) }

def hotspotref33_EncodeAs_S15 (d19 : Int) (d36 : Int) (d38 : (List Int)) : AS :=
 { objs := (upd (upd (fun _ => .dead) 0 (.live (List.map vi [d19]))) 1 (.live (List.map vi d38))), next := 2, tmps := (upd (upd (upd (fun _ => .unk) 7 (.ref 0 0 1 1)) 15 (vi d36)) 16 (.ref 1 0 ((d38).length) 1)) }

def hotspotref33_EncodeAs_S16 (d19 : Int) (a0 : Traffic) (d36 : Int) (d39 : (List Int × Int)) : AS :=
 { objs := (upd (upd (fun _ => .dead) 0 (.live (List.map vi [d19]))) 1 (.live (List.map vi d39.1))), next := 2, tmps := (upd (upd (upd (upd (upd (fun _ => .unk) 7 (.ref 0 0 1 1)) 8 (.imm (List.map vi a0.Aids) a0.Aids.length)) 15 (vi d36)) 16 (.ref 1 0 ((d39.1).length) 1)) 17 (vi d39.2)) }

def hotspotref33_EncodeAs_S18 (d43 : (List Int)) : AS :=
 { objs := (upd (fun _ => .dead) 0 (.live (List.map vu d43))), next := 1, tmps := (upd (fun _ => .unk) 18 (.ref 0 0 ((d43).length) 1)) }

def hotspotref33_EncodeAs_S19 (d20 : (List Int)) (d44 : (List Int × Int)) : AS :=
 { objs := (upd (upd (fun _ => .dead) 0 (.live (List.map vi d20))) 1 (.live (List.map vu d44.1))), next := 2, tmps := (upd (upd (upd (fun _ => .unk) 7 (.ref 0 0 d20.length 1)) 18 (.ref 1 0 ((d44.1).length) 1)) 19 (vi d44.2)) }

theorem hotspotref33_EncodeAs_r (a0 : Traffic) (a1 : Int) {r : ((List Int) × Int)} (h0 : hotspotref33_EncodeAs a0 a1 = some r) : SndR K 12 [(.agg (E_Traffic a0)), (vu a1)] (fun q => (.tup [(.ref (q 0) 0 r.1.length 1), (vi r.2)])) [(List.map vu r.1)] := by
 refine SndR.of_walkW hC (show K.P.funcs[12]? = some Try.f12 from Try.func12) rfl rfl (by decide +kernel) (Nat.le_of_ble_eq_true rfl) ?_
 unfold hotspotref33_EncodeAs at h0
 refine awp_nr [0,1] (fun _ => rfl) fun tz => ?_
 refine awp_regW fun KK hKK => ?_
 refine xw_id ?_
 try simp only [go_sem, ↓iop_and, ↓iop_or, ↓iop_xor, ↓iop_andn, Nat.reduceEqDiff, reduceIte, Nat.reduceAdd, Nat.reduceMul, Nat.reduceSub, Nat.reduceLT, Nat.reduceLeDiff]
 refine hKK _ _ (Wk.refl _ _ _) ?_; clear hKK KK
 refine awp_assoc ?_
 refine awp_nr [1,2] (fun _ => rfl) fun tz => ?_
 refine awp_regW fun KK hKK => ?_
 refine xw_id ?_
 obtain ⟨x18, bx18, h0⟩ := bnd h0
 try simp only [go_sem, ↓iop_and, ↓iop_or, ↓iop_xor, ↓iop_andn, Nat.reduceEqDiff, reduceIte, Nat.reduceAdd, Nat.reduceMul, Nat.reduceSub, Nat.reduceLT, Nat.reduceLeDiff]
 refine xcall_p (hotspotref33_Valid_p a0 bx18) ?_; try dsimp only
 try refine xw_id ?_
 try simp only [go_sem, ↓iop_and, ↓iop_or, ↓iop_xor, ↓iop_andn, Nat.reduceEqDiff, reduceIte, Nat.reduceAdd, Nat.reduceMul, Nat.reduceSub, Nat.reduceLT, Nat.reduceLeDiff]
 refine hKK _ _ (Wk.refl _ _ _) ?_; clear hKK KK
 refine awp_cond (b := (!x18)) rfl (fun h1 => ?_) (fun h1 => ?_)
 ·
  have h0 := cT h0 h1
  refine awp_assoc ?_
  refine awp_nr [] (fun _ => rfl) fun tz => ?_
  refine awp_regW fun KK hKK => ?_
  refine xw_id ?_
  try simp only [go_sem, ↓iop_and, ↓iop_or, ↓iop_xor, ↓iop_andn, Nat.reduceEqDiff, reduceIte, Nat.reduceAdd, Nat.reduceMul, Nat.reduceSub, Nat.reduceLT, Nat.reduceLeDiff]
  refine hKK _ _ (Wk.refl _ _ _) ?_; clear hKK KK
  refine awp_ret ?_
  obtain rfl := someInj h0
  refine endW_i ?_
  refine end_ret0 rs12 (rfl) ?_
  refine Res.mk [] [none] rfl (resON resO0) (Tm.tup (TmL.cons (Tm.thaw _ _ _) (TmL.cons (Tm.v _) TmL.nil)))
 ·
  have h0 := cF h0 h1
  refine awp_skip ?_
  refine awp_assoc ?_
  refine awp_nr [1,2] (fun _ => rfl) fun tz => ?_
  refine awp_regW fun KK hKK => ?_
  refine xw_id ?_
  try simp only [go_sem, ↓iop_and, ↓iop_or, ↓iop_xor, ↓iop_andn, Nat.reduceEqDiff, reduceIte, Nat.reduceAdd, Nat.reduceMul, Nat.reduceSub, Nat.reduceLT, Nat.reduceLeDiff]
  refine hKK _ _ (Wk.refl _ _ _) ?_; clear hKK KK
  refine awp_cond (b := (decide (3 < a1))) rfl (fun h2 => ?_) (fun h2 => ?_)
  ·
   have h0 := cT h0 h2
   refine awp_assoc ?_
   refine awp_nr [] (fun _ => rfl) fun tz => ?_
   refine awp_regW fun KK hKK => ?_
   refine xw_id ?_
   try simp only [go_sem, ↓iop_and, ↓iop_or, ↓iop_xor, ↓iop_andn, Nat.reduceEqDiff, reduceIte, Nat.reduceAdd, Nat.reduceMul, Nat.reduceSub, Nat.reduceLT, Nat.reduceLeDiff]
   refine hKK _ _ (Wk.refl _ _ _) ?_; clear hKK KK
   refine awp_ret ?_
   obtain rfl := someInj h0
   refine endW_i ?_
   refine end_ret0 rs12 (rfl) ?_
   refine Res.mk [] [none] rfl (resON resO0) (Tm.tup (TmL.cons (Tm.thaw _ _ _) (TmL.cons (Tm.v _) TmL.nil)))
  ·
   have h0 := cF h0 h2
   refine awp_skip ?_
   refine awp_nr [1,2] (fun _ => rfl) fun tz => ?_
   refine awp_regW fun KK hKK => ?_
   refine xw_id ?_
   try simp only [go_sem, ↓iop_and, ↓iop_or, ↓iop_xor, ↓iop_andn, Nat.reduceEqDiff, reduceIte, Nat.reduceAdd, Nat.reduceMul, Nat.reduceSub, Nat.reduceLT, Nat.reduceLeDiff]
   refine hKK _ _ (Wk.refl _ _ _) ?_; clear hKK KK
   refine awp_assoc ?_
   refine awp_nr [1,2,6] (fun _ => rfl) fun tz => ?_
   refine awp_regW fun KK hKK => ?_
   refine xw_id ?_
   try simp only [go_sem, ↓iop_and, ↓iop_or, ↓iop_xor, ↓iop_andn, Nat.reduceEqDiff, reduceIte, Nat.reduceAdd, Nat.reduceMul, Nat.reduceSub, Nat.reduceLT, Nat.reduceLeDiff]
   refine hKK _ _ (Wk.refl _ _ _) ?_; clear hKK KK
   obtain ⟨d19, hi3, h0⟩ := bnd h0
   refine awp_cut (fun z => d19 = z) (fun d19 : Int => hotspotref33_EncodeAs_S0 a0 a1 d19) ?_ ?_
   ·
    refine awp_cond1 (b := a0.Group) rfl (fun h4 => ?_) (fun h4 => ?_)
    ·
     have hi3 := cT hi3 h4
     refine awp_nr1 [1,2,6] (fun _ => rfl) fun tz => ?_
     refine awp_reg1 fun KK hKK => ?_
     refine xw_id ?_
     try simp only [go_sem, ↓iop_and, ↓iop_or, ↓iop_xor, ↓iop_andn, Nat.reduceEqDiff, reduceIte, Nat.reduceAdd, Nat.reduceMul, Nat.reduceSub, Nat.reduceLT, Nat.reduceLeDiff]
     refine hKK _ ?_; clear hKK KK
     refine sq_n ?_
     obtain rfl := someInj hi3
     exact ⟨_, rfl, (Wk.canonD [] [] [some 0] rfl trivial rfl (tmOU 0 tmO0 rfl List.not_mem_nil (by simp only [upd_get, ↓iop_and, ↓iop_or, ↓iop_xor, ↓iop_andn, Nat.reduceEqDiff, reduceIte, Nat.reduceAdd, Nat.reduceMul, Nat.reduceSub, Nat.reduceLT, Nat.reduceLeDiff, if_true, if_false] <;> rfl) (e_Traffic_tmx (by rfl) (Tm.clean (Clean.imm (vi_clean _))))) (tmAllU 6 (tmAllU 2 (tmAllU 1 tmAll0 (Tm.v _)) (Tm.ptr rfl)) (Tm.v _)))⟩
    ·
     have hi3 := cF hi3 h4
     refine awp_skip1 ?_
     refine sq_n ?_
     obtain rfl := someInj hi3
     exact ⟨_, rfl, (Wk.canonD [] [] [some 0] rfl trivial rfl (tmOU 0 tmO0 rfl List.not_mem_nil (by simp only [upd_get, ↓iop_and, ↓iop_or, ↓iop_xor, ↓iop_andn, Nat.reduceEqDiff, reduceIte, Nat.reduceAdd, Nat.reduceMul, Nat.reduceSub, Nat.reduceLT, Nat.reduceLeDiff, if_true, if_false] <;> rfl) (e_Traffic_tmx (by rfl) (Tm.clean (Clean.imm (vi_clean _))))) (tmAllU 6 (tmAllU 2 (tmAllU 1 tmAll0 (Tm.v _)) (Tm.ptr rfl)) (Tm.v _)))⟩
   ·
    rintro _ rfl
    clear hi3
    unfold hotspotref33_EncodeAs_S0
    refine awp_nr [1,2,6] (fun _ => rfl) fun tz => ?_
    refine awp_regW fun KK hKK => ?_
    refine xw_id ?_
    try simp only [go_sem, ↓iop_and, ↓iop_or, ↓iop_xor, ↓iop_andn, Nat.reduceEqDiff, reduceIte, Nat.reduceAdd, Nat.reduceMul, Nat.reduceSub, Nat.reduceLT, Nat.reduceLeDiff]
    refine hKK _ _ (Wk.refl _ _ _) ?_; clear hKK KK
    refine awp_nr [1,2,7] (fun _ => rfl) fun tz => ?_
    refine awp_regW fun KK hKK => ?_
    refine xw_id ?_
    try simp only [go_sem, ↓iop_and, ↓iop_or, ↓iop_xor, ↓iop_andn, Nat.reduceEqDiff, reduceIte, Nat.reduceAdd, Nat.reduceMul, Nat.reduceSub, Nat.reduceLT, Nat.reduceLeDiff]
    refine hKK _ _ (Wk.refl _ _ _) ?_; clear hKK KK
    refine awp_assoc ?_
    refine awp_nr [1,7,8] (fun _ => rfl) fun tz => ?_
    refine awp_regW fun KK hKK => ?_
    refine xw_id ?_
    try simp only [go_sem, ↓iop_and, ↓iop_or, ↓iop_xor, ↓iop_andn, Nat.reduceEqDiff, reduceIte, Nat.reduceAdd, Nat.reduceMul, Nat.reduceSub, Nat.reduceLT, Nat.reduceLeDiff]
    refine hKK _ _ (Wk.refl _ _ _) ?_; clear hKK KK
    obtain ⟨d20, hi5, h0⟩ := bnd h0
    refine awp_cut (fun z => d20 = z) (fun d20 : (List Int) => hotspotref33_EncodeAs_S1 d20) ?_ ?_
    ·
     refine awp_block1 ?_
     refine awp_nr [7,8,35] (fun _ => rfl) fun tz => ?_
     refine awp_regW fun KK hKK => ?_
     refine xw_id ?_
     try simp only [go_sem, ↓iop_and, ↓iop_or, ↓iop_xor, ↓iop_andn, Nat.reduceEqDiff, reduceIte, Nat.reduceAdd, Nat.reduceMul, Nat.reduceSub, Nat.reduceLT, Nat.reduceLeDiff]
     refine hKK _ _ (Wk.refl _ _ _) ?_; clear hKK KK
     refine awp_cond1 (b := (a1 == 0)) rfl (fun h6 => ?_) (fun h6 => ?_)
     ·
      have hi5 := cT hi5 h6
      refine awp_nr [7,8] (fun _ => rfl) fun tz => ?_
      refine awp_regW fun KK hKK => ?_
      refine xw_id ?_
      try simp only [go_sem, ↓iop_and, ↓iop_or, ↓iop_xor, ↓iop_andn, Nat.reduceEqDiff, reduceIte, Nat.reduceAdd, Nat.reduceMul, Nat.reduceSub, Nat.reduceLT, Nat.reduceLeDiff]
      refine hKK _ _ (Wk.refl _ _ _) ?_; clear hKK KK
      obtain ⟨d21, hi7, hi5⟩ := bnd hi5
      refine awp_cutQ (fun z => d21 = z) (fun d21 : (List Int) => hotspotref33_EncodeAs_S2 d21) (clQ_blk clQ_cut) ?_ ?_
      ·
       refine awp_block1 ?_
       refine awp_loopS (fun n (d22 : (List Int × Int)) => hotspotref33_EncodeAs_L4 a0 n d22 = some d21) (fun d22 : (List Int × Int) => hotspotref33_EncodeAs_S3 a0 d22) big ([d19], 0) (by refine Wk.canonD [] [] [some 2] rfl trivial rfl (tmOU 0 tmO0 rfl List.not_mem_nil (by simp only [upd_get, ↓iop_and, ↓iop_or, ↓iop_xor, ↓iop_andn, Nat.reduceEqDiff, reduceIte, Nat.reduceAdd, Nat.reduceMul, Nat.reduceSub, Nat.reduceLT, Nat.reduceLeDiff, if_true, if_false] <;> rfl) (TmL.of_eq (by first | rfl | (simp only [List.flatMap_append, List.flatMap_cons, List.flatMap_nil, List.map_append, List.map_cons, List.map_nil, List.append_nil, List.nil_append]; done) | (simp only [List.flatMap_append, List.flatMap_cons, List.flatMap_nil, List.map_append, List.map_cons, List.map_nil, List.append_nil, List.nil_append]; rfl)) (vi_clean _))) (tmAllU 9 (tmAllU 8 (tmAllU 7 tmAll0 (Tm.refL rfl ?_)) (Tm.clean (Clean.imm (vi_clean _)))) (Tm.v _)); all_goals (first | rfl | (simp only [List.length_take]; omega) | (simp only [List.length_append, List.length_cons, List.length_nil, List.length_modify, List.length_set, Nat.zero_add]; done) | (simp only [List.length_append, List.length_take, List.length_drop, List.length_cons, List.length_nil, List.length_modify, List.length_set, Nat.zero_add]; omega) | omega)) hi7 ?_
       clear hi7
       rintro n d22 hl9
       rcases n with _ | n8
       ·
        (rw [hotspotref33_EncodeAs_L4] at hl9; cases hl9)
       ·
        rw [hotspotref33_EncodeAs_L4] at hl9
        unfold hotspotref33_EncodeAs_S3
        refine awp_assoc ?_
        refine awp_nr [7,8,9] (fun _ => rfl) fun tz => ?_
        refine awp_regW fun KK hKK => ?_
        refine xw_id ?_
        try simp only [go_sem, ↓iop_and, ↓iop_or, ↓iop_xor, ↓iop_andn, Nat.reduceEqDiff, reduceIte, Nat.reduceAdd, Nat.reduceMul, Nat.reduceSub, Nat.reduceLT, Nat.reduceLeDiff]
        refine hKK _ _ (Wk.refl _ _ _) ?_; clear hKK KK
        refine awp_cond (b := (decide (d22.2 < 32))) rfl (fun h10 => ?_) (fun h10 => ?_)
        ·
         have hl9 := cT hl9 h10
         refine awp_skip ?_
         refine awp_blockW ?_
         refine awp_nr1 [7,8,9] (fun _ => rfl) fun tz => ?_
         refine awp_reg1 fun KK hKK => ?_
         refine xw_id ?_
         obtain ⟨x23, bx23, hl9⟩ := bnd hl9
         try simp only [go_sem, ↓iop_and, ↓iop_or, ↓iop_xor, ↓iop_andn, Nat.reduceEqDiff, reduceIte, Nat.reduceAdd, Nat.reduceMul, Nat.reduceSub, Nat.reduceLT, Nat.reduceLeDiff]
         refine xcall_p (hotspotref33_mapByte_p a0.Aids d22.2 bx23) ?_; try dsimp only
         try refine xw_id ?_
         obtain ⟨x24, bx24, hl9⟩ := bnd hl9
         have bx24 := chk_some bx24
         simp only [Bool.and_eq_true, decide_eq_true_eq] at bx24
         have gx24_0 := bx24
         try simp only [go_sem, ↓iop_and, ↓iop_or, ↓iop_xor, ↓iop_andn, Nat.reduceEqDiff, reduceIte, Nat.reduceAdd, Nat.reduceMul, Nat.reduceSub, Nat.reduceLT, Nat.reduceLeDiff, Int.reduceToNat, Int.reduceBEq, Int.reduceBNe, Int.reduceLT, Int.reduceLE, Int.reduceAdd, Int.reduceSub, Int.reduceMul, Int.reduceNeg, Int.reduceEq, Int.reduceNe, gx24_0]
         refine hKK _ ?_; clear hKK KK
         refine bq_n ?_
         refine seqW_i ?_
         refine awp_nr1 [7,8,9] (fun _ => rfl) fun tz => ?_
         refine awp_reg1 fun KK hKK => ?_
         refine xw_id ?_
         try simp only [go_sem, ↓iop_and, ↓iop_or, ↓iop_xor, ↓iop_andn, Nat.reduceEqDiff, reduceIte, Nat.reduceAdd, Nat.reduceMul, Nat.reduceSub, Nat.reduceLT, Nat.reduceLeDiff]
         refine hKK _ ?_; clear hKK KK
         refine lq_n ?_
         exact ⟨n8, ((d22.1 ++ [x23]), IntKind.wrap .i64 (d22.2 + 1)), rfl, hl9, (by refine Wk.canonD [] [] [some 8] rfl trivial rfl (tmOU 0 tmO0 rfl List.not_mem_nil (by simp only [upd_get, ↓iop_and, ↓iop_or, ↓iop_xor, ↓iop_andn, Nat.reduceEqDiff, reduceIte, Nat.reduceAdd, Nat.reduceMul, Nat.reduceSub, Nat.reduceLT, Nat.reduceLeDiff, if_true, if_false] <;> rfl) (TmL.of_eq (by first | rfl | (simp only [List.flatMap_append, List.flatMap_cons, List.flatMap_nil, List.map_append, List.map_cons, List.map_nil, List.append_nil, List.nil_append]; done) | (simp only [List.flatMap_append, List.flatMap_cons, List.flatMap_nil, List.map_append, List.map_cons, List.map_nil, List.append_nil, List.nil_append]; rfl)) (vi_clean _))) (tmAllU 9 (tmAllU 8 (tmAllU 7 tmAll0 (Tm.refL rfl ?_)) (Tm.clean (Clean.imm (vi_clean _)))) (Tm.v _)); all_goals (first | rfl | (simp only [List.length_take]; omega) | (simp only [List.length_append, List.length_cons, List.length_nil, List.length_modify, List.length_set, Nat.zero_add]; done) | (simp only [List.length_append, List.length_take, List.length_drop, List.length_cons, List.length_nil, List.length_modify, List.length_set, Nat.zero_add]; omega) | omega))⟩
        ·
         have hl9 := cF hl9 h10
         refine awp_exit ?_
         refine lq_e ?_
         refine bq_e ?_
         refine sq_n ?_
         obtain rfl := someInj hl9
         exact ⟨_, rfl, (by refine Wk.canonD [] [] [some 0] rfl trivial rfl (tmOU 0 tmO0 rfl List.not_mem_nil (by simp only [upd_get, ↓iop_and, ↓iop_or, ↓iop_xor, ↓iop_andn, Nat.reduceEqDiff, reduceIte, Nat.reduceAdd, Nat.reduceMul, Nat.reduceSub, Nat.reduceLT, Nat.reduceLeDiff, if_true, if_false] <;> rfl) (TmL.of_eq (by first | rfl | (simp only [List.flatMap_append, List.flatMap_cons, List.flatMap_nil, List.map_append, List.map_cons, List.map_nil, List.append_nil, List.nil_append]; done) | (simp only [List.flatMap_append, List.flatMap_cons, List.flatMap_nil, List.map_append, List.map_cons, List.map_nil, List.append_nil, List.nil_append]; rfl)) (vi_clean _))) (tmAllU 7 tmAll0 (Tm.refL rfl ?_)); all_goals (first | rfl | (simp only [List.length_take]; omega) | (simp only [List.length_append, List.length_cons, List.length_nil, List.length_modify, List.length_set, Nat.zero_add]; done) | (simp only [List.length_append, List.length_take, List.length_drop, List.length_cons, List.length_nil, List.length_modify, List.length_set, Nat.zero_add]; omega) | omega))⟩
      ·
       rintro _ rfl
       clear hi7
       unfold hotspotref33_EncodeAs_S2
       refine bq_n ?_
       refine sq_n ?_
       obtain rfl := someInj hi5
       exact ⟨_, rfl, (by refine Wk.canonD [] [] [some 0] rfl trivial rfl (tmOU 0 tmO0 rfl List.not_mem_nil (by simp only [upd_get, ↓iop_and, ↓iop_or, ↓iop_xor, ↓iop_andn, Nat.reduceEqDiff, reduceIte, Nat.reduceAdd, Nat.reduceMul, Nat.reduceSub, Nat.reduceLT, Nat.reduceLeDiff, if_true, if_false] <;> rfl) (TmL.of_eq (by first | rfl | (simp only [List.flatMap_append, List.flatMap_cons, List.flatMap_nil, List.map_append, List.map_cons, List.map_nil, List.append_nil, List.nil_append]; done) | (simp only [List.flatMap_append, List.flatMap_cons, List.flatMap_nil, List.map_append, List.map_cons, List.map_nil, List.append_nil, List.nil_append]; rfl)) (vi_clean _))) (tmAllU 7 tmAll0 (Tm.refL rfl ?_)); all_goals (first | rfl | (simp only [List.length_take]; omega) | (simp only [List.length_append, List.length_cons, List.length_nil, List.length_modify, List.length_set, Nat.zero_add]; done) | (simp only [List.length_append, List.length_take, List.length_drop, List.length_cons, List.length_nil, List.length_modify, List.length_set, Nat.zero_add]; omega) | omega))⟩
     ·
      have hi5 := cF hi5 h6
      refine awp_nr [7,8,35] (fun _ => rfl) fun tz => ?_
      refine awp_regW fun KK hKK => ?_
      refine xw_id ?_
      try simp only [go_sem, ↓iop_and, ↓iop_or, ↓iop_xor, ↓iop_andn, Nat.reduceEqDiff, reduceIte, Nat.reduceAdd, Nat.reduceMul, Nat.reduceSub, Nat.reduceLT, Nat.reduceLeDiff]
      refine hKK _ _ (Wk.refl _ _ _) ?_; clear hKK KK
      refine awp_cond1 (b := (a1 == 1)) rfl (fun h11 => ?_) (fun h11 => ?_)
      ·
       have hi5 := cT hi5 h11
       refine awp_nr [7,8] (fun _ => rfl) fun tz => ?_
       refine awp_regW fun KK hKK => ?_
       refine xw_id ?_
       try simp only [go_sem, ↓iop_and, ↓iop_or, ↓iop_xor, ↓iop_andn, Nat.reduceEqDiff, reduceIte, Nat.reduceAdd, Nat.reduceMul, Nat.reduceSub, Nat.reduceLT, Nat.reduceLeDiff]
       refine hKK _ _ (Wk.refl _ _ _) ?_; clear hKK KK
       refine awp_assoc ?_
       refine awp_nr [7,8,10,11] (fun _ => rfl) fun tz => ?_
       refine awp_regW fun KK hKK => ?_
       refine xw_id ?_
       try simp only [go_sem, ↓iop_and, ↓iop_or, ↓iop_xor, ↓iop_andn, Nat.reduceEqDiff, reduceIte, Nat.reduceAdd, Nat.reduceMul, Nat.reduceSub, Nat.reduceLT, Nat.reduceLeDiff]
       refine hKK _ _ (Wk.refl _ _ _) ?_; clear hKK KK
       obtain ⟨d25, hi12, hi5⟩ := bnd hi5
       refine awp_cut (fun z => d25 = z) (fun d25 : Int => hotspotref33_EncodeAs_S5 d19 a0 d25) ?_ ?_
       ·
        refine awp_block1 ?_
        refine awp_loopS (fun n (d26 : (Int × Int)) => hotspotref33_EncodeAs_L7 a0 n d26 = some d25) (fun d26 : (Int × Int) => hotspotref33_EncodeAs_S6 d19 a0 d26) big (0, 31) (by refine Wk.canonD [] [] [some 2] rfl trivial rfl (tmOU 0 tmO0 rfl List.not_mem_nil (by simp only [upd_get, ↓iop_and, ↓iop_or, ↓iop_xor, ↓iop_andn, Nat.reduceEqDiff, reduceIte, Nat.reduceAdd, Nat.reduceMul, Nat.reduceSub, Nat.reduceLT, Nat.reduceLeDiff, if_true, if_false] <;> rfl) (TmL.of_eq (by first | rfl | (simp only [List.flatMap_append, List.flatMap_cons, List.flatMap_nil, List.map_append, List.map_cons, List.map_nil, List.append_nil, List.nil_append]; done) | (simp only [List.flatMap_append, List.flatMap_cons, List.flatMap_nil, List.map_append, List.map_cons, List.map_nil, List.append_nil, List.nil_append]; rfl)) (vi_clean _))) (tmAllU 12 (tmAllU 11 (tmAllU 10 (tmAllU 8 (tmAllU 7 tmAll0 (Tm.refL rfl ?_)) (Tm.clean (Clean.imm (vi_clean _)))) (Tm.v _)) (Tm.v _)) (Tm.v _)); all_goals (first | rfl | (simp only [List.length_take]; omega) | (simp only [List.length_append, List.length_cons, List.length_nil, List.length_modify, List.length_set, Nat.zero_add]; done) | (simp only [List.length_append, List.length_take, List.length_drop, List.length_cons, List.length_nil, List.length_modify, List.length_set, Nat.zero_add]; omega) | omega)) hi12 ?_
        clear hi12
        rintro n d26 hl14
        rcases n with _ | n13
        ·
         (rw [hotspotref33_EncodeAs_L7] at hl14; cases hl14)
        ·
         rw [hotspotref33_EncodeAs_L7] at hl14
         unfold hotspotref33_EncodeAs_S6
         refine awp_assoc ?_
         refine awp_nr [7,8,10,11,12] (fun _ => rfl) fun tz => ?_
         refine awp_regW fun KK hKK => ?_
         refine xw_id ?_
         try simp only [go_sem, ↓iop_and, ↓iop_or, ↓iop_xor, ↓iop_andn, Nat.reduceEqDiff, reduceIte, Nat.reduceAdd, Nat.reduceMul, Nat.reduceSub, Nat.reduceLT, Nat.reduceLeDiff]
         refine hKK _ _ (Wk.refl _ _ _) ?_; clear hKK KK
         refine awp_cond (b := (decide (0 ≤ d26.2))) rfl (fun h15 => ?_) (fun h15 => ?_)
         ·
          have hl14 := cT hl14 h15
          refine awp_skip ?_
          refine awp_blockW ?_
          refine awp_nr [7,8,10,11,12] (fun _ => rfl) fun tz => ?_
          refine awp_regW fun KK hKK => ?_
          refine xw_id ?_
          obtain ⟨x27, bx27, hl14⟩ := bnd hl14
          try simp only [go_sem, ↓iop_and, ↓iop_or, ↓iop_xor, ↓iop_andn, Nat.reduceEqDiff, reduceIte, Nat.reduceAdd, Nat.reduceMul, Nat.reduceSub, Nat.reduceLT, Nat.reduceLeDiff]
          refine xcall_p (hotspotref33_mapByte_p a0.Aids d26.2 bx27) ?_; try dsimp only
          try refine xw_id ?_
          try simp only [go_sem, ↓iop_and, ↓iop_or, ↓iop_xor, ↓iop_andn, Nat.reduceEqDiff, reduceIte, Nat.reduceAdd, Nat.reduceMul, Nat.reduceSub, Nat.reduceLT, Nat.reduceLeDiff]
          refine hKK _ _ (Wk.refl _ _ _) ?_; clear hKK KK
          refine awp_cond1 (b := (x27 != 0)) rfl (fun h16 => ?_) (fun h16 => ?_)
          ·
           have hl14 := cT hl14 h16
           refine awp_nr1 [7,8,11,12] (fun _ => rfl) fun tz => ?_
           refine awp_reg1 fun KK hKK => ?_
           refine xw_id ?_
           try simp only [go_sem, ↓iop_and, ↓iop_or, ↓iop_xor, ↓iop_andn, Nat.reduceEqDiff, reduceIte, Nat.reduceAdd, Nat.reduceMul, Nat.reduceSub, Nat.reduceLT, Nat.reduceLeDiff]
           refine hKK _ ?_; clear hKK KK
           refine bq_n ?_
           refine seqW_i ?_
           refine awp_nr1 [7,8,10,11,12] (fun _ => rfl) fun tz => ?_
           refine awp_reg1 fun KK hKK => ?_
           refine xw_id ?_
           try simp only [go_sem, ↓iop_and, ↓iop_or, ↓iop_xor, ↓iop_andn, Nat.reduceEqDiff, reduceIte, Nat.reduceAdd, Nat.reduceMul, Nat.reduceSub, Nat.reduceLT, Nat.reduceLeDiff]
           refine hKK _ ?_; clear hKK KK
           refine lq_n ?_
           exact ⟨n13, (d26.2, IntKind.wrap .i64 (d26.2 - 1)), rfl, hl14, (by refine Wk.canonD [] [] [some 0] rfl trivial rfl (tmOU 0 tmO0 rfl List.not_mem_nil (by simp only [upd_get, ↓iop_and, ↓iop_or, ↓iop_xor, ↓iop_andn, Nat.reduceEqDiff, reduceIte, Nat.reduceAdd, Nat.reduceMul, Nat.reduceSub, Nat.reduceLT, Nat.reduceLeDiff, if_true, if_false] <;> rfl) (TmL.of_eq (by first | rfl | (simp only [List.flatMap_append, List.flatMap_cons, List.flatMap_nil, List.map_append, List.map_cons, List.map_nil, List.append_nil, List.nil_append]; done) | (simp only [List.flatMap_append, List.flatMap_cons, List.flatMap_nil, List.map_append, List.map_cons, List.map_nil, List.append_nil, List.nil_append]; rfl)) (vi_clean _))) (tmAllU 12 (tmAllU 11 (tmAllU 10 (tmAllU 8 (tmAllU 7 tmAll0 (Tm.refL rfl ?_)) (Tm.clean (Clean.imm (vi_clean _)))) (Tm.v _)) (Tm.v _)) (Tm.v _)); all_goals (first | rfl | (simp only [List.length_take]; omega) | (simp only [List.length_append, List.length_cons, List.length_nil, List.length_modify, List.length_set, Nat.zero_add]; done) | (simp only [List.length_append, List.length_take, List.length_drop, List.length_cons, List.length_nil, List.length_modify, List.length_set, Nat.zero_add]; omega) | omega))⟩
          ·
           have hl14 := cF hl14 h16
           refine awp_skip1 ?_
           refine bq_n ?_
           refine seqW_i ?_
           refine awp_nr1 [7,8,10,11,12] (fun _ => rfl) fun tz => ?_
           refine awp_reg1 fun KK hKK => ?_
           refine xw_id ?_
           try simp only [go_sem, ↓iop_and, ↓iop_or, ↓iop_xor, ↓iop_andn, Nat.reduceEqDiff, reduceIte, Nat.reduceAdd, Nat.reduceMul, Nat.reduceSub, Nat.reduceLT, Nat.reduceLeDiff]
           refine hKK _ ?_; clear hKK KK
           refine lq_n ?_
           exact ⟨n13, (d26.1, IntKind.wrap .i64 (d26.2 - 1)), rfl, hl14, (by refine Wk.canonD [] [] [some 0] rfl trivial rfl (tmOU 0 tmO0 rfl List.not_mem_nil (by simp only [upd_get, ↓iop_and, ↓iop_or, ↓iop_xor, ↓iop_andn, Nat.reduceEqDiff, reduceIte, Nat.reduceAdd, Nat.reduceMul, Nat.reduceSub, Nat.reduceLT, Nat.reduceLeDiff, if_true, if_false] <;> rfl) (TmL.of_eq (by first | rfl | (simp only [List.flatMap_append, List.flatMap_cons, List.flatMap_nil, List.map_append, List.map_cons, List.map_nil, List.append_nil, List.nil_append]; done) | (simp only [List.flatMap_append, List.flatMap_cons, List.flatMap_nil, List.map_append, List.map_cons, List.map_nil, List.append_nil, List.nil_append]; rfl)) (vi_clean _))) (tmAllU 12 (tmAllU 11 (tmAllU 10 (tmAllU 8 (tmAllU 7 tmAll0 (Tm.refL rfl ?_)) (Tm.clean (Clean.imm (vi_clean _)))) (Tm.v _)) (Tm.v _)) (Tm.v _)); all_goals (first | rfl | (simp only [List.length_take]; omega) | (simp only [List.length_append, List.length_cons, List.length_nil, List.length_modify, List.length_set, Nat.zero_add]; done) | (simp only [List.length_append, List.length_take, List.length_drop, List.length_cons, List.length_nil, List.length_modify, List.length_set, Nat.zero_add]; omega) | omega))⟩
         ·
          have hl14 := cF hl14 h15
          refine awp_exit ?_
          refine lq_e ?_
          refine bq_e ?_
          refine sq_n ?_
          obtain rfl := someInj hl14
          exact ⟨_, rfl, (by refine Wk.canonD [] [] [some 0] rfl trivial rfl (tmOU 0 tmO0 rfl List.not_mem_nil (by simp only [upd_get, ↓iop_and, ↓iop_or, ↓iop_xor, ↓iop_andn, Nat.reduceEqDiff, reduceIte, Nat.reduceAdd, Nat.reduceMul, Nat.reduceSub, Nat.reduceLT, Nat.reduceLeDiff, if_true, if_false] <;> rfl) (TmL.of_eq (by first | rfl | (simp only [List.flatMap_append, List.flatMap_cons, List.flatMap_nil, List.map_append, List.map_cons, List.map_nil, List.append_nil, List.nil_append]; done) | (simp only [List.flatMap_append, List.flatMap_cons, List.flatMap_nil, List.map_append, List.map_cons, List.map_nil, List.append_nil, List.nil_append]; rfl)) (vi_clean _))) (tmAllU 11 (tmAllU 10 (tmAllU 8 (tmAllU 7 tmAll0 (Tm.refL rfl ?_)) (Tm.clean (Clean.imm (vi_clean _)))) (Tm.v _)) (Tm.v _)); all_goals (first | rfl | (simp only [List.length_take]; omega) | (simp only [List.length_append, List.length_cons, List.length_nil, List.length_modify, List.length_set, Nat.zero_add]; done) | (simp only [List.length_append, List.length_take, List.length_drop, List.length_cons, List.length_nil, List.length_modify, List.length_set, Nat.zero_add]; omega) | omega))⟩
       ·
        rintro _ rfl
        clear hi12
        unfold hotspotref33_EncodeAs_S5
        refine awp_assoc ?_
        refine awp_nr [7,8,10,11] (fun _ => rfl) fun tz => ?_
        refine awp_regW fun KK hKK => ?_
        refine xw_id ?_
        try simp only [go_sem, ↓iop_and, ↓iop_or, ↓iop_xor, ↓iop_andn, Nat.reduceEqDiff, reduceIte, Nat.reduceAdd, Nat.reduceMul, Nat.reduceSub, Nat.reduceLT, Nat.reduceLeDiff]
        refine hKK _ _ (Wk.refl _ _ _) ?_; clear hKK KK
        obtain ⟨d28, hi17, hi5⟩ := bnd hi5
        refine awp_cut (fun z => d28 = z) (fun d28 : Int => hotspotref33_EncodeAs_S8 d19 a0 d25 d28) ?_ ?_
        ·
         refine awp_block1 ?_
         refine awp_loopS (fun n (d29 : (Int × Int)) => hotspotref33_EncodeAs_L10 a0 n d29 = some d28) (fun d29 : (Int × Int) => hotspotref33_EncodeAs_S9 d19 a0 d25 d29) big (0, 0) (by refine Wk.canonD [] [] [some 0] rfl trivial rfl (tmOU 0 tmO0 rfl List.not_mem_nil (by simp only [upd_get, ↓iop_and, ↓iop_or, ↓iop_xor, ↓iop_andn, Nat.reduceEqDiff, reduceIte, Nat.reduceAdd, Nat.reduceMul, Nat.reduceSub, Nat.reduceLT, Nat.reduceLeDiff, if_true, if_false] <;> rfl) (TmL.of_eq (by first | rfl | (simp only [List.flatMap_append, List.flatMap_cons, List.flatMap_nil, List.map_append, List.map_cons, List.map_nil, List.append_nil, List.nil_append]; done) | (simp only [List.flatMap_append, List.flatMap_cons, List.flatMap_nil, List.map_append, List.map_cons, List.map_nil, List.append_nil, List.nil_append]; rfl)) (vi_clean _))) (tmAllU 13 (tmAllU 11 (tmAllU 10 (tmAllU 8 (tmAllU 7 tmAll0 (Tm.refL rfl ?_)) (Tm.clean (Clean.imm (vi_clean _)))) (Tm.v _)) (Tm.v _)) (Tm.v _)); all_goals (first | rfl | (simp only [List.length_take]; omega) | (simp only [List.length_append, List.length_cons, List.length_nil, List.length_modify, List.length_set, Nat.zero_add]; done) | (simp only [List.length_append, List.length_take, List.length_drop, List.length_cons, List.length_nil, List.length_modify, List.length_set, Nat.zero_add]; omega) | omega)) hi17 ?_
         clear hi17
         rintro n d29 hl19
         rcases n with _ | n18
         ·
          (rw [hotspotref33_EncodeAs_L10] at hl19; cases hl19)
         ·
          rw [hotspotref33_EncodeAs_L10] at hl19
          unfold hotspotref33_EncodeAs_S9
          refine awp_assoc ?_
          refine awp_nr [7,8,10,11,13] (fun _ => rfl) fun tz => ?_
          refine awp_regW fun KK hKK => ?_
          refine xw_id ?_
          try simp only [go_sem, ↓iop_and, ↓iop_or, ↓iop_xor, ↓iop_andn, Nat.reduceEqDiff, reduceIte, Nat.reduceAdd, Nat.reduceMul, Nat.reduceSub, Nat.reduceLT, Nat.reduceLeDiff]
          refine hKK _ _ (Wk.refl _ _ _) ?_; clear hKK KK
          refine awp_cond (b := (decide (d29.2 < 32))) rfl (fun h20 => ?_) (fun h20 => ?_)
          ·
           have hl19 := cT hl19 h20
           refine awp_skip ?_
           refine awp_blockW ?_
           refine awp_nr [7,8,10,11,13] (fun _ => rfl) fun tz => ?_
           refine awp_regW fun KK hKK => ?_
           refine xw_id ?_
           obtain ⟨x30, bx30, hl19⟩ := bnd hl19
           try simp only [go_sem, ↓iop_and, ↓iop_or, ↓iop_xor, ↓iop_andn, Nat.reduceEqDiff, reduceIte, Nat.reduceAdd, Nat.reduceMul, Nat.reduceSub, Nat.reduceLT, Nat.reduceLeDiff]
           refine xcall_p (hotspotref33_mapByte_p a0.Aids d29.2 bx30) ?_; try dsimp only
           try refine xw_id ?_
           try simp only [go_sem, ↓iop_and, ↓iop_or, ↓iop_xor, ↓iop_andn, Nat.reduceEqDiff, reduceIte, Nat.reduceAdd, Nat.reduceMul, Nat.reduceSub, Nat.reduceLT, Nat.reduceLeDiff]
           refine hKK _ _ (Wk.refl _ _ _) ?_; clear hKK KK
           refine awp_cond1 (b := (x30 != 0)) rfl (fun h21 => ?_) (fun h21 => ?_)
           ·
            have hl19 := cT hl19 h21
            refine awp_nr1 [7,8,10,13] (fun _ => rfl) fun tz => ?_
            refine awp_reg1 fun KK hKK => ?_
            refine xw_id ?_
            try simp only [go_sem, ↓iop_and, ↓iop_or, ↓iop_xor, ↓iop_andn, Nat.reduceEqDiff, reduceIte, Nat.reduceAdd, Nat.reduceMul, Nat.reduceSub, Nat.reduceLT, Nat.reduceLeDiff]
            refine hKK _ ?_; clear hKK KK
            refine bq_n ?_
            refine seqW_i ?_
            refine awp_nr1 [7,8,10,11,13] (fun _ => rfl) fun tz => ?_
            refine awp_reg1 fun KK hKK => ?_
            refine xw_id ?_
            try simp only [go_sem, ↓iop_and, ↓iop_or, ↓iop_xor, ↓iop_andn, Nat.reduceEqDiff, reduceIte, Nat.reduceAdd, Nat.reduceMul, Nat.reduceSub, Nat.reduceLT, Nat.reduceLeDiff]
            refine hKK _ ?_; clear hKK KK
            refine lq_n ?_
            exact ⟨n18, (IntKind.wrap .i64 (d29.2 + 1), IntKind.wrap .i64 (d29.2 + 1)), rfl, hl19, (by refine Wk.canonD [] [] [some 0] rfl trivial rfl (tmOU 0 tmO0 rfl List.not_mem_nil (by simp only [upd_get, ↓iop_and, ↓iop_or, ↓iop_xor, ↓iop_andn, Nat.reduceEqDiff, reduceIte, Nat.reduceAdd, Nat.reduceMul, Nat.reduceSub, Nat.reduceLT, Nat.reduceLeDiff, if_true, if_false] <;> rfl) (TmL.of_eq (by first | rfl | (simp only [List.flatMap_append, List.flatMap_cons, List.flatMap_nil, List.map_append, List.map_cons, List.map_nil, List.append_nil, List.nil_append]; done) | (simp only [List.flatMap_append, List.flatMap_cons, List.flatMap_nil, List.map_append, List.map_cons, List.map_nil, List.append_nil, List.nil_append]; rfl)) (vi_clean _))) (tmAllU 13 (tmAllU 11 (tmAllU 10 (tmAllU 8 (tmAllU 7 tmAll0 (Tm.refL rfl ?_)) (Tm.clean (Clean.imm (vi_clean _)))) (Tm.v _)) (Tm.v _)) (Tm.v _)); all_goals (first | rfl | (simp only [List.length_take]; omega) | (simp only [List.length_append, List.length_cons, List.length_nil, List.length_modify, List.length_set, Nat.zero_add]; done) | (simp only [List.length_append, List.length_take, List.length_drop, List.length_cons, List.length_nil, List.length_modify, List.length_set, Nat.zero_add]; omega) | omega))⟩
           ·
            have hl19 := cF hl19 h21
            refine awp_skip1 ?_
            refine bq_n ?_
            refine seqW_i ?_
            refine awp_nr1 [7,8,10,11,13] (fun _ => rfl) fun tz => ?_
            refine awp_reg1 fun KK hKK => ?_
            refine xw_id ?_
            try simp only [go_sem, ↓iop_and, ↓iop_or, ↓iop_xor, ↓iop_andn, Nat.reduceEqDiff, reduceIte, Nat.reduceAdd, Nat.reduceMul, Nat.reduceSub, Nat.reduceLT, Nat.reduceLeDiff]
            refine hKK _ ?_; clear hKK KK
            refine lq_n ?_
            exact ⟨n18, (d29.1, IntKind.wrap .i64 (d29.2 + 1)), rfl, hl19, (by refine Wk.canonD [] [] [some 0] rfl trivial rfl (tmOU 0 tmO0 rfl List.not_mem_nil (by simp only [upd_get, ↓iop_and, ↓iop_or, ↓iop_xor, ↓iop_andn, Nat.reduceEqDiff, reduceIte, Nat.reduceAdd, Nat.reduceMul, Nat.reduceSub, Nat.reduceLT, Nat.reduceLeDiff, if_true, if_false] <;> rfl) (TmL.of_eq (by first | rfl | (simp only [List.flatMap_append, List.flatMap_cons, List.flatMap_nil, List.map_append, List.map_cons, List.map_nil, List.append_nil, List.nil_append]; done) | (simp only [List.flatMap_append, List.flatMap_cons, List.flatMap_nil, List.map_append, List.map_cons, List.map_nil, List.append_nil, List.nil_append]; rfl)) (vi_clean _))) (tmAllU 13 (tmAllU 11 (tmAllU 10 (tmAllU 8 (tmAllU 7 tmAll0 (Tm.refL rfl ?_)) (Tm.clean (Clean.imm (vi_clean _)))) (Tm.v _)) (Tm.v _)) (Tm.v _)); all_goals (first | rfl | (simp only [List.length_take]; omega) | (simp only [List.length_append, List.length_cons, List.length_nil, List.length_modify, List.length_set, Nat.zero_add]; done) | (simp only [List.length_append, List.length_take, List.length_drop, List.length_cons, List.length_nil, List.length_modify, List.length_set, Nat.zero_add]; omega) | omega))⟩
          ·
           have hl19 := cF hl19 h20
           refine awp_exit ?_
           refine lq_e ?_
           refine bq_e ?_
           refine sq_n ?_
           obtain rfl := someInj hl19
           exact ⟨_, rfl, (by refine Wk.canonD [] [] [some 0] rfl trivial rfl (tmOU 0 tmO0 rfl List.not_mem_nil (by simp only [upd_get, ↓iop_and, ↓iop_or, ↓iop_xor, ↓iop_andn, Nat.reduceEqDiff, reduceIte, Nat.reduceAdd, Nat.reduceMul, Nat.reduceSub, Nat.reduceLT, Nat.reduceLeDiff, if_true, if_false] <;> rfl) (TmL.of_eq (by first | rfl | (simp only [List.flatMap_append, List.flatMap_cons, List.flatMap_nil, List.map_append, List.map_cons, List.map_nil, List.append_nil, List.nil_append]; done) | (simp only [List.flatMap_append, List.flatMap_cons, List.flatMap_nil, List.map_append, List.map_cons, List.map_nil, List.append_nil, List.nil_append]; rfl)) (vi_clean _))) (tmAllU 11 (tmAllU 10 (tmAllU 8 (tmAllU 7 tmAll0 (Tm.refL rfl ?_)) (Tm.clean (Clean.imm (vi_clean _)))) (Tm.v _)) (Tm.v _)); all_goals (first | rfl | (simp only [List.length_take]; omega) | (simp only [List.length_append, List.length_cons, List.length_nil, List.length_modify, List.length_set, Nat.zero_add]; done) | (simp only [List.length_append, List.length_take, List.length_drop, List.length_cons, List.length_nil, List.length_modify, List.length_set, Nat.zero_add]; omega) | omega))⟩
        ·
         rintro _ rfl
         clear hi17
         unfold hotspotref33_EncodeAs_S8
         refine awp_nr [7,8,10,11] (fun _ => rfl) fun tz => ?_
         refine awp_regW fun KK hKK => ?_
         refine xw_id ?_
         try simp only [go_sem, ↓iop_and, ↓iop_or, ↓iop_xor, ↓iop_andn, Nat.reduceEqDiff, reduceIte, Nat.reduceAdd, Nat.reduceMul, Nat.reduceSub, Nat.reduceLT, Nat.reduceLeDiff, Int.reduceToNat, Int.reduceBEq, Int.reduceBNe, Int.reduceLT, Int.reduceLE, Int.reduceAdd, Int.reduceSub, Int.reduceMul, Int.reduceNeg, Int.reduceEq, Int.reduceNe]
         refine hKK _ _ (Wk.refl _ _ _) ?_; clear hKK KK
         refine awp_nr [7,8,10,11] (fun _ => rfl) fun tz => ?_
         refine awp_regW fun KK hKK => ?_
         refine xw_id ?_
         try simp only [go_sem, ↓iop_and, ↓iop_or, ↓iop_xor, ↓iop_andn, Nat.reduceEqDiff, reduceIte, Nat.reduceAdd, Nat.reduceMul, Nat.reduceSub, Nat.reduceLT, Nat.reduceLeDiff]
         refine hKK _ _ (Wk.refl _ _ _) ?_; clear hKK KK
         obtain ⟨d31, hi22, hi5⟩ := bnd hi5
         refine awp_cutQ (fun z => d31 = z) (fun d31 : (List Int) => hotspotref33_EncodeAs_S11 d31) (clQ_blk clQ_cut) ?_ ?_
         ·
          refine awp_block1 ?_
          refine awp_loopS (fun n (d32 : (List Int × Int)) => hotspotref33_EncodeAs_L13 d28 a0 n d32 = some d31) (fun d32 : (List Int × Int) => hotspotref33_EncodeAs_S12 a0 d28 d32) big (([d19] ++ [d25, IntKind.wrap .i64 (d28 - d25)]), d25) (by refine Wk.canonD [] [] [some 7] rfl trivial rfl (tmOU 0 tmO0 rfl List.not_mem_nil (by simp only [upd_get, ↓iop_and, ↓iop_or, ↓iop_xor, ↓iop_andn, Nat.reduceEqDiff, reduceIte, Nat.reduceAdd, Nat.reduceMul, Nat.reduceSub, Nat.reduceLT, Nat.reduceLeDiff, if_true, if_false] <;> rfl) (TmL.of_eq (by first | rfl | (simp only [List.flatMap_append, List.flatMap_cons, List.flatMap_nil, List.map_append, List.map_cons, List.map_nil, List.append_nil, List.nil_append]; done) | (simp only [List.flatMap_append, List.flatMap_cons, List.flatMap_nil, List.map_append, List.map_cons, List.map_nil, List.append_nil, List.nil_append]; rfl)) (vi_clean _))) (tmAllU 14 (tmAllU 11 (tmAllU 8 (tmAllU 7 tmAll0 (Tm.refL rfl ?_)) (Tm.clean (Clean.imm (vi_clean _)))) (Tm.v _)) (Tm.v _)); all_goals (first | rfl | (simp only [List.length_take]; omega) | (simp only [List.length_append, List.length_cons, List.length_nil, List.length_modify, List.length_set, Nat.zero_add]; done) | (simp only [List.length_append, List.length_take, List.length_drop, List.length_cons, List.length_nil, List.length_modify, List.length_set, Nat.zero_add]; omega) | omega)) hi22 ?_
          clear hi22
          rintro n d32 hl24
          rcases n with _ | n23
          ·
           (rw [hotspotref33_EncodeAs_L13] at hl24; cases hl24)
          ·
           rw [hotspotref33_EncodeAs_L13] at hl24
           unfold hotspotref33_EncodeAs_S12
           refine awp_assoc ?_
           refine awp_nr [7,8,11,14] (fun _ => rfl) fun tz => ?_
           refine awp_regW fun KK hKK => ?_
           refine xw_id ?_
           try simp only [go_sem, ↓iop_and, ↓iop_or, ↓iop_xor, ↓iop_andn, Nat.reduceEqDiff, reduceIte, Nat.reduceAdd, Nat.reduceMul, Nat.reduceSub, Nat.reduceLT, Nat.reduceLeDiff]
           refine hKK _ _ (Wk.refl _ _ _) ?_; clear hKK KK
           refine awp_cond (b := (decide (d32.2 < d28))) rfl (fun h25 => ?_) (fun h25 => ?_)
           ·
            have hl24 := cT hl24 h25
            refine awp_skip ?_
            refine awp_blockW ?_
            refine awp_nr1 [7,8,11,14] (fun _ => rfl) fun tz => ?_
            refine awp_reg1 fun KK hKK => ?_
            refine xw_id ?_
            obtain ⟨x33, bx33, hl24⟩ := bnd hl24
            try simp only [go_sem, ↓iop_and, ↓iop_or, ↓iop_xor, ↓iop_andn, Nat.reduceEqDiff, reduceIte, Nat.reduceAdd, Nat.reduceMul, Nat.reduceSub, Nat.reduceLT, Nat.reduceLeDiff]
            refine xcall_p (hotspotref33_mapByte_p a0.Aids d32.2 bx33) ?_; try dsimp only
            try refine xw_id ?_
            obtain ⟨x34, bx34, hl24⟩ := bnd hl24
            have bx34 := chk_some bx34
            simp only [Bool.and_eq_true, decide_eq_true_eq] at bx34
            have gx34_0 := bx34
            try simp only [go_sem, ↓iop_and, ↓iop_or, ↓iop_xor, ↓iop_andn, Nat.reduceEqDiff, reduceIte, Nat.reduceAdd, Nat.reduceMul, Nat.reduceSub, Nat.reduceLT, Nat.reduceLeDiff, Int.reduceToNat, Int.reduceBEq, Int.reduceBNe, Int.reduceLT, Int.reduceLE, Int.reduceAdd, Int.reduceSub, Int.reduceMul, Int.reduceNeg, Int.reduceEq, Int.reduceNe, gx34_0]
            refine hKK _ ?_; clear hKK KK
            refine bq_n ?_
            refine seqW_i ?_
            refine awp_nr1 [7,8,11,14] (fun _ => rfl) fun tz => ?_
            refine awp_reg1 fun KK hKK => ?_
            refine xw_id ?_
            try simp only [go_sem, ↓iop_and, ↓iop_or, ↓iop_xor, ↓iop_andn, Nat.reduceEqDiff, reduceIte, Nat.reduceAdd, Nat.reduceMul, Nat.reduceSub, Nat.reduceLT, Nat.reduceLeDiff]
            refine hKK _ ?_; clear hKK KK
            refine lq_n ?_
            exact ⟨n23, ((d32.1 ++ [x33]), IntKind.wrap .i64 (d32.2 + 1)), rfl, hl24, (by refine Wk.canonD [] [] [some 9] rfl trivial rfl (tmOU 0 tmO0 rfl List.not_mem_nil (by simp only [upd_get, ↓iop_and, ↓iop_or, ↓iop_xor, ↓iop_andn, Nat.reduceEqDiff, reduceIte, Nat.reduceAdd, Nat.reduceMul, Nat.reduceSub, Nat.reduceLT, Nat.reduceLeDiff, if_true, if_false] <;> rfl) (TmL.of_eq (by first | rfl | (simp only [List.flatMap_append, List.flatMap_cons, List.flatMap_nil, List.map_append, List.map_cons, List.map_nil, List.append_nil, List.nil_append]; done) | (simp only [List.flatMap_append, List.flatMap_cons, List.flatMap_nil, List.map_append, List.map_cons, List.map_nil, List.append_nil, List.nil_append]; rfl)) (vi_clean _))) (tmAllU 14 (tmAllU 11 (tmAllU 8 (tmAllU 7 tmAll0 (Tm.refL rfl ?_)) (Tm.clean (Clean.imm (vi_clean _)))) (Tm.v _)) (Tm.v _)); all_goals (first | rfl | (simp only [List.length_take]; omega) | (simp only [List.length_append, List.length_cons, List.length_nil, List.length_modify, List.length_set, Nat.zero_add]; done) | (simp only [List.length_append, List.length_take, List.length_drop, List.length_cons, List.length_nil, List.length_modify, List.length_set, Nat.zero_add]; omega) | omega))⟩
           ·
            have hl24 := cF hl24 h25
            refine awp_exit ?_
            refine lq_e ?_
            refine bq_e ?_
            refine sq_n ?_
            obtain rfl := someInj hl24
            exact ⟨_, rfl, (by refine Wk.canonD [] [] [some 0] rfl trivial rfl (tmOU 0 tmO0 rfl List.not_mem_nil (by simp only [upd_get, ↓iop_and, ↓iop_or, ↓iop_xor, ↓iop_andn, Nat.reduceEqDiff, reduceIte, Nat.reduceAdd, Nat.reduceMul, Nat.reduceSub, Nat.reduceLT, Nat.reduceLeDiff, if_true, if_false] <;> rfl) (TmL.of_eq (by first | rfl | (simp only [List.flatMap_append, List.flatMap_cons, List.flatMap_nil, List.map_append, List.map_cons, List.map_nil, List.append_nil, List.nil_append]; done) | (simp only [List.flatMap_append, List.flatMap_cons, List.flatMap_nil, List.map_append, List.map_cons, List.map_nil, List.append_nil, List.nil_append]; rfl)) (vi_clean _))) (tmAllU 7 tmAll0 (Tm.refL rfl ?_)); all_goals (first | rfl | (simp only [List.length_take]; omega) | (simp only [List.length_append, List.length_cons, List.length_nil, List.length_modify, List.length_set, Nat.zero_add]; done) | (simp only [List.length_append, List.length_take, List.length_drop, List.length_cons, List.length_nil, List.length_modify, List.length_set, Nat.zero_add]; omega) | omega))⟩
         ·
          rintro _ rfl
          clear hi22
          unfold hotspotref33_EncodeAs_S11
          refine bq_n ?_
          refine sq_n ?_
          obtain rfl := someInj hi5
          exact ⟨_, rfl, (by refine Wk.canonD [] [] [some 0] rfl trivial rfl (tmOU 0 tmO0 rfl List.not_mem_nil (by simp only [upd_get, ↓iop_and, ↓iop_or, ↓iop_xor, ↓iop_andn, Nat.reduceEqDiff, reduceIte, Nat.reduceAdd, Nat.reduceMul, Nat.reduceSub, Nat.reduceLT, Nat.reduceLeDiff, if_true, if_false] <;> rfl) (TmL.of_eq (by first | rfl | (simp only [List.flatMap_append, List.flatMap_cons, List.flatMap_nil, List.map_append, List.map_cons, List.map_nil, List.append_nil, List.nil_append]; done) | (simp only [List.flatMap_append, List.flatMap_cons, List.flatMap_nil, List.map_append, List.map_cons, List.map_nil, List.append_nil, List.nil_append]; rfl)) (vi_clean _))) (tmAllU 7 tmAll0 (Tm.refL rfl ?_)); all_goals (first | rfl | (simp only [List.length_take]; omega) | (simp only [List.length_append, List.length_cons, List.length_nil, List.length_modify, List.length_set, Nat.zero_add]; done) | (simp only [List.length_append, List.length_take, List.length_drop, List.length_cons, List.length_nil, List.length_modify, List.length_set, Nat.zero_add]; omega) | omega))⟩
      ·
       have hi5 := cF hi5 h11
       refine awp_nr [7,8,35] (fun _ => rfl) fun tz => ?_
       refine awp_regW fun KK hKK => ?_
       refine xw_id ?_
       try simp only [go_sem, ↓iop_and, ↓iop_or, ↓iop_xor, ↓iop_andn, Nat.reduceEqDiff, reduceIte, Nat.reduceAdd, Nat.reduceMul, Nat.reduceSub, Nat.reduceLT, Nat.reduceLeDiff]
       refine hKK _ _ (Wk.refl _ _ _) ?_; clear hKK KK
       refine awp_cond1 (b := (a1 == 2)) rfl (fun h26 => ?_) (fun h26 => ?_)
       ·
        have hi5 := cT hi5 h26
        refine awp_nr [7,8] (fun _ => rfl) fun tz => ?_
        refine awp_regW fun KK hKK => ?_
        refine xw_id ?_
        try simp only [go_sem, ↓iop_and, ↓iop_or, ↓iop_xor, ↓iop_andn, Nat.reduceEqDiff, reduceIte, Nat.reduceAdd, Nat.reduceMul, Nat.reduceSub, Nat.reduceLT, Nat.reduceLeDiff, Int.reduceToNat, Int.reduceBEq, Int.reduceBNe, Int.reduceLT, Int.reduceLE, Int.reduceAdd, Int.reduceSub, Int.reduceMul, Int.reduceNeg, Int.reduceEq, Int.reduceNe]
        refine hKK _ _ (Wk.refl _ _ _) ?_; clear hKK KK
        refine awp_nr1 [7,8] (fun _ => rfl) fun tz => ?_
        refine awp_reg1 fun KK hKK => ?_
        refine xw_id ?_
        obtain ⟨x35, bx35, hi5⟩ := bnd hi5
        have bx35 := chk_some bx35
        simp only [Bool.and_eq_true, decide_eq_true_eq] at bx35
        have gx35_0 := bx35
        try simp only [go_sem, ↓iop_and, ↓iop_or, ↓iop_xor, ↓iop_andn, Nat.reduceEqDiff, reduceIte, Nat.reduceAdd, Nat.reduceMul, Nat.reduceSub, Nat.reduceLT, Nat.reduceLeDiff, Int.reduceToNat, Int.reduceBEq, Int.reduceBNe, Int.reduceLT, Int.reduceLE, Int.reduceAdd, Int.reduceSub, Int.reduceMul, Int.reduceNeg, Int.reduceEq, Int.reduceNe, gx35_0]
        refine hKK _ ?_; clear hKK KK
        refine bq_n ?_
        refine sq_n ?_
        obtain rfl := someInj hi5
        exact ⟨_, rfl, (by refine Wk.canonD [] [] [some 22] rfl trivial rfl (tmOU 0 tmO0 rfl List.not_mem_nil (by simp only [upd_get, ↓iop_and, ↓iop_or, ↓iop_xor, ↓iop_andn, Nat.reduceEqDiff, reduceIte, Nat.reduceAdd, Nat.reduceMul, Nat.reduceSub, Nat.reduceLT, Nat.reduceLeDiff, if_true, if_false] <;> rfl) (TmL.of_eq (by first | rfl | (simp only [List.flatMap_append, List.flatMap_cons, List.flatMap_nil, List.map_append, List.map_cons, List.map_nil, List.append_nil, List.nil_append]; done) | (simp only [List.flatMap_append, List.flatMap_cons, List.flatMap_nil, List.map_append, List.map_cons, List.map_nil, List.append_nil, List.nil_append]; rfl)) (vi_clean _))) (tmAllU 7 tmAll0 (Tm.refL rfl ?_)); all_goals (first | rfl | (simp only [List.length_take]; omega) | (simp only [List.length_append, List.length_cons, List.length_nil, List.length_modify, List.length_set, Nat.zero_add]; done) | (simp only [List.length_append, List.length_take, List.length_drop, List.length_cons, List.length_nil, List.length_modify, List.length_set, Nat.zero_add]; omega) | omega))⟩
       ·
        have hi5 := cF hi5 h26
        refine awp_nr [7,8,35] (fun _ => rfl) fun tz => ?_
        refine awp_regW fun KK hKK => ?_
        refine xw_id ?_
        try simp only [go_sem, ↓iop_and, ↓iop_or, ↓iop_xor, ↓iop_andn, Nat.reduceEqDiff, reduceIte, Nat.reduceAdd, Nat.reduceMul, Nat.reduceSub, Nat.reduceLT, Nat.reduceLeDiff]
        refine hKK _ _ (Wk.refl _ _ _) ?_; clear hKK KK
        refine awp_cond1 (b := (a1 == 3)) rfl (fun h27 => ?_) (fun h27 => ?_)
        ·
         have hi5 := cT hi5 h27
         refine awp_nr [7,8] (fun _ => rfl) fun tz => ?_
         refine awp_regW fun KK hKK => ?_
         refine xw_id ?_
         try simp only [go_sem, ↓iop_and, ↓iop_or, ↓iop_xor, ↓iop_andn, Nat.reduceEqDiff, reduceIte, Nat.reduceAdd, Nat.reduceMul, Nat.reduceSub, Nat.reduceLT, Nat.reduceLeDiff]
         refine hKK _ _ (Wk.refl _ _ _) ?_; clear hKK KK
         refine awp_assoc ?_
         refine awp_nr [7,8,15] (fun _ => rfl) fun tz => ?_
         refine awp_regW fun KK hKK => ?_
         refine xw_id ?_
         try simp only [go_sem, ↓iop_and, ↓iop_or, ↓iop_xor, ↓iop_andn, Nat.reduceEqDiff, reduceIte, Nat.reduceAdd, Nat.reduceMul, Nat.reduceSub, Nat.reduceLT, Nat.reduceLeDiff, Int.reduceToNat, Int.reduceBEq, Int.reduceBNe, Int.reduceLT, Int.reduceLE, Int.reduceAdd, Int.reduceSub, Int.reduceMul, Int.reduceNeg, Int.reduceEq, Int.reduceNe]
         refine hKK _ _ (Wk.refl _ _ _) ?_; clear hKK KK
         obtain ⟨d36, hi28, hi5⟩ := bnd hi5
         refine awp_cut (fun z => d36 = z) (fun d36 : Int => hotspotref33_EncodeAs_S14 d19 a0 d36) ?_ ?_
         ·
          refine awp_cond1 (b := (decide (0 < (a0.Aids.length : Int)))) rfl (fun h29 => ?_) (fun h29 => ?_)
          ·
           have hi28 := cT hi28 h29
           refine awp_nr1 [7,8] (fun _ => rfl) fun tz => ?_
           refine awp_reg1 fun KK hKK => ?_
           refine xw_id ?_
           obtain ⟨x37, bx37, hi28⟩ := bnd hi28
           obtain ⟨fx37_0, fx37_1, fx37_2, fx37_3⟩ := idx_some bx37
           try simp only [go_sem, ↓iop_and, ↓iop_or, ↓iop_xor, ↓iop_andn, Nat.reduceEqDiff, reduceIte, Nat.reduceAdd, Nat.reduceMul, Nat.reduceSub, Nat.reduceLT, Nat.reduceLeDiff, Int.reduceToNat, Int.reduceBEq, Int.reduceBNe, Int.reduceLT, Int.reduceLE, Int.reduceAdd, Int.reduceSub, Int.reduceMul, Int.reduceNeg, Int.reduceEq, Int.reduceNe, fx37_0, fx37_1, fx37_2]
           refine hKK _ ?_; clear hKK KK
           refine sq_n ?_
           obtain rfl := someInj hi28
           exact ⟨_, rfl, (by refine Wk.canonD [] [] [some 2] rfl trivial rfl (tmOU 0 tmO0 rfl List.not_mem_nil (by simp only [upd_get, ↓iop_and, ↓iop_or, ↓iop_xor, ↓iop_andn, Nat.reduceEqDiff, reduceIte, Nat.reduceAdd, Nat.reduceMul, Nat.reduceSub, Nat.reduceLT, Nat.reduceLeDiff, if_true, if_false] <;> rfl) (TmL.of_eq (by first | rfl | (simp only [List.flatMap_append, List.flatMap_cons, List.flatMap_nil, List.map_append, List.map_cons, List.map_nil, List.append_nil, List.nil_append]; done) | (simp only [List.flatMap_append, List.flatMap_cons, List.flatMap_nil, List.map_append, List.map_cons, List.map_nil, List.append_nil, List.nil_append]; rfl)) (vi_clean _))) (tmAllU 15 (tmAllU 8 (tmAllU 7 tmAll0 (Tm.refL rfl ?_)) (Tm.clean (Clean.imm (vi_clean _)))) (Tm.v _)); all_goals (first | rfl | (simp only [List.length_take]; omega) | (simp only [List.length_append, List.length_cons, List.length_nil, List.length_modify, List.length_set, Nat.zero_add]; done) | (simp only [List.length_append, List.length_take, List.length_drop, List.length_cons, List.length_nil, List.length_modify, List.length_set, Nat.zero_add]; omega) | omega))⟩
          ·
           have hi28 := cF hi28 h29
           refine awp_skip1 ?_
           refine sq_n ?_
           obtain rfl := someInj hi28
           exact ⟨_, rfl, (by refine Wk.canonD [] [] [some 2] rfl trivial rfl (tmOU 0 tmO0 rfl List.not_mem_nil (by simp only [upd_get, ↓iop_and, ↓iop_or, ↓iop_xor, ↓iop_andn, Nat.reduceEqDiff, reduceIte, Nat.reduceAdd, Nat.reduceMul, Nat.reduceSub, Nat.reduceLT, Nat.reduceLeDiff, if_true, if_false] <;> rfl) (TmL.of_eq (by first | rfl | (simp only [List.flatMap_append, List.flatMap_cons, List.flatMap_nil, List.map_append, List.map_cons, List.map_nil, List.append_nil, List.nil_append]; done) | (simp only [List.flatMap_append, List.flatMap_cons, List.flatMap_nil, List.map_append, List.map_cons, List.map_nil, List.append_nil, List.nil_append]; rfl)) (vi_clean _))) (tmAllU 15 (tmAllU 8 (tmAllU 7 tmAll0 (Tm.refL rfl ?_)) (Tm.clean (Clean.imm (vi_clean _)))) (Tm.v _)); all_goals (first | rfl | (simp only [List.length_take]; omega) | (simp only [List.length_append, List.length_cons, List.length_nil, List.length_modify, List.length_set, Nat.zero_add]; done) | (simp only [List.length_append, List.length_take, List.length_drop, List.length_cons, List.length_nil, List.length_modify, List.length_set, Nat.zero_add]; omega) | omega))⟩
         ·
          rintro _ rfl
          clear hi28
          unfold hotspotref33_EncodeAs_S14
          refine awp_nr [7,8,15] (fun _ => rfl) fun tz => ?_
          refine awp_regW fun KK hKK => ?_
          refine xw_id ?_
          try simp only [go_sem, ↓iop_and, ↓iop_or, ↓iop_xor, ↓iop_andn, Nat.reduceEqDiff, reduceIte, Nat.reduceAdd, Nat.reduceMul, Nat.reduceSub, Nat.reduceLT, Nat.reduceLeDiff]
          refine hKK _ _ (Wk.refl _ _ _) ?_; clear hKK KK
          refine awp_assoc ?_
          refine awp_nr [7,8,15,16] (fun _ => rfl) fun tz => ?_
          refine awp_regW fun KK hKK => ?_
          refine xw_id ?_
          try simp only [go_sem, ↓iop_and, ↓iop_or, ↓iop_xor, ↓iop_andn, Nat.reduceEqDiff, reduceIte, Nat.reduceAdd, Nat.reduceMul, Nat.reduceSub, Nat.reduceLT, Nat.reduceLeDiff]
          refine hKK _ _ (Wk.refl _ _ _) ?_; clear hKK KK
          obtain ⟨d38, hi30, hi5⟩ := bnd hi5
          refine awp_cut (fun z => d38 = z) (fun d38 : (List Int) => hotspotref33_EncodeAs_S15 d19 d36 d38) ?_ ?_
          ·
           refine awp_block1 ?_
           refine awp_loopS (fun n (d39 : (List Int × Int)) => hotspotref33_EncodeAs_L17 d36 a0 n d39 = some d38) (fun d39 : (List Int × Int) => hotspotref33_EncodeAs_S16 d19 a0 d36 d39) big ([], 1) (by refine Wk.canonD [] [] [some 0, none] rfl trivial rfl (tmON 1 (tmOU 0 tmO0 rfl List.not_mem_nil (by simp only [upd_get, ↓iop_and, ↓iop_or, ↓iop_xor, ↓iop_andn, Nat.reduceEqDiff, reduceIte, Nat.reduceAdd, Nat.reduceMul, Nat.reduceSub, Nat.reduceLT, Nat.reduceLeDiff, if_true, if_false] <;> rfl) (TmL.of_eq (by first | rfl | (simp only [List.flatMap_append, List.flatMap_cons, List.flatMap_nil, List.map_append, List.map_cons, List.map_nil, List.append_nil, List.nil_append]; done) | (simp only [List.flatMap_append, List.flatMap_cons, List.flatMap_nil, List.map_append, List.map_cons, List.map_nil, List.append_nil, List.nil_append]; rfl)) (vi_clean _))) rfl) (tmAllU 17 (tmAllU 16 (tmAllU 15 (tmAllU 8 (tmAllU 7 tmAll0 (Tm.refL rfl ?_)) (Tm.clean (Clean.imm (vi_clean _)))) (Tm.v _)) (Tm.thaw _ _ _)) (Tm.v _)); all_goals (first | rfl | (simp only [List.length_take]; omega) | (simp only [List.length_append, List.length_cons, List.length_nil, List.length_modify, List.length_set, Nat.zero_add]; done) | (simp only [List.length_append, List.length_take, List.length_drop, List.length_cons, List.length_nil, List.length_modify, List.length_set, Nat.zero_add]; omega) | omega)) hi30 ?_
           clear hi30
           rintro n d39 hl32
           rcases n with _ | n31
           ·
            (rw [hotspotref33_EncodeAs_L17] at hl32; cases hl32)
           ·
            rw [hotspotref33_EncodeAs_L17] at hl32
            unfold hotspotref33_EncodeAs_S16
            refine awp_assoc ?_
            refine awp_nr [7,8,15,16,17] (fun _ => rfl) fun tz => ?_
            refine awp_regW fun KK hKK => ?_
            refine xw_id ?_
            try simp only [go_sem, ↓iop_and, ↓iop_or, ↓iop_xor, ↓iop_andn, Nat.reduceEqDiff, reduceIte, Nat.reduceAdd, Nat.reduceMul, Nat.reduceSub, Nat.reduceLT, Nat.reduceLeDiff]
            refine hKK _ _ (Wk.refl _ _ _) ?_; clear hKK KK
            refine awp_cond (b := (decide (d39.2 < d36))) rfl (fun h33 => ?_) (fun h33 => ?_)
            ·
             have hl32 := cT hl32 h33
             refine awp_skip ?_
             refine awp_blockW ?_
             refine awp_nr [7,8,15,16,17] (fun _ => rfl) fun tz => ?_
             refine awp_regW fun KK hKK => ?_
             refine xw_id ?_
             obtain ⟨x40, bx40, hl32⟩ := bnd hl32
             try simp only [go_sem, ↓iop_and, ↓iop_or, ↓iop_xor, ↓iop_andn, Nat.reduceEqDiff, reduceIte, Nat.reduceAdd, Nat.reduceMul, Nat.reduceSub, Nat.reduceLT, Nat.reduceLeDiff]
             refine xcall_p (hotspotref33_In_p a0.Aids d39.2 bx40) ?_; try dsimp only
             try refine xw_id ?_
             try simp only [go_sem, ↓iop_and, ↓iop_or, ↓iop_xor, ↓iop_andn, Nat.reduceEqDiff, reduceIte, Nat.reduceAdd, Nat.reduceMul, Nat.reduceSub, Nat.reduceLT, Nat.reduceLeDiff]
             refine hKK _ _ (Wk.refl _ _ _) ?_; clear hKK KK
             refine awp_cond1 (b := (!x40)) rfl (fun h34 => ?_) (fun h34 => ?_)
             ·
              have hl32 := cT hl32 h34
              refine awp_nr1 [7,8,15,16,17] (fun _ => rfl) fun tz => ?_
              refine awp_reg1 fun KK hKK => ?_
              refine xw_id ?_
              obtain ⟨x41, bx41, hl32⟩ := bnd hl32
              have bx41 := chk_some bx41
              simp only [Bool.and_eq_true, decide_eq_true_eq] at bx41
              have gx41_0 := bx41
              try simp only [go_sem, ↓iop_and, ↓iop_or, ↓iop_xor, ↓iop_andn, Nat.reduceEqDiff, reduceIte, Nat.reduceAdd, Nat.reduceMul, Nat.reduceSub, Nat.reduceLT, Nat.reduceLeDiff, Int.reduceToNat, Int.reduceBEq, Int.reduceBNe, Int.reduceLT, Int.reduceLE, Int.reduceAdd, Int.reduceSub, Int.reduceMul, Int.reduceNeg, Int.reduceEq, Int.reduceNe, gx41_0]
              refine hKK _ ?_; clear hKK KK
              refine bq_n ?_
              refine seqW_i ?_
              refine awp_nr1 [7,8,15,16,17] (fun _ => rfl) fun tz => ?_
              refine awp_reg1 fun KK hKK => ?_
              refine xw_id ?_
              try simp only [go_sem, ↓iop_and, ↓iop_or, ↓iop_xor, ↓iop_andn, Nat.reduceEqDiff, reduceIte, Nat.reduceAdd, Nat.reduceMul, Nat.reduceSub, Nat.reduceLT, Nat.reduceLeDiff]
              refine hKK _ ?_; clear hKK KK
              refine lq_n ?_
              exact ⟨n31, ((d39.1 ++ [d39.2]), IntKind.wrap .i64 (d39.2 + 1)), rfl, hl32, (by refine Wk.canonD [] [] [some 0, some 12] rfl trivial rfl (tmOU 1 (tmOU 0 tmO0 rfl List.not_mem_nil (by simp only [upd_get, ↓iop_and, ↓iop_or, ↓iop_xor, ↓iop_andn, Nat.reduceEqDiff, reduceIte, Nat.reduceAdd, Nat.reduceMul, Nat.reduceSub, Nat.reduceLT, Nat.reduceLeDiff, if_true, if_false] <;> rfl) (TmL.of_eq (by first | rfl | (simp only [List.flatMap_append, List.flatMap_cons, List.flatMap_nil, List.map_append, List.map_cons, List.map_nil, List.append_nil, List.nil_append]; done) | (simp only [List.flatMap_append, List.flatMap_cons, List.flatMap_nil, List.map_append, List.map_cons, List.map_nil, List.append_nil, List.nil_append]; rfl)) (vi_clean _))) rfl List.not_mem_nil (by simp only [upd_get, ↓iop_and, ↓iop_or, ↓iop_xor, ↓iop_andn, Nat.reduceEqDiff, reduceIte, Nat.reduceAdd, Nat.reduceMul, Nat.reduceSub, Nat.reduceLT, Nat.reduceLeDiff, if_true, if_false] <;> rfl) (TmL.of_eq (by first | rfl | (simp only [List.flatMap_append, List.flatMap_cons, List.flatMap_nil, List.map_append, List.map_cons, List.map_nil, List.append_nil, List.nil_append]; done) | (simp only [List.flatMap_append, List.flatMap_cons, List.flatMap_nil, List.map_append, List.map_cons, List.map_nil, List.append_nil, List.nil_append]; rfl)) (vi_clean _))) (tmAllU 17 (tmAllU 16 (tmAllU 15 (tmAllU 8 (tmAllU 7 tmAll0 (Tm.refL rfl ?_)) (Tm.clean (Clean.imm (vi_clean _)))) (Tm.v _)) (Tm.refL rfl ?_)) (Tm.v _)); all_goals (first | rfl | (simp only [List.length_take]; omega) | (simp only [List.length_append, List.length_cons, List.length_nil, List.length_modify, List.length_set, Nat.zero_add]; done) | (simp only [List.length_append, List.length_take, List.length_drop, List.length_cons, List.length_nil, List.length_modify, List.length_set, Nat.zero_add]; omega) | omega))⟩
             ·
              have hl32 := cF hl32 h34
              refine awp_skip1 ?_
              refine bq_n ?_
              refine seqW_i ?_
              refine awp_nr1 [7,8,15,16,17] (fun _ => rfl) fun tz => ?_
              refine awp_reg1 fun KK hKK => ?_
              refine xw_id ?_
              try simp only [go_sem, ↓iop_and, ↓iop_or, ↓iop_xor, ↓iop_andn, Nat.reduceEqDiff, reduceIte, Nat.reduceAdd, Nat.reduceMul, Nat.reduceSub, Nat.reduceLT, Nat.reduceLeDiff]
              refine hKK _ ?_; clear hKK KK
              refine lq_n ?_
              exact ⟨n31, (d39.1, IntKind.wrap .i64 (d39.2 + 1)), rfl, hl32, (by refine Wk.canonD [] [] [some 0, some 1] rfl trivial rfl (tmOU 1 (tmOU 0 tmO0 rfl List.not_mem_nil (by simp only [upd_get, ↓iop_and, ↓iop_or, ↓iop_xor, ↓iop_andn, Nat.reduceEqDiff, reduceIte, Nat.reduceAdd, Nat.reduceMul, Nat.reduceSub, Nat.reduceLT, Nat.reduceLeDiff, if_true, if_false] <;> rfl) (TmL.of_eq (by first | rfl | (simp only [List.flatMap_append, List.flatMap_cons, List.flatMap_nil, List.map_append, List.map_cons, List.map_nil, List.append_nil, List.nil_append]; done) | (simp only [List.flatMap_append, List.flatMap_cons, List.flatMap_nil, List.map_append, List.map_cons, List.map_nil, List.append_nil, List.nil_append]; rfl)) (vi_clean _))) rfl List.not_mem_nil (by simp only [upd_get, ↓iop_and, ↓iop_or, ↓iop_xor, ↓iop_andn, Nat.reduceEqDiff, reduceIte, Nat.reduceAdd, Nat.reduceMul, Nat.reduceSub, Nat.reduceLT, Nat.reduceLeDiff, if_true, if_false] <;> rfl) (TmL.of_eq (by first | rfl | (simp only [List.flatMap_append, List.flatMap_cons, List.flatMap_nil, List.map_append, List.map_cons, List.map_nil, List.append_nil, List.nil_append]; done) | (simp only [List.flatMap_append, List.flatMap_cons, List.flatMap_nil, List.map_append, List.map_cons, List.map_nil, List.append_nil, List.nil_append]; rfl)) (vi_clean _))) (tmAllU 17 (tmAllU 16 (tmAllU 15 (tmAllU 8 (tmAllU 7 tmAll0 (Tm.refL rfl ?_)) (Tm.clean (Clean.imm (vi_clean _)))) (Tm.v _)) (Tm.refL rfl ?_)) (Tm.v _)); all_goals (first | rfl | (simp only [List.length_take]; omega) | (simp only [List.length_append, List.length_cons, List.length_nil, List.length_modify, List.length_set, Nat.zero_add]; done) | (simp only [List.length_append, List.length_take, List.length_drop, List.length_cons, List.length_nil, List.length_modify, List.length_set, Nat.zero_add]; omega) | omega))⟩
            ·
             have hl32 := cF hl32 h33
             refine awp_exit ?_
             refine lq_e ?_
             refine bq_e ?_
             refine sq_n ?_
             obtain rfl := someInj hl32
             exact ⟨_, rfl, (by refine Wk.canonD [] [] [some 0, some 1] rfl trivial rfl (tmOU 1 (tmOU 0 tmO0 rfl List.not_mem_nil (by simp only [upd_get, ↓iop_and, ↓iop_or, ↓iop_xor, ↓iop_andn, Nat.reduceEqDiff, reduceIte, Nat.reduceAdd, Nat.reduceMul, Nat.reduceSub, Nat.reduceLT, Nat.reduceLeDiff, if_true, if_false] <;> rfl) (TmL.of_eq (by first | rfl | (simp only [List.flatMap_append, List.flatMap_cons, List.flatMap_nil, List.map_append, List.map_cons, List.map_nil, List.append_nil, List.nil_append]; done) | (simp only [List.flatMap_append, List.flatMap_cons, List.flatMap_nil, List.map_append, List.map_cons, List.map_nil, List.append_nil, List.nil_append]; rfl)) (vi_clean _))) rfl List.not_mem_nil (by simp only [upd_get, ↓iop_and, ↓iop_or, ↓iop_xor, ↓iop_andn, Nat.reduceEqDiff, reduceIte, Nat.reduceAdd, Nat.reduceMul, Nat.reduceSub, Nat.reduceLT, Nat.reduceLeDiff, if_true, if_false] <;> rfl) (TmL.of_eq (by first | rfl | (simp only [List.flatMap_append, List.flatMap_cons, List.flatMap_nil, List.map_append, List.map_cons, List.map_nil, List.append_nil, List.nil_append]; done) | (simp only [List.flatMap_append, List.flatMap_cons, List.flatMap_nil, List.map_append, List.map_cons, List.map_nil, List.append_nil, List.nil_append]; rfl)) (vi_clean _))) (tmAllU 16 (tmAllU 15 (tmAllU 7 tmAll0 (Tm.refL rfl ?_)) (Tm.v _)) (Tm.refL rfl ?_)); all_goals (first | rfl | (simp only [List.length_take]; omega) | (simp only [List.length_append, List.length_cons, List.length_nil, List.length_modify, List.length_set, Nat.zero_add]; done) | (simp only [List.length_append, List.length_take, List.length_drop, List.length_cons, List.length_nil, List.length_modify, List.length_set, Nat.zero_add]; omega) | omega))⟩
          ·
           rintro _ rfl
           clear hi30
           unfold hotspotref33_EncodeAs_S15
           refine awp_nr [7,15,16] (fun _ => rfl) fun tz => ?_
           refine awp_regW fun KK hKK => ?_
           refine xw_id ?_
           try simp only [go_sem, ↓iop_and, ↓iop_or, ↓iop_xor, ↓iop_andn, Nat.reduceEqDiff, reduceIte, Nat.reduceAdd, Nat.reduceMul, Nat.reduceSub, Nat.reduceLT, Nat.reduceLeDiff, Int.reduceToNat, Int.reduceBEq, Int.reduceBNe, Int.reduceLT, Int.reduceLE, Int.reduceAdd, Int.reduceSub, Int.reduceMul, Int.reduceNeg, Int.reduceEq, Int.reduceNe]
           refine hKK _ _ (Wk.refl _ _ _) ?_; clear hKK KK
           refine awp_nr1 [7,16] (fun _ => rfl) fun tz => ?_
           refine awp_reg1 fun KK hKK => ?_
           refine xw_id ?_
           obtain ⟨x42, bx42, hi5⟩ := bnd hi5
           have bx42 := chk_some bx42
           simp only [Bool.and_eq_true, decide_eq_true_eq] at bx42
           have gx42_0 := bx42
           try simp only [go_sem, ↓iop_and, ↓iop_or, ↓iop_xor, ↓iop_andn, Nat.reduceEqDiff, reduceIte, Nat.reduceAdd, Nat.reduceMul, Nat.reduceSub, Nat.reduceLT, Nat.reduceLeDiff, Int.reduceToNat, Int.reduceBEq, Int.reduceBNe, Int.reduceLT, Int.reduceLE, Int.reduceAdd, Int.reduceSub, Int.reduceMul, Int.reduceNeg, Int.reduceEq, Int.reduceNe, gx42_0]
           refine hKK _ ?_; clear hKK KK
           refine bq_n ?_
           refine sq_n ?_
           obtain rfl := someInj hi5
           exact ⟨_, rfl, (by refine Wk.canonD [] [] [some 11] rfl trivial rfl (tmOU 0 tmO0 rfl List.not_mem_nil (by simp only [upd_get, ↓iop_and, ↓iop_or, ↓iop_xor, ↓iop_andn, Nat.reduceEqDiff, reduceIte, Nat.reduceAdd, Nat.reduceMul, Nat.reduceSub, Nat.reduceLT, Nat.reduceLeDiff, if_true, if_false] <;> rfl) (TmL.of_eq (by first | rfl | (simp only [List.flatMap_append, List.flatMap_cons, List.flatMap_nil, List.map_append, List.map_cons, List.map_nil, List.append_nil, List.nil_append]; done) | (simp only [List.flatMap_append, List.flatMap_cons, List.flatMap_nil, List.map_append, List.map_cons, List.map_nil, List.append_nil, List.nil_append]; rfl)) (vi_clean _))) (tmAllU 7 tmAll0 (Tm.refL rfl ?_)); all_goals (first | rfl | (simp only [List.length_take]; omega) | (simp only [List.length_append, List.length_cons, List.length_nil, List.length_modify, List.length_set, Nat.zero_add]; done) | (simp only [List.length_append, List.length_take, List.length_drop, List.length_cons, List.length_nil, List.length_modify, List.length_set, Nat.zero_add]; omega) | omega))⟩
        ·
         have hi5 := cF hi5 h27
         refine awp_skip1 ?_
         refine bq_n ?_
         refine sq_n ?_
         obtain rfl := someInj hi5
         exact ⟨_, rfl, (by refine Wk.canonD [] [] [some 2] rfl trivial rfl (tmOU 0 tmO0 rfl List.not_mem_nil (by simp only [upd_get, ↓iop_and, ↓iop_or, ↓iop_xor, ↓iop_andn, Nat.reduceEqDiff, reduceIte, Nat.reduceAdd, Nat.reduceMul, Nat.reduceSub, Nat.reduceLT, Nat.reduceLeDiff, if_true, if_false] <;> rfl) (TmL.of_eq (by first | rfl | (simp only [List.flatMap_append, List.flatMap_cons, List.flatMap_nil, List.map_append, List.map_cons, List.map_nil, List.append_nil, List.nil_append]; done) | (simp only [List.flatMap_append, List.flatMap_cons, List.flatMap_nil, List.map_append, List.map_cons, List.map_nil, List.append_nil, List.nil_append]; rfl)) (vi_clean _))) (tmAllU 7 tmAll0 (Tm.refL rfl ?_)); all_goals (first | rfl | (simp only [List.length_take]; omega) | (simp only [List.length_append, List.length_cons, List.length_nil, List.length_modify, List.length_set, Nat.zero_add]; done) | (simp only [List.length_append, List.length_take, List.length_drop, List.length_cons, List.length_nil, List.length_modify, List.length_set, Nat.zero_add]; omega) | omega))⟩
    ·
     rintro _ rfl
     clear hi5
     unfold hotspotref33_EncodeAs_S1
     refine awp_nr [7] (fun _ => rfl) fun tz => ?_
     refine awp_regW fun KK hKK => ?_
     refine xw_id ?_
     try simp only [go_sem, ↓iop_and, ↓iop_or, ↓iop_xor, ↓iop_andn, Nat.reduceEqDiff, reduceIte, Nat.reduceAdd, Nat.reduceMul, Nat.reduceSub, Nat.reduceLT, Nat.reduceLeDiff]
     refine hKK _ _ (Wk.refl _ _ _) ?_; clear hKK KK
     refine awp_assoc ?_
     refine awp_nr [7,18] (fun _ => rfl) fun tz => ?_
     refine awp_regW fun KK hKK => ?_
     refine xw_id ?_
     try simp only [go_sem, ↓iop_and, ↓iop_or, ↓iop_xor, ↓iop_andn, Nat.reduceEqDiff, reduceIte, Nat.reduceAdd, Nat.reduceMul, Nat.reduceSub, Nat.reduceLT, Nat.reduceLeDiff]
     refine hKK _ _ (Wk.refl _ _ _) ?_; clear hKK KK
     obtain ⟨d43, hi35, h0⟩ := bnd h0
     refine awp_cut (fun z => d43 = z) (fun d43 : (List Int) => hotspotref33_EncodeAs_S18 d43) ?_ ?_
     ·
      refine awp_block1 ?_
      refine awp_loopS (fun n (d44 : (List Int × Int)) => hotspotref33_EncodeAs_L20 d20 n d44 = some d43) (fun d44 : (List Int × Int) => hotspotref33_EncodeAs_S19 d20 d44) big ([], 0) (by refine Wk.canonD [] [] [some 0, none] rfl trivial rfl (tmON 1 (tmOU 0 tmO0 rfl List.not_mem_nil (by simp only [upd_get, ↓iop_and, ↓iop_or, ↓iop_xor, ↓iop_andn, Nat.reduceEqDiff, reduceIte, Nat.reduceAdd, Nat.reduceMul, Nat.reduceSub, Nat.reduceLT, Nat.reduceLeDiff, if_true, if_false] <;> rfl) (TmL.of_eq (by first | rfl | (simp only [List.flatMap_append, List.flatMap_cons, List.flatMap_nil, List.map_append, List.map_cons, List.map_nil, List.append_nil, List.nil_append]; done) | (simp only [List.flatMap_append, List.flatMap_cons, List.flatMap_nil, List.map_append, List.map_cons, List.map_nil, List.append_nil, List.nil_append]; rfl)) (vi_clean _))) rfl) (tmAllU 19 (tmAllU 18 (tmAllU 7 tmAll0 (Tm.refL rfl ?_)) (Tm.thaw _ _ _)) (Tm.v _)); all_goals (first | rfl | (simp only [List.length_take]; omega) | (simp only [List.length_append, List.length_cons, List.length_nil, List.length_modify, List.length_set, Nat.zero_add]; done) | (simp only [List.length_append, List.length_take, List.length_drop, List.length_cons, List.length_nil, List.length_modify, List.length_set, Nat.zero_add]; omega) | omega)) hi35 ?_
      clear hi35
      rintro n d44 hl37
      rcases n with _ | n36
      ·
       (rw [hotspotref33_EncodeAs_L20] at hl37; cases hl37)
      ·
       rw [hotspotref33_EncodeAs_L20] at hl37
       unfold hotspotref33_EncodeAs_S19
       refine awp_assoc ?_
       refine awp_nr [7,18,19] (fun _ => rfl) fun tz => ?_
       refine awp_regW fun KK hKK => ?_
       refine xw_id ?_
       try simp only [go_sem, ↓iop_and, ↓iop_or, ↓iop_xor, ↓iop_andn, Nat.reduceEqDiff, reduceIte, Nat.reduceAdd, Nat.reduceMul, Nat.reduceSub, Nat.reduceLT, Nat.reduceLeDiff, Int.reduceToNat, Int.reduceBEq, Int.reduceBNe, Int.reduceLT, Int.reduceLE, Int.reduceAdd, Int.reduceSub, Int.reduceMul, Int.reduceNeg, Int.reduceEq, Int.reduceNe]
       refine hKK _ _ (Wk.refl _ _ _) ?_; clear hKK KK
       refine awp_cond (b := (decide (d44.2 < ((d20.length : Nat) : Int)))) rfl (fun h38 => ?_) (fun h38 => ?_)
       ·
        have hl37 := cT hl37 h38
        refine awp_skip ?_
        refine awp_blockW ?_
        refine awp_nr1 [7,18,19] (fun _ => rfl) fun tz => ?_
        refine awp_reg1 fun KK hKK => ?_
        refine xw_id ?_
        obtain ⟨x45, bx45, hl37⟩ := bnd hl37
        obtain ⟨fx45_0, fx45_1, fx45_2, fx45_3⟩ := idx_some bx45
        have fx45_5 : ((d44.2 : Int) < ((d20.length : Nat) : Int)) = True := by first | exact fx45_1 | (simp [List.length_modify, List.length_set]; omega)
        obtain ⟨x46, bx46, hl37⟩ := bnd hl37
        have bx46 := chk_some bx46
        simp only [Bool.and_eq_true, decide_eq_true_eq] at bx46
        have gx46_0 := bx46
        try simp only [go_sem, ↓iop_and, ↓iop_or, ↓iop_xor, ↓iop_andn, Nat.reduceEqDiff, reduceIte, Nat.reduceAdd, Nat.reduceMul, Nat.reduceSub, Nat.reduceLT, Nat.reduceLeDiff, Int.reduceToNat, Int.reduceBEq, Int.reduceBNe, Int.reduceLT, Int.reduceLE, Int.reduceAdd, Int.reduceSub, Int.reduceMul, Int.reduceNeg, Int.reduceEq, Int.reduceNe, fx45_0, fx45_1, fx45_2, fx45_5, gx46_0]
        refine hKK _ ?_; clear hKK KK
        refine bq_n ?_
        refine seqW_i ?_
        refine awp_nr1 [7,18,19] (fun _ => rfl) fun tz => ?_
        refine awp_reg1 fun KK hKK => ?_
        refine xw_id ?_
        try simp only [go_sem, ↓iop_and, ↓iop_or, ↓iop_xor, ↓iop_andn, Nat.reduceEqDiff, reduceIte, Nat.reduceAdd, Nat.reduceMul, Nat.reduceSub, Nat.reduceLT, Nat.reduceLeDiff, fx45_0, fx45_1, fx45_2, fx45_5]
        refine hKK _ ?_; clear hKK KK
        refine lq_n ?_
        exact ⟨n36, ((d44.1 ++ [IntKind.wrap .u8 x45]), IntKind.wrap .i64 (d44.2 + 1)), rfl, hl37, (by refine Wk.canonD [] [] [some 0, some 13] rfl trivial rfl (tmOU 1 (tmOU 0 tmO0 rfl List.not_mem_nil (by simp only [upd_get, ↓iop_and, ↓iop_or, ↓iop_xor, ↓iop_andn, Nat.reduceEqDiff, reduceIte, Nat.reduceAdd, Nat.reduceMul, Nat.reduceSub, Nat.reduceLT, Nat.reduceLeDiff, if_true, if_false] <;> rfl) (TmL.of_eq (by first | rfl | (simp only [List.flatMap_append, List.flatMap_cons, List.flatMap_nil, List.map_append, List.map_cons, List.map_nil, List.append_nil, List.nil_append]; done) | (simp only [List.flatMap_append, List.flatMap_cons, List.flatMap_nil, List.map_append, List.map_cons, List.map_nil, List.append_nil, List.nil_append]; rfl)) (vi_clean _))) rfl List.not_mem_nil (by simp only [upd_get, ↓iop_and, ↓iop_or, ↓iop_xor, ↓iop_andn, Nat.reduceEqDiff, reduceIte, Nat.reduceAdd, Nat.reduceMul, Nat.reduceSub, Nat.reduceLT, Nat.reduceLeDiff, if_true, if_false] <;> rfl) (TmL.of_eq (by first | rfl | (simp only [List.flatMap_append, List.flatMap_cons, List.flatMap_nil, List.map_append, List.map_cons, List.map_nil, List.append_nil, List.nil_append]; done) | (simp only [List.flatMap_append, List.flatMap_cons, List.flatMap_nil, List.map_append, List.map_cons, List.map_nil, List.append_nil, List.nil_append]; rfl)) (vu_clean _))) (tmAllU 19 (tmAllU 18 (tmAllU 7 tmAll0 (Tm.refL rfl ?_)) (Tm.refL rfl ?_)) (Tm.v _)); all_goals (first | rfl | (simp only [List.length_take]; omega) | (simp only [List.length_append, List.length_cons, List.length_nil, List.length_modify, List.length_set, Nat.zero_add]; done) | (simp only [List.length_append, List.length_take, List.length_drop, List.length_cons, List.length_nil, List.length_modify, List.length_set, Nat.zero_add]; omega) | omega))⟩
       ·
        have hl37 := cF hl37 h38
        refine awp_exit ?_
        refine lq_e ?_
        refine bq_e ?_
        refine sq_n ?_
        obtain rfl := someInj hl37
        exact ⟨_, rfl, (by refine Wk.canonD [] [] [some 1] rfl trivial rfl (tmOU 0 tmO0 rfl List.not_mem_nil (by simp only [upd_get, ↓iop_and, ↓iop_or, ↓iop_xor, ↓iop_andn, Nat.reduceEqDiff, reduceIte, Nat.reduceAdd, Nat.reduceMul, Nat.reduceSub, Nat.reduceLT, Nat.reduceLeDiff, if_true, if_false] <;> rfl) (TmL.of_eq (by first | rfl | (simp only [List.flatMap_append, List.flatMap_cons, List.flatMap_nil, List.map_append, List.map_cons, List.map_nil, List.append_nil, List.nil_append]; done) | (simp only [List.flatMap_append, List.flatMap_cons, List.flatMap_nil, List.map_append, List.map_cons, List.map_nil, List.append_nil, List.nil_append]; rfl)) (vu_clean _))) (tmAllU 18 tmAll0 (Tm.refL rfl ?_)); all_goals (first | rfl | (simp only [List.length_take]; omega) | (simp only [List.length_append, List.length_cons, List.length_nil, List.length_modify, List.length_set, Nat.zero_add]; done) | (simp only [List.length_append, List.length_take, List.length_drop, List.length_cons, List.length_nil, List.length_modify, List.length_set, Nat.zero_add]; omega) | omega))⟩
     ·
      rintro _ rfl
      clear hi35
      unfold hotspotref33_EncodeAs_S18
      refine awp_nr [18] (fun _ => rfl) fun tz => ?_
      refine awp_regW fun KK hKK => ?_
      refine xw_id ?_
      try simp only [go_sem, ↓iop_and, ↓iop_or, ↓iop_xor, ↓iop_andn, Nat.reduceEqDiff, reduceIte, Nat.reduceAdd, Nat.reduceMul, Nat.reduceSub, Nat.reduceLT, Nat.reduceLeDiff]
      refine hKK _ _ (Wk.refl _ _ _) ?_; clear hKK KK
      refine awp_ret1 ?_
      obtain rfl := someInj h0
      refine endW_i ?_
      refine end_ret0 rs12 (rfl) ?_
      refine Res.mk [] [some 0] rfl (resOU List.not_mem_nil (by simp only [upd_get, ↓iop_and, ↓iop_or, ↓iop_xor, ↓iop_andn, Nat.reduceEqDiff, reduceIte, Nat.reduceAdd, Nat.reduceMul, Nat.reduceSub, Nat.reduceLT, Nat.reduceLeDiff, if_true, if_false] <;> rfl) (TmL.of_eq (by first | rfl | (simp only [List.flatMap_append, List.flatMap_cons, List.flatMap_nil, List.map_append, List.map_cons, List.map_nil, List.append_nil, List.nil_append]; done) | (simp only [List.flatMap_append, List.flatMap_cons, List.flatMap_nil, List.map_append, List.map_cons, List.map_nil, List.append_nil, List.nil_append]; rfl)) (vu_clean _)) resO0) (Tm.tup (TmL.cons (Tm.refL rfl ?_) (TmL.cons (Tm.v _) TmL.nil)))
      all_goals (first | rfl | (simp only [List.length_take]; omega) | (simp only [List.length_append, List.length_cons, List.length_nil, List.length_modify, List.length_set, Nat.zero_add]; done) | (simp only [List.length_append, List.length_take, List.length_drop, List.length_cons, List.length_nil, List.length_modify, List.length_set, Nat.zero_add]; omega) | omega)

theorem hotspotref33_EncodeAs_m (a0 : Traffic) (a1 : Int) {r : ((List Int) × Int)} (h0 : hotspotref33_EncodeAs a0 a1 = some r) : SndM K 12 [(.agg (E_Traffic a0)), (vu a1)] (fun q => (.tup [(.ref (q 0) 0 r.1.length 1), (vi r.2)])) [(List.map vu r.1)] :=
 fun hs => Snd.of_newM (RenM.tup (RenML.cons (RenM.ref 0 0 _ _) (RenML.cons (RenM.const (Clean.v _)) RenML.nil))) (rows_all_cons (vu_clean _) rows_all_nil) (clean_cons (Clean.agg (E_Traffic_clean _)) (clean_cons (Clean.v _) clean_nil)) (hotspotref33_EncodeAs_r a0 a1 h0) hs

theorem hotspotref33_EncodeAs_e (a0 : Traffic) (a1 : Int) {r : ((List Int) × Int)} (h0 : hotspotref33_EncodeAs a0 a1 = some r) (fr : Nat) (hs : HS) : SndE K 12 [(.agg (E_Traffic a0)), (vu a1)] hs fr ⟨(fun q : Nat → Nat => (.tup [(.ref (q 0) 0 r.1.length 1), (vi r.2)])) fun _ => fr, .new (List.map vu r.1)⟩ :=
 SndE.of_res (RenM.tup (RenML.cons (RenM.ref 0 0 _ _) (RenML.cons (RenM.const (Clean.v _)) RenML.nil))) (vu_clean _) (clean_cons (Clean.agg (E_Traffic_clean _)) (clean_cons (Clean.v _) clean_nil)) (fun a b h => by simp only [h]) (hotspotref33_EncodeAs_r a0 a1 h0) hs fr

theorem hotspotref33_EncodeAs_p (a0 : Traffic) (a1 : Int) {r : ((List Int) × Int)} (h0 : hotspotref33_EncodeAs a0 a1 = some r) : SndP K 12 [(.agg (E_Traffic a0)), (vu a1)] (.tup [(S_vu r.1), (vi r.2)]) :=
 SndM.pure (hotspotref33_EncodeAs_m a0 a1 h0) (Clean.tup (clean_cons (S_vu_clean _) (clean_cons (Clean.v _) clean_nil))) (clean_cons (Clean.agg (E_Traffic_clean _)) (clean_cons (Clean.v _) clean_nil)) (by simp only [go_sem, newL_n, newL_c, upd_get, fz, nilS, cond_true, cond_false, List.drop_zero, List.take_length, List.length_map, ble_self, ↓iop_and, ↓iop_or, ↓iop_xor, ↓iop_andn, Nat.reduceEqDiff, reduceIte, Nat.reduceAdd, Nat.reduceMul, Nat.reduceSub, Nat.reduceLT, Nat.reduceLeDiff] <;> rfl)

end Go.AX.Z.TD

/-! (TDW hotspotref33 Decode) -/

set_option linter.unusedSimpArgs false
set_option linter.unusedVariables false
set_option maxHeartbeats 4000000
namespace Go.AX.Z.TD
open Go.AX Go.Proofs
attribute [local irreducible] awp xw xop xcall gsp ob xd xdop xcallD seqQ loopQ blkQ endQ

def hotspotref33_Decode_S0 (a0 : (List Int)) (x9 : Int) (d11 : (List Int)) : AS :=
 { objs := (upd (upd (fun _ => .dead) 0 (.live (e_Traffic Traffic.z vnil))) 1 (.live (List.map vi d11))), next := 2, tmps := (upd (upd (upd (upd (fun _ => .unk) 0 (.imm (List.map vu a0) a0.length)) 2 (.ptr 0 0)) 4 (vi (((IntKind.wrap .i64 x9)).tmod 128))) 6 (.ref 1 0 ((d11).length) 1)) }

def hotspotref33_Decode_S1 (a0 : (List Int)) (x9 : Int) (d12 : (List Int × Int)) : AS :=
 { objs := (upd (upd (fun _ => .dead) 0 (.live (e_Traffic Traffic.z vnil))) 1 (.live (List.map vi d12.1))), next := 2, tmps := (upd (upd (upd (upd (upd (fun _ => .unk) 0 (.imm (List.map vu a0) a0.length)) 2 (.ptr 0 0)) 4 (vi (((IntKind.wrap .i64 x9)).tmod 128))) 6 (.ref 1 0 ((d12.1).length) 1)) 7 (vi d12.2)) }

def hotspotref33_Decode_S3 (x15 : Int) (d11 : (List Int)) (x17 : Bool) : AS :=
 { objs := (upd (upd (upd (fun _ => .dead) 0 (.live (e_Traffic Traffic.z vnil))) 1 (.live (e_Traffic { Traffic.z with Group := decide (128 ≤ x15) } (.ref 2 0 d11.length 1)))) 2 (.live (List.map vi d11))), next := 3, tmps := (upd (upd (upd (fun _ => .unk) 2 (.ptr 0 0)) 8 (.ptr 1 0)) 68 (vb (!x17))) }

theorem hotspotref33_Decode_r (a0 : (List Int)) {r : (Traffic × Int)} (h0 : hotspotref33_Decode a0 = some r) : SndR K 20 [(S_vu a0)] (fun q => (.tup [(.agg (e_Traffic r.1 (.ref (q 0) 0 r.1.Aids.length 1))), (vi r.2)])) [(List.map vi r.1.Aids)] := by
 refine SndR.of_walkW hC (show K.P.funcs[20]? = some Try.f20 from Try.func20) rfl rfl (by decide +kernel) (Nat.le_of_ble_eq_true rfl) ?_
 unfold hotspotref33_Decode at h0
 refine awp_nr [0] (fun _ => rfl) fun tz => ?_
 refine awp_regW fun KK hKK => ?_
 refine xw_id ?_
 try simp only [go_sem, ↓iop_and, ↓iop_or, ↓iop_xor, ↓iop_andn, Nat.reduceEqDiff, reduceIte, Nat.reduceAdd, Nat.reduceMul, Nat.reduceSub, Nat.reduceLT, Nat.reduceLeDiff]
 refine hKK _ _ (Wk.refl _ _ _) ?_; clear hKK KK
 refine awp_assoc ?_
 refine awp_nr [0,2] (fun _ => rfl) fun tz => ?_
 refine awp_regW fun KK hKK => ?_
 refine xw_id ?_
 try simp only [go_sem, ↓iop_and, ↓iop_or, ↓iop_xor, ↓iop_andn, Nat.reduceEqDiff, reduceIte, Nat.reduceAdd, Nat.reduceMul, Nat.reduceSub, Nat.reduceLT, Nat.reduceLeDiff, Int.reduceToNat, Int.reduceBEq, Int.reduceBNe, Int.reduceLT, Int.reduceLE, Int.reduceAdd, Int.reduceSub, Int.reduceMul, Int.reduceNeg, Int.reduceEq, Int.reduceNe]
 refine hKK _ _ (Wk.refl _ _ _) ?_; clear hKK KK
 refine awp_cond (b := ((a0.length : Int) == 0)) rfl (fun h1 => ?_) (fun h1 => ?_)
 ·
  have h0 := cT h0 h1
  refine awp_assoc ?_
  refine awp_nr [2] (fun _ => rfl) fun tz => ?_
  refine awp_regW fun KK hKK => ?_
  refine xw_id ?_
  try simp only [go_sem, ↓iop_and, ↓iop_or, ↓iop_xor, ↓iop_andn, Nat.reduceEqDiff, reduceIte, Nat.reduceAdd, Nat.reduceMul, Nat.reduceSub, Nat.reduceLT, Nat.reduceLeDiff]
  refine hKK _ _ (Wk.refl _ _ _) ?_; clear hKK KK
  refine awp_ret ?_
  obtain rfl := someInj h0
  refine endW_i ?_
  refine end_ret0 rs20 (by simp only [go_sem, resV, resAll, resOf, packR, ↓iop_and, ↓iop_or, ↓iop_xor, ↓iop_andn, Nat.reduceEqDiff, reduceIte, Nat.reduceAdd, Nat.reduceMul, Nat.reduceSub, Nat.reduceLT, Nat.reduceLeDiff]; rfl) ?_
  refine Res.mk [] [none] rfl (resON resO0) (Tm.tup (TmL.cons (Tm.agg (e_Traffic_tmx (by rfl) (Tm.thaw _ _ _))) (TmL.cons (Tm.v _) TmL.nil)))
 ·
  have h0 := cF h0 h1
  refine awp_skip ?_
  refine awp_nr [0,2] (fun _ => rfl) fun tz => ?_
  refine awp_regW fun KK hKK => ?_
  refine xw_id ?_
  obtain ⟨x9, bx9, h0⟩ := bnd h0
  obtain ⟨fx9_0, fx9_1, fx9_2, fx9_3⟩ := idx_some bx9
  simp only [Int.reduceToNat] at fx9_2 fx9_3
  try simp only [go_sem, ↓iop_and, ↓iop_or, ↓iop_xor, ↓iop_andn, Nat.reduceEqDiff, reduceIte, Nat.reduceAdd, Nat.reduceMul, Nat.reduceSub, Nat.reduceLT, Nat.reduceLeDiff, Int.reduceToNat, Int.reduceBEq, Int.reduceBNe, Int.reduceLT, Int.reduceLE, Int.reduceAdd, Int.reduceSub, Int.reduceMul, Int.reduceNeg, Int.reduceEq, Int.reduceNe, fx9_0, fx9_1, fx9_2]
  refine hKK _ _ (Wk.refl _ _ _) ?_; clear hKK KK
  refine awp_assoc ?_
  refine awp_nr [0,2,4] (fun _ => rfl) fun tz => ?_
  refine awp_regW fun KK hKK => ?_
  refine xw_id ?_
  try simp only [go_sem, ↓iop_and, ↓iop_or, ↓iop_xor, ↓iop_andn, Nat.reduceEqDiff, reduceIte, Nat.reduceAdd, Nat.reduceMul, Nat.reduceSub, Nat.reduceLT, Nat.reduceLeDiff, fx9_0, fx9_1, fx9_2]
  refine hKK _ _ (Wk.refl _ _ _) ?_; clear hKK KK
  refine awp_cond (b := (decide (3 < (((IntKind.wrap .i64 x9)).tmod 128)))) rfl (fun h2 => ?_) (fun h2 => ?_)
  ·
   have h0 := cT h0 h2
   refine awp_assoc ?_
   refine awp_nr [2] (fun _ => rfl) fun tz => ?_
   refine awp_regW fun KK hKK => ?_
   refine xw_id ?_
   try simp only [go_sem, ↓iop_and, ↓iop_or, ↓iop_xor, ↓iop_andn, Nat.reduceEqDiff, reduceIte, Nat.reduceAdd, Nat.reduceMul, Nat.reduceSub, Nat.reduceLT, Nat.reduceLeDiff, fx9_0, fx9_1, fx9_2]
   refine hKK _ _ (Wk.refl _ _ _) ?_; clear hKK KK
   refine awp_ret ?_
   obtain rfl := someInj h0
   refine endW_i ?_
   refine end_ret0 rs20 (by simp only [go_sem, resV, resAll, resOf, packR, ↓iop_and, ↓iop_or, ↓iop_xor, ↓iop_andn, Nat.reduceEqDiff, reduceIte, Nat.reduceAdd, Nat.reduceMul, Nat.reduceSub, Nat.reduceLT, Nat.reduceLeDiff]; rfl) ?_
   refine Res.mk [] [none] rfl (resON resO0) (Tm.tup (TmL.cons (Tm.agg (e_Traffic_tmx (by rfl) (Tm.thaw _ _ _))) (TmL.cons (Tm.v _) TmL.nil)))
  ·
   have h0 := cF h0 h2
   refine awp_skip ?_
   refine awp_nr [0,2,4] (fun _ => rfl) fun tz => ?_
   refine awp_regW fun KK hKK => ?_
   refine xw_id ?_
   obtain ⟨x10, bx10, h0⟩ := bnd h0
   try simp only [go_sem, ↓iop_and, ↓iop_or, ↓iop_xor, ↓iop_andn, Nat.reduceEqDiff, reduceIte, Nat.reduceAdd, Nat.reduceMul, Nat.reduceSub, Nat.reduceLT, Nat.reduceLeDiff, fx9_0, fx9_1, fx9_2]
   refine xcall_p (hotspotref33_length_p a0 (((IntKind.wrap .i64 x9)).tmod 128) bx10) ?_; try dsimp only
   try refine xw_id ?_
   try simp only [go_sem, ↓iop_and, ↓iop_or, ↓iop_xor, ↓iop_andn, Nat.reduceEqDiff, reduceIte, Nat.reduceAdd, Nat.reduceMul, Nat.reduceSub, Nat.reduceLT, Nat.reduceLeDiff, fx9_0, fx9_1, fx9_2]
   refine hKK _ _ (Wk.refl _ _ _) ?_; clear hKK KK
   refine awp_assoc ?_
   refine awp_nr [0,2,4,5] (fun _ => rfl) fun tz => ?_
   refine awp_regW fun KK hKK => ?_
   refine xw_id ?_
   refine xw_stop 3 (by (try simp only [go_sem]); rfl) (by (try simp only [go_sem]); rfl) (by rfl) fun K1 hK1 => ?_
   refine xw_id ?_
   try simp only [go_sem, ↓iop_and, ↓iop_or, ↓iop_xor, ↓iop_andn, Nat.reduceEqDiff, reduceIte, Nat.reduceAdd, Nat.reduceMul, Nat.reduceSub, Nat.reduceLT, Nat.reduceLeDiff, fx9_0, fx9_1, fx9_2]
   refine hK1 _ ?_; clear hK1 K1
   refine xw_cut 5 [(0, (.imm (List.map vu a0) a0.length)), (2, (.ptr 0 0)), (4, (vi (((IntKind.wrap .i64 x9)).tmod 128))), (5, (vi x10)), (33, (vb ((decide (x10 < 0)) || (decide ((a0.length : Int) < x10)))))] (by (try simp only [go_sem]); rfl) (by (try simp only [go_sem]); rfl) (by rfl) (fun K1 hK1 => ?_) fun tz => ?_
   ·
    refine xw_id ?_
    rcases Bool.eq_false_or_eq_true (decide (x10 < 0)) with h3 | h3
    ·
     try simp only [go_sem, ↓iop_and, ↓iop_or, ↓iop_xor, ↓iop_andn, Nat.reduceEqDiff, reduceIte, Nat.reduceAdd, Nat.reduceMul, Nat.reduceSub, Nat.reduceLT, Nat.reduceLeDiff, fx9_0, fx9_1, fx9_2, h3]
     exact hK1 _ ⟨rfl, rfl, rfl, rfl, rfl, (by first | rfl | (rw [h3]; rfl) | (simp only [h3, Bool.true_and, Bool.false_and, Bool.true_or, Bool.false_or, cond_true, cond_false]; done)), trivial⟩
    ·
     try simp only [go_sem, ↓iop_and, ↓iop_or, ↓iop_xor, ↓iop_andn, Nat.reduceEqDiff, reduceIte, Nat.reduceAdd, Nat.reduceMul, Nat.reduceSub, Nat.reduceLT, Nat.reduceLeDiff, Int.reduceToNat, Int.reduceBEq, Int.reduceBNe, Int.reduceLT, Int.reduceLE, Int.reduceAdd, Int.reduceSub, Int.reduceMul, Int.reduceNeg, Int.reduceEq, Int.reduceNe, fx9_0, fx9_1, fx9_2, h3]
     exact hK1 _ ⟨rfl, rfl, rfl, rfl, rfl, (by first | rfl | (rw [h3]; rfl) | (simp only [h3, Bool.true_and, Bool.false_and, Bool.true_or, Bool.false_or, cond_true, cond_false]; done)), trivial⟩
   ·
    refine xw_id ?_
    try simp only [go_sem, ↓iop_and, ↓iop_or, ↓iop_xor, ↓iop_andn, Nat.reduceEqDiff, reduceIte, Nat.reduceAdd, Nat.reduceMul, Nat.reduceSub, Nat.reduceLT, Nat.reduceLeDiff, fx9_0, fx9_1, fx9_2]
    refine hKK _ _ (Wk.refl _ _ _) ?_; clear hKK KK
    refine awp_cond (b := ((decide (x10 < 0)) || (decide ((a0.length : Int) < x10)))) rfl (fun h4 => ?_) (fun h4 => ?_)
    ·
     have h0 := cT h0 h4
     refine awp_assoc ?_
     refine awp_nr [2] (fun _ => rfl) fun tz => ?_
     refine awp_regW fun KK hKK => ?_
     refine xw_id ?_
     try simp only [go_sem, ↓iop_and, ↓iop_or, ↓iop_xor, ↓iop_andn, Nat.reduceEqDiff, reduceIte, Nat.reduceAdd, Nat.reduceMul, Nat.reduceSub, Nat.reduceLT, Nat.reduceLeDiff, fx9_0, fx9_1, fx9_2]
     refine hKK _ _ (Wk.refl _ _ _) ?_; clear hKK KK
     refine awp_ret ?_
     obtain rfl := someInj h0
     refine endW_i ?_
     refine end_ret0 rs20 (by simp only [go_sem, resV, resAll, resOf, packR, ↓iop_and, ↓iop_or, ↓iop_xor, ↓iop_andn, Nat.reduceEqDiff, reduceIte, Nat.reduceAdd, Nat.reduceMul, Nat.reduceSub, Nat.reduceLT, Nat.reduceLeDiff]; rfl) ?_
     refine Res.mk [] [none] rfl (resON resO0) (Tm.tup (TmL.cons (Tm.agg (e_Traffic_tmx (by rfl) (Tm.thaw _ _ _))) (TmL.cons (Tm.v _) TmL.nil)))
    ·
     have h0 := cF h0 h4
     refine awp_skip ?_
     refine awp_assoc ?_
     refine awp_nr [0,2,4,5] (fun _ => rfl) fun tz => ?_
     refine awp_regW fun KK hKK => ?_
     refine xw_id ?_
     try simp only [go_sem, ↓iop_and, ↓iop_or, ↓iop_xor, ↓iop_andn, Nat.reduceEqDiff, reduceIte, Nat.reduceAdd, Nat.reduceMul, Nat.reduceSub, Nat.reduceLT, Nat.reduceLeDiff, Int.reduceToNat, Int.reduceBEq, Int.reduceBNe, Int.reduceLT, Int.reduceLE, Int.reduceAdd, Int.reduceSub, Int.reduceMul, Int.reduceNeg, Int.reduceEq, Int.reduceNe, fx9_0, fx9_1, fx9_2]
     refine hKK _ _ (Wk.refl _ _ _) ?_; clear hKK KK
     refine awp_cond (b := (decide (x10 < (a0.length : Int)))) rfl (fun h5 => ?_) (fun h5 => ?_)
     ·
      have h0 := cT h0 h5
      refine awp_assoc ?_
      refine awp_nr [2] (fun _ => rfl) fun tz => ?_
      refine awp_regW fun KK hKK => ?_
      refine xw_id ?_
      try simp only [go_sem, ↓iop_and, ↓iop_or, ↓iop_xor, ↓iop_andn, Nat.reduceEqDiff, reduceIte, Nat.reduceAdd, Nat.reduceMul, Nat.reduceSub, Nat.reduceLT, Nat.reduceLeDiff, fx9_0, fx9_1, fx9_2]
      refine hKK _ _ (Wk.refl _ _ _) ?_; clear hKK KK
      refine awp_ret ?_
      obtain rfl := someInj h0
      refine endW_i ?_
      refine end_ret0 rs20 (by simp only [go_sem, resV, resAll, resOf, packR, ↓iop_and, ↓iop_or, ↓iop_xor, ↓iop_andn, Nat.reduceEqDiff, reduceIte, Nat.reduceAdd, Nat.reduceMul, Nat.reduceSub, Nat.reduceLT, Nat.reduceLeDiff]; rfl) ?_
      refine Res.mk [] [none] rfl (resON resO0) (Tm.tup (TmL.cons (Tm.agg (e_Traffic_tmx (by rfl) (Tm.thaw _ _ _))) (TmL.cons (Tm.v _) TmL.nil)))
     ·
      have h0 := cF h0 h5
      refine awp_skip ?_
      refine awp_nr [0,2,4] (fun _ => rfl) fun tz => ?_
      refine awp_regW fun KK hKK => ?_
      refine xw_id ?_
      try simp only [go_sem, ↓iop_and, ↓iop_or, ↓iop_xor, ↓iop_andn, Nat.reduceEqDiff, reduceIte, Nat.reduceAdd, Nat.reduceMul, Nat.reduceSub, Nat.reduceLT, Nat.reduceLeDiff, fx9_0, fx9_1, fx9_2]
      refine hKK _ _ (Wk.refl _ _ _) ?_; clear hKK KK
      refine awp_assoc ?_
      refine awp_nr [0,2,4,6] (fun _ => rfl) fun tz => ?_
      refine awp_regW fun KK hKK => ?_
      refine xw_id ?_
      try simp only [go_sem, ↓iop_and, ↓iop_or, ↓iop_xor, ↓iop_andn, Nat.reduceEqDiff, reduceIte, Nat.reduceAdd, Nat.reduceMul, Nat.reduceSub, Nat.reduceLT, Nat.reduceLeDiff, fx9_0, fx9_1, fx9_2]
      refine hKK _ _ (Wk.refl _ _ _) ?_; clear hKK KK
      obtain ⟨d11, hi6, h0⟩ := bnd h0
      refine awp_cut (fun z => d11 = z) (fun d11 : (List Int) => hotspotref33_Decode_S0 a0 x9 d11) ?_ ?_
      ·
       refine awp_block1 ?_
       refine awp_loopS (fun n (d12 : (List Int × Int)) => hotspotref33_Decode_L2 a0 x9 n d12 = some d11) (fun d12 : (List Int × Int) => hotspotref33_Decode_S1 a0 x9 d12) big ([], 1) (Wk.canonD [] [] [some 0, none] rfl trivial rfl (tmON 1 (tmOU 0 tmO0 rfl List.not_mem_nil (by simp only [upd_get, ↓iop_and, ↓iop_or, ↓iop_xor, ↓iop_andn, Nat.reduceEqDiff, reduceIte, Nat.reduceAdd, Nat.reduceMul, Nat.reduceSub, Nat.reduceLT, Nat.reduceLeDiff, if_true, if_false] <;> rfl) (e_Traffic_tmx (by rfl) (Tm.v _))) rfl) (tmAllU 7 (tmAllU 6 (tmAllU 4 (tmAllU 2 (tmAllU 0 tmAll0 (Tm.clean (Clean.imm (vu_clean _)))) (Tm.ptr rfl)) (Tm.v _)) (Tm.thaw _ _ _)) (Tm.v _))) hi6 ?_
       clear hi6
       rintro n d12 hl8
       rcases n with _ | n7
       ·
        (rw [hotspotref33_Decode_L2] at hl8; cases hl8)
       ·
        rw [hotspotref33_Decode_L2] at hl8
        unfold hotspotref33_Decode_S1
        refine awp_assoc ?_
        refine awp_nr [0,2,4,6,7] (fun _ => rfl) fun tz => ?_
        refine awp_regW fun KK hKK => ?_
        refine xw_id ?_
        try simp only [go_sem, ↓iop_and, ↓iop_or, ↓iop_xor, ↓iop_andn, Nat.reduceEqDiff, reduceIte, Nat.reduceAdd, Nat.reduceMul, Nat.reduceSub, Nat.reduceLT, Nat.reduceLeDiff]
        refine hKK _ _ (Wk.refl _ _ _) ?_; clear hKK KK
        refine awp_cond (b := (decide (d12.2 ≤ 255))) rfl (fun h9 => ?_) (fun h9 => ?_)
        ·
         have hl8 := cT hl8 h9
         refine awp_skip ?_
         refine awp_blockW ?_
         refine awp_nr [0,2,4,6,7] (fun _ => rfl) fun tz => ?_
         refine awp_regW fun KK hKK => ?_
         refine xw_id ?_
         obtain ⟨x13, bx13, hl8⟩ := bnd hl8
         try simp only [go_sem, ↓iop_and, ↓iop_or, ↓iop_xor, ↓iop_andn, Nat.reduceEqDiff, reduceIte, Nat.reduceAdd, Nat.reduceMul, Nat.reduceSub, Nat.reduceLT, Nat.reduceLeDiff]
         refine xcall_p (hotspotref33_named_p a0 (((IntKind.wrap .i64 x9)).tmod 128) d12.2 bx13) ?_; try dsimp only
         try refine xw_id ?_
         try simp only [go_sem, ↓iop_and, ↓iop_or, ↓iop_xor, ↓iop_andn, Nat.reduceEqDiff, reduceIte, Nat.reduceAdd, Nat.reduceMul, Nat.reduceSub, Nat.reduceLT, Nat.reduceLeDiff]
         refine hKK _ _ (Wk.refl _ _ _) ?_; clear hKK KK
         refine awp_cond1 (b := x13) rfl (fun h10 => ?_) (fun h10 => ?_)
         ·
          have hl8 := cT hl8 h10
          refine awp_nr1 [0,2,4,6,7] (fun _ => rfl) fun tz => ?_
          refine awp_reg1 fun KK hKK => ?_
          refine xw_id ?_
          obtain ⟨x14, bx14, hl8⟩ := bnd hl8
          have bx14 := chk_some bx14
          simp only [Bool.and_eq_true, decide_eq_true_eq] at bx14
          have gx14_0 := bx14
          try simp only [go_sem, ↓iop_and, ↓iop_or, ↓iop_xor, ↓iop_andn, Nat.reduceEqDiff, reduceIte, Nat.reduceAdd, Nat.reduceMul, Nat.reduceSub, Nat.reduceLT, Nat.reduceLeDiff, Int.reduceToNat, Int.reduceBEq, Int.reduceBNe, Int.reduceLT, Int.reduceLE, Int.reduceAdd, Int.reduceSub, Int.reduceMul, Int.reduceNeg, Int.reduceEq, Int.reduceNe, gx14_0]
          refine hKK _ ?_; clear hKK KK
          refine bq_n ?_
          refine seqW_i ?_
          refine awp_nr1 [0,2,4,6,7] (fun _ => rfl) fun tz => ?_
          refine awp_reg1 fun KK hKK => ?_
          refine xw_id ?_
          try simp only [go_sem, ↓iop_and, ↓iop_or, ↓iop_xor, ↓iop_andn, Nat.reduceEqDiff, reduceIte, Nat.reduceAdd, Nat.reduceMul, Nat.reduceSub, Nat.reduceLT, Nat.reduceLeDiff]
          refine hKK _ ?_; clear hKK KK
          refine lq_n ?_
          exact ⟨n7, ((d12.1 ++ [d12.2]), IntKind.wrap .i64 (d12.2 + 1)), rfl, hl8, (by refine Wk.canonD [] [] [some 0, some 11] rfl trivial rfl (tmOU 1 (tmOU 0 tmO0 rfl List.not_mem_nil (by simp only [upd_get, ↓iop_and, ↓iop_or, ↓iop_xor, ↓iop_andn, Nat.reduceEqDiff, reduceIte, Nat.reduceAdd, Nat.reduceMul, Nat.reduceSub, Nat.reduceLT, Nat.reduceLeDiff, if_true, if_false] <;> rfl) (e_Traffic_tmx (by rfl) (Tm.v _))) rfl List.not_mem_nil (by simp only [upd_get, ↓iop_and, ↓iop_or, ↓iop_xor, ↓iop_andn, Nat.reduceEqDiff, reduceIte, Nat.reduceAdd, Nat.reduceMul, Nat.reduceSub, Nat.reduceLT, Nat.reduceLeDiff, if_true, if_false] <;> rfl) (TmL.of_eq (by first | rfl | (simp only [List.flatMap_append, List.flatMap_cons, List.flatMap_nil, List.map_append, List.map_cons, List.map_nil, List.append_nil, List.nil_append]; done) | (simp only [List.flatMap_append, List.flatMap_cons, List.flatMap_nil, List.map_append, List.map_cons, List.map_nil, List.append_nil, List.nil_append]; rfl)) (vi_clean _))) (tmAllU 7 (tmAllU 6 (tmAllU 4 (tmAllU 2 (tmAllU 0 tmAll0 (Tm.clean (Clean.imm (vu_clean _)))) (Tm.ptr rfl)) (Tm.v _)) (Tm.refL rfl ?_)) (Tm.v _)); all_goals (first | rfl | (simp only [List.length_take]; omega) | (simp only [List.length_append, List.length_cons, List.length_nil, List.length_modify, List.length_set, Nat.zero_add]; done) | (simp only [List.length_append, List.length_take, List.length_drop, List.length_cons, List.length_nil, List.length_modify, List.length_set, Nat.zero_add]; omega) | omega))⟩
         ·
          have hl8 := cF hl8 h10
          refine awp_skip1 ?_
          refine bq_n ?_
          refine seqW_i ?_
          refine awp_nr1 [0,2,4,6,7] (fun _ => rfl) fun tz => ?_
          refine awp_reg1 fun KK hKK => ?_
          refine xw_id ?_
          try simp only [go_sem, ↓iop_and, ↓iop_or, ↓iop_xor, ↓iop_andn, Nat.reduceEqDiff, reduceIte, Nat.reduceAdd, Nat.reduceMul, Nat.reduceSub, Nat.reduceLT, Nat.reduceLeDiff]
          refine hKK _ ?_; clear hKK KK
          refine lq_n ?_
          exact ⟨n7, (d12.1, IntKind.wrap .i64 (d12.2 + 1)), rfl, hl8, (by refine Wk.canonD [] [] [some 0, some 1] rfl trivial rfl (tmOU 1 (tmOU 0 tmO0 rfl List.not_mem_nil (by simp only [upd_get, ↓iop_and, ↓iop_or, ↓iop_xor, ↓iop_andn, Nat.reduceEqDiff, reduceIte, Nat.reduceAdd, Nat.reduceMul, Nat.reduceSub, Nat.reduceLT, Nat.reduceLeDiff, if_true, if_false] <;> rfl) (e_Traffic_tmx (by rfl) (Tm.v _))) rfl List.not_mem_nil (by simp only [upd_get, ↓iop_and, ↓iop_or, ↓iop_xor, ↓iop_andn, Nat.reduceEqDiff, reduceIte, Nat.reduceAdd, Nat.reduceMul, Nat.reduceSub, Nat.reduceLT, Nat.reduceLeDiff, if_true, if_false] <;> rfl) (TmL.of_eq (by first | rfl | (simp only [List.flatMap_append, List.flatMap_cons, List.flatMap_nil, List.map_append, List.map_cons, List.map_nil, List.append_nil, List.nil_append]; done) | (simp only [List.flatMap_append, List.flatMap_cons, List.flatMap_nil, List.map_append, List.map_cons, List.map_nil, List.append_nil, List.nil_append]; rfl)) (vi_clean _))) (tmAllU 7 (tmAllU 6 (tmAllU 4 (tmAllU 2 (tmAllU 0 tmAll0 (Tm.clean (Clean.imm (vu_clean _)))) (Tm.ptr rfl)) (Tm.v _)) (Tm.refL rfl ?_)) (Tm.v _)); all_goals (first | rfl | (simp only [List.length_take]; omega) | (simp only [List.length_append, List.length_cons, List.length_nil, List.length_modify, List.length_set, Nat.zero_add]; done) | (simp only [List.length_append, List.length_take, List.length_drop, List.length_cons, List.length_nil, List.length_modify, List.length_set, Nat.zero_add]; omega) | omega))⟩
        ·
         have hl8 := cF hl8 h9
         refine awp_exit ?_
         refine lq_e ?_
         refine bq_e ?_
         refine sq_n ?_
         obtain rfl := someInj hl8
         exact ⟨_, rfl, (by refine Wk.canonD [] [] [some 0, some 1] rfl trivial rfl (tmOU 1 (tmOU 0 tmO0 rfl List.not_mem_nil (by simp only [upd_get, ↓iop_and, ↓iop_or, ↓iop_xor, ↓iop_andn, Nat.reduceEqDiff, reduceIte, Nat.reduceAdd, Nat.reduceMul, Nat.reduceSub, Nat.reduceLT, Nat.reduceLeDiff, if_true, if_false] <;> rfl) (e_Traffic_tmx (by rfl) (Tm.v _))) rfl List.not_mem_nil (by simp only [upd_get, ↓iop_and, ↓iop_or, ↓iop_xor, ↓iop_andn, Nat.reduceEqDiff, reduceIte, Nat.reduceAdd, Nat.reduceMul, Nat.reduceSub, Nat.reduceLT, Nat.reduceLeDiff, if_true, if_false] <;> rfl) (TmL.of_eq (by first | rfl | (simp only [List.flatMap_append, List.flatMap_cons, List.flatMap_nil, List.map_append, List.map_cons, List.map_nil, List.append_nil, List.nil_append]; done) | (simp only [List.flatMap_append, List.flatMap_cons, List.flatMap_nil, List.map_append, List.map_cons, List.map_nil, List.append_nil, List.nil_append]; rfl)) (vi_clean _))) (tmAllU 6 (tmAllU 4 (tmAllU 2 (tmAllU 0 tmAll0 (Tm.clean (Clean.imm (vu_clean _)))) (Tm.ptr rfl)) (Tm.v _)) (Tm.refL rfl ?_)); all_goals (first | rfl | (simp only [List.length_take]; omega) | (simp only [List.length_append, List.length_cons, List.length_nil, List.length_modify, List.length_set, Nat.zero_add]; done) | (simp only [List.length_append, List.length_take, List.length_drop, List.length_cons, List.length_nil, List.length_modify, List.length_set, Nat.zero_add]; omega) | omega))⟩
      ·
       rintro _ rfl
       clear hi6
       unfold hotspotref33_Decode_S0
       refine awp_nr [0,2,4,6] (fun _ => rfl) fun tz => ?_
       refine awp_regW fun KK hKK => ?_
       refine xw_id ?_
       obtain ⟨x15, bx15, h0⟩ := bnd h0
       obtain ⟨fx15_0, fx15_1, fx15_2, fx15_3⟩ := idx_some bx15
       simp only [Int.reduceToNat] at fx15_2 fx15_3
       try simp only [go_sem, ↓iop_and, ↓iop_or, ↓iop_xor, ↓iop_andn, Nat.reduceEqDiff, reduceIte, Nat.reduceAdd, Nat.reduceMul, Nat.reduceSub, Nat.reduceLT, Nat.reduceLeDiff, Int.reduceToNat, Int.reduceBEq, Int.reduceBNe, Int.reduceLT, Int.reduceLE, Int.reduceAdd, Int.reduceSub, Int.reduceMul, Int.reduceNeg, Int.reduceEq, Int.reduceNe, fx15_0, fx15_1, fx15_2]
       refine hKK _ _ (Wk.refl _ _ _) ?_; clear hKK KK
       refine awp_nr [0,2,4,8] (fun _ => rfl) fun tz => ?_
       refine awp_regW fun KK hKK => ?_
       refine xw_id ?_
       obtain ⟨x16, bx16, h0⟩ := bnd h0
       try simp only [go_sem, ↓iop_and, ↓iop_or, ↓iop_xor, ↓iop_andn, Nat.reduceEqDiff, reduceIte, Nat.reduceAdd, Nat.reduceMul, Nat.reduceSub, Nat.reduceLT, Nat.reduceLeDiff, fx15_0, fx15_1, fx15_2]
       refine xcall_ML (by first | (simp only [go_sem, fz, nilS, cond_true, cond_false, ↓iop_and, ↓iop_or, ↓iop_xor, ↓iop_andn, Nat.reduceEqDiff, reduceIte, Nat.reduceAdd, Nat.reduceMul, Nat.reduceSub, Nat.reduceLT, Nat.reduceLeDiff, fx15_0, fx15_1, fx15_2]; done) | (simp only [go_sem, fz, nilS, cond_true, cond_false, ↓iop_and, ↓iop_or, ↓iop_xor, ↓iop_andn, Nat.reduceEqDiff, reduceIte, Nat.reduceAdd, Nat.reduceMul, Nat.reduceSub, Nat.reduceLT, Nat.reduceLeDiff, fx15_0, fx15_1, fx15_2]; rfl) | (simp only [go_sem, fz, List.length_set, ble_self, take_set, cond_true, cond_false, ↓iop_and, ↓iop_or, ↓iop_xor, ↓iop_andn, Nat.reduceEqDiff, reduceIte, Nat.reduceAdd, Nat.reduceMul, Nat.reduceSub, Nat.reduceLT, Nat.reduceLeDiff, fx15_0, fx15_1, fx15_2]; done) | (simp only [go_sem, fz, List.length_set, ble_self, take_set, cond_true, cond_false, ↓iop_and, ↓iop_or, ↓iop_xor, ↓iop_andn, Nat.reduceEqDiff, reduceIte, Nat.reduceAdd, Nat.reduceMul, Nat.reduceSub, Nat.reduceLT, Nat.reduceLeDiff, fx15_0, fx15_1, fx15_2]; rfl)) (hotspotref33_EncodeAs_m { Traffic.z with Aids := d11, Group := decide (128 ≤ x15) } (IntKind.wrap .u8 (((IntKind.wrap .i64 x9)).tmod 128)) bx16) (fun _ => by repeat' (first | exact NoV.v _ | exact NoV.ref _ _ _ _ | exact NoV.onil | refine NoV.ocons ?_ ?_ | exact NoV.nil | refine NoV.tup ?_ | refine NoV.agg ?_ | refine NoV.rows (fun _ => ?_) _ | refine NoV.maps (fun _ => ?_) _ | refine NoV.cons ?_ ?_)) (by repeat' (first | exact NoV.v _ | exact NoV.ref _ _ _ _ | exact NoV.onil | refine NoV.ocons ?_ ?_ | exact NoV.nil | refine NoV.tup ?_ | refine NoV.agg ?_ | refine NoV.rows (fun _ => ?_) _ | refine NoV.maps (fun _ => ?_) _ | refine NoV.cons ?_ ?_)) ?_; try dsimp only
       try refine xw_id ?_
       try simp only [go_sem, ↓iop_and, ↓iop_or, ↓iop_xor, ↓iop_andn, Nat.reduceEqDiff, reduceIte, Nat.reduceAdd, Nat.reduceMul, Nat.reduceSub, Nat.reduceLT, Nat.reduceLeDiff, fx15_0, fx15_1, fx15_2]
       refine hKK _ _ (Wk.refl _ _ _) ?_; clear hKK KK
       refine awp_assoc ?_
       refine awp_nr [0,2,8,9] (fun _ => rfl) fun tz => ?_
       refine awp_regW fun KK hKK => ?_
       refine xw_id ?_
       obtain ⟨x17, bx17, h0⟩ := bnd h0
       try simp only [go_sem, ↓iop_and, ↓iop_or, ↓iop_xor, ↓iop_andn, Nat.reduceEqDiff, reduceIte, Nat.reduceAdd, Nat.reduceMul, Nat.reduceSub, Nat.reduceLT, Nat.reduceLeDiff, fx15_0, fx15_1, fx15_2]
       refine xcall_L (by first | (simp only [go_sem, fz, ↓iop_and, ↓iop_or, ↓iop_xor, ↓iop_andn, Nat.reduceEqDiff, reduceIte, Nat.reduceAdd, Nat.reduceMul, Nat.reduceSub, Nat.reduceLT, Nat.reduceLeDiff, fx15_0, fx15_1, fx15_2]; done) | (simp only [go_sem, fz, ↓iop_and, ↓iop_or, ↓iop_xor, ↓iop_andn, Nat.reduceEqDiff, reduceIte, Nat.reduceAdd, Nat.reduceMul, Nat.reduceSub, Nat.reduceLT, Nat.reduceLeDiff, fx15_0, fx15_1, fx15_2]; rfl) | (simp only [go_sem, fz, List.length_set, ble_self, take_set, cond_true, cond_false, ↓iop_and, ↓iop_or, ↓iop_xor, ↓iop_andn, Nat.reduceEqDiff, reduceIte, Nat.reduceAdd, Nat.reduceMul, Nat.reduceSub, Nat.reduceLT, Nat.reduceLeDiff, fx15_0, fx15_1, fx15_2]; done) | (simp only [go_sem, fz, List.length_set, ble_self, take_set, cond_true, cond_false, ↓iop_and, ↓iop_or, ↓iop_xor, ↓iop_andn, Nat.reduceEqDiff, reduceIte, Nat.reduceAdd, Nat.reduceMul, Nat.reduceSub, Nat.reduceLT, Nat.reduceLeDiff, fx15_0, fx15_1, fx15_2]; rfl)) (hotspotref33_Same_p a0 x16.1 bx17) (Bare.v _) ?_; try dsimp only
       try refine xw_id ?_
       try simp only [go_sem, ↓iop_and, ↓iop_or, ↓iop_xor, ↓iop_andn, Nat.reduceEqDiff, reduceIte, Nat.reduceAdd, Nat.reduceMul, Nat.reduceSub, Nat.reduceLT, Nat.reduceLeDiff, fx15_0, fx15_1, fx15_2]
       refine hKK _ (hotspotref33_Decode_S3 x15 d11 x17) (by refine Wk.canonD [] [] [some 0, some 8, some 1] rfl trivial rfl (tmOU 2 (tmOU 1 (tmOU 0 tmO0 rfl List.not_mem_nil (by simp only [upd_get, ↓iop_and, ↓iop_or, ↓iop_xor, ↓iop_andn, Nat.reduceEqDiff, reduceIte, Nat.reduceAdd, Nat.reduceMul, Nat.reduceSub, Nat.reduceLT, Nat.reduceLeDiff, if_true, if_false] <;> rfl) (e_Traffic_tmx (by rfl) (Tm.v _))) rfl List.not_mem_nil (by simp only [upd_get, ↓iop_and, ↓iop_or, ↓iop_xor, ↓iop_andn, Nat.reduceEqDiff, reduceIte, Nat.reduceAdd, Nat.reduceMul, Nat.reduceSub, Nat.reduceLT, Nat.reduceLeDiff, if_true, if_false] <;> rfl) (e_Traffic_tmx (by rfl) (Tm.refL rfl ?_))) rfl List.not_mem_nil (by simp only [upd_get, ↓iop_and, ↓iop_or, ↓iop_xor, ↓iop_andn, Nat.reduceEqDiff, reduceIte, Nat.reduceAdd, Nat.reduceMul, Nat.reduceSub, Nat.reduceLT, Nat.reduceLeDiff, if_true, if_false] <;> rfl) (TmL.of_eq (by first | rfl | (simp only [List.flatMap_append, List.flatMap_cons, List.flatMap_nil, List.map_append, List.map_cons, List.map_nil, List.append_nil, List.nil_append]; done) | (simp only [List.flatMap_append, List.flatMap_cons, List.flatMap_nil, List.map_append, List.map_cons, List.map_nil, List.append_nil, List.nil_append]; rfl)) (vi_clean _))) (tmAllU 68 (tmAllU 8 (tmAllU 2 tmAll0 (Tm.ptr rfl)) (Tm.ptr rfl)) (Tm.v _)); all_goals (first | rfl | (simp only [List.length_take]; omega) | (simp only [List.length_append, List.length_cons, List.length_nil, List.length_modify, List.length_set, Nat.zero_add]; done) | (simp only [List.length_append, List.length_take, List.length_drop, List.length_cons, List.length_nil, List.length_modify, List.length_set, Nat.zero_add]; omega) | omega)) ?_; clear hKK KK
       unfold hotspotref33_Decode_S3
       refine awp_cond (b := (!x17)) rfl (fun h11 => ?_) (fun h11 => ?_)
       ·
        have h0 := cT h0 h11
        refine awp_assoc ?_
        refine awp_nr [2] (fun _ => rfl) fun tz => ?_
        refine awp_regW fun KK hKK => ?_
        refine xw_id ?_
        try simp only [go_sem, ↓iop_and, ↓iop_or, ↓iop_xor, ↓iop_andn, Nat.reduceEqDiff, reduceIte, Nat.reduceAdd, Nat.reduceMul, Nat.reduceSub, Nat.reduceLT, Nat.reduceLeDiff, fx15_0, fx15_1, fx15_2]
        refine hKK _ _ (Wk.refl _ _ _) ?_; clear hKK KK
        refine awp_ret ?_
        obtain rfl := someInj h0
        refine endW_i ?_
        refine end_ret0 rs20 (by simp only [go_sem, resV, resAll, resOf, packR, ↓iop_and, ↓iop_or, ↓iop_xor, ↓iop_andn, Nat.reduceEqDiff, reduceIte, Nat.reduceAdd, Nat.reduceMul, Nat.reduceSub, Nat.reduceLT, Nat.reduceLeDiff]; rfl) ?_
        refine Res.mk [] [none] rfl (resON resO0) (Tm.tup (TmL.cons (Tm.agg (e_Traffic_tmx (by rfl) (Tm.thaw _ _ _))) (TmL.cons (Tm.v _) TmL.nil)))
       ·
        have h0 := cF h0 h11
        refine awp_skip ?_
        refine awp_nr [2,8] (fun _ => rfl) fun tz => ?_
        refine awp_regW fun KK hKK => ?_
        refine xw_id ?_
        try simp only [go_sem, ↓iop_and, ↓iop_or, ↓iop_xor, ↓iop_andn, Nat.reduceEqDiff, reduceIte, Nat.reduceAdd, Nat.reduceMul, Nat.reduceSub, Nat.reduceLT, Nat.reduceLeDiff, fx15_0, fx15_1, fx15_2]
        refine hKK _ _ (Wk.refl _ _ _) ?_; clear hKK KK
        refine awp_ret1 ?_
        obtain rfl := someInj h0
        refine endW_i ?_
        refine end_ret0 rs20 (by simp only [go_sem, resV, resAll, resOf, packR, ↓iop_and, ↓iop_or, ↓iop_xor, ↓iop_andn, Nat.reduceEqDiff, reduceIte, Nat.reduceAdd, Nat.reduceMul, Nat.reduceSub, Nat.reduceLT, Nat.reduceLeDiff]; rfl) ?_
        refine Res.mk [] [some 2] rfl (resOU List.not_mem_nil (by simp only [upd_get, ↓iop_and, ↓iop_or, ↓iop_xor, ↓iop_andn, Nat.reduceEqDiff, reduceIte, Nat.reduceAdd, Nat.reduceMul, Nat.reduceSub, Nat.reduceLT, Nat.reduceLeDiff, if_true, if_false] <;> rfl) (TmL.of_eq (by first | rfl | (simp only [List.flatMap_append, List.flatMap_cons, List.flatMap_nil, List.map_append, List.map_cons, List.map_nil, List.append_nil, List.nil_append]; done) | (simp only [List.flatMap_append, List.flatMap_cons, List.flatMap_nil, List.map_append, List.map_cons, List.map_nil, List.append_nil, List.nil_append]; rfl)) (vi_clean _)) resO0) (Tm.tup (TmL.cons (Tm.agg (e_Traffic_tmx (by rfl) (Tm.refL rfl ?_))) (TmL.cons (Tm.v _) TmL.nil)))
        all_goals (first | rfl | (simp only [List.length_take]; omega) | (simp only [List.length_append, List.length_cons, List.length_nil, List.length_modify, List.length_set, Nat.zero_add]; done) | (simp only [List.length_append, List.length_take, List.length_drop, List.length_cons, List.length_nil, List.length_modify, List.length_set, Nat.zero_add]; omega) | omega)

theorem hotspotref33_Decode_m (a0 : (List Int)) {r : (Traffic × Int)} (h0 : hotspotref33_Decode a0 = some r) : SndM K 20 [(S_vu a0)] (fun q => (.tup [(.agg (e_Traffic r.1 (.ref (q 0) 0 r.1.Aids.length 1))), (vi r.2)])) [(List.map vi r.1.Aids)] :=
 fun hs => Snd.of_newM (RenM.tup (RenML.cons (RenM.agg (e_Traffic_ren _ (RenM.ref 0 0 _ _))) (RenML.cons (RenM.const (Clean.v _)) RenML.nil))) (rows_all_cons (vi_clean _) rows_all_nil) (clean_cons (S_vu_clean _) clean_nil) (hotspotref33_Decode_r a0 h0) hs

theorem hotspotref33_Decode_e (a0 : (List Int)) {r : (Traffic × Int)} (h0 : hotspotref33_Decode a0 = some r) (fr : Nat) (hs : HS) : SndE K 20 [(S_vu a0)] hs fr ⟨(fun q : Nat → Nat => (.tup [(.agg (e_Traffic r.1 (.ref (q 0) 0 r.1.Aids.length 1))), (vi r.2)])) fun _ => fr, .new (List.map vi r.1.Aids)⟩ :=
 SndE.of_res (RenM.tup (RenML.cons (RenM.agg (e_Traffic_ren _ (RenM.ref 0 0 _ _))) (RenML.cons (RenM.const (Clean.v _)) RenML.nil))) (vi_clean _) (clean_cons (S_vu_clean _) clean_nil) (fun a b h => by simp only [h]) (hotspotref33_Decode_r a0 h0) hs fr

theorem hotspotref33_Decode_p (a0 : (List Int)) {r : (Traffic × Int)} (h0 : hotspotref33_Decode a0 = some r) : SndP K 20 [(S_vu a0)] (.tup [(.agg (E_Traffic r.1)), (vi r.2)]) :=
 SndM.pure (hotspotref33_Decode_m a0 h0) (Clean.tup (clean_cons (Clean.agg (E_Traffic_clean _)) (clean_cons (Clean.v _) clean_nil))) (clean_cons (S_vu_clean _) clean_nil) (by simp only [go_sem, newL_n, newL_c, upd_get, fz, nilS, cond_true, cond_false, List.drop_zero, List.take_length, List.length_map, ble_self, ↓iop_and, ↓iop_or, ↓iop_xor, ↓iop_andn, Nat.reduceEqDiff, reduceIte, Nat.reduceAdd, Nat.reduceMul, Nat.reduceSub, Nat.reduceLT, Nat.reduceLeDiff] <;> rfl)

end Go.AX.Z.TD

/-! (TDW hotspotref33 SameMap) -/

set_option linter.unusedSimpArgs false
set_option linter.unusedVariables false
set_option maxHeartbeats 4000000
namespace Go.AX.Z.TD
open Go.AX Go.Proofs
attribute [local irreducible] awp xw xop xcall gsp ob xd xdop xcallD seqQ loopQ blkQ endQ

def hotspotref33_SameMap_S0 (d19 : Unit) : AS :=
 { objs := (fun _ => .dead), next := 0, tmps := (fun _ => .unk) }

def hotspotref33_SameMap_S1 (a0 : Traffic) (a1 : Traffic) (d21 : Int) : AS :=
 { objs := (upd (upd (fun _ => .dead) 0 (.live (e_Traffic a0 (.imm (List.map vi a0.Aids) a0.Aids.length)))) 1 (.live (e_Traffic a1 (.imm (List.map vi a1.Aids) a1.Aids.length)))), next := 2, tmps := (upd (upd (upd (fun _ => .unk) 2 (.ptr 0 0)) 3 (.ptr 1 0)) 5 (vi d21)) }

theorem hotspotref33_SameMap_p (a0 : Traffic) (a1 : Traffic) {r : Bool} (h0 : hotspotref33_SameMap a0 a1 = some r) : SndP K 21 [(.agg (E_Traffic a0)), (.agg (E_Traffic a1))] (vb r) := by
 refine SndP.of_walkW hC (Clean.v _) (clean_cons (Clean.agg (E_Traffic_clean _)) (clean_cons (Clean.agg (E_Traffic_clean _)) clean_nil)) (show K.P.funcs[21]? = some Try.f21 from Try.func21) rfl rfl (by decide +kernel) (Nat.le_of_ble_eq_true rfl) ?_
 unfold hotspotref33_SameMap at h0
 refine awp_nr [0,1] (fun _ => rfl) fun tz => ?_
 refine awp_regW fun KK hKK => ?_
 refine xw_id ?_
 try simp only [go_sem, ↓iop_and, ↓iop_or, ↓iop_xor, ↓iop_andn, Nat.reduceEqDiff, reduceIte, Nat.reduceAdd, Nat.reduceMul, Nat.reduceSub, Nat.reduceLT, Nat.reduceLeDiff]
 refine hKK _ _ (Wk.refl _ _ _) ?_; clear hKK KK
 refine awp_assoc ?_
 refine awp_nr [2,3] (fun _ => rfl) fun tz => ?_
 refine awp_regW fun KK hKK => ?_
 refine xw_id ?_
 refine xw_stop 6 (by (try simp only [go_sem]); rfl) (by (try simp only [go_sem]); rfl) (by rfl) fun K1 hK1 => ?_
 refine xw_id ?_
 try simp only [go_sem, ↓iop_and, ↓iop_or, ↓iop_xor, ↓iop_andn, Nat.reduceEqDiff, reduceIte, Nat.reduceAdd, Nat.reduceMul, Nat.reduceSub, Nat.reduceLT, Nat.reduceLeDiff]
 refine hK1 _ ?_; clear hK1 K1
 refine xw_cut 8 [(2, (.ptr 0 0)), (3, (.ptr 1 0)), (19, (vb ((!(a0.Group == a1.Group)) || ((a0.Aids.length : Int) != (a1.Aids.length : Int)))))] (by (try simp only [go_sem]); rfl) (by (try simp only [go_sem]); rfl) (by rfl) (fun K1 hK1 => ?_) fun tz => ?_
 ·
  refine xw_id ?_
  rcases Bool.eq_false_or_eq_true (!(a0.Group == a1.Group)) with h1 | h1
  ·
   try simp only [go_sem, ↓iop_and, ↓iop_or, ↓iop_xor, ↓iop_andn, Nat.reduceEqDiff, reduceIte, Nat.reduceAdd, Nat.reduceMul, Nat.reduceSub, Nat.reduceLT, Nat.reduceLeDiff, h1]
   exact hK1 _ ⟨rfl, rfl, rfl, (by first | rfl | (rw [h1]; rfl) | (simp only [h1, Bool.true_and, Bool.false_and, Bool.true_or, Bool.false_or, cond_true, cond_false]; done)), trivial⟩
  ·
   try simp only [go_sem, ↓iop_and, ↓iop_or, ↓iop_xor, ↓iop_andn, Nat.reduceEqDiff, reduceIte, Nat.reduceAdd, Nat.reduceMul, Nat.reduceSub, Nat.reduceLT, Nat.reduceLeDiff, Int.reduceToNat, Int.reduceBEq, Int.reduceBNe, Int.reduceLT, Int.reduceLE, Int.reduceAdd, Int.reduceSub, Int.reduceMul, Int.reduceNeg, Int.reduceEq, Int.reduceNe, h1]
   exact hK1 _ ⟨rfl, rfl, rfl, (by first | rfl | (rw [h1]; rfl) | (simp only [h1, Bool.true_and, Bool.false_and, Bool.true_or, Bool.false_or, cond_true, cond_false]; done)), trivial⟩
 ·
  refine xw_id ?_
  try simp only [go_sem, ↓iop_and, ↓iop_or, ↓iop_xor, ↓iop_andn, Nat.reduceEqDiff, reduceIte, Nat.reduceAdd, Nat.reduceMul, Nat.reduceSub, Nat.reduceLT, Nat.reduceLeDiff]
  refine hKK _ _ (Wk.refl _ _ _) ?_; clear hKK KK
  refine awp_cond (b := ((!(a0.Group == a1.Group)) || ((a0.Aids.length : Int) != (a1.Aids.length : Int)))) rfl (fun h2 => ?_) (fun h2 => ?_)
  ·
   have h0 := cT h0 h2
   refine awp_assoc ?_
   refine awp_nr [] (fun _ => rfl) fun tz => ?_
   refine awp_regW fun KK hKK => ?_
   refine xw_id ?_
   try simp only [go_sem, ↓iop_and, ↓iop_or, ↓iop_xor, ↓iop_andn, Nat.reduceEqDiff, reduceIte, Nat.reduceAdd, Nat.reduceMul, Nat.reduceSub, Nat.reduceLT, Nat.reduceLeDiff]
   refine hKK _ _ (Wk.refl _ _ _) ?_; clear hKK KK
   refine awp_ret ?_
   obtain rfl := someInj h0
   refine endW_i ?_
   refine end_ret0 rs21 (rfl) ?_
   try simp only [go_sem, ↓iop_and, ↓iop_or, ↓iop_xor, ↓iop_andn, Nat.reduceEqDiff, reduceIte, Nat.reduceAdd, Nat.reduceMul, Nat.reduceSub, Nat.reduceLT, Nat.reduceLeDiff, fz, nilS, packR, List.take_nil, List.take_length, List.length_map, List.length_append, cond_true, cond_false, Nat.ble_eq, ble_self, List.map_append]
   all_goals rfl
  ·
   have h0 := cF h0 h2
   refine awp_skip ?_
   refine awp_assoc ?_
   refine awp_nr [2,3] (fun _ => rfl) fun tz => ?_
   refine awp_regW fun KK hKK => ?_
   refine xw_id ?_
   try simp only [go_sem, ↓iop_and, ↓iop_or, ↓iop_xor, ↓iop_andn, Nat.reduceEqDiff, reduceIte, Nat.reduceAdd, Nat.reduceMul, Nat.reduceSub, Nat.reduceLT, Nat.reduceLeDiff]
   refine hKK _ _ (Wk.refl _ _ _) ?_; clear hKK KK
   obtain ⟨o20, hi3, h0⟩ := bnd h0
   refine awp_cut (fun d19 : Unit => o20 = Ex.go d19) (fun d19 : Unit => hotspotref33_SameMap_S0 d19) ?_ ?_
   ·
    refine awp_block1 ?_
    refine awp_loopS (fun n (d21 : Int) => hotspotref33_SameMap_L2 a0 a1 n d21 = some o20) (fun d21 : Int => hotspotref33_SameMap_S1 a0 a1 d21) big 0 (Wk.canonD [] [] [some 0, some 1] rfl trivial rfl (tmOU 1 (tmOU 0 tmO0 rfl List.not_mem_nil (by simp only [upd_get, ↓iop_and, ↓iop_or, ↓iop_xor, ↓iop_andn, Nat.reduceEqDiff, reduceIte, Nat.reduceAdd, Nat.reduceMul, Nat.reduceSub, Nat.reduceLT, Nat.reduceLeDiff, if_true, if_false] <;> rfl) (e_Traffic_tmx (by rfl) (Tm.clean (Clean.imm (vi_clean _))))) rfl List.not_mem_nil (by simp only [upd_get, ↓iop_and, ↓iop_or, ↓iop_xor, ↓iop_andn, Nat.reduceEqDiff, reduceIte, Nat.reduceAdd, Nat.reduceMul, Nat.reduceSub, Nat.reduceLT, Nat.reduceLeDiff, if_true, if_false] <;> rfl) (e_Traffic_tmx (by rfl) (Tm.clean (Clean.imm (vi_clean _))))) (tmAllU 5 (tmAllU 3 (tmAllU 2 tmAll0 (Tm.ptr rfl)) (Tm.ptr rfl)) (Tm.v _))) hi3 ?_
    clear hi3
    rintro n d21 hl5
    rcases n with _ | n4
    ·
     (rw [hotspotref33_SameMap_L2] at hl5; cases hl5)
    ·
     rw [hotspotref33_SameMap_L2] at hl5
     unfold hotspotref33_SameMap_S1
     refine awp_assoc ?_
     refine awp_nr [2,3,5] (fun _ => rfl) fun tz => ?_
     refine awp_regW fun KK hKK => ?_
     refine xw_id ?_
     try simp only [go_sem, ↓iop_and, ↓iop_or, ↓iop_xor, ↓iop_andn, Nat.reduceEqDiff, reduceIte, Nat.reduceAdd, Nat.reduceMul, Nat.reduceSub, Nat.reduceLT, Nat.reduceLeDiff, Int.reduceToNat, Int.reduceBEq, Int.reduceBNe, Int.reduceLT, Int.reduceLE, Int.reduceAdd, Int.reduceSub, Int.reduceMul, Int.reduceNeg, Int.reduceEq, Int.reduceNe]
     refine hKK _ _ (Wk.refl _ _ _) ?_; clear hKK KK
     refine awp_cond (b := (decide (d21 < (a0.Aids.length : Int)))) rfl (fun h6 => ?_) (fun h6 => ?_)
     ·
      have hl5 := cT hl5 h6
      refine awp_skip ?_
      refine awp_blockW ?_
      refine awp_nr [2,3,5] (fun _ => rfl) fun tz => ?_
      refine awp_regW fun KK hKK => ?_
      refine xw_id ?_
      obtain ⟨x22, bx22, hl5⟩ := bnd hl5
      obtain ⟨fx22_0, fx22_1, fx22_2, fx22_3⟩ := idx_some bx22
      obtain ⟨x23, bx23, hl5⟩ := bnd hl5
      obtain ⟨fx23_0, fx23_1, fx23_2, fx23_3⟩ := idx_some bx23
      try simp only [go_sem, ↓iop_and, ↓iop_or, ↓iop_xor, ↓iop_andn, Nat.reduceEqDiff, reduceIte, Nat.reduceAdd, Nat.reduceMul, Nat.reduceSub, Nat.reduceLT, Nat.reduceLeDiff, fx22_0, fx22_1, fx22_2, fx23_0, fx23_1, fx23_2]
      refine hKK _ _ (Wk.refl _ _ _) ?_; clear hKK KK
      refine awp_cond1 (b := (x22 != x23)) rfl (fun h7 => ?_) (fun h7 => ?_)
      ·
       have hl5 := cT hl5 h7
       refine awp_nr [] (fun _ => rfl) fun tz => ?_
       refine awp_regW fun KK hKK => ?_
       refine xw_id ?_
       try simp only [go_sem, ↓iop_and, ↓iop_or, ↓iop_xor, ↓iop_andn, Nat.reduceEqDiff, reduceIte, Nat.reduceAdd, Nat.reduceMul, Nat.reduceSub, Nat.reduceLT, Nat.reduceLeDiff, fx22_0, fx22_1, fx22_2, fx23_0, fx23_1, fx23_2]
       refine hKK _ _ (Wk.refl _ _ _) ?_; clear hKK KK
       refine awp_ret1 ?_
       refine bq_r ?_
       refine sq_r ?_
       refine lq_r ?_
       refine bq_r ?_
       refine sq_r ?_
       obtain rfl := someInj hl5
       obtain rfl := Ex.k_ret h0
       refine endW_i ?_
       refine end_ret0 rs21 (rfl) ?_
       try simp only [go_sem, ↓iop_and, ↓iop_or, ↓iop_xor, ↓iop_andn, Nat.reduceEqDiff, reduceIte, Nat.reduceAdd, Nat.reduceMul, Nat.reduceSub, Nat.reduceLT, Nat.reduceLeDiff, fz, nilS, packR, List.take_nil, List.take_length, List.length_map, List.length_append, cond_true, cond_false, Nat.ble_eq, ble_self, List.map_append]
       all_goals rfl
      ·
       have hl5 := cF hl5 h7
       refine awp_skip1 ?_
       refine bq_n ?_
       refine seqW_i ?_
       refine awp_nr1 [2,3,5] (fun _ => rfl) fun tz => ?_
       refine awp_reg1 fun KK hKK => ?_
       refine xw_id ?_
       try simp only [go_sem, ↓iop_and, ↓iop_or, ↓iop_xor, ↓iop_andn, Nat.reduceEqDiff, reduceIte, Nat.reduceAdd, Nat.reduceMul, Nat.reduceSub, Nat.reduceLT, Nat.reduceLeDiff, fx22_0, fx22_1, fx22_2, fx23_0, fx23_1, fx23_2]
       refine hKK _ ?_; clear hKK KK
       refine lq_n ?_
       exact ⟨n4, IntKind.wrap .i64 (d21 + 1), rfl, hl5, (Wk.canonD [] [] [some 0, some 1] rfl trivial rfl (tmOU 1 (tmOU 0 tmO0 rfl List.not_mem_nil (by simp only [upd_get, ↓iop_and, ↓iop_or, ↓iop_xor, ↓iop_andn, Nat.reduceEqDiff, reduceIte, Nat.reduceAdd, Nat.reduceMul, Nat.reduceSub, Nat.reduceLT, Nat.reduceLeDiff, if_true, if_false] <;> rfl) (e_Traffic_tmx (by rfl) (Tm.clean (Clean.imm (vi_clean _))))) rfl List.not_mem_nil (by simp only [upd_get, ↓iop_and, ↓iop_or, ↓iop_xor, ↓iop_andn, Nat.reduceEqDiff, reduceIte, Nat.reduceAdd, Nat.reduceMul, Nat.reduceSub, Nat.reduceLT, Nat.reduceLeDiff, if_true, if_false] <;> rfl) (e_Traffic_tmx (by rfl) (Tm.clean (Clean.imm (vi_clean _))))) (tmAllU 5 (tmAllU 3 (tmAllU 2 tmAll0 (Tm.ptr rfl)) (Tm.ptr rfl)) (Tm.v _)))⟩
     ·
      have hl5 := cF hl5 h6
      refine awp_exit ?_
      refine lq_e ?_
      refine bq_e ?_
      refine sq_n ?_
      obtain rfl := someInj hl5
      exact ⟨_, rfl, (Wk.canonD [] [] [] rfl trivial rfl tmO0 tmAll0)⟩
   ·
    rintro d19 rfl
    have h0 := Ex.k_go h0
    clear hi3
    unfold hotspotref33_SameMap_S0
    refine awp_nr [] (fun _ => rfl) fun tz => ?_
    refine awp_regW fun KK hKK => ?_
    refine xw_id ?_
    try simp only [go_sem, ↓iop_and, ↓iop_or, ↓iop_xor, ↓iop_andn, Nat.reduceEqDiff, reduceIte, Nat.reduceAdd, Nat.reduceMul, Nat.reduceSub, Nat.reduceLT, Nat.reduceLeDiff]
    refine hKK _ _ (Wk.refl _ _ _) ?_; clear hKK KK
    refine awp_ret1 ?_
    obtain rfl := someInj h0
    refine endW_i ?_
    refine end_ret0 rs21 (rfl) ?_
    try simp only [go_sem, ↓iop_and, ↓iop_or, ↓iop_xor, ↓iop_andn, Nat.reduceEqDiff, reduceIte, Nat.reduceAdd, Nat.reduceMul, Nat.reduceSub, Nat.reduceLT, Nat.reduceLeDiff, fz, nilS, packR, List.take_nil, List.take_length, List.length_map, List.length_append, cond_true, cond_false, Nat.ble_eq, ble_self, List.map_append]
    all_goals rfl

end Go.AX.Z.TD

/-! (TDW hotspotlaw33 BitmapDecodes) -/

set_option linter.unusedSimpArgs false
set_option linter.unusedVariables false
set_option maxHeartbeats 4000000
namespace Go.AX.Z.TD
open Go.AX Go.Proofs
attribute [local irreducible] awp xw xop xcall gsp ob xd xdop xcallD seqQ loopQ blkQ endQ

def hotspotlaw33_BitmapDecodes_S0 (a0 : (List Int)) (x2 : (Traffic × Int)) : AS :=
 { objs := (upd (upd (fun _ => .dead) 0 (.live (List.map vu a0))) 1 (.live (e_Traffic x2.1 (.imm (List.map vi x2.1.Aids) x2.1.Aids.length)))), next := 2, tmps := (upd (upd (upd (upd (fun _ => .unk) 0 (.imm (List.map vu a0) a0.length)) 3 (.ref 0 0 a0.length 1)) 4 (.ptr 1 0)) 5 (vi x2.2)) }

theorem hotspotlaw33_BitmapDecodes_p (a0 : (List Int)) {r : Bool} (h0 : hotspotlaw33_BitmapDecodes a0 = some r) : SndP K 6 [(S_vu a0)] (vb r) := by
 refine SndP.of_walkW hC (Clean.v _) (clean_cons (S_vu_clean _) clean_nil) (show K.P.funcs[6]? = some Try.f6 from Try.func6) rfl rfl (by decide +kernel) (Nat.le_of_ble_eq_true rfl) ?_
 unfold hotspotlaw33_BitmapDecodes at h0
 refine awp_nr [0] (fun _ => rfl) fun tz => ?_
 refine awp_regW fun KK hKK => ?_
 refine xw_id ?_
 try simp only [go_sem, ↓iop_and, ↓iop_or, ↓iop_xor, ↓iop_andn, Nat.reduceEqDiff, reduceIte, Nat.reduceAdd, Nat.reduceMul, Nat.reduceSub, Nat.reduceLT, Nat.reduceLeDiff]
 refine hKK _ _ (Wk.refl _ _ _) ?_; clear hKK KK
 refine awp_assoc ?_
 refine awp_nr [0] (fun _ => rfl) fun tz => ?_
 refine awp_regW fun KK hKK => ?_
 refine xw_id ?_
 try simp only [go_sem, ↓iop_and, ↓iop_or, ↓iop_xor, ↓iop_andn, Nat.reduceEqDiff, reduceIte, Nat.reduceAdd, Nat.reduceMul, Nat.reduceSub, Nat.reduceLT, Nat.reduceLeDiff, Int.reduceToNat, Int.reduceBEq, Int.reduceBNe, Int.reduceLT, Int.reduceLE, Int.reduceAdd, Int.reduceSub, Int.reduceMul, Int.reduceNeg, Int.reduceEq, Int.reduceNe]
 refine hKK _ _ (Wk.refl _ _ _) ?_; clear hKK KK
 refine awp_cond (b := (decide (600 < (a0.length : Int)))) rfl (fun h1 => ?_) (fun h1 => ?_)
 ·
  have h0 := cT h0 h1
  refine awp_assoc ?_
  refine awp_nr [] (fun _ => rfl) fun tz => ?_
  refine awp_regW fun KK hKK => ?_
  refine xw_id ?_
  try simp only [go_sem, ↓iop_and, ↓iop_or, ↓iop_xor, ↓iop_andn, Nat.reduceEqDiff, reduceIte, Nat.reduceAdd, Nat.reduceMul, Nat.reduceSub, Nat.reduceLT, Nat.reduceLeDiff]
  refine hKK _ _ (Wk.refl _ _ _) ?_; clear hKK KK
  refine awp_ret ?_
  obtain rfl := someInj h0
  refine endW_i ?_
  refine end_ret0 rs6 (rfl) ?_
  try simp only [go_sem, ↓iop_and, ↓iop_or, ↓iop_xor, ↓iop_andn, Nat.reduceEqDiff, reduceIte, Nat.reduceAdd, Nat.reduceMul, Nat.reduceSub, Nat.reduceLT, Nat.reduceLeDiff, fz, nilS, packR, List.take_nil, List.take_length, List.length_map, List.length_append, cond_true, cond_false, Nat.ble_eq, ble_self, List.map_append]
  all_goals rfl
 ·
  have h0 := cF h0 h1
  refine awp_skip ?_
  refine awp_nr [0] (fun _ => rfl) fun tz => ?_
  refine awp_regW fun KK hKK => ?_
  refine xw_id ?_
  obtain ⟨x1, bx1, h0⟩ := bnd h0
  have bx1 := chk_some bx1
  simp only [Bool.and_eq_true, decide_eq_true_eq] at bx1
  have gx1_0 := bx1
  try simp only [go_sem, ↓iop_and, ↓iop_or, ↓iop_xor, ↓iop_andn, Nat.reduceEqDiff, reduceIte, Nat.reduceAdd, Nat.reduceMul, Nat.reduceSub, Nat.reduceLT, Nat.reduceLeDiff, Int.reduceToNat, Int.reduceBEq, Int.reduceBNe, Int.reduceLT, Int.reduceLE, Int.reduceAdd, Int.reduceSub, Int.reduceMul, Int.reduceNeg, Int.reduceEq, Int.reduceNe, gx1_0]
  refine hKK _ _ (Wk.refl _ _ _) ?_; clear hKK KK
  refine awp_nr [0,3] (fun _ => rfl) fun tz => ?_
  refine awp_regW fun KK hKK => ?_
  refine xw_id ?_
  obtain ⟨x2, bx2, h0⟩ := bnd h0
  try simp only [go_sem, ↓iop_and, ↓iop_or, ↓iop_xor, ↓iop_andn, Nat.reduceEqDiff, reduceIte, Nat.reduceAdd, Nat.reduceMul, Nat.reduceSub, Nat.reduceLT, Nat.reduceLeDiff]
  refine xcall_p (bitmap_Decode_p a0 bx2) ?_; try dsimp only
  try refine xw_id ?_
  try simp only [go_sem, ↓iop_and, ↓iop_or, ↓iop_xor, ↓iop_andn, Nat.reduceEqDiff, reduceIte, Nat.reduceAdd, Nat.reduceMul, Nat.reduceSub, Nat.reduceLT, Nat.reduceLeDiff]
  refine hKK _ (hotspotlaw33_BitmapDecodes_S0 a0 x2) (by refine Wk.canonD [] [] [some 6, some 13] rfl trivial rfl (tmOU 1 (tmOU 0 tmO0 rfl List.not_mem_nil (by simp only [upd_get, ↓iop_and, ↓iop_or, ↓iop_xor, ↓iop_andn, Nat.reduceEqDiff, reduceIte, Nat.reduceAdd, Nat.reduceMul, Nat.reduceSub, Nat.reduceLT, Nat.reduceLeDiff, if_true, if_false] <;> rfl) (TmL.of_eq (by first | rfl | (simp only [List.flatMap_append, List.flatMap_cons, List.flatMap_nil, List.map_append, List.map_cons, List.map_nil, List.append_nil, List.nil_append]; done) | (simp only [List.flatMap_append, List.flatMap_cons, List.flatMap_nil, List.map_append, List.map_cons, List.map_nil, List.append_nil, List.nil_append]; rfl)) (vu_clean _))) rfl List.not_mem_nil (by simp only [upd_get, ↓iop_and, ↓iop_or, ↓iop_xor, ↓iop_andn, Nat.reduceEqDiff, reduceIte, Nat.reduceAdd, Nat.reduceMul, Nat.reduceSub, Nat.reduceLT, Nat.reduceLeDiff, if_true, if_false] <;> rfl) (e_Traffic_tmx (by rfl) (Tm.clean (Clean.imm (vi_clean _))))) (tmAllU 5 (tmAllU 4 (tmAllU 3 (tmAllU 0 tmAll0 (Tm.clean (Clean.imm (vu_clean _)))) (Tm.refL rfl ?_)) (Tm.ptr rfl)) (Tm.v _)); all_goals (first | rfl | (simp only [List.length_take]; omega) | (simp only [List.length_append, List.length_cons, List.length_nil, List.length_modify, List.length_set, Nat.zero_add]; done) | (simp only [List.length_append, List.length_take, List.length_drop, List.length_cons, List.length_nil, List.length_modify, List.length_set, Nat.zero_add]; omega) | omega)) ?_; clear hKK KK
  unfold hotspotlaw33_BitmapDecodes_S0
  refine awp_nr [0,3,4,5] (fun _ => rfl) fun tz => ?_
  refine awp_regW fun KK hKK => ?_
  refine xw_id ?_
  obtain ⟨x3, bx3, h0⟩ := bnd h0
  try simp only [go_sem, ↓iop_and, ↓iop_or, ↓iop_xor, ↓iop_andn, Nat.reduceEqDiff, reduceIte, Nat.reduceAdd, Nat.reduceMul, Nat.reduceSub, Nat.reduceLT, Nat.reduceLeDiff]
  refine xcall_p (hotspotref33_Decode_p a0 bx3) ?_; try dsimp only
  try refine xw_id ?_
  try simp only [go_sem, ↓iop_and, ↓iop_or, ↓iop_xor, ↓iop_andn, Nat.reduceEqDiff, reduceIte, Nat.reduceAdd, Nat.reduceMul, Nat.reduceSub, Nat.reduceLT, Nat.reduceLeDiff]
  refine hKK _ _ (Wk.refl _ _ _) ?_; clear hKK KK
  refine awp_nr [0,3,4,5,6,7] (fun _ => rfl) fun tz => ?_
  refine awp_regW fun KK hKK => ?_
  refine xw_id ?_
  obtain ⟨x4, bx4, h0⟩ := bnd h0
  try simp only [go_sem, ↓iop_and, ↓iop_or, ↓iop_xor, ↓iop_andn, Nat.reduceEqDiff, reduceIte, Nat.reduceAdd, Nat.reduceMul, Nat.reduceSub, Nat.reduceLT, Nat.reduceLeDiff]
  refine xcall_p (hotspotref33_SameMap_p x2.1 x3.1 bx4) ?_; try dsimp only
  try refine xw_id ?_
  refine xw_stop 1 (by (try simp only [go_sem]); rfl) (by (try simp only [go_sem]); rfl) (by rfl) fun K1 hK1 => ?_
  refine xw_id ?_
  try simp only [go_sem, ↓iop_and, ↓iop_or, ↓iop_xor, ↓iop_andn, Nat.reduceEqDiff, reduceIte, Nat.reduceAdd, Nat.reduceMul, Nat.reduceSub, Nat.reduceLT, Nat.reduceLeDiff]
  refine hK1 _ ?_; clear hK1 K1
  refine xw_cut 4 [(0, (.imm (List.map vu a0) a0.length)), (3, (.ref 0 0 a0.length 1)), (31, (vb (x4 && (x2.2 == x3.2))))] (by (try simp only [go_sem]); rfl) (by (try simp only [go_sem]); rfl) (by rfl) (fun K1 hK1 => ?_) fun tz => ?_
  ·
   refine xw_id ?_
   rcases Bool.eq_false_or_eq_true x4 with h2 | h2
   ·
    try simp only [go_sem, ↓iop_and, ↓iop_or, ↓iop_xor, ↓iop_andn, Nat.reduceEqDiff, reduceIte, Nat.reduceAdd, Nat.reduceMul, Nat.reduceSub, Nat.reduceLT, Nat.reduceLeDiff, h2]
    exact hK1 _ ⟨rfl, rfl, rfl, (by first | rfl | (rw [h2]; rfl) | (simp only [h2, Bool.true_and, Bool.false_and, Bool.true_or, Bool.false_or, cond_true, cond_false]; done)), trivial⟩
   ·
    try simp only [go_sem, ↓iop_and, ↓iop_or, ↓iop_xor, ↓iop_andn, Nat.reduceEqDiff, reduceIte, Nat.reduceAdd, Nat.reduceMul, Nat.reduceSub, Nat.reduceLT, Nat.reduceLeDiff, h2]
    exact hK1 _ ⟨rfl, rfl, rfl, (by first | rfl | (rw [h2]; rfl) | (simp only [h2, Bool.true_and, Bool.false_and, Bool.true_or, Bool.false_or, cond_true, cond_false]; done)), trivial⟩
  ·
   refine xw_id ?_
   refine xw_stop 1 (by (try simp only [go_sem]); rfl) (by (try simp only [go_sem]); rfl) (by rfl) fun K1 hK1 => ?_
   refine xw_id ?_
   try simp only [go_sem, ↓iop_and, ↓iop_or, ↓iop_xor, ↓iop_andn, Nat.reduceEqDiff, reduceIte, Nat.reduceAdd, Nat.reduceMul, Nat.reduceSub, Nat.reduceLT, Nat.reduceLeDiff]
   refine hK1 _ ?_; clear hK1 K1
   obtain ⟨x6, hvh3, h0⟩ := bnd h0
   refine xw_cut 4 [(36, (vb x6))] (by (try simp only [go_sem]); rfl) (by (try simp only [go_sem]); rfl) (by rfl) (fun K1 hK1 => ?_) fun tz => ?_
   ·
    refine xw_id ?_
    rcases Bool.eq_false_or_eq_true (x4 && (x2.2 == x3.2)) with h3 | h3
    ·
     have hvh3 := cT hvh3 h3
     have h3_0 : (x4) = true := by simp only [Bool.and_eq_true] at h3; exact h3.1
     have h3_1 : (x2.2 == x3.2) = true := by simp only [Bool.and_eq_true] at h3; exact h3.2
     obtain ⟨x5, bx5, hvh3⟩ := bnd hvh3
     try simp only [go_sem, ↓iop_and, ↓iop_or, ↓iop_xor, ↓iop_andn, Nat.reduceEqDiff, reduceIte, Nat.reduceAdd, Nat.reduceMul, Nat.reduceSub, Nat.reduceLT, Nat.reduceLeDiff, h3, h3_0, h3_1]
     refine xcall_L (by first | (simp only [go_sem, fz, ↓iop_and, ↓iop_or, ↓iop_xor, ↓iop_andn, Nat.reduceEqDiff, reduceIte, Nat.reduceAdd, Nat.reduceMul, Nat.reduceSub, Nat.reduceLT, Nat.reduceLeDiff, h3, h3_0, h3_1]; done) | (simp only [go_sem, fz, ↓iop_and, ↓iop_or, ↓iop_xor, ↓iop_andn, Nat.reduceEqDiff, reduceIte, Nat.reduceAdd, Nat.reduceMul, Nat.reduceSub, Nat.reduceLT, Nat.reduceLeDiff, h3, h3_0, h3_1]; rfl) | (simp only [go_sem, fz, List.length_set, ble_self, take_set, cond_true, cond_false, ↓iop_and, ↓iop_or, ↓iop_xor, ↓iop_andn, Nat.reduceEqDiff, reduceIte, Nat.reduceAdd, Nat.reduceMul, Nat.reduceSub, Nat.reduceLT, Nat.reduceLeDiff, h3, h3_0, h3_1]; done) | (simp only [go_sem, fz, List.length_set, ble_self, take_set, cond_true, cond_false, ↓iop_and, ↓iop_or, ↓iop_xor, ↓iop_andn, Nat.reduceEqDiff, reduceIte, Nat.reduceAdd, Nat.reduceMul, Nat.reduceSub, Nat.reduceLT, Nat.reduceLeDiff, h3, h3_0, h3_1]; rfl)) (hotspotref33_Same_p a0 a0 bx5) (Bare.v _) ?_; try dsimp only
     try refine xw_id ?_
     try simp only [go_sem, ↓iop_and, ↓iop_or, ↓iop_xor, ↓iop_andn, Nat.reduceEqDiff, reduceIte, Nat.reduceAdd, Nat.reduceMul, Nat.reduceSub, Nat.reduceLT, Nat.reduceLeDiff, h3, h3_0, h3_1]
     obtain rfl := someInj hvh3
     exact hK1 _ ⟨rfl, (by first | rfl | (rw [h3]; rfl) | (simp only [h3, Bool.true_and, Bool.false_and, Bool.true_or, Bool.false_or, cond_true, cond_false]; done)), trivial⟩
    ·
     have hvh3 := cF hvh3 h3
     try simp only [go_sem, ↓iop_and, ↓iop_or, ↓iop_xor, ↓iop_andn, Nat.reduceEqDiff, reduceIte, Nat.reduceAdd, Nat.reduceMul, Nat.reduceSub, Nat.reduceLT, Nat.reduceLeDiff, h3]
     obtain rfl := someInj hvh3
     exact hK1 _ ⟨rfl, (by first | rfl | (rw [h3]; rfl) | (simp only [h3, Bool.true_and, Bool.false_and, Bool.true_or, Bool.false_or, cond_true, cond_false]; done)), trivial⟩
   ·
    refine xw_id ?_
    try simp only [go_sem, ↓iop_and, ↓iop_or, ↓iop_xor, ↓iop_andn, Nat.reduceEqDiff, reduceIte, Nat.reduceAdd, Nat.reduceMul, Nat.reduceSub, Nat.reduceLT, Nat.reduceLeDiff]
    refine hKK _ _ (Wk.refl _ _ _) ?_; clear hKK KK
    refine awp_ret1 ?_
    obtain rfl := someInj h0
    refine endW_i ?_
    refine end_ret0 rs6 (rfl) ?_
    try simp only [go_sem, ↓iop_and, ↓iop_or, ↓iop_xor, ↓iop_andn, Nat.reduceEqDiff, reduceIte, Nat.reduceAdd, Nat.reduceMul, Nat.reduceSub, Nat.reduceLT, Nat.reduceLeDiff, fz, nilS, packR, List.take_nil, List.take_length, List.length_map, List.length_append, cond_true, cond_false, Nat.ble_eq, ble_self, List.map_append]
    all_goals rfl

end Go.AX.Z.TD
