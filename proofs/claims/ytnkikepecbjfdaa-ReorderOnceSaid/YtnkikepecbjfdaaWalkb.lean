/- A part of the proof: walks through the functions that the statement reaches. -/
import Derived.Test.YtnkikepecbjfdaaWalka
set_option linter.unusedVariables false
set_option linter.unusedSimpArgs false

/-! (TRW hotspotlaw18 alive) -/

set_option linter.unusedSimpArgs false
set_option linter.unusedVariables false
set_option maxHeartbeats 4000000
set_option maxRecDepth 20000
namespace Go.AX.Z.TR
open Go.AX Go.Proofs
attribute [local irreducible] awp xw xop xcall gsp ob xd xdop xcallD seqQ loopQ blkQ endQ

def hotspotlaw18_alive_S0 (x30 : ((List Frame) × Reorder × Int)) (x28 : (Reorder × Int)) : AS :=
 { objs := (upd (fun _ => .dead) 0 (.live (e_Reorder x30.2.1 (.imm (List.flatMap E_HeldSeq x30.2.1.Held) x30.2.1.Held.length)))), next := 1, tmps := (upd (upd (upd (upd (fun _ => .unk) 1 (.ptr 0 0)) 2 (vi x28.2)) 3 (.imm (List.flatMap E_Frame x30.1) x30.1.length)) 4 (vi x30.2.2)) }

def hotspotlaw18_alive_S1 (x34 : ((List Frame) × Reorder × Int)) (x28 : (Reorder × Int)) (x30 : ((List Frame) × Reorder × Int)) (x32 : ((List Frame) × Reorder × Int)) : AS :=
 { objs := (upd (fun _ => .dead) 0 (.live (e_Reorder x34.2.1 (.imm (List.flatMap E_HeldSeq x34.2.1.Held) x34.2.1.Held.length)))), next := 1, tmps := (upd (upd (upd (upd (upd (upd (upd (upd (upd (fun _ => .unk) 1 (.ptr 0 0)) 2 (vi x28.2)) 3 (.imm (List.flatMap E_Frame x30.1) x30.1.length)) 4 (vi x30.2.2)) 5 (.imm (List.flatMap E_Frame x32.1) x32.1.length)) 6 (vi x32.2.2)) 7 (vi x32.2.1.Start)) 8 (.imm (List.flatMap E_Frame x34.1) x34.1.length)) 9 (vi x34.2.2)) }

def hotspotlaw18_alive_S2 (x38 : ((List Frame) × Reorder × Int)) (x28 : (Reorder × Int)) (x30 : ((List Frame) × Reorder × Int)) (x32 : ((List Frame) × Reorder × Int)) (x34 : ((List Frame) × Reorder × Int)) (x35 : (Int × Bool)) (x36 : ((List Frame) × Reorder × Int)) : AS :=
 { objs := (upd (fun _ => .dead) 0 (.live (e_Reorder x38.2.1 (.imm (List.flatMap E_HeldSeq x38.2.1.Held) x38.2.1.Held.length)))), next := 1, tmps := (upd (upd (upd (upd (upd (upd (upd (upd (upd (upd (upd (upd (upd (upd (upd (upd (fun _ => .unk) 1 (.ptr 0 0)) 2 (vi x28.2)) 3 (.imm (List.flatMap E_Frame x30.1) x30.1.length)) 4 (vi x30.2.2)) 5 (.imm (List.flatMap E_Frame x32.1) x32.1.length)) 6 (vi x32.2.2)) 7 (vi x32.2.1.Start)) 8 (.imm (List.flatMap E_Frame x34.1) x34.1.length)) 9 (vi x34.2.2)) 10 (vi x35.1)) 11 (vb x35.2)) 12 (.imm (List.flatMap E_Frame x36.1) x36.1.length)) 13 (vi x36.2.2)) 14 (vi x36.2.1.Start)) 15 (.imm (List.flatMap E_Frame x38.1) x38.1.length)) 16 (vi x38.2.2)) }

theorem hotspotlaw18_alive_p {r : Bool} (h0 : hotspotlaw18_alive = some r) : SndP K 31 [] (vb r) := by
 refine SndP.of_walkW hC (Clean.v _) clean_nil (show K.P.funcs[31]? = some Try.f31 from Try.func31) rfl rfl (by decide +kernel) (Nat.le_of_ble_eq_true rfl) ?_
 unfold hotspotlaw18_alive at h0
 refine awp_nr [] (fun _ => rfl) fun tz => ?_
 refine awp_regW fun KK hKK => ?_
 refine xw_id ?_
 try simp only [go_sem, Nat.reduceEqDiff, reduceIte, Nat.reduceAdd, Nat.reduceMul, Nat.reduceSub, Nat.reduceLT, Nat.reduceLeDiff]
 refine hKK _ _ (Wk.refl _ _ _) ?_; clear hKK KK
 refine awp_nr [] (fun _ => rfl) fun tz => ?_
 refine awp_regW fun KK hKK => ?_
 refine xw_id ?_
 obtain ⟨x28, bx28, h0⟩ := bnd h0
 try simp only [go_sem, Nat.reduceEqDiff, reduceIte, Nat.reduceAdd, Nat.reduceMul, Nat.reduceSub, Nat.reduceLT, Nat.reduceLeDiff]
 refine xcall_p (reorder_New_p 4094 4 100 bx28) ?_; try dsimp only
 try refine xw_id ?_
 try simp only [go_sem, Nat.reduceEqDiff, reduceIte, Nat.reduceAdd, Nat.reduceMul, Nat.reduceSub, Nat.reduceLT, Nat.reduceLeDiff]
 refine hKK _ _ (Wk.refl _ _ _) ?_; clear hKK KK
 refine awp_nr [1,2] (fun _ => rfl) fun tz => ?_
 refine awp_regDW fun KK hKK all hall => ?_
 refine xd_id ?_
 try simp only [List.toList_toArray, List.map_cons, List.map_nil, List.size_toArray, List.length_cons, List.length_nil, Nat.zero_add]
 try simp only [Nat.reduceAdd]
 obtain ⟨x29, bx29, h0⟩ := bnd h0
 simp only [go_sem, Nat.reduceEqDiff, reduceIte, Nat.reduceMul, Nat.reduceSub, Nat.reduceLT, Nat.reduceLeDiff]
 try simp only [Nat.reduceAdd]
 try simp only [go_sem, Nat.reduceEqDiff, reduceIte, Nat.reduceMul, Nat.reduceSub, Nat.reduceLT, Nat.reduceLeDiff]
 try simp only [Nat.reduceAdd]
 try simp only [go_sem, Nat.reduceEqDiff, reduceIte, Nat.reduceMul, Nat.reduceSub, Nat.reduceLT, Nat.reduceLeDiff]
 refine xcallD_p (hotspotlaw18_frame_p 4095 bx29) ?_; try dsimp only
 try refine xd_id ?_
 obtain ⟨x30, bx30, h0⟩ := bnd h0
 simp only [go_sem, Nat.reduceEqDiff, reduceIte, Nat.reduceMul, Nat.reduceSub, Nat.reduceLT, Nat.reduceLeDiff]
 try simp only [Nat.reduceAdd]
 try simp only [go_sem, Nat.reduceEqDiff, reduceIte, Nat.reduceMul, Nat.reduceSub, Nat.reduceLT, Nat.reduceLeDiff]
 try simp only [Nat.reduceAdd]
 try simp only [go_sem, Nat.reduceEqDiff, reduceIte, Nat.reduceMul, Nat.reduceSub, Nat.reduceLT, Nat.reduceLeDiff]
 refine xcallD_p (reorder_Put_p x28.1 x29 5 bx30) ?_; try dsimp only
 try refine xd_id ?_
 simp only [go_sem, Nat.reduceEqDiff, reduceIte, Nat.reduceMul, Nat.reduceSub, Nat.reduceLT, Nat.reduceLeDiff]
 try simp only [Nat.reduceAdd]
 try simp only [go_sem, Nat.reduceEqDiff, reduceIte, Nat.reduceMul, Nat.reduceSub, Nat.reduceLT, Nat.reduceLeDiff]
 try simp only [Nat.reduceAdd]
 try simp only [go_sem, Nat.reduceEqDiff, reduceIte, Nat.reduceMul, Nat.reduceSub, Nat.reduceLT, Nat.reduceLeDiff]
 refine And.intro ?_ (hKK _ (hotspotlaw18_alive_S0 x30 x28) (Wk.canonD [] [] [some 5] rfl trivial rfl (tmOU 0 tmO0 rfl List.not_mem_nil (by simp only [upd_get, Nat.reduceEqDiff, reduceIte, Nat.reduceAdd, Nat.reduceMul, Nat.reduceSub, Nat.reduceLT, Nat.reduceLeDiff, if_true, if_false] <;> rfl) (e_Reorder_tmx (by rfl) (Tm.clean (Clean.imm (c_HeldSeq _))))) (tmAllU 4 (tmAllU 3 (tmAllU 2 (tmAllU 1 tmAll0 (Tm.ptr rfl)) (Tm.v _)) (Tm.clean (Clean.imm (c_Frame _)))) (Tm.v _))) ?_)
 ·
  subst hall
  clear hKK KK
  first | decide +kernel | (simp [printsOk, apartP, clash, meet]; done) | (simp [printsOk, apartP, clash, meet]; decide +kernel)
 ·
  clear hKK KK hall all
  unfold hotspotlaw18_alive_S0
  refine awp_nr [1,2,3,4] (fun _ => rfl) fun tz => ?_
  refine awp_regDW fun KK hKK all hall => ?_
  refine xd_id ?_
  try simp only [List.toList_toArray, List.map_cons, List.map_nil, List.size_toArray, List.length_cons, List.length_nil, Nat.zero_add]
  try simp only [Nat.reduceAdd]
  obtain ⟨x31, bx31, h0⟩ := bnd h0
  simp only [go_sem, Nat.reduceEqDiff, reduceIte, Nat.reduceMul, Nat.reduceSub, Nat.reduceLT, Nat.reduceLeDiff]
  try simp only [Nat.reduceAdd]
  try simp only [go_sem, Nat.reduceEqDiff, reduceIte, Nat.reduceMul, Nat.reduceSub, Nat.reduceLT, Nat.reduceLeDiff]
  try simp only [Nat.reduceAdd]
  try simp only [go_sem, Nat.reduceEqDiff, reduceIte, Nat.reduceMul, Nat.reduceSub, Nat.reduceLT, Nat.reduceLeDiff]
  refine xcallD_p (hotspotlaw18_frame_p 4094 bx31) ?_; try dsimp only
  try refine xd_id ?_
  obtain ⟨x32, bx32, h0⟩ := bnd h0
  simp only [go_sem, Nat.reduceEqDiff, reduceIte, Nat.reduceMul, Nat.reduceSub, Nat.reduceLT, Nat.reduceLeDiff]
  try simp only [Nat.reduceAdd]
  try simp only [go_sem, Nat.reduceEqDiff, reduceIte, Nat.reduceMul, Nat.reduceSub, Nat.reduceLT, Nat.reduceLeDiff]
  try simp only [Nat.reduceAdd]
  try simp only [go_sem, Nat.reduceEqDiff, reduceIte, Nat.reduceMul, Nat.reduceSub, Nat.reduceLT, Nat.reduceLeDiff]
  refine xcallD_p (reorder_Put_p x30.2.1 x31 6 bx32) ?_; try dsimp only
  try refine xd_id ?_
  simp only [go_sem, Nat.reduceEqDiff, reduceIte, Nat.reduceMul, Nat.reduceSub, Nat.reduceLT, Nat.reduceLeDiff]
  try simp only [Nat.reduceAdd]
  try simp only [go_sem, Nat.reduceEqDiff, reduceIte, Nat.reduceMul, Nat.reduceSub, Nat.reduceLT, Nat.reduceLeDiff]
  try simp only [Nat.reduceAdd]
  try simp only [go_sem, Nat.reduceEqDiff, reduceIte, Nat.reduceMul, Nat.reduceSub, Nat.reduceLT, Nat.reduceLeDiff]
  refine And.intro ?_ (hKK _ _ (Wk.refl _ _ _) ?_)
  ·
   subst hall
   clear hKK KK
   first | decide +kernel | (simp [printsOk, apartP, clash, meet]; done) | (simp [printsOk, apartP, clash, meet]; decide +kernel)
  ·
   clear hKK KK hall all
   refine awp_nr [1,2,3,4,5,6] (fun _ => rfl) fun tz => ?_
   refine awp_regW fun KK hKK => ?_
   refine xw_id ?_
   try simp only [go_sem, Nat.reduceEqDiff, reduceIte, Nat.reduceAdd, Nat.reduceMul, Nat.reduceSub, Nat.reduceLT, Nat.reduceLeDiff]
   refine hKK _ _ (Wk.refl _ _ _) ?_; clear hKK KK
   refine awp_nr [1,2,3,4,5,6,7] (fun _ => rfl) fun tz => ?_
   refine awp_regDW fun KK hKK all hall => ?_
   refine xd_id ?_
   try simp only [List.toList_toArray, List.map_cons, List.map_nil, List.size_toArray, List.length_cons, List.length_nil, Nat.zero_add]
   try simp only [Nat.reduceAdd]
   obtain ⟨x33, bx33, h0⟩ := bnd h0
   simp only [go_sem, Nat.reduceEqDiff, reduceIte, Nat.reduceMul, Nat.reduceSub, Nat.reduceLT, Nat.reduceLeDiff]
   try simp only [Nat.reduceAdd]
   try simp only [go_sem, Nat.reduceEqDiff, reduceIte, Nat.reduceMul, Nat.reduceSub, Nat.reduceLT, Nat.reduceLeDiff]
   try simp only [Nat.reduceAdd]
   try simp only [go_sem, Nat.reduceEqDiff, reduceIte, Nat.reduceMul, Nat.reduceSub, Nat.reduceLT, Nat.reduceLeDiff]
   refine xcallD_p (hotspotlaw18_frame_p 2 bx33) ?_; try dsimp only
   try refine xd_id ?_
   obtain ⟨x34, bx34, h0⟩ := bnd h0
   simp only [go_sem, Nat.reduceEqDiff, reduceIte, Nat.reduceMul, Nat.reduceSub, Nat.reduceLT, Nat.reduceLeDiff]
   try simp only [Nat.reduceAdd]
   try simp only [go_sem, Nat.reduceEqDiff, reduceIte, Nat.reduceMul, Nat.reduceSub, Nat.reduceLT, Nat.reduceLeDiff]
   try simp only [Nat.reduceAdd]
   try simp only [go_sem, Nat.reduceEqDiff, reduceIte, Nat.reduceMul, Nat.reduceSub, Nat.reduceLT, Nat.reduceLeDiff]
   refine xcallD_p (reorder_Put_p x32.2.1 x33 7 bx34) ?_; try dsimp only
   try refine xd_id ?_
   simp only [go_sem, Nat.reduceEqDiff, reduceIte, Nat.reduceMul, Nat.reduceSub, Nat.reduceLT, Nat.reduceLeDiff]
   try simp only [Nat.reduceAdd]
   try simp only [go_sem, Nat.reduceEqDiff, reduceIte, Nat.reduceMul, Nat.reduceSub, Nat.reduceLT, Nat.reduceLeDiff]
   try simp only [Nat.reduceAdd]
   try simp only [go_sem, Nat.reduceEqDiff, reduceIte, Nat.reduceMul, Nat.reduceSub, Nat.reduceLT, Nat.reduceLeDiff]
   refine And.intro ?_ (hKK _ (hotspotlaw18_alive_S1 x34 x28 x30 x32) (Wk.canonD [] [] [some 0] rfl trivial rfl (tmOU 0 tmO0 rfl List.not_mem_nil (by simp only [upd_get, Nat.reduceEqDiff, reduceIte, Nat.reduceAdd, Nat.reduceMul, Nat.reduceSub, Nat.reduceLT, Nat.reduceLeDiff, if_true, if_false] <;> rfl) (e_Reorder_tmx (by rfl) (Tm.clean (Clean.imm (c_HeldSeq _))))) (tmAllU 9 (tmAllU 8 (tmAllU 7 (tmAllU 6 (tmAllU 5 (tmAllU 4 (tmAllU 3 (tmAllU 2 (tmAllU 1 tmAll0 (Tm.ptr rfl)) (Tm.v _)) (Tm.clean (Clean.imm (c_Frame _)))) (Tm.v _)) (Tm.clean (Clean.imm (c_Frame _)))) (Tm.v _)) (Tm.v _)) (Tm.clean (Clean.imm (c_Frame _)))) (Tm.v _))) ?_)
   ·
    subst hall
    clear hKK KK
    first | decide +kernel | (simp [printsOk, apartP, clash, meet]; done) | (simp [printsOk, apartP, clash, meet]; decide +kernel)
   ·
    clear hKK KK hall all
    unfold hotspotlaw18_alive_S1
    refine awp_nr [1,2,3,4,5,6,7,8,9] (fun _ => rfl) fun tz => ?_
    refine awp_regW fun KK hKK => ?_
    refine xw_id ?_
    obtain ⟨x35, bx35, h0⟩ := bnd h0
    try simp only [go_sem, Nat.reduceEqDiff, reduceIte, Nat.reduceAdd, Nat.reduceMul, Nat.reduceSub, Nat.reduceLT, Nat.reduceLeDiff]
    refine xcall_p (reorder_Due_p x34.2.1 bx35) ?_; try dsimp only
    try refine xw_id ?_
    try simp only [go_sem, Nat.reduceEqDiff, reduceIte, Nat.reduceAdd, Nat.reduceMul, Nat.reduceSub, Nat.reduceLT, Nat.reduceLeDiff]
    refine hKK _ _ (Wk.refl _ _ _) ?_; clear hKK KK
    refine awp_nr [1,2,3,4,5,6,7,8,9,10,11] (fun _ => rfl) fun tz => ?_
    refine awp_regW fun KK hKK => ?_
    refine xw_id ?_
    obtain ⟨x36, bx36, h0⟩ := bnd h0
    try simp only [go_sem, Nat.reduceEqDiff, reduceIte, Nat.reduceAdd, Nat.reduceMul, Nat.reduceSub, Nat.reduceLT, Nat.reduceLeDiff]
    refine xcall_p (reorder_Expire_p x34.2.1 107 bx36) ?_; try dsimp only
    try refine xw_id ?_
    try simp only [go_sem, Nat.reduceEqDiff, reduceIte, Nat.reduceAdd, Nat.reduceMul, Nat.reduceSub, Nat.reduceLT, Nat.reduceLeDiff]
    refine hKK _ _ (Wk.refl _ _ _) ?_; clear hKK KK
    refine awp_nr [1,2,3,4,5,6,7,8,9,10,11,12,13] (fun _ => rfl) fun tz => ?_
    refine awp_regW fun KK hKK => ?_
    refine xw_id ?_
    try simp only [go_sem, Nat.reduceEqDiff, reduceIte, Nat.reduceAdd, Nat.reduceMul, Nat.reduceSub, Nat.reduceLT, Nat.reduceLeDiff]
    refine hKK _ _ (Wk.refl _ _ _) ?_; clear hKK KK
    refine awp_nr [1,2,3,4,5,6,7,8,9,10,11,12,13,14] (fun _ => rfl) fun tz => ?_
    refine awp_regDW fun KK hKK all hall => ?_
    refine xd_id ?_
    try simp only [List.toList_toArray, List.map_cons, List.map_nil, List.size_toArray, List.length_cons, List.length_nil, Nat.zero_add]
    try simp only [Nat.reduceAdd]
    obtain ⟨x37, bx37, h0⟩ := bnd h0
    simp only [go_sem, Nat.reduceEqDiff, reduceIte, Nat.reduceMul, Nat.reduceSub, Nat.reduceLT, Nat.reduceLeDiff]
    try simp only [Nat.reduceAdd]
    try simp only [go_sem, Nat.reduceEqDiff, reduceIte, Nat.reduceMul, Nat.reduceSub, Nat.reduceLT, Nat.reduceLeDiff]
    try simp only [Nat.reduceAdd]
    try simp only [go_sem, Nat.reduceEqDiff, reduceIte, Nat.reduceMul, Nat.reduceSub, Nat.reduceLT, Nat.reduceLeDiff]
    refine xcallD_p (hotspotlaw18_frame_p 10 bx37) ?_; try dsimp only
    try refine xd_id ?_
    obtain ⟨x38, bx38, h0⟩ := bnd h0
    simp only [go_sem, Nat.reduceEqDiff, reduceIte, Nat.reduceMul, Nat.reduceSub, Nat.reduceLT, Nat.reduceLeDiff]
    try simp only [Nat.reduceAdd]
    try simp only [go_sem, Nat.reduceEqDiff, reduceIte, Nat.reduceMul, Nat.reduceSub, Nat.reduceLT, Nat.reduceLeDiff]
    try simp only [Nat.reduceAdd]
    try simp only [go_sem, Nat.reduceEqDiff, reduceIte, Nat.reduceMul, Nat.reduceSub, Nat.reduceLT, Nat.reduceLeDiff]
    refine xcallD_p (reorder_Put_p x36.2.1 x37 200 bx38) ?_; try dsimp only
    try refine xd_id ?_
    simp only [go_sem, Nat.reduceEqDiff, reduceIte, Nat.reduceMul, Nat.reduceSub, Nat.reduceLT, Nat.reduceLeDiff]
    try simp only [Nat.reduceAdd]
    try simp only [go_sem, Nat.reduceEqDiff, reduceIte, Nat.reduceMul, Nat.reduceSub, Nat.reduceLT, Nat.reduceLeDiff]
    try simp only [Nat.reduceAdd]
    try simp only [go_sem, Nat.reduceEqDiff, reduceIte, Nat.reduceMul, Nat.reduceSub, Nat.reduceLT, Nat.reduceLeDiff]
    refine And.intro ?_ (hKK _ (hotspotlaw18_alive_S2 x38 x28 x30 x32 x34 x35 x36) (Wk.canonD [] [] [some 0] rfl trivial rfl (tmOU 0 tmO0 rfl List.not_mem_nil (by simp only [upd_get, Nat.reduceEqDiff, reduceIte, Nat.reduceAdd, Nat.reduceMul, Nat.reduceSub, Nat.reduceLT, Nat.reduceLeDiff, if_true, if_false] <;> rfl) (e_Reorder_tmx (by rfl) (Tm.clean (Clean.imm (c_HeldSeq _))))) (tmAllU 16 (tmAllU 15 (tmAllU 14 (tmAllU 13 (tmAllU 12 (tmAllU 11 (tmAllU 10 (tmAllU 9 (tmAllU 8 (tmAllU 7 (tmAllU 6 (tmAllU 5 (tmAllU 4 (tmAllU 3 (tmAllU 2 (tmAllU 1 tmAll0 (Tm.ptr rfl)) (Tm.v _)) (Tm.clean (Clean.imm (c_Frame _)))) (Tm.v _)) (Tm.clean (Clean.imm (c_Frame _)))) (Tm.v _)) (Tm.v _)) (Tm.clean (Clean.imm (c_Frame _)))) (Tm.v _)) (Tm.v _)) (Tm.v _)) (Tm.clean (Clean.imm (c_Frame _)))) (Tm.v _)) (Tm.v _)) (Tm.clean (Clean.imm (c_Frame _)))) (Tm.v _))) ?_)
    ·
     subst hall
     clear hKK KK
     first | decide +kernel | (simp [printsOk, apartP, clash, meet]; done) | (simp [printsOk, apartP, clash, meet]; decide +kernel)
    ·
     clear hKK KK hall all
     unfold hotspotlaw18_alive_S2
     refine awp_nr [1,2,3,4,5,6,7,8,9,10,11,12,13,14,15,16] (fun _ => rfl) fun tz => ?_
     refine awp_regW fun KK hKK => ?_
     refine xw_id ?_
     try simp only [List.append_eq, Array.toList_append, List.append_toArray, List.toList_toArray, List.cons_append, List.nil_append]
     refine xw_stop 3 (by (try simp only [go_sem]); rfl) (by (try simp only [go_sem]); rfl) (by rfl) fun K1 hK1 => ?_
     refine xw_id ?_
     try simp only [go_sem, Nat.reduceEqDiff, reduceIte, Nat.reduceAdd, Nat.reduceMul, Nat.reduceSub, Nat.reduceLT, Nat.reduceLeDiff]
     refine hK1 _ ?_; clear hK1 K1
     refine xw_cut 3 [(1, (.ptr 0 0)), (3, (.imm (List.flatMap E_Frame x30.1) x30.1.length)), (5, (.imm (List.flatMap E_Frame x32.1) x32.1.length)), (6, (vi x32.2.2)), (7, (vi x32.2.1.Start)), (8, (.imm (List.flatMap E_Frame x34.1) x34.1.length)), (9, (vi x34.2.2)), (10, (vi x35.1)), (11, (vb x35.2)), (12, (.imm (List.flatMap E_Frame x36.1) x36.1.length)), (13, (vi x36.2.2)), (14, (vi x36.2.1.Start)), (15, (.imm (List.flatMap E_Frame x38.1) x38.1.length)), (16, (vi x38.2.2)), (69, (vb ((x28.2 == 0) && (x30.2.2 == 0))))] (by (try simp only [go_sem]); rfl) (by (try simp only [go_sem]); rfl) (by rfl) (fun K1 hK1 => ?_) fun tz => ?_
     ·
      refine xw_id ?_
      rcases Bool.eq_false_or_eq_true (x28.2 == 0) with h1 | h1
      ·
       try simp only [go_sem, Nat.reduceEqDiff, reduceIte, Nat.reduceAdd, Nat.reduceMul, Nat.reduceSub, Nat.reduceLT, Nat.reduceLeDiff, h1]
       exact hK1 _ ⟨rfl, rfl, rfl, rfl, rfl, rfl, rfl, rfl, rfl, rfl, rfl, rfl, rfl, rfl, rfl, (by first | rfl | (rw [h1]; rfl) | (simp only [h1, Bool.true_and, Bool.false_and, Bool.true_or, Bool.false_or, cond_true, cond_false]; done)), trivial⟩
      ·
       try simp only [go_sem, Nat.reduceEqDiff, reduceIte, Nat.reduceAdd, Nat.reduceMul, Nat.reduceSub, Nat.reduceLT, Nat.reduceLeDiff, h1]
       exact hK1 _ ⟨rfl, rfl, rfl, rfl, rfl, rfl, rfl, rfl, rfl, rfl, rfl, rfl, rfl, rfl, rfl, (by first | rfl | (rw [h1]; rfl) | (simp only [h1, Bool.true_and, Bool.false_and, Bool.true_or, Bool.false_or, cond_true, cond_false]; done)), trivial⟩
     ·
      refine xw_id ?_
      refine xw_stop 1 (by (try simp only [go_sem]); rfl) (by (try simp only [go_sem]); rfl) (by rfl) fun K1 hK1 => ?_
      refine xw_id ?_
      try simp only [go_sem, Nat.reduceEqDiff, reduceIte, Nat.reduceAdd, Nat.reduceMul, Nat.reduceSub, Nat.reduceLT, Nat.reduceLeDiff]
      refine hK1 _ ?_; clear hK1 K1
      obtain ⟨x40, hvh2, h0⟩ := bnd h0
      refine xw_cut 3 [(1, (.ptr 0 0)), (5, (.imm (List.flatMap E_Frame x32.1) x32.1.length)), (6, (vi x32.2.2)), (7, (vi x32.2.1.Start)), (8, (.imm (List.flatMap E_Frame x34.1) x34.1.length)), (9, (vi x34.2.2)), (10, (vi x35.1)), (11, (vb x35.2)), (12, (.imm (List.flatMap E_Frame x36.1) x36.1.length)), (13, (vi x36.2.2)), (14, (vi x36.2.1.Start)), (15, (.imm (List.flatMap E_Frame x38.1) x38.1.length)), (16, (vi x38.2.2)), (73, (vb x40))] (by (try simp only [go_sem]); rfl) (by (try simp only [go_sem]); rfl) (by rfl) (fun K1 hK1 => ?_) fun tz => ?_
      ·
       refine xw_id ?_
       rcases Bool.eq_false_or_eq_true ((x28.2 == 0) && (x30.2.2 == 0)) with h2 | h2
       ·
        have hvh2 := cT hvh2 h2
        have h2_0 : (x28.2 == 0) = true := by simp only [Bool.and_eq_true] at h2; exact h2.1
        have h2_1 : (x30.2.2 == 0) = true := by simp only [Bool.and_eq_true] at h2; exact h2.2
        obtain ⟨x39, bx39, hvh2⟩ := bnd hvh2
        try simp only [go_sem, Nat.reduceEqDiff, reduceIte, Nat.reduceAdd, Nat.reduceMul, Nat.reduceSub, Nat.reduceLT, Nat.reduceLeDiff, h2, h2_0, h2_1]
        refine xcall_N (by first | (simp only [go_sem, fz, nilS, cond_true, cond_false, Nat.reduceEqDiff, reduceIte, Nat.reduceAdd, Nat.reduceMul, Nat.reduceSub, Nat.reduceLT, Nat.reduceLeDiff]; done) | (simp only [go_sem, fz, nilS, cond_true, cond_false, Nat.reduceEqDiff, reduceIte, Nat.reduceAdd, Nat.reduceMul, Nat.reduceSub, Nat.reduceLT, Nat.reduceLeDiff]; rfl)) (hotspotlaw18_numbers_p x30.1 [] bx39) ?_; try dsimp only
        try refine xw_id ?_
        try simp only [go_sem, Nat.reduceEqDiff, reduceIte, Nat.reduceAdd, Nat.reduceMul, Nat.reduceSub, Nat.reduceLT, Nat.reduceLeDiff, h2, h2_0, h2_1]
        obtain rfl := someInj hvh2
        exact hK1 _ ⟨rfl, (by first | rfl | (rw [h2_0]; rfl) | (rw [h2_1]; rfl)), (by first | rfl | (rw [h2_0]; rfl) | (rw [h2_1]; rfl)), (by first | rfl | (rw [h2_0]; rfl) | (rw [h2_1]; rfl)), (by first | rfl | (rw [h2_0]; rfl) | (rw [h2_1]; rfl)), (by first | rfl | (rw [h2_0]; rfl) | (rw [h2_1]; rfl)), (by first | rfl | (rw [h2_0]; rfl) | (rw [h2_1]; rfl)), (by first | rfl | (rw [h2_0]; rfl) | (rw [h2_1]; rfl)), (by first | rfl | (rw [h2_0]; rfl) | (rw [h2_1]; rfl)), (by first | rfl | (rw [h2_0]; rfl) | (rw [h2_1]; rfl)), (by first | rfl | (rw [h2_0]; rfl) | (rw [h2_1]; rfl)), (by first | rfl | (rw [h2_0]; rfl) | (rw [h2_1]; rfl)), (by first | rfl | (rw [h2_0]; rfl) | (rw [h2_1]; rfl)), (by first | rfl | (rw [h2_0]; rfl) | (rw [h2_1]; rfl)), (by first | rfl | (rw [h2]; rfl) | (simp only [h2, Bool.true_and, Bool.false_and, Bool.true_or, Bool.false_or, cond_true, cond_false]; done)), trivial⟩
       ·
        have hvh2 := cF hvh2 h2
        try simp only [go_sem, Nat.reduceEqDiff, reduceIte, Nat.reduceAdd, Nat.reduceMul, Nat.reduceSub, Nat.reduceLT, Nat.reduceLeDiff, h2]
        obtain rfl := someInj hvh2
        exact hK1 _ ⟨rfl, rfl, rfl, rfl, rfl, rfl, rfl, rfl, rfl, rfl, rfl, rfl, rfl, rfl, (by first | rfl | (rw [h2]; rfl) | (simp only [h2, Bool.true_and, Bool.false_and, Bool.true_or, Bool.false_or, cond_true, cond_false]; done)), trivial⟩
      ·
       refine xw_id ?_
       refine xw_stop 1 (by (try simp only [go_sem]); rfl) (by (try simp only [go_sem]); rfl) (by rfl) fun K1 hK1 => ?_
       refine xw_id ?_
       try simp only [go_sem, Nat.reduceEqDiff, reduceIte, Nat.reduceAdd, Nat.reduceMul, Nat.reduceSub, Nat.reduceLT, Nat.reduceLeDiff]
       refine hK1 _ ?_; clear hK1 K1
       refine xw_cut 3 [(1, (.ptr 0 0)), (5, (.imm (List.flatMap E_Frame x32.1) x32.1.length)), (7, (vi x32.2.1.Start)), (8, (.imm (List.flatMap E_Frame x34.1) x34.1.length)), (9, (vi x34.2.2)), (10, (vi x35.1)), (11, (vb x35.2)), (12, (.imm (List.flatMap E_Frame x36.1) x36.1.length)), (13, (vi x36.2.2)), (14, (vi x36.2.1.Start)), (15, (.imm (List.flatMap E_Frame x38.1) x38.1.length)), (16, (vi x38.2.2)), (77, (vb (x40 && (x32.2.2 == 0))))] (by (try simp only [go_sem]); rfl) (by (try simp only [go_sem]); rfl) (by rfl) (fun K1 hK1 => ?_) fun tz => ?_
       ·
        refine xw_id ?_
        rcases Bool.eq_false_or_eq_true x40 with h3 | h3
        ·
         try simp only [go_sem, Nat.reduceEqDiff, reduceIte, Nat.reduceAdd, Nat.reduceMul, Nat.reduceSub, Nat.reduceLT, Nat.reduceLeDiff, h3]
         exact hK1 _ ⟨rfl, rfl, rfl, rfl, rfl, rfl, rfl, rfl, rfl, rfl, rfl, rfl, rfl, (by first | rfl | (rw [h3]; rfl) | (simp only [h3, Bool.true_and, Bool.false_and, Bool.true_or, Bool.false_or, cond_true, cond_false]; done)), trivial⟩
        ·
         try simp only [go_sem, Nat.reduceEqDiff, reduceIte, Nat.reduceAdd, Nat.reduceMul, Nat.reduceSub, Nat.reduceLT, Nat.reduceLeDiff, h3]
         exact hK1 _ ⟨rfl, rfl, rfl, rfl, rfl, rfl, rfl, rfl, rfl, rfl, rfl, rfl, rfl, (by first | rfl | (rw [h3]; rfl) | (simp only [h3, Bool.true_and, Bool.false_and, Bool.true_or, Bool.false_or, cond_true, cond_false]; done)), trivial⟩
       ·
        refine xw_id ?_
        rcases Bool.eq_false_or_eq_true (x40 && (x32.2.2 == 0)) with h4 | h4
        ·
         have h0 := cT h0 h4
         obtain ⟨x41, bx41, h0⟩ := bnd h0
         try simp only [go_sem, Nat.reduceEqDiff, reduceIte, Nat.reduceAdd, Nat.reduceMul, Nat.reduceSub, Nat.reduceLT, Nat.reduceLeDiff, h4]
         refine xcall_L (by first | (simp only [go_sem, fz, Nat.reduceEqDiff, reduceIte, Nat.reduceAdd, Nat.reduceMul, Nat.reduceSub, Nat.reduceLT, Nat.reduceLeDiff, h4]; done) | (simp only [go_sem, fz, Nat.reduceEqDiff, reduceIte, Nat.reduceAdd, Nat.reduceMul, Nat.reduceSub, Nat.reduceLT, Nat.reduceLeDiff, h4]; rfl) | (simp only [go_sem, fz, List.length_set, ble_self, take_set, cond_true, cond_false, Nat.reduceEqDiff, reduceIte, Nat.reduceAdd, Nat.reduceMul, Nat.reduceSub, Nat.reduceLT, Nat.reduceLeDiff, h4]; done) | (simp only [go_sem, fz, List.length_set, ble_self, take_set, cond_true, cond_false, Nat.reduceEqDiff, reduceIte, Nat.reduceAdd, Nat.reduceMul, Nat.reduceSub, Nat.reduceLT, Nat.reduceLeDiff, h4]; rfl)) (hotspotlaw18_numbers_p x32.1 [4094, 4095] bx41) (Bare.v _) ?_; try dsimp only
         try refine xw_id ?_
         refine xw_stop 2 (by (try simp only [go_sem]); rfl) (by (try simp only [go_sem]); rfl) (by rfl) fun K1 hK1 => ?_
         refine xw_id ?_
         try simp only [go_sem, Nat.reduceEqDiff, reduceIte, Nat.reduceAdd, Nat.reduceMul, Nat.reduceSub, Nat.reduceLT, Nat.reduceLeDiff, h4]
         refine hK1 _ ?_; clear hK1 K1
         refine xw_cut 3 [(1, (.ptr 0 0)), (8, (.imm (List.flatMap E_Frame x34.1) x34.1.length)), (9, (vi x34.2.2)), (10, (vi x35.1)), (11, (vb x35.2)), (12, (.imm (List.flatMap E_Frame x36.1) x36.1.length)), (13, (vi x36.2.2)), (14, (vi x36.2.1.Start)), (15, (.imm (List.flatMap E_Frame x38.1) x38.1.length)), (16, (vi x38.2.2)), (86, (vb (x41 && (x32.2.1.Start == 0))))] (by (try simp only [go_sem]); rfl) (by (try simp only [go_sem]); rfl) (by rfl) (fun K1 hK1 => ?_) fun tz => ?_
         ·
          refine xw_id ?_
          rcases Bool.eq_false_or_eq_true x41 with h5 | h5
          ·
           try simp only [go_sem, Nat.reduceEqDiff, reduceIte, Nat.reduceAdd, Nat.reduceMul, Nat.reduceSub, Nat.reduceLT, Nat.reduceLeDiff, h4, h5]
           exact hK1 _ ⟨rfl, rfl, rfl, rfl, rfl, rfl, rfl, rfl, rfl, rfl, rfl, (by first | rfl | (rw [h5]; rfl) | (simp only [h5, Bool.true_and, Bool.false_and, Bool.true_or, Bool.false_or, cond_true, cond_false]; done)), trivial⟩
          ·
           try simp only [go_sem, Nat.reduceEqDiff, reduceIte, Nat.reduceAdd, Nat.reduceMul, Nat.reduceSub, Nat.reduceLT, Nat.reduceLeDiff, h4, h5]
           exact hK1 _ ⟨rfl, rfl, rfl, rfl, rfl, rfl, rfl, rfl, rfl, rfl, rfl, (by first | rfl | (rw [h5]; rfl) | (simp only [h5, Bool.true_and, Bool.false_and, Bool.true_or, Bool.false_or, cond_true, cond_false]; done)), trivial⟩
         ·
          refine xw_id ?_
          refine xw_stop 1 (by (try simp only [go_sem]); rfl) (by (try simp only [go_sem]); rfl) (by rfl) fun K1 hK1 => ?_
          refine xw_id ?_
          try simp only [go_sem, Nat.reduceEqDiff, reduceIte, Nat.reduceAdd, Nat.reduceMul, Nat.reduceSub, Nat.reduceLT, Nat.reduceLeDiff, h4]
          refine hK1 _ ?_; clear hK1 K1
          refine xw_cut 3 [(1, (.ptr 0 0)), (8, (.imm (List.flatMap E_Frame x34.1) x34.1.length)), (10, (vi x35.1)), (11, (vb x35.2)), (12, (.imm (List.flatMap E_Frame x36.1) x36.1.length)), (13, (vi x36.2.2)), (14, (vi x36.2.1.Start)), (15, (.imm (List.flatMap E_Frame x38.1) x38.1.length)), (16, (vi x38.2.2)), (90, (vb ((x41 && (x32.2.1.Start == 0)) && (x34.2.2 == 0))))] (by (try simp only [go_sem]); rfl) (by (try simp only [go_sem]); rfl) (by rfl) (fun K1 hK1 => ?_) fun tz => ?_
          ·
           refine xw_id ?_
           rcases Bool.eq_false_or_eq_true (x41 && (x32.2.1.Start == 0)) with h6 | h6
           ·
            have h6_0 : (x41) = true := by simp only [Bool.and_eq_true] at h6; exact h6.1
            have h6_1 : (x32.2.1.Start == 0) = true := by simp only [Bool.and_eq_true] at h6; exact h6.2
            try simp only [go_sem, Nat.reduceEqDiff, reduceIte, Nat.reduceAdd, Nat.reduceMul, Nat.reduceSub, Nat.reduceLT, Nat.reduceLeDiff, h4, h6, h6_0, h6_1]
            exact hK1 _ ⟨rfl, (by first | rfl | (rw [h6_0]; rfl) | (rw [h6_1]; rfl)), (by first | rfl | (rw [h6_0]; rfl) | (rw [h6_1]; rfl)), (by first | rfl | (rw [h6_0]; rfl) | (rw [h6_1]; rfl)), (by first | rfl | (rw [h6_0]; rfl) | (rw [h6_1]; rfl)), (by first | rfl | (rw [h6_0]; rfl) | (rw [h6_1]; rfl)), (by first | rfl | (rw [h6_0]; rfl) | (rw [h6_1]; rfl)), (by first | rfl | (rw [h6_0]; rfl) | (rw [h6_1]; rfl)), (by first | rfl | (rw [h6_0]; rfl) | (rw [h6_1]; rfl)), (by first | rfl | (rw [h6_0]; rfl) | (rw [h6_1]; rfl)), (by first | rfl | (rw [h6]; rfl) | (simp only [h6, Bool.true_and, Bool.false_and, Bool.true_or, Bool.false_or, cond_true, cond_false]; done)), trivial⟩
           ·
            try simp only [go_sem, Nat.reduceEqDiff, reduceIte, Nat.reduceAdd, Nat.reduceMul, Nat.reduceSub, Nat.reduceLT, Nat.reduceLeDiff, h4, h6]
            exact hK1 _ ⟨rfl, rfl, rfl, rfl, rfl, rfl, rfl, rfl, rfl, rfl, (by first | rfl | (rw [h6]; rfl) | (simp only [h6, Bool.true_and, Bool.false_and, Bool.true_or, Bool.false_or, cond_true, cond_false]; done)), trivial⟩
          ·
           refine xw_id ?_
           refine xw_stop 1 (by (try simp only [go_sem]); rfl) (by (try simp only [go_sem]); rfl) (by rfl) fun K1 hK1 => ?_
           refine xw_id ?_
           try simp only [go_sem, Nat.reduceEqDiff, reduceIte, Nat.reduceAdd, Nat.reduceMul, Nat.reduceSub, Nat.reduceLT, Nat.reduceLeDiff, h4]
           refine hK1 _ ?_; clear hK1 K1
           obtain ⟨x43, hvh7, h0⟩ := bnd h0
           refine xw_cut 3 [(1, (.ptr 0 0)), (10, (vi x35.1)), (11, (vb x35.2)), (12, (.imm (List.flatMap E_Frame x36.1) x36.1.length)), (13, (vi x36.2.2)), (14, (vi x36.2.1.Start)), (15, (.imm (List.flatMap E_Frame x38.1) x38.1.length)), (16, (vi x38.2.2)), (94, (vb x43))] (by (try simp only [go_sem]); rfl) (by (try simp only [go_sem]); rfl) (by rfl) (fun K1 hK1 => ?_) fun tz => ?_
           ·
            refine xw_id ?_
            rcases Bool.eq_false_or_eq_true ((x41 && (x32.2.1.Start == 0)) && (x34.2.2 == 0)) with h7 | h7
            ·
             have hvh7 := cT hvh7 h7
             have h7_0 : (x41) = true := by simp only [Bool.and_eq_true] at h7; exact h7.1.1
             have h7_1 : (x32.2.1.Start == 0) = true := by simp only [Bool.and_eq_true] at h7; exact h7.1.2
             have h7_2 : (x34.2.2 == 0) = true := by simp only [Bool.and_eq_true] at h7; exact h7.2
             obtain ⟨x42, bx42, hvh7⟩ := bnd hvh7
             try simp only [go_sem, Nat.reduceEqDiff, reduceIte, Nat.reduceAdd, Nat.reduceMul, Nat.reduceSub, Nat.reduceLT, Nat.reduceLeDiff, h4, h7, h7_0, h7_1, h7_2]
             refine xcall_N (by first | (simp only [go_sem, fz, nilS, cond_true, cond_false, Nat.reduceEqDiff, reduceIte, Nat.reduceAdd, Nat.reduceMul, Nat.reduceSub, Nat.reduceLT, Nat.reduceLeDiff]; done) | (simp only [go_sem, fz, nilS, cond_true, cond_false, Nat.reduceEqDiff, reduceIte, Nat.reduceAdd, Nat.reduceMul, Nat.reduceSub, Nat.reduceLT, Nat.reduceLeDiff]; rfl)) (hotspotlaw18_numbers_p x34.1 [] bx42) ?_; try dsimp only
             try refine xw_id ?_
             try simp only [go_sem, Nat.reduceEqDiff, reduceIte, Nat.reduceAdd, Nat.reduceMul, Nat.reduceSub, Nat.reduceLT, Nat.reduceLeDiff, h4, h7, h7_0, h7_1, h7_2]
             obtain rfl := someInj hvh7
             exact hK1 _ ⟨rfl, (by first | rfl | (rw [h7_0]; rfl) | (rw [h7_1]; rfl) | (rw [h7_2]; rfl)), (by first | rfl | (rw [h7_0]; rfl) | (rw [h7_1]; rfl) | (rw [h7_2]; rfl)), (by first | rfl | (rw [h7_0]; rfl) | (rw [h7_1]; rfl) | (rw [h7_2]; rfl)), (by first | rfl | (rw [h7_0]; rfl) | (rw [h7_1]; rfl) | (rw [h7_2]; rfl)), (by first | rfl | (rw [h7_0]; rfl) | (rw [h7_1]; rfl) | (rw [h7_2]; rfl)), (by first | rfl | (rw [h7_0]; rfl) | (rw [h7_1]; rfl) | (rw [h7_2]; rfl)), (by first | rfl | (rw [h7_0]; rfl) | (rw [h7_1]; rfl) | (rw [h7_2]; rfl)), (by first | rfl | (rw [h7_0]; rfl) | (rw [h7_1]; rfl) | (rw [h7_2]; rfl)), (by first | rfl | (rw [h7]; rfl) | (simp only [h7, Bool.true_and, Bool.false_and, Bool.true_or, Bool.false_or, cond_true, cond_false]; done)), trivial⟩
            ·
             have hvh7 := cF hvh7 h7
             try simp only [go_sem, Nat.reduceEqDiff, reduceIte, Nat.reduceAdd, Nat.reduceMul, Nat.reduceSub, Nat.reduceLT, Nat.reduceLeDiff, h4, h7]
             obtain rfl := someInj hvh7
             exact hK1 _ ⟨rfl, rfl, rfl, rfl, rfl, rfl, rfl, rfl, rfl, (by first | rfl | (rw [h7]; rfl) | (simp only [h7, Bool.true_and, Bool.false_and, Bool.true_or, Bool.false_or, cond_true, cond_false]; done)), trivial⟩
           ·
            refine xw_id ?_
            refine xw_stop 1 (by (try simp only [go_sem]); rfl) (by (try simp only [go_sem]); rfl) (by rfl) fun K1 hK1 => ?_
            refine xw_id ?_
            try simp only [go_sem, Nat.reduceEqDiff, reduceIte, Nat.reduceAdd, Nat.reduceMul, Nat.reduceSub, Nat.reduceLT, Nat.reduceLeDiff, h4]
            refine hK1 _ ?_; clear hK1 K1
            refine xw_cut 3 [(1, (.ptr 0 0)), (11, (vb x35.2)), (12, (.imm (List.flatMap E_Frame x36.1) x36.1.length)), (13, (vi x36.2.2)), (14, (vi x36.2.1.Start)), (15, (.imm (List.flatMap E_Frame x38.1) x38.1.length)), (16, (vi x38.2.2)), (98, (vb (x43 && (x35.1 == 107))))] (by (try simp only [go_sem]); rfl) (by (try simp only [go_sem]); rfl) (by rfl) (fun K1 hK1 => ?_) fun tz => ?_
            ·
             refine xw_id ?_
             rcases Bool.eq_false_or_eq_true x43 with h8 | h8
             ·
              try simp only [go_sem, Nat.reduceEqDiff, reduceIte, Nat.reduceAdd, Nat.reduceMul, Nat.reduceSub, Nat.reduceLT, Nat.reduceLeDiff, h4, h8]
              exact hK1 _ ⟨rfl, rfl, rfl, rfl, rfl, rfl, rfl, rfl, (by first | rfl | (rw [h8]; rfl) | (simp only [h8, Bool.true_and, Bool.false_and, Bool.true_or, Bool.false_or, cond_true, cond_false]; done)), trivial⟩
             ·
              try simp only [go_sem, Nat.reduceEqDiff, reduceIte, Nat.reduceAdd, Nat.reduceMul, Nat.reduceSub, Nat.reduceLT, Nat.reduceLeDiff, h4, h8]
              exact hK1 _ ⟨rfl, rfl, rfl, rfl, rfl, rfl, rfl, rfl, (by first | rfl | (rw [h8]; rfl) | (simp only [h8, Bool.true_and, Bool.false_and, Bool.true_or, Bool.false_or, cond_true, cond_false]; done)), trivial⟩
            ·
             refine xw_id ?_
             refine xw_stop 1 (by (try simp only [go_sem]); rfl) (by (try simp only [go_sem]); rfl) (by rfl) fun K1 hK1 => ?_
             refine xw_id ?_
             try simp only [go_sem, Nat.reduceEqDiff, reduceIte, Nat.reduceAdd, Nat.reduceMul, Nat.reduceSub, Nat.reduceLT, Nat.reduceLeDiff, h4]
             refine hK1 _ ?_; clear hK1 K1
             refine xw_cut 2 [(1, (.ptr 0 0)), (12, (.imm (List.flatMap E_Frame x36.1) x36.1.length)), (13, (vi x36.2.2)), (14, (vi x36.2.1.Start)), (15, (.imm (List.flatMap E_Frame x38.1) x38.1.length)), (16, (vi x38.2.2)), (101, (vb ((x43 && (x35.1 == 107)) && x35.2)))] (by (try simp only [go_sem]); rfl) (by (try simp only [go_sem]); rfl) (by rfl) (fun K1 hK1 => ?_) fun tz => ?_
             ·
              refine xw_id ?_
              rcases Bool.eq_false_or_eq_true (x43 && (x35.1 == 107)) with h9 | h9
              ·
               have h9_0 : (x43) = true := by simp only [Bool.and_eq_true] at h9; exact h9.1
               have h9_1 : (x35.1 == 107) = true := by simp only [Bool.and_eq_true] at h9; exact h9.2
               try simp only [go_sem, Nat.reduceEqDiff, reduceIte, Nat.reduceAdd, Nat.reduceMul, Nat.reduceSub, Nat.reduceLT, Nat.reduceLeDiff, h4, h9, h9_0, h9_1]
               exact hK1 _ ⟨rfl, (by first | rfl | (rw [h9_0]; rfl) | (rw [h9_1]; rfl)), (by first | rfl | (rw [h9_0]; rfl) | (rw [h9_1]; rfl)), (by first | rfl | (rw [h9_0]; rfl) | (rw [h9_1]; rfl)), (by first | rfl | (rw [h9_0]; rfl) | (rw [h9_1]; rfl)), (by first | rfl | (rw [h9_0]; rfl) | (rw [h9_1]; rfl)), (by first | rfl | (rw [h9_0]; rfl) | (rw [h9_1]; rfl)), (by first | rfl | (rw [h9]; rfl) | (simp only [h9, Bool.true_and, Bool.false_and, Bool.true_or, Bool.false_or, cond_true, cond_false]; done)), trivial⟩
              ·
               try simp only [go_sem, Nat.reduceEqDiff, reduceIte, Nat.reduceAdd, Nat.reduceMul, Nat.reduceSub, Nat.reduceLT, Nat.reduceLeDiff, h4, h9]
               exact hK1 _ ⟨rfl, rfl, rfl, rfl, rfl, rfl, rfl, (by first | rfl | (rw [h9]; rfl) | (simp only [h9, Bool.true_and, Bool.false_and, Bool.true_or, Bool.false_or, cond_true, cond_false]; done)), trivial⟩
             ·
              refine xw_id ?_
              refine xw_stop 1 (by (try simp only [go_sem]); rfl) (by (try simp only [go_sem]); rfl) (by rfl) fun K1 hK1 => ?_
              refine xw_id ?_
              try simp only [go_sem, Nat.reduceEqDiff, reduceIte, Nat.reduceAdd, Nat.reduceMul, Nat.reduceSub, Nat.reduceLT, Nat.reduceLeDiff, h4]
              refine hK1 _ ?_; clear hK1 K1
              refine xw_cut 3 [(1, (.ptr 0 0)), (12, (.imm (List.flatMap E_Frame x36.1) x36.1.length)), (14, (vi x36.2.1.Start)), (15, (.imm (List.flatMap E_Frame x38.1) x38.1.length)), (16, (vi x38.2.2)), (105, (vb (((x43 && (x35.1 == 107)) && x35.2) && (x36.2.2 == 0))))] (by (try simp only [go_sem]); rfl) (by (try simp only [go_sem]); rfl) (by rfl) (fun K1 hK1 => ?_) fun tz => ?_
              ·
               refine xw_id ?_
               rcases Bool.eq_false_or_eq_true ((x43 && (x35.1 == 107)) && x35.2) with h10 | h10
               ·
                have h10_0 : (x43) = true := by simp only [Bool.and_eq_true] at h10; exact h10.1.1
                have h10_1 : (x35.1 == 107) = true := by simp only [Bool.and_eq_true] at h10; exact h10.1.2
                have h10_2 : (x35.2) = true := by simp only [Bool.and_eq_true] at h10; exact h10.2
                try simp only [go_sem, Nat.reduceEqDiff, reduceIte, Nat.reduceAdd, Nat.reduceMul, Nat.reduceSub, Nat.reduceLT, Nat.reduceLeDiff, h4, h10, h10_0, h10_1, h10_2]
                exact hK1 _ ⟨rfl, (by first | rfl | (rw [h10_0]; rfl) | (rw [h10_1]; rfl) | (rw [h10_2]; rfl)), (by first | rfl | (rw [h10_0]; rfl) | (rw [h10_1]; rfl) | (rw [h10_2]; rfl)), (by first | rfl | (rw [h10_0]; rfl) | (rw [h10_1]; rfl) | (rw [h10_2]; rfl)), (by first | rfl | (rw [h10_0]; rfl) | (rw [h10_1]; rfl) | (rw [h10_2]; rfl)), (by first | rfl | (rw [h10_0]; rfl) | (rw [h10_1]; rfl) | (rw [h10_2]; rfl)), (by first | rfl | (rw [h10]; rfl) | (simp only [h10, Bool.true_and, Bool.false_and, Bool.true_or, Bool.false_or, cond_true, cond_false]; done)), trivial⟩
               ·
                try simp only [go_sem, Nat.reduceEqDiff, reduceIte, Nat.reduceAdd, Nat.reduceMul, Nat.reduceSub, Nat.reduceLT, Nat.reduceLeDiff, h4, h10]
                exact hK1 _ ⟨rfl, rfl, rfl, rfl, rfl, rfl, (by first | rfl | (rw [h10]; rfl) | (simp only [h10, Bool.true_and, Bool.false_and, Bool.true_or, Bool.false_or, cond_true, cond_false]; done)), trivial⟩
              ·
               refine xw_id ?_
               rcases Bool.eq_false_or_eq_true (((x43 && (x35.1 == 107)) && x35.2) && (x36.2.2 == 0)) with h11 | h11
               ·
                have h0 := cT h0 h11
                obtain ⟨x44, bx44, h0⟩ := bnd h0
                try simp only [go_sem, Nat.reduceEqDiff, reduceIte, Nat.reduceAdd, Nat.reduceMul, Nat.reduceSub, Nat.reduceLT, Nat.reduceLeDiff, h4, h11]
                refine xcall_L (by first | (simp only [go_sem, fz, Nat.reduceEqDiff, reduceIte, Nat.reduceAdd, Nat.reduceMul, Nat.reduceSub, Nat.reduceLT, Nat.reduceLeDiff, h4, h11]; done) | (simp only [go_sem, fz, Nat.reduceEqDiff, reduceIte, Nat.reduceAdd, Nat.reduceMul, Nat.reduceSub, Nat.reduceLT, Nat.reduceLeDiff, h4, h11]; rfl) | (simp only [go_sem, fz, List.length_set, ble_self, take_set, cond_true, cond_false, Nat.reduceEqDiff, reduceIte, Nat.reduceAdd, Nat.reduceMul, Nat.reduceSub, Nat.reduceLT, Nat.reduceLeDiff, h4, h11]; done) | (simp only [go_sem, fz, List.length_set, ble_self, take_set, cond_true, cond_false, Nat.reduceEqDiff, reduceIte, Nat.reduceAdd, Nat.reduceMul, Nat.reduceSub, Nat.reduceLT, Nat.reduceLeDiff, h4, h11]; rfl)) (hotspotlaw18_numbers_p x36.1 [2] bx44) (Bare.v _) ?_; try dsimp only
                try refine xw_id ?_
                refine xw_stop 2 (by (try simp only [go_sem]); rfl) (by (try simp only [go_sem]); rfl) (by rfl) fun K1 hK1 => ?_
                refine xw_id ?_
                try simp only [go_sem, Nat.reduceEqDiff, reduceIte, Nat.reduceAdd, Nat.reduceMul, Nat.reduceSub, Nat.reduceLT, Nat.reduceLeDiff, h4, h11]
                refine hK1 _ ?_; clear hK1 K1
                refine xw_cut 3 [(1, (.ptr 0 0)), (15, (.imm (List.flatMap E_Frame x38.1) x38.1.length)), (16, (vi x38.2.2)), (114, (vb (x44 && (x36.2.1.Start == 3))))] (by (try simp only [go_sem]); rfl) (by (try simp only [go_sem]); rfl) (by rfl) (fun K1 hK1 => ?_) fun tz => ?_
                ·
                 refine xw_id ?_
                 rcases Bool.eq_false_or_eq_true x44 with h12 | h12
                 ·
                  try simp only [go_sem, Nat.reduceEqDiff, reduceIte, Nat.reduceAdd, Nat.reduceMul, Nat.reduceSub, Nat.reduceLT, Nat.reduceLeDiff, h4, h11, h12]
                  exact hK1 _ ⟨rfl, rfl, rfl, rfl, (by first | rfl | (rw [h12]; rfl) | (simp only [h12, Bool.true_and, Bool.false_and, Bool.true_or, Bool.false_or, cond_true, cond_false]; done)), trivial⟩
                 ·
                  try simp only [go_sem, Nat.reduceEqDiff, reduceIte, Nat.reduceAdd, Nat.reduceMul, Nat.reduceSub, Nat.reduceLT, Nat.reduceLeDiff, h4, h11, h12]
                  exact hK1 _ ⟨rfl, rfl, rfl, rfl, (by first | rfl | (rw [h12]; rfl) | (simp only [h12, Bool.true_and, Bool.false_and, Bool.true_or, Bool.false_or, cond_true, cond_false]; done)), trivial⟩
                ·
                 refine xw_id ?_
                 refine xw_stop 1 (by (try simp only [go_sem]); rfl) (by (try simp only [go_sem]); rfl) (by rfl) fun K1 hK1 => ?_
                 refine xw_id ?_
                 try simp only [go_sem, Nat.reduceEqDiff, reduceIte, Nat.reduceAdd, Nat.reduceMul, Nat.reduceSub, Nat.reduceLT, Nat.reduceLeDiff, h4, h11]
                 refine hK1 _ ?_; clear hK1 K1
                 refine xw_cut 3 [(1, (.ptr 0 0)), (15, (.imm (List.flatMap E_Frame x38.1) x38.1.length)), (118, (vb ((x44 && (x36.2.1.Start == 3)) && (x38.2.2 == 0))))] (by (try simp only [go_sem]); rfl) (by (try simp only [go_sem]); rfl) (by rfl) (fun K1 hK1 => ?_) fun tz => ?_
                 ·
                  refine xw_id ?_
                  rcases Bool.eq_false_or_eq_true (x44 && (x36.2.1.Start == 3)) with h13 | h13
                  ·
                   have h13_0 : (x44) = true := by simp only [Bool.and_eq_true] at h13; exact h13.1
                   have h13_1 : (x36.2.1.Start == 3) = true := by simp only [Bool.and_eq_true] at h13; exact h13.2
                   try simp only [go_sem, Nat.reduceEqDiff, reduceIte, Nat.reduceAdd, Nat.reduceMul, Nat.reduceSub, Nat.reduceLT, Nat.reduceLeDiff, h4, h11, h13, h13_0, h13_1]
                   exact hK1 _ ⟨rfl, (by first | rfl | (rw [h13_0]; rfl) | (rw [h13_1]; rfl)), (by first | rfl | (rw [h13_0]; rfl) | (rw [h13_1]; rfl)), (by first | rfl | (rw [h13]; rfl) | (simp only [h13, Bool.true_and, Bool.false_and, Bool.true_or, Bool.false_or, cond_true, cond_false]; done)), trivial⟩
                  ·
                   try simp only [go_sem, Nat.reduceEqDiff, reduceIte, Nat.reduceAdd, Nat.reduceMul, Nat.reduceSub, Nat.reduceLT, Nat.reduceLeDiff, h4, h11, h13]
                   exact hK1 _ ⟨rfl, rfl, rfl, (by first | rfl | (rw [h13]; rfl) | (simp only [h13, Bool.true_and, Bool.false_and, Bool.true_or, Bool.false_or, cond_true, cond_false]; done)), trivial⟩
                 ·
                  refine xw_id ?_
                  refine xw_stop 1 (by (try simp only [go_sem]); rfl) (by (try simp only [go_sem]); rfl) (by rfl) fun K1 hK1 => ?_
                  refine xw_id ?_
                  try simp only [go_sem, Nat.reduceEqDiff, reduceIte, Nat.reduceAdd, Nat.reduceMul, Nat.reduceSub, Nat.reduceLT, Nat.reduceLeDiff, h4, h11]
                  refine hK1 _ ?_; clear hK1 K1
                  obtain ⟨x46, hvh14, h0⟩ := bnd h0
                  refine xw_cut 3 [(1, (.ptr 0 0)), (122, (vb x46))] (by (try simp only [go_sem]); rfl) (by (try simp only [go_sem]); rfl) (by rfl) (fun K1 hK1 => ?_) fun tz => ?_
                  ·
                   refine xw_id ?_
                   rcases Bool.eq_false_or_eq_true ((x44 && (x36.2.1.Start == 3)) && (x38.2.2 == 0)) with h14 | h14
                   ·
                    have hvh14 := cT hvh14 h14
                    have h14_0 : (x44) = true := by simp only [Bool.and_eq_true] at h14; exact h14.1.1
                    have h14_1 : (x36.2.1.Start == 3) = true := by simp only [Bool.and_eq_true] at h14; exact h14.1.2
                    have h14_2 : (x38.2.2 == 0) = true := by simp only [Bool.and_eq_true] at h14; exact h14.2
                    obtain ⟨x45, bx45, hvh14⟩ := bnd hvh14
                    try simp only [go_sem, Nat.reduceEqDiff, reduceIte, Nat.reduceAdd, Nat.reduceMul, Nat.reduceSub, Nat.reduceLT, Nat.reduceLeDiff, h4, h11, h14, h14_0, h14_1, h14_2]
                    refine xcall_N (by first | (simp only [go_sem, fz, nilS, cond_true, cond_false, Nat.reduceEqDiff, reduceIte, Nat.reduceAdd, Nat.reduceMul, Nat.reduceSub, Nat.reduceLT, Nat.reduceLeDiff]; done) | (simp only [go_sem, fz, nilS, cond_true, cond_false, Nat.reduceEqDiff, reduceIte, Nat.reduceAdd, Nat.reduceMul, Nat.reduceSub, Nat.reduceLT, Nat.reduceLeDiff]; rfl)) (hotspotlaw18_numbers_p x38.1 [] bx45) ?_; try dsimp only
                    try refine xw_id ?_
                    try simp only [go_sem, Nat.reduceEqDiff, reduceIte, Nat.reduceAdd, Nat.reduceMul, Nat.reduceSub, Nat.reduceLT, Nat.reduceLeDiff, h4, h11, h14, h14_0, h14_1, h14_2]
                    obtain rfl := someInj hvh14
                    exact hK1 _ ⟨rfl, (by first | rfl | (rw [h14_0]; rfl) | (rw [h14_1]; rfl) | (rw [h14_2]; rfl)), (by first | rfl | (rw [h14]; rfl) | (simp only [h14, Bool.true_and, Bool.false_and, Bool.true_or, Bool.false_or, cond_true, cond_false]; done)), trivial⟩
                   ·
                    have hvh14 := cF hvh14 h14
                    try simp only [go_sem, Nat.reduceEqDiff, reduceIte, Nat.reduceAdd, Nat.reduceMul, Nat.reduceSub, Nat.reduceLT, Nat.reduceLeDiff, h4, h11, h14]
                    obtain rfl := someInj hvh14
                    exact hK1 _ ⟨rfl, rfl, (by first | rfl | (rw [h14]; rfl) | (simp only [h14, Bool.true_and, Bool.false_and, Bool.true_or, Bool.false_or, cond_true, cond_false]; done)), trivial⟩
                  ·
                   refine xw_id ?_
                   refine xw_stop 1 (by (try simp only [go_sem]); rfl) (by (try simp only [go_sem]); rfl) (by rfl) fun K1 hK1 => ?_
                   refine xw_id ?_
                   try simp only [go_sem, Nat.reduceEqDiff, reduceIte, Nat.reduceAdd, Nat.reduceMul, Nat.reduceSub, Nat.reduceLT, Nat.reduceLeDiff, h4, h11]
                   refine hK1 _ ?_; clear hK1 K1
                   refine xw_cut 4 [(1, (.ptr 0 0)), (127, (vb (x46 && (x38.2.1.Start == 7))))] (by (try simp only [go_sem]); rfl) (by (try simp only [go_sem]); rfl) (by rfl) (fun K1 hK1 => ?_) fun tz => ?_
                   ·
                    refine xw_id ?_
                    rcases Bool.eq_false_or_eq_true x46 with h15 | h15
                    ·
                     try simp only [go_sem, Nat.reduceEqDiff, reduceIte, Nat.reduceAdd, Nat.reduceMul, Nat.reduceSub, Nat.reduceLT, Nat.reduceLeDiff, h4, h11, h15]
                     exact hK1 _ ⟨rfl, rfl, (by first | rfl | (rw [h15]; rfl) | (simp only [h15, Bool.true_and, Bool.false_and, Bool.true_or, Bool.false_or, cond_true, cond_false]; done)), trivial⟩
                    ·
                     try simp only [go_sem, Nat.reduceEqDiff, reduceIte, Nat.reduceAdd, Nat.reduceMul, Nat.reduceSub, Nat.reduceLT, Nat.reduceLeDiff, h4, h11, h15]
                     exact hK1 _ ⟨rfl, rfl, (by first | rfl | (rw [h15]; rfl) | (simp only [h15, Bool.true_and, Bool.false_and, Bool.true_or, Bool.false_or, cond_true, cond_false]; done)), trivial⟩
                   ·
                    refine xw_id ?_
                    refine xw_stop 1 (by (try simp only [go_sem]); rfl) (by (try simp only [go_sem]); rfl) (by rfl) fun K1 hK1 => ?_
                    refine xw_id ?_
                    try simp only [go_sem, Nat.reduceEqDiff, reduceIte, Nat.reduceAdd, Nat.reduceMul, Nat.reduceSub, Nat.reduceLT, Nat.reduceLeDiff, h4, h11]
                    refine hK1 _ ?_; clear hK1 K1
                    refine xw_cut 5 [(133, (vb ((x46 && (x38.2.1.Start == 7)) && ((x38.2.1.Held.length : Int) == 1))))] (by (try simp only [go_sem]); rfl) (by (try simp only [go_sem]); rfl) (by rfl) (fun K1 hK1 => ?_) fun tz => ?_
                    ·
                     refine xw_id ?_
                     rcases Bool.eq_false_or_eq_true (x46 && (x38.2.1.Start == 7)) with h16 | h16
                     ·
                      have h16_0 : (x46) = true := by simp only [Bool.and_eq_true] at h16; exact h16.1
                      have h16_1 : (x38.2.1.Start == 7) = true := by simp only [Bool.and_eq_true] at h16; exact h16.2
                      try simp only [go_sem, Nat.reduceEqDiff, reduceIte, Nat.reduceAdd, Nat.reduceMul, Nat.reduceSub, Nat.reduceLT, Nat.reduceLeDiff, Int.reduceToNat, Int.reduceBEq, Int.reduceBNe, Int.reduceLT, Int.reduceLE, Int.reduceAdd, Int.reduceSub, Int.reduceMul, Int.reduceNeg, Int.reduceEq, Int.reduceNe, h4, h11, h16, h16_0, h16_1]
                      exact hK1 _ ⟨rfl, (by first | rfl | (rw [h16]; rfl) | (simp only [h16, Bool.true_and, Bool.false_and, Bool.true_or, Bool.false_or, cond_true, cond_false]; done)), trivial⟩
                     ·
                      try simp only [go_sem, Nat.reduceEqDiff, reduceIte, Nat.reduceAdd, Nat.reduceMul, Nat.reduceSub, Nat.reduceLT, Nat.reduceLeDiff, h4, h11, h16]
                      exact hK1 _ ⟨rfl, (by first | rfl | (rw [h16]; rfl) | (simp only [h16, Bool.true_and, Bool.false_and, Bool.true_or, Bool.false_or, cond_true, cond_false]; done)), trivial⟩
                    ·
                     refine xw_id ?_
                     try simp only [go_sem, Nat.reduceEqDiff, reduceIte, Nat.reduceAdd, Nat.reduceMul, Nat.reduceSub, Nat.reduceLT, Nat.reduceLeDiff, h4, h11]
                     refine hKK _ _ (Wk.refl _ _ _) ?_; clear hKK KK
                     refine awp_ret1 ?_
                     obtain rfl := someInj h0
                     refine endW_i ?_
                     refine end_ret0 rs31 (rfl) ?_
                     try simp only [go_sem, Nat.reduceEqDiff, reduceIte, Nat.reduceAdd, Nat.reduceMul, Nat.reduceSub, Nat.reduceLT, Nat.reduceLeDiff, fz, nilS, packR, List.take_nil, List.take_length, List.length_map, List.length_append, cond_true, cond_false, Nat.ble_eq, ble_self]
                     all_goals first | rfl | (simp only [go_sem, Nat.reduceEqDiff, reduceIte, Nat.reduceAdd, Nat.reduceMul, Nat.reduceSub, Nat.reduceLT, Nat.reduceLeDiff, fz, nilS, packR, List.take_nil, List.take_length, List.length_map, List.length_append, cond_true, cond_false, Nat.ble_eq, ble_self, List.map_append] <;> rfl)
               ·
                have h0 := cF h0 h11
                try simp only [go_sem, Nat.reduceEqDiff, reduceIte, Nat.reduceAdd, Nat.reduceMul, Nat.reduceSub, Nat.reduceLT, Nat.reduceLeDiff, h4, h11]
                refine hKK _ _ (Wk.refl _ _ _) ?_; clear hKK KK
                refine awp_ret1 ?_
                obtain rfl := someInj h0
                refine endW_i ?_
                refine end_ret0 rs31 (rfl) ?_
                try simp only [go_sem, Nat.reduceEqDiff, reduceIte, Nat.reduceAdd, Nat.reduceMul, Nat.reduceSub, Nat.reduceLT, Nat.reduceLeDiff, fz, nilS, packR, List.take_nil, List.take_length, List.length_map, List.length_append, cond_true, cond_false, Nat.ble_eq, ble_self]
                all_goals first | rfl | (simp only [go_sem, Nat.reduceEqDiff, reduceIte, Nat.reduceAdd, Nat.reduceMul, Nat.reduceSub, Nat.reduceLT, Nat.reduceLeDiff, fz, nilS, packR, List.take_nil, List.take_length, List.length_map, List.length_append, cond_true, cond_false, Nat.ble_eq, ble_self, List.map_append] <;> rfl)
        ·
         have h0 := cF h0 h4
         try simp only [go_sem, Nat.reduceEqDiff, reduceIte, Nat.reduceAdd, Nat.reduceMul, Nat.reduceSub, Nat.reduceLT, Nat.reduceLeDiff, h4]
         refine hKK _ _ (Wk.refl _ _ _) ?_; clear hKK KK
         refine awp_ret1 ?_
         obtain rfl := someInj h0
         refine endW_i ?_
         refine end_ret0 rs31 (rfl) ?_
         try simp only [go_sem, Nat.reduceEqDiff, reduceIte, Nat.reduceAdd, Nat.reduceMul, Nat.reduceSub, Nat.reduceLT, Nat.reduceLeDiff, fz, nilS, packR, List.take_nil, List.take_length, List.length_map, List.length_append, cond_true, cond_false, Nat.ble_eq, ble_self]
         all_goals first | rfl | (simp only [go_sem, Nat.reduceEqDiff, reduceIte, Nat.reduceAdd, Nat.reduceMul, Nat.reduceSub, Nat.reduceLT, Nat.reduceLeDiff, fz, nilS, packR, List.take_nil, List.take_length, List.length_map, List.length_append, cond_true, cond_false, Nat.ble_eq, ble_self, List.map_append] <;> rfl)

end Go.AX.Z.TR

/-! (TRW hotspotref05 Great) -/

set_option linter.unusedSimpArgs false
set_option linter.unusedVariables false
set_option maxHeartbeats 4000000
set_option maxRecDepth 20000
namespace Go.AX.Z.TR
open Go.AX Go.Proofs
attribute [local irreducible] awp xw xop xcall gsp ob xd xdop xcallD seqQ loopQ blkQ endQ


theorem hotspotref05_Great_p (a0 : Frame) {r : Bool} (h0 : hotspotref05_Great a0 = some r) : SndP K 42 [(.agg (E_Frame a0))] (vb r) := by
 refine SndP.of_walkW hC (Clean.v _) (clean_cons (Clean.agg (E_Frame_clean _)) clean_nil) (show K.P.funcs[42]? = some Try.f42 from Try.func42) rfl rfl (by decide +kernel) (Nat.le_of_ble_eq_true rfl) ?_
 unfold hotspotref05_Great at h0
 refine awp_nr [0] (fun _ => rfl) fun tz => ?_
 refine awp_regW fun KK hKK => ?_
 refine xw_id ?_
 try simp only [go_sem, Nat.reduceEqDiff, reduceIte, Nat.reduceAdd, Nat.reduceMul, Nat.reduceSub, Nat.reduceLT, Nat.reduceLeDiff]
 refine hKK _ _ (Wk.refl _ _ _) ?_; clear hKK KK
 refine awp_nr [1] (fun _ => rfl) fun tz => ?_
 refine awp_regW fun KK hKK => ?_
 refine xw_id ?_
 try simp only [go_sem, Nat.reduceEqDiff, reduceIte, Nat.reduceAdd, Nat.reduceMul, Nat.reduceSub, Nat.reduceLT, Nat.reduceLeDiff, Int.reduceToNat, Int.reduceBEq, Int.reduceBNe, Int.reduceLT, Int.reduceLE, Int.reduceAdd, Int.reduceSub, Int.reduceMul, Int.reduceNeg, Int.reduceEq, Int.reduceNe]
 refine hKK _ _ (Wk.refl _ _ _) ?_; clear hKK KK
 refine awp_ret1 ?_
 obtain rfl := someInj h0
 refine endW_i ?_
 refine end_ret0 rs42 (rfl) ?_
 try simp only [go_sem, Nat.reduceEqDiff, reduceIte, Nat.reduceAdd, Nat.reduceMul, Nat.reduceSub, Nat.reduceLT, Nat.reduceLeDiff, fz, nilS, packR, List.take_nil, List.take_length, List.length_map, List.length_append, cond_true, cond_false, Nat.ble_eq, ble_self]
 all_goals first | rfl | (simp only [go_sem, Nat.reduceEqDiff, reduceIte, Nat.reduceAdd, Nat.reduceMul, Nat.reduceSub, Nat.reduceLT, Nat.reduceLeDiff, fz, nilS, packR, List.take_nil, List.take_length, List.length_map, List.length_append, cond_true, cond_false, Nat.ble_eq, ble_self, List.map_append] <;> rfl)

end Go.AX.Z.TR

/-! (TRW hotspotlaw18 great) -/

set_option linter.unusedSimpArgs false
set_option linter.unusedVariables false
set_option maxHeartbeats 4000000
set_option maxRecDepth 20000
namespace Go.AX.Z.TR
open Go.AX Go.Proofs
attribute [local irreducible] awp xw xop xcall gsp ob xd xdop xcallD seqQ loopQ blkQ endQ

def hotspotlaw18_great_S0 (d57 : Unit) : AS :=
 { objs := (fun _ => .dead), next := 0, tmps := (fun _ => .unk) }

def hotspotlaw18_great_S1 (a0 : (List Hotspotref18_Step)) (d59 : Int) : AS :=
 { objs := (fun _ => .dead), next := 0, tmps := (upd (upd (fun _ => .unk) 0 (.imm (List.flatMap E_Hotspotref18_Step a0) a0.length)) 3 (vi d59)) }

theorem hotspotlaw18_great_p (a0 : (List Hotspotref18_Step)) {r : Bool} (h0 : hotspotlaw18_great a0 = some r) : SndP K 36 [(S_Hotspotref18_Step a0)] (vb r) := by
 refine SndP.of_walkW hC (Clean.v _) (clean_cons (S_Hotspotref18_Step_clean _) clean_nil) (show K.P.funcs[36]? = some Try.f36 from Try.func36) rfl rfl (by decide +kernel) (Nat.le_of_ble_eq_true rfl) ?_
 unfold hotspotlaw18_great at h0
 refine awp_nr [0] (fun _ => rfl) fun tz => ?_
 refine awp_regW fun KK hKK => ?_
 refine xw_id ?_
 try simp only [go_sem, Nat.reduceEqDiff, reduceIte, Nat.reduceAdd, Nat.reduceMul, Nat.reduceSub, Nat.reduceLT, Nat.reduceLeDiff]
 refine hKK _ _ (Wk.refl _ _ _) ?_; clear hKK KK
 refine awp_assoc ?_
 refine awp_nr [0] (fun _ => rfl) fun tz => ?_
 refine awp_regW fun KK hKK => ?_
 refine xw_id ?_
 try simp only [go_sem, Nat.reduceEqDiff, reduceIte, Nat.reduceAdd, Nat.reduceMul, Nat.reduceSub, Nat.reduceLT, Nat.reduceLeDiff, Int.reduceToNat, Int.reduceBEq, Int.reduceBNe, Int.reduceLT, Int.reduceLE, Int.reduceAdd, Int.reduceSub, Int.reduceMul, Int.reduceNeg, Int.reduceEq, Int.reduceNe]
 refine hKK _ _ (Wk.refl _ _ _) ?_; clear hKK KK
 refine awp_cond (b := (decide (200 < (a0.length : Int)))) rfl (fun h1 => ?_) (fun h1 => ?_)
 ·
  have h0 := cT h0 h1
  refine awp_assoc ?_
  refine awp_nr [] (fun _ => rfl) fun tz => ?_
  refine awp_regW fun KK hKK => ?_
  refine xw_id ?_
  try simp only [go_sem, Nat.reduceEqDiff, reduceIte, Nat.reduceAdd, Nat.reduceMul, Nat.reduceSub, Nat.reduceLT, Nat.reduceLeDiff]
  refine hKK _ _ (Wk.refl _ _ _) ?_; clear hKK KK
  refine awp_ret ?_
  obtain rfl := someInj h0
  refine endW_i ?_
  refine end_ret0 rs36 (rfl) ?_
  try simp only [go_sem, Nat.reduceEqDiff, reduceIte, Nat.reduceAdd, Nat.reduceMul, Nat.reduceSub, Nat.reduceLT, Nat.reduceLeDiff, fz, nilS, packR, List.take_nil, List.take_length, List.length_map, List.length_append, cond_true, cond_false, Nat.ble_eq, ble_self]
  all_goals first | rfl | (simp only [go_sem, Nat.reduceEqDiff, reduceIte, Nat.reduceAdd, Nat.reduceMul, Nat.reduceSub, Nat.reduceLT, Nat.reduceLeDiff, fz, nilS, packR, List.take_nil, List.take_length, List.length_map, List.length_append, cond_true, cond_false, Nat.ble_eq, ble_self, List.map_append] <;> rfl)
 ·
  have h0 := cF h0 h1
  refine awp_skip ?_
  refine awp_assoc ?_
  refine awp_nr [0] (fun _ => rfl) fun tz => ?_
  refine awp_regW fun KK hKK => ?_
  refine xw_id ?_
  try simp only [go_sem, Nat.reduceEqDiff, reduceIte, Nat.reduceAdd, Nat.reduceMul, Nat.reduceSub, Nat.reduceLT, Nat.reduceLeDiff]
  refine hKK _ _ (Wk.refl _ _ _) ?_; clear hKK KK
  obtain ⟨o58, hi2, h0⟩ := bnd h0
  refine awp_cut (fun d57 : Unit => o58 = Ex.go d57) (fun d57 : Unit => hotspotlaw18_great_S0 d57) ?_ ?_
  ·
   refine awp_block1 ?_
   refine awp_loopS (fun n (d59 : Int) => hotspotlaw18_great_L2 a0 n d59 = some o58) (fun d59 : Int => hotspotlaw18_great_S1 a0 d59) big 0 (Wk.canonD [] [] [] rfl trivial rfl tmO0 (tmAllU 3 (tmAllU 0 tmAll0 (Tm.clean (Clean.imm (c_Hotspotref18_Step _)))) (Tm.v _))) hi2 ?_
   clear hi2
   rintro n d59 hl4
   rcases n with _ | n3
   ·
    (rw [hotspotlaw18_great_L2] at hl4; cases hl4)
   ·
    rw [hotspotlaw18_great_L2] at hl4
    unfold hotspotlaw18_great_S1
    refine awp_assoc ?_
    refine awp_nr [0,3] (fun _ => rfl) fun tz => ?_
    refine awp_regW fun KK hKK => ?_
    refine xw_id ?_
    try simp only [go_sem, Nat.reduceEqDiff, reduceIte, Nat.reduceAdd, Nat.reduceMul, Nat.reduceSub, Nat.reduceLT, Nat.reduceLeDiff, Int.reduceToNat, Int.reduceBEq, Int.reduceBNe, Int.reduceLT, Int.reduceLE, Int.reduceAdd, Int.reduceSub, Int.reduceMul, Int.reduceNeg, Int.reduceEq, Int.reduceNe]
    refine hKK _ _ (Wk.refl _ _ _) ?_; clear hKK KK
    refine awp_cond (b := (decide (d59 < (a0.length : Int)))) rfl (fun h5 => ?_) (fun h5 => ?_)
    ·
     have hl4 := cT hl4 h5
     refine awp_skip ?_
     refine awp_blockW ?_
     refine awp_nr [0,3] (fun _ => rfl) fun tz => ?_
     refine awp_regW fun KK hKK => ?_
     refine xw_id ?_
     obtain ⟨x60, bx60, hl4⟩ := bnd hl4
     obtain ⟨fx60_0, fx60_1, fx60_2, fx60_3⟩ := idx_some bx60
     obtain ⟨x61, bx61, hl4⟩ := bnd hl4
     try simp only [go_sem, Nat.reduceEqDiff, reduceIte, Nat.reduceAdd, Nat.reduceMul, Nat.reduceSub, Nat.reduceLT, Nat.reduceLeDiff, fx60_0, fx60_1, fx60_2]
     refine xcall_p (hotspotref05_Great_p x60.Frame bx61) ?_; try dsimp only
     try refine xw_id ?_
     try simp only [go_sem, Nat.reduceEqDiff, reduceIte, Nat.reduceAdd, Nat.reduceMul, Nat.reduceSub, Nat.reduceLT, Nat.reduceLeDiff, fx60_0, fx60_1, fx60_2]
     refine hKK _ _ (Wk.refl _ _ _) ?_; clear hKK KK
     refine awp_cond1 (b := x61) rfl (fun h6 => ?_) (fun h6 => ?_)
     ·
      have hl4 := cT hl4 h6
      refine awp_nr [] (fun _ => rfl) fun tz => ?_
      refine awp_regW fun KK hKK => ?_
      refine xw_id ?_
      try simp only [go_sem, Nat.reduceEqDiff, reduceIte, Nat.reduceAdd, Nat.reduceMul, Nat.reduceSub, Nat.reduceLT, Nat.reduceLeDiff, fx60_0, fx60_1, fx60_2]
      refine hKK _ _ (Wk.refl _ _ _) ?_; clear hKK KK
      refine awp_ret1 ?_
      refine bq_r ?_
      refine sq_r ?_
      refine lq_r ?_
      refine bq_r ?_
      refine sq_r ?_
      obtain rfl := someInj hl4
      obtain rfl := Ex.k_ret h0
      refine endW_i ?_
      refine end_ret0 rs36 (rfl) ?_
      try simp only [go_sem, Nat.reduceEqDiff, reduceIte, Nat.reduceAdd, Nat.reduceMul, Nat.reduceSub, Nat.reduceLT, Nat.reduceLeDiff, fz, nilS, packR, List.take_nil, List.take_length, List.length_map, List.length_append, cond_true, cond_false, Nat.ble_eq, ble_self]
      all_goals first | rfl | (simp only [go_sem, Nat.reduceEqDiff, reduceIte, Nat.reduceAdd, Nat.reduceMul, Nat.reduceSub, Nat.reduceLT, Nat.reduceLeDiff, fz, nilS, packR, List.take_nil, List.take_length, List.length_map, List.length_append, cond_true, cond_false, Nat.ble_eq, ble_self, List.map_append] <;> rfl)
     ·
      have hl4 := cF hl4 h6
      refine awp_skip1 ?_
      refine bq_n ?_
      refine seqW_i ?_
      refine awp_nr1 [0,3] (fun _ => rfl) fun tz => ?_
      refine awp_reg1 fun KK hKK => ?_
      refine xw_id ?_
      try simp only [go_sem, Nat.reduceEqDiff, reduceIte, Nat.reduceAdd, Nat.reduceMul, Nat.reduceSub, Nat.reduceLT, Nat.reduceLeDiff, fx60_0, fx60_1, fx60_2]
      refine hKK _ ?_; clear hKK KK
      refine lq_n ?_
      exact ⟨n3, IntKind.wrap .i64 (d59 + 1), rfl, hl4, (Wk.canonD [] [] [] rfl trivial rfl tmO0 (tmAllU 3 (tmAllU 0 tmAll0 (Tm.clean (Clean.imm (c_Hotspotref18_Step _)))) (Tm.v _)))⟩
    ·
     have hl4 := cF hl4 h5
     refine awp_exit ?_
     refine lq_e ?_
     refine bq_e ?_
     refine sq_n ?_
     obtain rfl := someInj hl4
     exact ⟨_, rfl, (Wk.canonD [] [] [] rfl trivial rfl tmO0 tmAll0)⟩
  ·
   rintro d57 rfl
   have h0 := Ex.k_go h0
   clear hi2
   unfold hotspotlaw18_great_S0
   refine awp_nr [] (fun _ => rfl) fun tz => ?_
   refine awp_regW fun KK hKK => ?_
   refine xw_id ?_
   try simp only [go_sem, Nat.reduceEqDiff, reduceIte, Nat.reduceAdd, Nat.reduceMul, Nat.reduceSub, Nat.reduceLT, Nat.reduceLeDiff]
   refine hKK _ _ (Wk.refl _ _ _) ?_; clear hKK KK
   refine awp_ret1 ?_
   obtain rfl := someInj h0
   refine endW_i ?_
   refine end_ret0 rs36 (rfl) ?_
   try simp only [go_sem, Nat.reduceEqDiff, reduceIte, Nat.reduceAdd, Nat.reduceMul, Nat.reduceSub, Nat.reduceLT, Nat.reduceLeDiff, fz, nilS, packR, List.take_nil, List.take_length, List.length_map, List.length_append, cond_true, cond_false, Nat.ble_eq, ble_self]
   all_goals first | rfl | (simp only [go_sem, Nat.reduceEqDiff, reduceIte, Nat.reduceAdd, Nat.reduceMul, Nat.reduceSub, Nat.reduceLT, Nat.reduceLeDiff, fz, nilS, packR, List.take_nil, List.take_length, List.length_map, List.length_append, cond_true, cond_false, Nat.ble_eq, ble_self, List.map_append] <;> rfl)

end Go.AX.Z.TR

/-! (TRW reorder Bar) -/

set_option linter.unusedSimpArgs false
set_option linter.unusedVariables false
set_option maxHeartbeats 4000000
set_option maxRecDepth 20000
namespace Go.AX.Z.TR
open Go.AX Go.Proofs
attribute [local irreducible] awp xw xop xcall gsp ob xd xdop xcallD seqQ loopQ blkQ endQ

def reorder_Bar_S0 (a0 : Reorder) (a1 : Int) (x16 : Bool) : AS :=
 { objs := (upd (upd (fun _ => .dead) 0 (.live (e_Reorder a0 (.imm (List.flatMap E_HeldSeq a0.Held) a0.Held.length)))) 1 (.live (e_Reorder Reorder.z vnil))), next := 2, tmps := (upd (upd (upd (upd (fun _ => .unk) 1 (vi a1)) 2 (.ptr 0 0)) 5 (.ptr 1 0)) 16 (vb (!x16))) }

theorem reorder_Bar_r (a0 : Reorder) (a1 : Int) {r : ((List Frame) × Reorder × Int)} (h0 : reorder_Bar a0 a1 = some r) : SndR K 18 [(.agg (E_Reorder a0)), (vi a1)] (fun q => (.tup [(.ref (q 0) 0 r.1.length 41), (.agg (e_Reorder r.2.1 (.ref (q 1) 0 r.2.1.Held.length 42))), (vi r.2.2)])) [(List.flatMap E_Frame r.1), (List.flatMap E_HeldSeq r.2.1.Held)] := by
 refine SndR.of_walkW hC (show K.P.funcs[18]? = some Try.f18 from Try.func18) rfl rfl (by decide +kernel) (Nat.le_of_ble_eq_true rfl) ?_
 unfold reorder_Bar at h0
 refine awp_nr [0,1] (fun _ => rfl) fun tz => ?_
 refine awp_regW fun KK hKK => ?_
 refine xw_id ?_
 try simp only [go_sem, Nat.reduceEqDiff, reduceIte, Nat.reduceAdd, Nat.reduceMul, Nat.reduceSub, Nat.reduceLT, Nat.reduceLeDiff]
 refine hKK _ _ (Wk.refl _ _ _) ?_; clear hKK KK
 refine awp_assoc ?_
 refine awp_nr [1,2,5] (fun _ => rfl) fun tz => ?_
 refine awp_regW fun KK hKK => ?_
 refine xw_id ?_
 obtain ⟨x15, bx15, h0⟩ := bnd h0
 try simp only [go_sem, Nat.reduceEqDiff, reduceIte, Nat.reduceAdd, Nat.reduceMul, Nat.reduceSub, Nat.reduceLT, Nat.reduceLeDiff]
 refine xcall_p (reorder_Check_p a0 bx15) ?_; try dsimp only
 try refine xw_id ?_
 try simp only [go_sem, Nat.reduceEqDiff, reduceIte, Nat.reduceAdd, Nat.reduceMul, Nat.reduceSub, Nat.reduceLT, Nat.reduceLeDiff]
 refine hKK _ _ (Wk.refl _ _ _) ?_; clear hKK KK
 refine awp_assoc ?_
 refine awp_nr [1,2,5,7] (fun _ => rfl) fun tz => ?_
 refine awp_regW fun KK hKK => ?_
 refine xw_id ?_
 try simp only [go_sem, Nat.reduceEqDiff, reduceIte, Nat.reduceAdd, Nat.reduceMul, Nat.reduceSub, Nat.reduceLT, Nat.reduceLeDiff]
 refine hKK _ _ (Wk.refl _ _ _) ?_; clear hKK KK
 refine awp_cond (b := (x15 != 0)) rfl (fun h1 => ?_) (fun h1 => ?_)
 ·
  have h0 := cT h0 h1
  refine awp_assoc ?_
  refine awp_nr [5,7] (fun _ => rfl) fun tz => ?_
  refine awp_regW fun KK hKK => ?_
  refine xw_id ?_
  try simp only [go_sem, Nat.reduceEqDiff, reduceIte, Nat.reduceAdd, Nat.reduceMul, Nat.reduceSub, Nat.reduceLT, Nat.reduceLeDiff]
  refine hKK _ _ (Wk.refl _ _ _) ?_; clear hKK KK
  refine awp_ret ?_
  obtain rfl := someInj h0
  refine endW_i ?_
  refine end_ret0 rs18 (by simp only [go_sem, resV, resAll, resOf, packR, Nat.reduceEqDiff, reduceIte, Nat.reduceAdd, Nat.reduceMul, Nat.reduceSub, Nat.reduceLT, Nat.reduceLeDiff]; rfl) ?_
  refine Res.mk [] [none, none] rfl (resON (resON resO0)) (Tm.tup (TmL.cons (Tm.thaw _ _ _) (TmL.cons (Tm.agg (e_Reorder_tmx (by rfl) (Tm.thaw _ _ _))) (TmL.cons (Tm.v _) TmL.nil))))
 ·
  have h0 := cF h0 h1
  refine awp_skip ?_
  refine awp_assoc ?_
  refine awp_nr [1,2,5] (fun _ => rfl) fun tz => ?_
  refine awp_regW fun KK hKK => ?_
  refine xw_id ?_
  obtain ⟨x16, bx16, h0⟩ := bnd h0
  try simp only [go_sem, Nat.reduceEqDiff, reduceIte, Nat.reduceAdd, Nat.reduceMul, Nat.reduceSub, Nat.reduceLT, Nat.reduceLeDiff]
  refine xcall_p (reorder_number_p a1 bx16) ?_; try dsimp only
  try refine xw_id ?_
  try simp only [go_sem, Nat.reduceEqDiff, reduceIte, Nat.reduceAdd, Nat.reduceMul, Nat.reduceSub, Nat.reduceLT, Nat.reduceLeDiff]
  refine hKK _ (reorder_Bar_S0 a0 a1 x16) (Wk.canonD [] [] [some 0, some 2] rfl trivial rfl (tmOU 1 (tmOU 0 tmO0 rfl List.not_mem_nil (by simp only [upd_get, Nat.reduceEqDiff, reduceIte, Nat.reduceAdd, Nat.reduceMul, Nat.reduceSub, Nat.reduceLT, Nat.reduceLeDiff, if_true, if_false] <;> rfl) (e_Reorder_tmx (by rfl) (Tm.clean (Clean.imm (c_HeldSeq _))))) rfl List.not_mem_nil (by simp only [upd_get, Nat.reduceEqDiff, reduceIte, Nat.reduceAdd, Nat.reduceMul, Nat.reduceSub, Nat.reduceLT, Nat.reduceLeDiff, if_true, if_false] <;> rfl) (e_Reorder_tmx (by rfl) (Tm.v _))) (tmAllU 16 (tmAllU 5 (tmAllU 2 (tmAllU 1 tmAll0 (Tm.v _)) (Tm.ptr rfl)) (Tm.ptr rfl)) (Tm.v _))) ?_; clear hKK KK
  unfold reorder_Bar_S0
  refine awp_cond (b := (!x16)) rfl (fun h2 => ?_) (fun h2 => ?_)
  ·
   have h0 := cT h0 h2
   refine awp_assoc ?_
   refine awp_nr [5] (fun _ => rfl) fun tz => ?_
   refine awp_regW fun KK hKK => ?_
   refine xw_id ?_
   try simp only [go_sem, Nat.reduceEqDiff, reduceIte, Nat.reduceAdd, Nat.reduceMul, Nat.reduceSub, Nat.reduceLT, Nat.reduceLeDiff]
   refine hKK _ _ (Wk.refl _ _ _) ?_; clear hKK KK
   refine awp_ret ?_
   obtain rfl := someInj h0
   refine endW_i ?_
   refine end_ret0 rs18 (by simp only [go_sem, resV, resAll, resOf, packR, Nat.reduceEqDiff, reduceIte, Nat.reduceAdd, Nat.reduceMul, Nat.reduceSub, Nat.reduceLT, Nat.reduceLeDiff]; rfl) ?_
   refine Res.mk [] [none, none] rfl (resON (resON resO0)) (Tm.tup (TmL.cons (Tm.thaw _ _ _) (TmL.cons (Tm.agg (e_Reorder_tmx (by rfl) (Tm.thaw _ _ _))) (TmL.cons (Tm.v _) TmL.nil))))
  ·
   have h0 := cF h0 h2
   refine awp_skip ?_
   refine awp_nr [1,2,5] (fun _ => rfl) fun tz => ?_
   refine awp_regW fun KK hKK => ?_
   refine xw_id ?_
   obtain ⟨x17, bx17, h0⟩ := bnd h0
   try simp only [go_sem, Nat.reduceEqDiff, reduceIte, Nat.reduceAdd, Nat.reduceMul, Nat.reduceSub, Nat.reduceLT, Nat.reduceLeDiff]
   refine xcall_M (reorder_twin_m a0.Held bx17) ?_; try dsimp only
   try refine xw_id ?_
   try simp only [go_sem, Nat.reduceEqDiff, reduceIte, Nat.reduceAdd, Nat.reduceMul, Nat.reduceSub, Nat.reduceLT, Nat.reduceLeDiff]
   refine hKK _ _ (Wk.refl _ _ _) ?_; clear hKK KK
   refine awp_assoc ?_
   refine awp_nr [1,2,5] (fun _ => rfl) fun tz => ?_
   refine awp_regW fun KK hKK => ?_
   refine xw_id ?_
   obtain ⟨x18, bx18, h0⟩ := bnd h0
   try simp only [go_sem, Nat.reduceEqDiff, reduceIte, Nat.reduceAdd, Nat.reduceMul, Nat.reduceSub, Nat.reduceLT, Nat.reduceLeDiff]
   refine xcall_p (window_Dist_p a0.Start a1 bx18) ?_; try dsimp only
   try refine xw_id ?_
   try simp only [go_sem, Nat.reduceEqDiff, reduceIte, Nat.reduceAdd, Nat.reduceMul, Nat.reduceSub, Nat.reduceLT, Nat.reduceLeDiff]
   refine hKK _ _ (Wk.refl _ _ _) ?_; clear hKK KK
   refine awp_cond (b := (decide (2048 ≤ x18))) rfl (fun h3 => ?_) (fun h3 => ?_)
   ·
    have h0 := cT h0 h3
    refine awp_assoc ?_
    refine awp_nr [2,5] (fun _ => rfl) fun tz => ?_
    refine awp_regDW fun KK hKK all hall => ?_
    refine xd_id ?_
    try simp only [List.toList_toArray, List.map_cons, List.map_nil, List.size_toArray, List.length_cons, List.length_nil, Nat.zero_add]
    try simp only [Nat.reduceAdd]
    simp only [go_sem, Nat.reduceEqDiff, reduceIte, Nat.reduceMul, Nat.reduceSub, Nat.reduceLT, Nat.reduceLeDiff]
    try simp only [Nat.reduceAdd]
    try simp only [go_sem, Nat.reduceEqDiff, reduceIte, Nat.reduceMul, Nat.reduceSub, Nat.reduceLT, Nat.reduceLeDiff]
    try simp only [Nat.reduceAdd]
    try simp only [go_sem, Nat.reduceEqDiff, reduceIte, Nat.reduceMul, Nat.reduceSub, Nat.reduceLT, Nat.reduceLeDiff]
    refine And.intro ?_ (hKK _ _ (Wk.refl _ _ _) ?_)
    ·
     subst hall
     clear hKK KK
     first | decide +kernel | (simp [printsOk, apartP, clash, meet]; done) | (simp [printsOk, apartP, clash, meet]; decide +kernel)
    ·
     clear hKK KK hall all
     refine awp_ret ?_
     obtain rfl := someInj h0
     refine endW_i ?_
     refine end_ret0 rs18 (by simp only [go_sem, resV, resAll, resOf, packR, Nat.reduceEqDiff, reduceIte, Nat.reduceAdd, Nat.reduceMul, Nat.reduceSub, Nat.reduceLT, Nat.reduceLeDiff]; rfl) ?_
     refine Res.mk [] [none, some 7] rfl (resON (resOU List.not_mem_nil (by simp only [upd_get, Nat.reduceEqDiff, reduceIte, Nat.reduceAdd, Nat.reduceMul, Nat.reduceSub, Nat.reduceLT, Nat.reduceLeDiff, if_true, if_false] <;> rfl) (TmL.of_eq (by first | rfl | (simp only [List.flatMap_append, List.flatMap_cons, List.flatMap_nil, List.map_append, List.map_cons, List.map_nil, List.append_nil, List.nil_append]; done) | (simp only [List.flatMap_append, List.flatMap_cons, List.flatMap_nil, List.map_append, List.map_cons, List.map_nil, List.append_nil, List.nil_append]; rfl)) (c_HeldSeq _)) resO0)) (Tm.tup (TmL.cons (Tm.thaw _ _ _) (TmL.cons (Tm.agg (e_Reorder_tmx (by rfl) (Tm.refL rfl ?_))) (TmL.cons (Tm.v _) TmL.nil))))
     all_goals (first | rfl | (simp only [List.length_take]; omega) | (simp only [List.length_append, List.length_cons, List.length_nil, List.length_modify, List.length_set, Nat.zero_add]; done) | (simp only [List.length_append, List.length_take, List.length_drop, List.length_cons, List.length_nil, List.length_modify, List.length_set, Nat.zero_add]; omega) | (simp only [List.length_append, List.length_take, List.length_drop, List.length_cons, List.length_nil, List.length_modify, List.length_set, Nat.zero_add]; done) | omega)
   ·
    have h0 := cF h0 h3
    refine awp_skip ?_
    refine awp_nr [1,2,5] (fun _ => rfl) fun tz => ?_
    refine awp_regW fun KK hKK => ?_
    refine xw_id ?_
    obtain ⟨x19, bx19, h0⟩ := bnd h0
    try simp only [go_sem, Nat.reduceEqDiff, reduceIte, Nat.reduceAdd, Nat.reduceMul, Nat.reduceSub, Nat.reduceLT, Nat.reduceLeDiff]
    refine xcall_O [7] (reorder_move_io { a0 with Held := x17 } a1 bx19) (by decide) (by decide) ⟨(by first | rfl | (simp only [go_sem, Nat.reduceEqDiff, reduceIte, Nat.reduceAdd, Nat.reduceMul, Nat.reduceSub, Nat.reduceLT, Nat.reduceLeDiff]; done) | (simp only [go_sem, Nat.reduceEqDiff, reduceIte, Nat.reduceAdd, Nat.reduceMul, Nat.reduceSub, Nat.reduceLT, Nat.reduceLeDiff]; rfl)), trivial⟩ (by first | rfl | (simp only [go_sem, Nat.reduceEqDiff, reduceIte, Nat.reduceAdd, Nat.reduceMul, Nat.reduceSub, Nat.reduceLT, Nat.reduceLeDiff]; done) | (simp only [go_sem, Nat.reduceEqDiff, reduceIte, Nat.reduceAdd, Nat.reduceMul, Nat.reduceSub, Nat.reduceLT, Nat.reduceLeDiff]; rfl)) ?_; try dsimp only
    try refine xw_id ?_
    try simp only [go_sem, Nat.reduceEqDiff, reduceIte, Nat.reduceAdd, Nat.reduceMul, Nat.reduceSub, Nat.reduceLT, Nat.reduceLeDiff, List.length_cons, List.length_nil]
    refine hKK _ _ (Wk.refl _ _ _) ?_; clear hKK KK
    refine awp_nr [4,5] (fun _ => rfl) fun tz => ?_
    refine awp_regDW fun KK hKK all hall => ?_
    refine xd_id ?_
    try simp only [List.toList_toArray, List.map_cons, List.map_nil, List.size_toArray, List.length_cons, List.length_nil, Nat.zero_add]
    try simp only [Nat.reduceAdd]
    simp only [go_sem, Nat.reduceEqDiff, reduceIte, Nat.reduceMul, Nat.reduceSub, Nat.reduceLT, Nat.reduceLeDiff]
    try simp only [Nat.reduceAdd]
    try simp only [go_sem, Nat.reduceEqDiff, reduceIte, Nat.reduceMul, Nat.reduceSub, Nat.reduceLT, Nat.reduceLeDiff]
    try simp only [Nat.reduceAdd]
    try simp only [go_sem, Nat.reduceEqDiff, reduceIte, Nat.reduceMul, Nat.reduceSub, Nat.reduceLT, Nat.reduceLeDiff]
    refine And.intro ?_ (hKK _ _ (Wk.refl _ _ _) ?_)
    ·
     subst hall
     clear hKK KK
     first | decide +kernel | (simp [printsOk, apartP, clash, meet]; done) | (simp [printsOk, apartP, clash, meet]; decide +kernel)
    ·
     clear hKK KK hall all
     refine awp_ret1 ?_
     obtain rfl := someInj h0
     refine endW_i ?_
     refine end_ret0 rs18 (by simp only [go_sem, resV, resAll, resOf, packR, Nat.reduceEqDiff, reduceIte, Nat.reduceAdd, Nat.reduceMul, Nat.reduceSub, Nat.reduceLT, Nat.reduceLeDiff]; rfl) ?_
     refine Res.mk [] [some 21, some 22] rfl (resOU List.not_mem_nil (by simp only [upd_get, Nat.reduceEqDiff, reduceIte, Nat.reduceAdd, Nat.reduceMul, Nat.reduceSub, Nat.reduceLT, Nat.reduceLeDiff, if_true, if_false] <;> rfl) (TmL.of_eq (by first | rfl | (simp only [List.flatMap_append, List.flatMap_cons, List.flatMap_nil, List.map_append, List.map_cons, List.map_nil, List.append_nil, List.nil_append]; done) | (simp only [List.flatMap_append, List.flatMap_cons, List.flatMap_nil, List.map_append, List.map_cons, List.map_nil, List.append_nil, List.nil_append]; rfl)) (c_Frame _)) (resOU List.not_mem_nil (by simp only [upd_get, Nat.reduceEqDiff, reduceIte, Nat.reduceAdd, Nat.reduceMul, Nat.reduceSub, Nat.reduceLT, Nat.reduceLeDiff, if_true, if_false] <;> rfl) (TmL.of_eq (by first | rfl | (simp only [List.flatMap_append, List.flatMap_cons, List.flatMap_nil, List.map_append, List.map_cons, List.map_nil, List.append_nil, List.nil_append]; done) | (simp only [List.flatMap_append, List.flatMap_cons, List.flatMap_nil, List.map_append, List.map_cons, List.map_nil, List.append_nil, List.nil_append]; rfl)) (c_HeldSeq _)) resO0)) (Tm.tup (TmL.cons (Tm.refL rfl ?_) (TmL.cons (Tm.agg (e_Reorder_tmx (by rfl) (Tm.refL rfl ?_))) (TmL.cons (Tm.v _) TmL.nil))))
     all_goals (first | rfl | (simp only [List.length_take]; omega) | (simp only [List.length_append, List.length_cons, List.length_nil, List.length_modify, List.length_set, Nat.zero_add]; done) | (simp only [List.length_append, List.length_take, List.length_drop, List.length_cons, List.length_nil, List.length_modify, List.length_set, Nat.zero_add]; omega) | (simp only [List.length_append, List.length_take, List.length_drop, List.length_cons, List.length_nil, List.length_modify, List.length_set, Nat.zero_add]; done) | omega)

theorem reorder_Bar_m (a0 : Reorder) (a1 : Int) {r : ((List Frame) × Reorder × Int)} (h0 : reorder_Bar a0 a1 = some r) : SndM K 18 [(.agg (E_Reorder a0)), (vi a1)] (fun q => (.tup [(.ref (q 0) 0 r.1.length 41), (.agg (e_Reorder r.2.1 (.ref (q 1) 0 r.2.1.Held.length 42))), (vi r.2.2)])) [(List.flatMap E_Frame r.1), (List.flatMap E_HeldSeq r.2.1.Held)] :=
 fun hs => Snd.of_newM (RenM.tup (RenML.cons (RenM.ref 0 0 _ _) (RenML.cons (RenM.agg (e_Reorder_ren _ (RenM.ref 1 0 _ _))) (RenML.cons (RenM.const (Clean.v _)) RenML.nil)))) (rows_all_cons (c_Frame _) (rows_all_cons (c_HeldSeq _) rows_all_nil)) (clean_cons (Clean.agg (E_Reorder_clean _)) (clean_cons (Clean.v _) clean_nil)) (reorder_Bar_r a0 a1 h0) hs

theorem reorder_Bar_p (a0 : Reorder) (a1 : Int) {r : ((List Frame) × Reorder × Int)} (h0 : reorder_Bar a0 a1 = some r) : SndP K 18 [(.agg (E_Reorder a0)), (vi a1)] (.tup [(S_Frame r.1), (.agg (E_Reorder r.2.1)), (vi r.2.2)]) :=
 SndM.pure (reorder_Bar_m a0 a1 h0) (Clean.tup (clean_cons (S_Frame_clean _) (clean_cons (Clean.agg (E_Reorder_clean _)) (clean_cons (Clean.v _) clean_nil)))) (clean_cons (Clean.agg (E_Reorder_clean _)) (clean_cons (Clean.v _) clean_nil)) (by simp only [go_sem, newL_n, newL_c, upd_get, fz, nilS, cond_true, cond_false, List.drop_zero, List.take_length, List.length_map, ble_self, Nat.reduceEqDiff, reduceIte, Nat.reduceAdd, Nat.reduceMul, Nat.reduceSub, Nat.reduceLT, Nat.reduceLeDiff] <;> rfl)

end Go.AX.Z.TR

/-! (TRW hotspotlaw18 do) -/

set_option linter.unusedSimpArgs false
set_option linter.unusedVariables false
set_option maxHeartbeats 4000000
set_option maxRecDepth 20000
namespace Go.AX.Z.TR
open Go.AX Go.Proofs
attribute [local irreducible] awp xw xop xcall gsp ob xd xdop xcallD seqQ loopQ blkQ endQ


theorem hotspotlaw18_do_p (a0 : Reorder) (a1 : Hotspotref18_Step) {r : ((List Frame) × Reorder × Int)} (h0 : hotspotlaw18_do a0 a1 = some r) : SndP K 37 [(.agg (E_Reorder a0)), (.agg (E_Hotspotref18_Step a1))] (.tup [(S_Frame r.1), (.agg (E_Reorder r.2.1)), (vi r.2.2)]) := by
 refine SndP.of_walkW hC (Clean.tup (clean_cons (S_Frame_clean _) (clean_cons (Clean.agg (E_Reorder_clean _)) (clean_cons (Clean.v _) clean_nil)))) (clean_cons (Clean.agg (E_Reorder_clean _)) (clean_cons (Clean.agg (E_Hotspotref18_Step_clean _)) clean_nil)) (show K.P.funcs[37]? = some Try.f37 from Try.func37) rfl rfl (by decide +kernel) (Nat.le_of_ble_eq_true rfl) ?_
 unfold hotspotlaw18_do at h0
 refine awp_nr [0,1] (fun _ => rfl) fun tz => ?_
 refine awp_regW fun KK hKK => ?_
 refine xw_id ?_
 try simp only [go_sem, Nat.reduceEqDiff, reduceIte, Nat.reduceAdd, Nat.reduceMul, Nat.reduceSub, Nat.reduceLT, Nat.reduceLeDiff]
 refine hKK _ _ (Wk.refl _ _ _) ?_; clear hKK KK
 refine awp_nr [2,3,4,5] (fun _ => rfl) fun tz => ?_
 refine awp_regW fun KK hKK => ?_
 refine xw_id ?_
 try simp only [go_sem, Nat.reduceEqDiff, reduceIte, Nat.reduceAdd, Nat.reduceMul, Nat.reduceSub, Nat.reduceLT, Nat.reduceLeDiff]
 refine hKK _ _ (Wk.refl _ _ _) ?_; clear hKK KK
 refine awp_assoc ?_
 refine awp_nr [2,3,4,5,6] (fun _ => rfl) fun tz => ?_
 refine awp_regW fun KK hKK => ?_
 refine xw_id ?_
 try simp only [go_sem, Nat.reduceEqDiff, reduceIte, Nat.reduceAdd, Nat.reduceMul, Nat.reduceSub, Nat.reduceLT, Nat.reduceLeDiff]
 refine hKK _ _ (Wk.refl _ _ _) ?_; clear hKK KK
 refine awp_blockW ?_
 refine awp_nr [2,3,4,5,6,8] (fun _ => rfl) fun tz => ?_
 refine awp_regW fun KK hKK => ?_
 refine xw_id ?_
 try simp only [go_sem, Nat.reduceEqDiff, reduceIte, Nat.reduceAdd, Nat.reduceMul, Nat.reduceSub, Nat.reduceLT, Nat.reduceLeDiff]
 refine hKK _ _ (Wk.refl _ _ _) ?_; clear hKK KK
 refine awp_cond1 (b := (a1.Kind == 0)) rfl (fun h1 => ?_) (fun h1 => ?_)
 ·
  have h0 := cT h0 h1
  refine awp_nr1 [2,3,5] (fun _ => rfl) fun tz => ?_
  refine awp_reg1 fun KK hKK => ?_
  refine xw_id ?_
  obtain ⟨x66, bx66, h0⟩ := bnd h0
  try simp only [go_sem, Nat.reduceEqDiff, reduceIte, Nat.reduceAdd, Nat.reduceMul, Nat.reduceSub, Nat.reduceLT, Nat.reduceLeDiff]
  refine xcall_p (reorder_Put_p a0 a1.Frame a1.N bx66) ?_; try dsimp only
  try refine xw_id ?_
  try simp only [go_sem, Nat.reduceEqDiff, reduceIte, Nat.reduceAdd, Nat.reduceMul, Nat.reduceSub, Nat.reduceLT, Nat.reduceLeDiff]
  refine hKK _ ?_; clear hKK KK
  refine bq_n ?_
  refine seqW_i ?_
  refine awp_nr [4,5,6] (fun _ => rfl) fun tz => ?_
  refine awp_regDW fun KK hKK all hall => ?_
  refine xd_id ?_
  try simp only [List.toList_toArray, List.map_cons, List.map_nil, List.size_toArray, List.length_cons, List.length_nil, Nat.zero_add]
  try simp only [Nat.reduceAdd]
  simp only [go_sem, Nat.reduceEqDiff, reduceIte, Nat.reduceMul, Nat.reduceSub, Nat.reduceLT, Nat.reduceLeDiff]
  try simp only [Nat.reduceAdd]
  try simp only [go_sem, Nat.reduceEqDiff, reduceIte, Nat.reduceMul, Nat.reduceSub, Nat.reduceLT, Nat.reduceLeDiff]
  try simp only [Nat.reduceAdd]
  try simp only [go_sem, Nat.reduceEqDiff, reduceIte, Nat.reduceMul, Nat.reduceSub, Nat.reduceLT, Nat.reduceLeDiff]
  refine And.intro ?_ (hKK _ _ (Wk.refl _ _ _) ?_)
  ·
   subst hall
   clear hKK KK
   first | decide +kernel | (simp [printsOk, apartP, clash, meet]; done) | (simp [printsOk, apartP, clash, meet]; decide +kernel)
  ·
   clear hKK KK hall all
   refine awp_ret1 ?_
   obtain rfl := someInj h0
   refine endW_i ?_
   refine end_ret0 rs37 (by simp only [go_sem, resV, resAll, resOf, packR, Nat.reduceEqDiff, reduceIte, Nat.reduceAdd, Nat.reduceMul, Nat.reduceSub, Nat.reduceLT, Nat.reduceLeDiff]; rfl) ?_
   try simp only [go_sem, Nat.reduceEqDiff, reduceIte, Nat.reduceAdd, Nat.reduceMul, Nat.reduceSub, Nat.reduceLT, Nat.reduceLeDiff, fz, nilS, packR, List.take_nil, List.take_length, List.length_map, List.length_append, cond_true, cond_false, Nat.ble_eq, ble_self]
   all_goals first | rfl | (simp only [go_sem, Nat.reduceEqDiff, reduceIte, Nat.reduceAdd, Nat.reduceMul, Nat.reduceSub, Nat.reduceLT, Nat.reduceLeDiff, fz, nilS, packR, List.take_nil, List.take_length, List.length_map, List.length_append, cond_true, cond_false, Nat.ble_eq, ble_self, List.map_append] <;> rfl)
 ·
  have h0 := cF h0 h1
  refine awp_nr [2,3,4,5,6,8] (fun _ => rfl) fun tz => ?_
  refine awp_regW fun KK hKK => ?_
  refine xw_id ?_
  try simp only [go_sem, Nat.reduceEqDiff, reduceIte, Nat.reduceAdd, Nat.reduceMul, Nat.reduceSub, Nat.reduceLT, Nat.reduceLeDiff]
  refine hKK _ _ (Wk.refl _ _ _) ?_; clear hKK KK
  refine awp_cond1 (b := (a1.Kind == 1)) rfl (fun h2 => ?_) (fun h2 => ?_)
  ·
   have h0 := cT h0 h2
   refine awp_nr1 [2,3,5] (fun _ => rfl) fun tz => ?_
   refine awp_reg1 fun KK hKK => ?_
   refine xw_id ?_
   obtain ⟨x67, bx67, h0⟩ := bnd h0
   try simp only [go_sem, Nat.reduceEqDiff, reduceIte, Nat.reduceAdd, Nat.reduceMul, Nat.reduceSub, Nat.reduceLT, Nat.reduceLeDiff]
   refine xcall_p (reorder_Bar_p a0 a1.N bx67) ?_; try dsimp only
   try refine xw_id ?_
   try simp only [go_sem, Nat.reduceEqDiff, reduceIte, Nat.reduceAdd, Nat.reduceMul, Nat.reduceSub, Nat.reduceLT, Nat.reduceLeDiff]
   refine hKK _ ?_; clear hKK KK
   refine bq_n ?_
   refine seqW_i ?_
   refine awp_nr [4,5,6] (fun _ => rfl) fun tz => ?_
   refine awp_regDW fun KK hKK all hall => ?_
   refine xd_id ?_
   try simp only [List.toList_toArray, List.map_cons, List.map_nil, List.size_toArray, List.length_cons, List.length_nil, Nat.zero_add]
   try simp only [Nat.reduceAdd]
   simp only [go_sem, Nat.reduceEqDiff, reduceIte, Nat.reduceMul, Nat.reduceSub, Nat.reduceLT, Nat.reduceLeDiff]
   try simp only [Nat.reduceAdd]
   try simp only [go_sem, Nat.reduceEqDiff, reduceIte, Nat.reduceMul, Nat.reduceSub, Nat.reduceLT, Nat.reduceLeDiff]
   try simp only [Nat.reduceAdd]
   try simp only [go_sem, Nat.reduceEqDiff, reduceIte, Nat.reduceMul, Nat.reduceSub, Nat.reduceLT, Nat.reduceLeDiff]
   refine And.intro ?_ (hKK _ _ (Wk.refl _ _ _) ?_)
   ·
    subst hall
    clear hKK KK
    first | decide +kernel | (simp [printsOk, apartP, clash, meet]; done) | (simp [printsOk, apartP, clash, meet]; decide +kernel)
   ·
    clear hKK KK hall all
    refine awp_ret1 ?_
    obtain rfl := someInj h0
    refine endW_i ?_
    refine end_ret0 rs37 (by simp only [go_sem, resV, resAll, resOf, packR, Nat.reduceEqDiff, reduceIte, Nat.reduceAdd, Nat.reduceMul, Nat.reduceSub, Nat.reduceLT, Nat.reduceLeDiff]; rfl) ?_
    try simp only [go_sem, Nat.reduceEqDiff, reduceIte, Nat.reduceAdd, Nat.reduceMul, Nat.reduceSub, Nat.reduceLT, Nat.reduceLeDiff, fz, nilS, packR, List.take_nil, List.take_length, List.length_map, List.length_append, cond_true, cond_false, Nat.ble_eq, ble_self]
    all_goals first | rfl | (simp only [go_sem, Nat.reduceEqDiff, reduceIte, Nat.reduceAdd, Nat.reduceMul, Nat.reduceSub, Nat.reduceLT, Nat.reduceLeDiff, fz, nilS, packR, List.take_nil, List.take_length, List.length_map, List.length_append, cond_true, cond_false, Nat.ble_eq, ble_self, List.map_append] <;> rfl)
  ·
   have h0 := cF h0 h2
   refine awp_nr [2,3,4,5,6,8] (fun _ => rfl) fun tz => ?_
   refine awp_regW fun KK hKK => ?_
   refine xw_id ?_
   try simp only [go_sem, Nat.reduceEqDiff, reduceIte, Nat.reduceAdd, Nat.reduceMul, Nat.reduceSub, Nat.reduceLT, Nat.reduceLeDiff]
   refine hKK _ _ (Wk.refl _ _ _) ?_; clear hKK KK
   refine awp_cond1 (b := (a1.Kind == 2)) rfl (fun h3 => ?_) (fun h3 => ?_)
   ·
    have h0 := cT h0 h3
    refine awp_nr1 [2,3,5] (fun _ => rfl) fun tz => ?_
    refine awp_reg1 fun KK hKK => ?_
    refine xw_id ?_
    obtain ⟨x68, bx68, h0⟩ := bnd h0
    try simp only [go_sem, Nat.reduceEqDiff, reduceIte, Nat.reduceAdd, Nat.reduceMul, Nat.reduceSub, Nat.reduceLT, Nat.reduceLeDiff]
    refine xcall_p (reorder_Expire_p a0 a1.N bx68) ?_; try dsimp only
    try refine xw_id ?_
    try simp only [go_sem, Nat.reduceEqDiff, reduceIte, Nat.reduceAdd, Nat.reduceMul, Nat.reduceSub, Nat.reduceLT, Nat.reduceLeDiff]
    refine hKK _ ?_; clear hKK KK
    refine bq_n ?_
    refine seqW_i ?_
    refine awp_nr [4,5,6] (fun _ => rfl) fun tz => ?_
    refine awp_regDW fun KK hKK all hall => ?_
    refine xd_id ?_
    try simp only [List.toList_toArray, List.map_cons, List.map_nil, List.size_toArray, List.length_cons, List.length_nil, Nat.zero_add]
    try simp only [Nat.reduceAdd]
    simp only [go_sem, Nat.reduceEqDiff, reduceIte, Nat.reduceMul, Nat.reduceSub, Nat.reduceLT, Nat.reduceLeDiff]
    try simp only [Nat.reduceAdd]
    try simp only [go_sem, Nat.reduceEqDiff, reduceIte, Nat.reduceMul, Nat.reduceSub, Nat.reduceLT, Nat.reduceLeDiff]
    try simp only [Nat.reduceAdd]
    try simp only [go_sem, Nat.reduceEqDiff, reduceIte, Nat.reduceMul, Nat.reduceSub, Nat.reduceLT, Nat.reduceLeDiff]
    refine And.intro ?_ (hKK _ _ (Wk.refl _ _ _) ?_)
    ·
     subst hall
     clear hKK KK
     first | decide +kernel | (simp [printsOk, apartP, clash, meet]; done) | (simp [printsOk, apartP, clash, meet]; decide +kernel)
    ·
     clear hKK KK hall all
     refine awp_ret1 ?_
     obtain rfl := someInj h0
     refine endW_i ?_
     refine end_ret0 rs37 (by simp only [go_sem, resV, resAll, resOf, packR, Nat.reduceEqDiff, reduceIte, Nat.reduceAdd, Nat.reduceMul, Nat.reduceSub, Nat.reduceLT, Nat.reduceLeDiff]; rfl) ?_
     try simp only [go_sem, Nat.reduceEqDiff, reduceIte, Nat.reduceAdd, Nat.reduceMul, Nat.reduceSub, Nat.reduceLT, Nat.reduceLeDiff, fz, nilS, packR, List.take_nil, List.take_length, List.length_map, List.length_append, cond_true, cond_false, Nat.ble_eq, ble_self]
     all_goals first | rfl | (simp only [go_sem, Nat.reduceEqDiff, reduceIte, Nat.reduceAdd, Nat.reduceMul, Nat.reduceSub, Nat.reduceLT, Nat.reduceLeDiff, fz, nilS, packR, List.take_nil, List.take_length, List.length_map, List.length_append, cond_true, cond_false, Nat.ble_eq, ble_self, List.map_append] <;> rfl)
   ·
    have h0 := cF h0 h3
    refine awp_skip1 ?_
    refine bq_n ?_
    refine seqW_i ?_
    refine awp_nr [4,5,6] (fun _ => rfl) fun tz => ?_
    refine awp_regDW fun KK hKK all hall => ?_
    refine xd_id ?_
    try simp only [List.toList_toArray, List.map_cons, List.map_nil, List.size_toArray, List.length_cons, List.length_nil, Nat.zero_add]
    try simp only [Nat.reduceAdd]
    simp only [go_sem, Nat.reduceEqDiff, reduceIte, Nat.reduceMul, Nat.reduceSub, Nat.reduceLT, Nat.reduceLeDiff]
    try simp only [Nat.reduceAdd]
    try simp only [go_sem, Nat.reduceEqDiff, reduceIte, Nat.reduceMul, Nat.reduceSub, Nat.reduceLT, Nat.reduceLeDiff]
    try simp only [Nat.reduceAdd]
    try simp only [go_sem, Nat.reduceEqDiff, reduceIte, Nat.reduceMul, Nat.reduceSub, Nat.reduceLT, Nat.reduceLeDiff]
    refine And.intro ?_ (hKK _ _ (Wk.refl _ _ _) ?_)
    ·
     subst hall
     clear hKK KK
     first | decide +kernel | (simp [printsOk, apartP, clash, meet]; done) | (simp [printsOk, apartP, clash, meet]; decide +kernel)
    ·
     clear hKK KK hall all
     refine awp_ret1 ?_
     obtain rfl := someInj h0
     refine endW_i ?_
     refine end_ret0 rs37 (by simp only [go_sem, resV, resAll, resOf, packR, Nat.reduceEqDiff, reduceIte, Nat.reduceAdd, Nat.reduceMul, Nat.reduceSub, Nat.reduceLT, Nat.reduceLeDiff]; rfl) ?_
     try simp only [go_sem, Nat.reduceEqDiff, reduceIte, Nat.reduceAdd, Nat.reduceMul, Nat.reduceSub, Nat.reduceLT, Nat.reduceLeDiff, fz, nilS, packR, List.take_nil, List.take_length, List.length_map, List.length_append, cond_true, cond_false, Nat.ble_eq, ble_self]
     all_goals first | rfl | (simp only [go_sem, Nat.reduceEqDiff, reduceIte, Nat.reduceAdd, Nat.reduceMul, Nat.reduceSub, Nat.reduceLT, Nat.reduceLeDiff, fz, nilS, packR, List.take_nil, List.take_length, List.length_map, List.length_append, cond_true, cond_false, Nat.ble_eq, ble_self, List.map_append] <;> rfl)

end Go.AX.Z.TR

/-! (TRW hotspotlaw18 ReorderOnce) -/

set_option linter.unusedSimpArgs false
set_option linter.unusedVariables false
set_option maxHeartbeats 4000000
set_option maxRecDepth 20000
namespace Go.AX.Z.TR
open Go.AX Go.Proofs
attribute [local irreducible] awp xw xop xcall gsp ob xd xdop xcallD seqQ loopQ blkQ endQ

def hotspotlaw18_ReorderOnce_S0 (x56 : (Reorder × Int)) (a3 : (List Hotspotref18_Step)) (x55 : Bool) : AS :=
 { objs := (upd (fun _ => .dead) 0 (.live (e_Reorder x56.1 (.imm (List.flatMap E_HeldSeq x56.1.Held) x56.1.Held.length)))), next := 1, tmps := (upd (upd (upd (upd (fun _ => .unk) 3 (.imm (List.flatMap E_Hotspotref18_Step a3) a3.length)) 9 (vb x55)) 10 (.ptr 0 0)) 11 (vi x56.2)) }

def hotspotlaw18_ReorderOnce_S1 (x55 : Bool) (d59 : (Reorder × List Frame)) : AS :=
 { objs := (upd (upd (fun _ => .dead) 0 (.live (e_Reorder d59.1 (.imm (List.flatMap E_HeldSeq ((d59.1).Held)) ((d59.1).Held).length)))) 1 (.live (List.flatMap E_Frame d59.2))), next := 2, tmps := (upd (upd (upd (fun _ => .unk) 9 (vb x55)) 10 (.ptr 0 0)) 14 (.ref 1 0 ((d59.2).length) 41)) }

def hotspotlaw18_ReorderOnce_S2 (a3 : (List Hotspotref18_Step)) (x55 : Bool) (d61 : (Reorder × Int × Int × List Frame × Int)) : AS :=
 { objs := (upd (upd (fun _ => .dead) 0 (.live (e_Reorder d61.1 (.imm (List.flatMap E_HeldSeq ((d61.1).Held)) ((d61.1).Held).length)))) 1 (.live (List.flatMap E_Frame d61.2.2.2.1))), next := 2, tmps := (upd (upd (upd (upd (upd (upd (upd (fun _ => .unk) 3 (.imm (List.flatMap E_Hotspotref18_Step a3) a3.length)) 9 (vb x55)) 10 (.ptr 0 0)) 12 (vi d61.2.1)) 13 (vi d61.2.2.1)) 14 (.ref 1 0 ((d61.2.2.2.1).length) 41)) 15 (vi d61.2.2.2.2)) }

def hotspotlaw18_ReorderOnce_S4 (a3 : (List Hotspotref18_Step)) (x55 : Bool) (d61 : (Reorder × Int × Int × List Frame × Int)) (d62 : (Reorder × Int × Int × List Frame)) : AS :=
 { objs := (upd (upd (fun _ => .dead) 0 (.live (e_Reorder d62.1 (.imm (List.flatMap E_HeldSeq ((d62.1).Held)) ((d62.1).Held).length)))) 1 (.live (List.flatMap E_Frame d62.2.2.2))), next := 2, tmps := (upd (upd (upd (upd (upd (upd (upd (fun _ => .unk) 3 (.imm (List.flatMap E_Hotspotref18_Step a3) a3.length)) 9 (vb x55)) 10 (.ptr 0 0)) 12 (vi d62.2.1)) 13 (vi d62.2.2.1)) 14 (.ref 1 0 ((d62.2.2.2).length) 41)) 15 (vi d61.2.2.2.2)) }

def hotspotlaw18_ReorderOnce_S5 (d61 : (Reorder × Int × Int × List Frame × Int)) (x65 : ((List Frame) × Reorder × Int)) (a3 : (List Hotspotref18_Step)) (x55 : Bool) (d66 : (List Frame)) : AS :=
 { objs := (upd (upd (upd (fun _ => .dead) 0 (.live (e_Reorder d61.1 (.imm (List.flatMap E_HeldSeq ((d61.1).Held)) ((d61.1).Held).length)))) 1 (.live (List.flatMap E_Frame d66))) 2 (.live (e_Reorder x65.2.1 (.imm (List.flatMap E_HeldSeq x65.2.1.Held) x65.2.1.Held.length)))), next := 3, tmps := (upd (upd (upd (upd (upd (upd (upd (upd (upd (fun _ => .unk) 3 (.imm (List.flatMap E_Hotspotref18_Step a3) a3.length)) 9 (vb x55)) 10 (.ptr 0 0)) 12 (vi d61.2.1)) 13 (vi d61.2.2.1)) 14 (.ref 1 0 ((d66).length) 41)) 15 (vi d61.2.2.2.2)) 16 (.imm (List.flatMap E_Frame x65.1) x65.1.length)) 17 (.ptr 2 0)) }

def hotspotlaw18_ReorderOnce_S6 (d61 : (Reorder × Int × Int × List Frame × Int)) (x65 : ((List Frame) × Reorder × Int)) (a3 : (List Hotspotref18_Step)) (x55 : Bool) (d68 : (Int × List Frame)) : AS :=
 { objs := (upd (upd (upd (fun _ => .dead) 0 (.live (e_Reorder d61.1 (.imm (List.flatMap E_HeldSeq ((d61.1).Held)) ((d61.1).Held).length)))) 1 (.live (List.flatMap E_Frame d68.2))) 2 (.live (e_Reorder x65.2.1 (.imm (List.flatMap E_HeldSeq x65.2.1.Held) x65.2.1.Held.length)))), next := 3, tmps := (upd (upd (upd (upd (upd (upd (upd (upd (fun _ => .unk) 3 (.imm (List.flatMap E_Hotspotref18_Step a3) a3.length)) 9 (vb x55)) 10 (.ptr 0 0)) 12 (vi d61.2.1)) 13 (vi d68.1)) 14 (.ref 1 0 ((d68.2).length) 41)) 15 (vi d61.2.2.2.2)) 17 (.ptr 2 0)) }

def hotspotlaw18_ReorderOnce_S7 (d61 : (Reorder × Int × Int × List Frame × Int)) (x65 : ((List Frame) × Reorder × Int)) (a3 : (List Hotspotref18_Step)) (x55 : Bool) (d70 : (Int × List Frame × Int)) : AS :=
 { objs := (upd (upd (upd (fun _ => .dead) 0 (.live (e_Reorder d61.1 (.imm (List.flatMap E_HeldSeq ((d61.1).Held)) ((d61.1).Held).length)))) 1 (.live (List.flatMap E_Frame d70.2.1))) 2 (.live (e_Reorder x65.2.1 (.imm (List.flatMap E_HeldSeq x65.2.1.Held) x65.2.1.Held.length)))), next := 3, tmps := (upd (upd (upd (upd (upd (upd (upd (upd (upd (upd (fun _ => .unk) 3 (.imm (List.flatMap E_Hotspotref18_Step a3) a3.length)) 9 (vb x55)) 10 (.ptr 0 0)) 12 (vi d61.2.1)) 13 (vi d70.1)) 14 (.ref 1 0 ((d70.2.1).length) 41)) 15 (vi d61.2.2.2.2)) 16 (.imm (List.flatMap E_Frame x65.1) x65.1.length)) 17 (.ptr 2 0)) 19 (vi d70.2.2)) }

def hotspotlaw18_ReorderOnce_S9 (d61 : (Reorder × Int × Int × List Frame × Int)) (x65 : ((List Frame) × Reorder × Int)) (a3 : (List Hotspotref18_Step)) (x55 : Bool) (d70 : (Int × List Frame × Int)) (d71 : (Int × List Frame)) : AS :=
 { objs := (upd (upd (upd (fun _ => .dead) 0 (.live (e_Reorder d61.1 (.imm (List.flatMap E_HeldSeq ((d61.1).Held)) ((d61.1).Held).length)))) 1 (.live (List.flatMap E_Frame d71.2))) 2 (.live (e_Reorder x65.2.1 (.imm (List.flatMap E_HeldSeq x65.2.1.Held) x65.2.1.Held.length)))), next := 3, tmps := (upd (upd (upd (upd (upd (upd (upd (upd (upd (upd (fun _ => .unk) 3 (.imm (List.flatMap E_Hotspotref18_Step a3) a3.length)) 9 (vb x55)) 10 (.ptr 0 0)) 12 (vi d61.2.1)) 13 (vi d71.1)) 14 (.ref 1 0 ((d71.2).length) 41)) 15 (vi d61.2.2.2.2)) 16 (.imm (List.flatMap E_Frame x65.1) x65.1.length)) 17 (.ptr 2 0)) 19 (vi d70.2.2)) }

def hotspotlaw18_ReorderOnce_S10 (d61 : (Reorder × Int × Int × List Frame × Int)) (x65 : ((List Frame) × Reorder × Int)) (a3 : (List Hotspotref18_Step)) (x55 : Bool) (x74 : Int) (d70 : (Int × List Frame × Int)) (d75 : (List Frame × Bool)) : AS :=
 { objs := (upd (upd (upd (fun _ => .dead) 0 (.live (e_Reorder d61.1 (.imm (List.flatMap E_HeldSeq ((d61.1).Held)) ((d61.1).Held).length)))) 1 (.live (List.flatMap E_Frame d75.1))) 2 (.live (e_Reorder x65.2.1 (.imm (List.flatMap E_HeldSeq x65.2.1.Held) x65.2.1.Held.length)))), next := 3, tmps := (upd (upd (upd (upd (upd (upd (upd (upd (upd (upd (upd (fun _ => .unk) 3 (.imm (List.flatMap E_Hotspotref18_Step a3) a3.length)) 9 (vb x55)) 10 (.ptr 0 0)) 12 (vi d61.2.1)) 13 (vi (IntKind.wrap .i64 (d61.2.1 + x74)))) 14 (.ref 1 0 ((d75.1).length) 41)) 15 (vi d61.2.2.2.2)) 16 (.imm (List.flatMap E_Frame x65.1) x65.1.length)) 17 (.ptr 2 0)) 19 (vi d70.2.2)) 21 (vb d75.2)) }

def hotspotlaw18_ReorderOnce_S11 (d61 : (Reorder × Int × Int × List Frame × Int)) (x65 : ((List Frame) × Reorder × Int)) (a3 : (List Hotspotref18_Step)) (x55 : Bool) (x74 : Int) (d70 : (Int × List Frame × Int)) (d76 : (List Frame × Bool × Int)) : AS :=
 { objs := (upd (upd (upd (fun _ => .dead) 0 (.live (e_Reorder d61.1 (.imm (List.flatMap E_HeldSeq ((d61.1).Held)) ((d61.1).Held).length)))) 1 (.live (List.flatMap E_Frame d76.1))) 2 (.live (e_Reorder x65.2.1 (.imm (List.flatMap E_HeldSeq x65.2.1.Held) x65.2.1.Held.length)))), next := 3, tmps := (upd (upd (upd (upd (upd (upd (upd (upd (upd (upd (upd (upd (fun _ => .unk) 3 (.imm (List.flatMap E_Hotspotref18_Step a3) a3.length)) 9 (vb x55)) 10 (.ptr 0 0)) 12 (vi d61.2.1)) 13 (vi (IntKind.wrap .i64 (d61.2.1 + x74)))) 14 (.ref 1 0 ((d76.1).length) 41)) 15 (vi d61.2.2.2.2)) 16 (.imm (List.flatMap E_Frame x65.1) x65.1.length)) 17 (.ptr 2 0)) 19 (vi d70.2.2)) 21 (vb d76.2.1)) 22 (vi d76.2.2)) }

theorem hotspotlaw18_ReorderOnce_p (a0 : Int) (a1 : Int) (a2 : Int) (a3 : (List Hotspotref18_Step)) {r : Bool} (h0 : hotspotlaw18_ReorderOnce a0 a1 a2 a3 = some r) : SndP K 8 [(vi a0), (vi a1), (vi a2), (S_Hotspotref18_Step a3)] (vb r) := by
 refine SndP.of_walkW hC (Clean.v _) (clean_cons (Clean.v _) (clean_cons (Clean.v _) (clean_cons (Clean.v _) (clean_cons (S_Hotspotref18_Step_clean _) clean_nil)))) (show K.P.funcs[8]? = some Try.f8 from Try.func8) rfl rfl (by decide +kernel) (Nat.le_of_ble_eq_true rfl) ?_
 unfold hotspotlaw18_ReorderOnce at h0
 refine awp_nr [0,1,2,3] (fun _ => rfl) fun tz => ?_
 refine awp_regW fun KK hKK => ?_
 refine xw_id ?_
 try simp only [go_sem, Nat.reduceEqDiff, reduceIte, Nat.reduceAdd, Nat.reduceMul, Nat.reduceSub, Nat.reduceLT, Nat.reduceLeDiff]
 refine hKK _ _ (Wk.refl _ _ _) ?_; clear hKK KK
 refine awp_nr [0,1,2,3] (fun _ => rfl) fun tz => ?_
 refine awp_regW fun KK hKK => ?_
 refine xw_id ?_
 obtain ⟨x55, bx55, h0⟩ := bnd h0
 try simp only [go_sem, Nat.reduceEqDiff, reduceIte, Nat.reduceAdd, Nat.reduceMul, Nat.reduceSub, Nat.reduceLT, Nat.reduceLeDiff]
 refine xcall_p (hotspotlaw18_alive_p  bx55) ?_; try dsimp only
 try refine xw_id ?_
 try simp only [go_sem, Nat.reduceEqDiff, reduceIte, Nat.reduceAdd, Nat.reduceMul, Nat.reduceSub, Nat.reduceLT, Nat.reduceLeDiff]
 refine hKK _ _ (Wk.refl _ _ _) ?_; clear hKK KK
 refine awp_nr [0,1,2,3,9] (fun _ => rfl) fun tz => ?_
 refine awp_regW fun KK hKK => ?_
 refine xw_id ?_
 obtain ⟨x56, bx56, h0⟩ := bnd h0
 try simp only [go_sem, Nat.reduceEqDiff, reduceIte, Nat.reduceAdd, Nat.reduceMul, Nat.reduceSub, Nat.reduceLT, Nat.reduceLeDiff]
 refine xcall_p (reorder_New_p a0 a1 a2 bx56) ?_; try dsimp only
 try refine xw_id ?_
 try simp only [go_sem, Nat.reduceEqDiff, reduceIte, Nat.reduceAdd, Nat.reduceMul, Nat.reduceSub, Nat.reduceLT, Nat.reduceLeDiff]
 refine hKK _ (hotspotlaw18_ReorderOnce_S0 x56 a3 x55) (Wk.canonD [] [] [some 10] rfl trivial rfl (tmOU 0 tmO0 rfl List.not_mem_nil (by simp only [upd_get, Nat.reduceEqDiff, reduceIte, Nat.reduceAdd, Nat.reduceMul, Nat.reduceSub, Nat.reduceLT, Nat.reduceLeDiff, if_true, if_false] <;> rfl) (e_Reorder_tmx (by rfl) (Tm.clean (Clean.imm (c_HeldSeq _))))) (tmAllU 11 (tmAllU 10 (tmAllU 9 (tmAllU 3 tmAll0 (Tm.clean (Clean.imm (c_Hotspotref18_Step _)))) (Tm.v _)) (Tm.ptr rfl)) (Tm.v _))) ?_; clear hKK KK
 unfold hotspotlaw18_ReorderOnce_S0
 refine awp_assoc ?_
 refine awp_nr [3,9,10,11] (fun _ => rfl) fun tz => ?_
 refine awp_regW fun KK hKK => ?_
 refine xw_id ?_
 refine xw_stop 3 (by (try simp only [go_sem]); rfl) (by (try simp only [go_sem]); rfl) (by rfl) fun K1 hK1 => ?_
 refine xw_id ?_
 try simp only [go_sem, Nat.reduceEqDiff, reduceIte, Nat.reduceAdd, Nat.reduceMul, Nat.reduceSub, Nat.reduceLT, Nat.reduceLeDiff]
 refine hK1 _ ?_; clear hK1 K1
 obtain ⟨x58, hvh1, h0⟩ := bnd h0
 refine xw_cut 3 [(3, (.imm (List.flatMap E_Hotspotref18_Step a3) a3.length)), (9, (vb x55)), (10, (.ptr 0 0)), (36, (vb x58))] (by (try simp only [go_sem]); rfl) (by (try simp only [go_sem]); rfl) (by rfl) (fun K1 hK1 => ?_) fun tz => ?_
 ·
  refine xw_id ?_
  rcases Bool.eq_false_or_eq_true (x56.2 != 0) with h1 | h1
  ·
   have hvh1 := cT hvh1 h1
   try simp only [go_sem, Nat.reduceEqDiff, reduceIte, Nat.reduceAdd, Nat.reduceMul, Nat.reduceSub, Nat.reduceLT, Nat.reduceLeDiff, h1]
   obtain rfl := someInj hvh1
   exact hK1 _ ⟨rfl, rfl, rfl, rfl, (by first | rfl | (rw [h1]; rfl) | (simp only [h1, Bool.true_and, Bool.false_and, Bool.true_or, Bool.false_or, cond_true, cond_false]; done)), trivial⟩
  ·
   have hvh1 := cF hvh1 h1
   obtain ⟨x57, bx57, hvh1⟩ := bnd hvh1
   try simp only [go_sem, Nat.reduceEqDiff, reduceIte, Nat.reduceAdd, Nat.reduceMul, Nat.reduceSub, Nat.reduceLT, Nat.reduceLeDiff, h1]
   refine xcall_p (hotspotlaw18_great_p a3 bx57) ?_; try dsimp only
   try refine xw_id ?_
   try simp only [go_sem, Nat.reduceEqDiff, reduceIte, Nat.reduceAdd, Nat.reduceMul, Nat.reduceSub, Nat.reduceLT, Nat.reduceLeDiff, h1]
   obtain rfl := someInj hvh1
   exact hK1 _ ⟨rfl, rfl, rfl, rfl, (by first | rfl | (rw [h1]; rfl) | (simp only [h1, Bool.true_and, Bool.false_and, Bool.true_or, Bool.false_or, cond_true, cond_false]; done)), trivial⟩
 ·
  refine xw_id ?_
  refine xw_stop 1 (by (try simp only [go_sem]); rfl) (by (try simp only [go_sem]); rfl) (by rfl) fun K1 hK1 => ?_
  refine xw_id ?_
  try simp only [go_sem, Nat.reduceEqDiff, reduceIte, Nat.reduceAdd, Nat.reduceMul, Nat.reduceSub, Nat.reduceLT, Nat.reduceLeDiff]
  refine hK1 _ ?_; clear hK1 K1
  refine xw_cut 3 [(3, (.imm (List.flatMap E_Hotspotref18_Step a3) a3.length)), (9, (vb x55)), (10, (.ptr 0 0)), (40, (vb (x58 || (!x55))))] (by (try simp only [go_sem]); rfl) (by (try simp only [go_sem]); rfl) (by rfl) (fun K1 hK1 => ?_) fun tz => ?_
  ·
   refine xw_id ?_
   rcases Bool.eq_false_or_eq_true x58 with h2 | h2
   ·
    try simp only [go_sem, Nat.reduceEqDiff, reduceIte, Nat.reduceAdd, Nat.reduceMul, Nat.reduceSub, Nat.reduceLT, Nat.reduceLeDiff, h2]
    exact hK1 _ ⟨rfl, rfl, rfl, rfl, (by first | rfl | (rw [h2]; rfl) | (simp only [h2, Bool.true_and, Bool.false_and, Bool.true_or, Bool.false_or, cond_true, cond_false]; done)), trivial⟩
   ·
    try simp only [go_sem, Nat.reduceEqDiff, reduceIte, Nat.reduceAdd, Nat.reduceMul, Nat.reduceSub, Nat.reduceLT, Nat.reduceLeDiff, h2]
    exact hK1 _ ⟨rfl, rfl, rfl, rfl, (by first | rfl | (rw [h2]; rfl) | (simp only [h2, Bool.true_and, Bool.false_and, Bool.true_or, Bool.false_or, cond_true, cond_false]; done)), trivial⟩
  ·
   refine xw_id ?_
   try simp only [go_sem, Nat.reduceEqDiff, reduceIte, Nat.reduceAdd, Nat.reduceMul, Nat.reduceSub, Nat.reduceLT, Nat.reduceLeDiff]
   refine hKK _ _ (Wk.refl _ _ _) ?_; clear hKK KK
   refine awp_cond (b := (x58 || (!x55))) rfl (fun h3 => ?_) (fun h3 => ?_)
   ·
    have h0 := cT h0 h3
    refine awp_assoc ?_
    refine awp_nr [9] (fun _ => rfl) fun tz => ?_
    refine awp_regW fun KK hKK => ?_
    refine xw_id ?_
    try simp only [go_sem, Nat.reduceEqDiff, reduceIte, Nat.reduceAdd, Nat.reduceMul, Nat.reduceSub, Nat.reduceLT, Nat.reduceLeDiff]
    refine hKK _ _ (Wk.refl _ _ _) ?_; clear hKK KK
    refine awp_ret ?_
    obtain rfl := someInj h0
    refine endW_i ?_
    refine end_ret0 rs8 (rfl) ?_
    try simp only [go_sem, Nat.reduceEqDiff, reduceIte, Nat.reduceAdd, Nat.reduceMul, Nat.reduceSub, Nat.reduceLT, Nat.reduceLeDiff, fz, nilS, packR, List.take_nil, List.take_length, List.length_map, List.length_append, cond_true, cond_false, Nat.ble_eq, ble_self]
    all_goals first | rfl | (simp only [go_sem, Nat.reduceEqDiff, reduceIte, Nat.reduceAdd, Nat.reduceMul, Nat.reduceSub, Nat.reduceLT, Nat.reduceLeDiff, fz, nilS, packR, List.take_nil, List.take_length, List.length_map, List.length_append, cond_true, cond_false, Nat.ble_eq, ble_self, List.map_append] <;> rfl)
   ·
    have h0 := cF h0 h3
    refine awp_skip ?_
    refine awp_nr [3,9,10] (fun _ => rfl) fun tz => ?_
    refine awp_regW fun KK hKK => ?_
    refine xw_id ?_
    try simp only [go_sem, Nat.reduceEqDiff, reduceIte, Nat.reduceAdd, Nat.reduceMul, Nat.reduceSub, Nat.reduceLT, Nat.reduceLeDiff]
    refine hKK _ _ (Wk.refl _ _ _) ?_; clear hKK KK
    refine awp_nr [3,9,10,12,13] (fun _ => rfl) fun tz => ?_
    refine awp_regW fun KK hKK => ?_
    refine xw_id ?_
    try simp only [go_sem, Nat.reduceEqDiff, reduceIte, Nat.reduceAdd, Nat.reduceMul, Nat.reduceSub, Nat.reduceLT, Nat.reduceLeDiff]
    refine hKK _ _ (Wk.refl _ _ _) ?_; clear hKK KK
    refine awp_assoc ?_
    refine awp_nr [3,9,10,12,13,14] (fun _ => rfl) fun tz => ?_
    refine awp_regW fun KK hKK => ?_
    refine xw_id ?_
    try simp only [go_sem, Nat.reduceEqDiff, reduceIte, Nat.reduceAdd, Nat.reduceMul, Nat.reduceSub, Nat.reduceLT, Nat.reduceLeDiff]
    refine hKK _ _ (Wk.refl _ _ _) ?_; clear hKK KK
    obtain ⟨o60, hi4, h0⟩ := bnd h0
    refine awp_cut (fun d59 : (Reorder × List Frame) => o60 = Ex.go d59) (fun d59 : (Reorder × List Frame) => hotspotlaw18_ReorderOnce_S1 x55 d59) ?_ ?_
    ·
     refine awp_block1 ?_
     refine awp_loopS (fun n (d61 : (Reorder × Int × Int × List Frame × Int)) => hotspotlaw18_ReorderOnce_L3 a3 n d61 = some o60) (fun d61 : (Reorder × Int × Int × List Frame × Int) => hotspotlaw18_ReorderOnce_S2 a3 x55 d61) big (x56.1, 0, (-1), [], 0) (Wk.canonD [] [] [some 0, none] rfl trivial rfl (tmON 1 (tmOU 0 tmO0 rfl List.not_mem_nil (by simp only [upd_get, Nat.reduceEqDiff, reduceIte, Nat.reduceAdd, Nat.reduceMul, Nat.reduceSub, Nat.reduceLT, Nat.reduceLeDiff, if_true, if_false] <;> rfl) (e_Reorder_tmx (by rfl) (Tm.clean (Clean.imm (c_HeldSeq _))))) rfl) (tmAllU 15 (tmAllU 14 (tmAllU 13 (tmAllU 12 (tmAllU 10 (tmAllU 9 (tmAllU 3 tmAll0 (Tm.clean (Clean.imm (c_Hotspotref18_Step _)))) (Tm.v _)) (Tm.ptr rfl)) (Tm.v _)) (Tm.v _)) (Tm.thaw _ _ _)) (Tm.v _))) hi4 ?_
     clear hi4
     rintro n d61 hl6
     rcases n with _ | n5
     ·
      (rw [hotspotlaw18_ReorderOnce_L3] at hl6; cases hl6)
     ·
      rw [hotspotlaw18_ReorderOnce_L3] at hl6
      unfold hotspotlaw18_ReorderOnce_S2
      refine awp_assoc ?_
      refine awp_nr [3,9,10,12,13,14,15] (fun _ => rfl) fun tz => ?_
      refine awp_regW fun KK hKK => ?_
      refine xw_id ?_
      try simp only [go_sem, Nat.reduceEqDiff, reduceIte, Nat.reduceAdd, Nat.reduceMul, Nat.reduceSub, Nat.reduceLT, Nat.reduceLeDiff, Int.reduceToNat, Int.reduceBEq, Int.reduceBNe, Int.reduceLT, Int.reduceLE, Int.reduceAdd, Int.reduceSub, Int.reduceMul, Int.reduceNeg, Int.reduceEq, Int.reduceNe]
      refine hKK _ _ (Wk.refl _ _ _) ?_; clear hKK KK
      refine awp_cond (b := (decide (d61.2.2.2.2 < (a3.length : Int)))) rfl (fun h7 => ?_) (fun h7 => ?_)
      ·
       have hl6 := cT hl6 h7
       refine awp_skip ?_
       obtain ⟨o63, hi8, hl6⟩ := bnd hl6
       refine awp_cut (fun d62 : (Reorder × Int × Int × List Frame) => o63 = Ex.go d62) (fun d62 : (Reorder × Int × Int × List Frame) => hotspotlaw18_ReorderOnce_S4 a3 x55 d61 d62) ?_ ?_
       ·
        refine awp_block1 ?_
        refine awp_nr [3,9,10,12,13,14,15] (fun _ => rfl) fun tz => ?_
        refine awp_regDW fun KK hKK all hall => ?_
        refine xd_id ?_
        try simp only [List.toList_toArray, List.map_cons, List.map_nil, List.size_toArray, List.length_cons, List.length_nil, Nat.zero_add]
        try simp only [Nat.reduceAdd]
        obtain ⟨x64, bx64, hi8⟩ := bnd hi8
        obtain ⟨fx64_0, fx64_1, fx64_2, fx64_3⟩ := idx_some bx64
        obtain ⟨x65, bx65, hi8⟩ := bnd hi8
        simp only [go_sem, Nat.reduceEqDiff, reduceIte, Nat.reduceMul, Nat.reduceSub, Nat.reduceLT, Nat.reduceLeDiff, fx64_0, fx64_1, fx64_2]
        try simp only [Nat.reduceAdd]
        try simp only [go_sem, Nat.reduceEqDiff, reduceIte, Nat.reduceMul, Nat.reduceSub, Nat.reduceLT, Nat.reduceLeDiff, fx64_0, fx64_1, fx64_2]
        try simp only [Nat.reduceAdd]
        try simp only [go_sem, Nat.reduceEqDiff, reduceIte, Nat.reduceMul, Nat.reduceSub, Nat.reduceLT, Nat.reduceLeDiff, fx64_0, fx64_1, fx64_2]
        refine xcallD_p (hotspotlaw18_do_p { d61.1 with Held := (d61.1).Held } x64 bx65) ?_; try dsimp only
        try refine xd_id ?_
        simp only [go_sem, Nat.reduceEqDiff, reduceIte, Nat.reduceMul, Nat.reduceSub, Nat.reduceLT, Nat.reduceLeDiff, fx64_0, fx64_1, fx64_2]
        try simp only [Nat.reduceAdd]
        try simp only [go_sem, Nat.reduceEqDiff, reduceIte, Nat.reduceMul, Nat.reduceSub, Nat.reduceLT, Nat.reduceLeDiff, fx64_0, fx64_1, fx64_2]
        try simp only [Nat.reduceAdd]
        try simp only [go_sem, Nat.reduceEqDiff, reduceIte, Nat.reduceMul, Nat.reduceSub, Nat.reduceLT, Nat.reduceLeDiff, fx64_0, fx64_1, fx64_2]
        refine And.intro ?_ (hKK _ _ (Wk.refl _ _ _) ?_)
        ·
         subst hall
         clear hKK KK
         first | decide +kernel | (simp [printsOk, apartP, clash, meet]; done) | (simp [printsOk, apartP, clash, meet]; decide +kernel)
        ·
         clear hKK KK hall all
         refine awp_assoc ?_
         refine awp_nr [3,9,10,12,13,14,15,16,17,18] (fun _ => rfl) fun tz => ?_
         refine awp_regW fun KK hKK => ?_
         refine xw_id ?_
         try simp only [go_sem, Nat.reduceEqDiff, reduceIte, Nat.reduceAdd, Nat.reduceMul, Nat.reduceSub, Nat.reduceLT, Nat.reduceLeDiff, fx64_0, fx64_1, fx64_2]
         refine hKK _ _ (Wk.refl _ _ _) ?_; clear hKK KK
         refine awp_cond (b := (x65.2.2 != 0)) rfl (fun h9 => ?_) (fun h9 => ?_)
         ·
          have hi8 := cT hi8 h9
          refine awp_exit ?_
          refine bq_e ?_
          refine sq_n ?_
          obtain rfl := someInj hi8
          exact ⟨_, rfl, (by refine Wk.canonD [] [] [some 0, some 1] rfl trivial rfl (tmOU 1 (tmOU 0 tmO0 rfl List.not_mem_nil (by simp only [upd_get, Nat.reduceEqDiff, reduceIte, Nat.reduceAdd, Nat.reduceMul, Nat.reduceSub, Nat.reduceLT, Nat.reduceLeDiff, if_true, if_false] <;> rfl) (e_Reorder_tmx (by rfl) (Tm.clean (Clean.imm (c_HeldSeq _))))) rfl List.not_mem_nil (by simp only [upd_get, Nat.reduceEqDiff, reduceIte, Nat.reduceAdd, Nat.reduceMul, Nat.reduceSub, Nat.reduceLT, Nat.reduceLeDiff, if_true, if_false] <;> rfl) (TmL.of_eq (by first | rfl | (simp only [List.flatMap_append, List.flatMap_cons, List.flatMap_nil, List.map_append, List.map_cons, List.map_nil, List.append_nil, List.nil_append]; done) | (simp only [List.flatMap_append, List.flatMap_cons, List.flatMap_nil, List.map_append, List.map_cons, List.map_nil, List.append_nil, List.nil_append]; rfl)) (c_Frame _))) (tmAllU 15 (tmAllU 14 (tmAllU 13 (tmAllU 12 (tmAllU 10 (tmAllU 9 (tmAllU 3 tmAll0 (Tm.clean (Clean.imm (c_Hotspotref18_Step _)))) (Tm.v _)) (Tm.ptr rfl)) (Tm.v _)) (Tm.v _)) (Tm.refL rfl ?_)) (Tm.v _)); all_goals (first | rfl | (simp only [List.length_take]; omega) | (simp only [List.length_append, List.length_cons, List.length_nil, List.length_modify, List.length_set, Nat.zero_add]; done) | (simp only [List.length_append, List.length_take, List.length_drop, List.length_cons, List.length_nil, List.length_modify, List.length_set, Nat.zero_add]; omega) | (simp only [List.length_append, List.length_take, List.length_drop, List.length_cons, List.length_nil, List.length_modify, List.length_set, Nat.zero_add]; done) | omega))⟩
         ·
          have hi8 := cF hi8 h9
          refine awp_skip ?_
          refine awp_assoc ?_
          refine awp_nr [3,9,10,12,13,14,15,16,17] (fun _ => rfl) fun tz => ?_
          refine awp_regW fun KK hKK => ?_
          refine xw_id ?_
          try simp only [go_sem, Nat.reduceEqDiff, reduceIte, Nat.reduceAdd, Nat.reduceMul, Nat.reduceSub, Nat.reduceLT, Nat.reduceLeDiff, fx64_0, fx64_1, fx64_2]
          refine hKK _ _ (Wk.refl _ _ _) ?_; clear hKK KK
          obtain ⟨d66, hi10, hi8⟩ := bnd hi8
          refine awp_cut (fun z => d66 = z) (fun d66 : (List Frame) => hotspotlaw18_ReorderOnce_S5 d61 x65 a3 x55 d66) ?_ ?_
          ·
           refine awp_cond1 (b := (x64.Kind == 0)) rfl (fun h11 => ?_) (fun h11 => ?_)
           ·
            have hi10 := cT hi10 h11
            refine awp_nr1 [3,9,10,12,13,14,15,16,17] (fun _ => rfl) fun tz => ?_
            refine awp_reg1 fun KK hKK => ?_
            refine xw_id ?_
            obtain ⟨x67, bx67, hi10⟩ := bnd hi10
            have bx67 := chk_some bx67
            simp only [Bool.and_eq_true, decide_eq_true_eq] at bx67
            have gx67_0 := bx67
            try simp only [go_sem, Nat.reduceEqDiff, reduceIte, Nat.reduceAdd, Nat.reduceMul, Nat.reduceSub, Nat.reduceLT, Nat.reduceLeDiff, Int.reduceToNat, Int.reduceBEq, Int.reduceBNe, Int.reduceLT, Int.reduceLE, Int.reduceAdd, Int.reduceSub, Int.reduceMul, Int.reduceNeg, Int.reduceEq, Int.reduceNe, fx64_0, fx64_1, fx64_2, gx67_0]
            refine hKK _ ?_; clear hKK KK
            refine sq_n ?_
            obtain rfl := someInj hi10
            exact ⟨_, rfl, (by refine Wk.canonD [] [] [some 0, some 35, some 16] rfl trivial rfl (tmOU 2 (tmOU 1 (tmOU 0 tmO0 rfl List.not_mem_nil (by simp only [upd_get, Nat.reduceEqDiff, reduceIte, Nat.reduceAdd, Nat.reduceMul, Nat.reduceSub, Nat.reduceLT, Nat.reduceLeDiff, if_true, if_false] <;> rfl) (e_Reorder_tmx (by rfl) (Tm.clean (Clean.imm (c_HeldSeq _))))) rfl List.not_mem_nil (by simp only [upd_get, Nat.reduceEqDiff, reduceIte, Nat.reduceAdd, Nat.reduceMul, Nat.reduceSub, Nat.reduceLT, Nat.reduceLeDiff, if_true, if_false] <;> rfl) (TmL.of_eq (by first | rfl | (simp only [List.flatMap_append, List.flatMap_cons, List.flatMap_nil, List.map_append, List.map_cons, List.map_nil, List.append_nil, List.nil_append]; done) | (simp only [List.flatMap_append, List.flatMap_cons, List.flatMap_nil, List.map_append, List.map_cons, List.map_nil, List.append_nil, List.nil_append]; rfl)) (c_Frame _))) rfl List.not_mem_nil (by simp only [upd_get, Nat.reduceEqDiff, reduceIte, Nat.reduceAdd, Nat.reduceMul, Nat.reduceSub, Nat.reduceLT, Nat.reduceLeDiff, if_true, if_false] <;> rfl) (e_Reorder_tmx (by rfl) (Tm.clean (Clean.imm (c_HeldSeq _))))) (tmAllU 17 (tmAllU 16 (tmAllU 15 (tmAllU 14 (tmAllU 13 (tmAllU 12 (tmAllU 10 (tmAllU 9 (tmAllU 3 tmAll0 (Tm.clean (Clean.imm (c_Hotspotref18_Step _)))) (Tm.v _)) (Tm.ptr rfl)) (Tm.v _)) (Tm.v _)) (Tm.refL rfl ?_)) (Tm.v _)) (Tm.clean (Clean.imm (c_Frame _)))) (Tm.ptr rfl)); all_goals (first | rfl | (simp only [List.length_take]; omega) | (simp only [List.length_append, List.length_cons, List.length_nil, List.length_modify, List.length_set, Nat.zero_add]; done) | (simp only [List.length_append, List.length_take, List.length_drop, List.length_cons, List.length_nil, List.length_modify, List.length_set, Nat.zero_add]; omega) | (simp only [List.length_append, List.length_take, List.length_drop, List.length_cons, List.length_nil, List.length_modify, List.length_set, Nat.zero_add]; done) | omega))⟩
           ·
            have hi10 := cF hi10 h11
            refine awp_skip1 ?_
            refine sq_n ?_
            obtain rfl := someInj hi10
            exact ⟨_, rfl, (by refine Wk.canonD [] [] [some 0, some 1, some 16] rfl trivial rfl (tmOU 2 (tmOU 1 (tmOU 0 tmO0 rfl List.not_mem_nil (by simp only [upd_get, Nat.reduceEqDiff, reduceIte, Nat.reduceAdd, Nat.reduceMul, Nat.reduceSub, Nat.reduceLT, Nat.reduceLeDiff, if_true, if_false] <;> rfl) (e_Reorder_tmx (by rfl) (Tm.clean (Clean.imm (c_HeldSeq _))))) rfl List.not_mem_nil (by simp only [upd_get, Nat.reduceEqDiff, reduceIte, Nat.reduceAdd, Nat.reduceMul, Nat.reduceSub, Nat.reduceLT, Nat.reduceLeDiff, if_true, if_false] <;> rfl) (TmL.of_eq (by first | rfl | (simp only [List.flatMap_append, List.flatMap_cons, List.flatMap_nil, List.map_append, List.map_cons, List.map_nil, List.append_nil, List.nil_append]; done) | (simp only [List.flatMap_append, List.flatMap_cons, List.flatMap_nil, List.map_append, List.map_cons, List.map_nil, List.append_nil, List.nil_append]; rfl)) (c_Frame _))) rfl List.not_mem_nil (by simp only [upd_get, Nat.reduceEqDiff, reduceIte, Nat.reduceAdd, Nat.reduceMul, Nat.reduceSub, Nat.reduceLT, Nat.reduceLeDiff, if_true, if_false] <;> rfl) (e_Reorder_tmx (by rfl) (Tm.clean (Clean.imm (c_HeldSeq _))))) (tmAllU 17 (tmAllU 16 (tmAllU 15 (tmAllU 14 (tmAllU 13 (tmAllU 12 (tmAllU 10 (tmAllU 9 (tmAllU 3 tmAll0 (Tm.clean (Clean.imm (c_Hotspotref18_Step _)))) (Tm.v _)) (Tm.ptr rfl)) (Tm.v _)) (Tm.v _)) (Tm.refL rfl ?_)) (Tm.v _)) (Tm.clean (Clean.imm (c_Frame _)))) (Tm.ptr rfl)); all_goals (first | rfl | (simp only [List.length_take]; omega) | (simp only [List.length_append, List.length_cons, List.length_nil, List.length_modify, List.length_set, Nat.zero_add]; done) | (simp only [List.length_append, List.length_take, List.length_drop, List.length_cons, List.length_nil, List.length_modify, List.length_set, Nat.zero_add]; omega) | (simp only [List.length_append, List.length_take, List.length_drop, List.length_cons, List.length_nil, List.length_modify, List.length_set, Nat.zero_add]; done) | omega))⟩
          ·
           rintro _ rfl
           clear hi10
           unfold hotspotlaw18_ReorderOnce_S5
           refine awp_assoc ?_
           refine awp_nr [3,9,10,12,13,14,15,16,17] (fun _ => rfl) fun tz => ?_
           refine awp_regW fun KK hKK => ?_
           refine xw_id ?_
           try simp only [go_sem, Nat.reduceEqDiff, reduceIte, Nat.reduceAdd, Nat.reduceMul, Nat.reduceSub, Nat.reduceLT, Nat.reduceLeDiff]
           refine hKK _ _ (Wk.refl _ _ _) ?_; clear hKK KK
           obtain ⟨o69, hi12, hi8⟩ := bnd hi8
           refine awp_cut (fun d68 : (Int × List Frame) => o69 = Ex.go d68) (fun d68 : (Int × List Frame) => hotspotlaw18_ReorderOnce_S6 d61 x65 a3 x55 d68) ?_ ?_
           ·
            refine awp_block1 ?_
            refine awp_loopS (fun n (d70 : (Int × List Frame × Int)) => hotspotlaw18_ReorderOnce_L8 x65 d61 n d70 = some o69) (fun d70 : (Int × List Frame × Int) => hotspotlaw18_ReorderOnce_S7 d61 x65 a3 x55 d70) big (d61.2.2.1, d66, 0) (by refine Wk.canonD [] [] [some 0, some 1, some 2] rfl trivial rfl (tmOU 2 (tmOU 1 (tmOU 0 tmO0 rfl List.not_mem_nil (by simp only [upd_get, Nat.reduceEqDiff, reduceIte, Nat.reduceAdd, Nat.reduceMul, Nat.reduceSub, Nat.reduceLT, Nat.reduceLeDiff, if_true, if_false] <;> rfl) (e_Reorder_tmx (by rfl) (Tm.clean (Clean.imm (c_HeldSeq _))))) rfl List.not_mem_nil (by simp only [upd_get, Nat.reduceEqDiff, reduceIte, Nat.reduceAdd, Nat.reduceMul, Nat.reduceSub, Nat.reduceLT, Nat.reduceLeDiff, if_true, if_false] <;> rfl) (TmL.of_eq (by first | rfl | (simp only [List.flatMap_append, List.flatMap_cons, List.flatMap_nil, List.map_append, List.map_cons, List.map_nil, List.append_nil, List.nil_append]; done) | (simp only [List.flatMap_append, List.flatMap_cons, List.flatMap_nil, List.map_append, List.map_cons, List.map_nil, List.append_nil, List.nil_append]; rfl)) (c_Frame _))) rfl List.not_mem_nil (by simp only [upd_get, Nat.reduceEqDiff, reduceIte, Nat.reduceAdd, Nat.reduceMul, Nat.reduceSub, Nat.reduceLT, Nat.reduceLeDiff, if_true, if_false] <;> rfl) (e_Reorder_tmx (by rfl) (Tm.clean (Clean.imm (c_HeldSeq _))))) (tmAllU 19 (tmAllU 17 (tmAllU 16 (tmAllU 15 (tmAllU 14 (tmAllU 13 (tmAllU 12 (tmAllU 10 (tmAllU 9 (tmAllU 3 tmAll0 (Tm.clean (Clean.imm (c_Hotspotref18_Step _)))) (Tm.v _)) (Tm.ptr rfl)) (Tm.v _)) (Tm.v _)) (Tm.refL rfl ?_)) (Tm.v _)) (Tm.clean (Clean.imm (c_Frame _)))) (Tm.ptr rfl)) (Tm.v _)); all_goals (first | rfl | (simp only [List.length_take]; omega) | (simp only [List.length_append, List.length_cons, List.length_nil, List.length_modify, List.length_set, Nat.zero_add]; done) | (simp only [List.length_append, List.length_take, List.length_drop, List.length_cons, List.length_nil, List.length_modify, List.length_set, Nat.zero_add]; omega) | (simp only [List.length_append, List.length_take, List.length_drop, List.length_cons, List.length_nil, List.length_modify, List.length_set, Nat.zero_add]; done) | omega)) hi12 ?_
            clear hi12
            rintro n d70 hl14
            rcases n with _ | n13
            ·
             (rw [hotspotlaw18_ReorderOnce_L8] at hl14; cases hl14)
            ·
             rw [hotspotlaw18_ReorderOnce_L8] at hl14
             unfold hotspotlaw18_ReorderOnce_S7
             refine awp_assoc ?_
             refine awp_nr [3,9,10,12,13,14,15,16,17,19] (fun _ => rfl) fun tz => ?_
             refine awp_regW fun KK hKK => ?_
             refine xw_id ?_
             try simp only [go_sem, Nat.reduceEqDiff, reduceIte, Nat.reduceAdd, Nat.reduceMul, Nat.reduceSub, Nat.reduceLT, Nat.reduceLeDiff, Int.reduceToNat, Int.reduceBEq, Int.reduceBNe, Int.reduceLT, Int.reduceLE, Int.reduceAdd, Int.reduceSub, Int.reduceMul, Int.reduceNeg, Int.reduceEq, Int.reduceNe]
             refine hKK _ _ (Wk.refl _ _ _) ?_; clear hKK KK
             refine awp_cond (b := (decide (d70.2.2 < (x65.1.length : Int)))) rfl (fun h15 => ?_) (fun h15 => ?_)
             ·
              have hl14 := cT hl14 h15
              refine awp_skip ?_
              obtain ⟨o72, hi16, hl14⟩ := bnd hl14
              refine awp_cut (fun d71 : (Int × List Frame) => o72 = Ex.go d71) (fun d71 : (Int × List Frame) => hotspotlaw18_ReorderOnce_S9 d61 x65 a3 x55 d70 d71) ?_ ?_
              ·
               refine awp_block1 ?_
               refine awp_nr [3,9,10,12,13,14,15,16,17,19] (fun _ => rfl) fun tz => ?_
               refine awp_regW fun KK hKK => ?_
               refine xw_id ?_
               obtain ⟨x73, bx73, hi16⟩ := bnd hi16
               obtain ⟨fx73_0, fx73_1, fx73_2, fx73_3⟩ := idx_some bx73
               obtain ⟨x74, bx74, hi16⟩ := bnd hi16
               try simp only [go_sem, Nat.reduceEqDiff, reduceIte, Nat.reduceAdd, Nat.reduceMul, Nat.reduceSub, Nat.reduceLT, Nat.reduceLeDiff, fx73_0, fx73_1, fx73_2]
               refine xcall_p (window_Dist_p d61.1.Start x73.Head.Seq bx74) ?_; try dsimp only
               try refine xw_id ?_
               try simp only [go_sem, Nat.reduceEqDiff, reduceIte, Nat.reduceAdd, Nat.reduceMul, Nat.reduceSub, Nat.reduceLT, Nat.reduceLeDiff, fx73_0, fx73_1, fx73_2]
               refine hKK _ _ (Wk.refl _ _ _) ?_; clear hKK KK
               refine awp_assoc ?_
               refine awp_nr [3,9,10,12,13,14,15,16,17,19,20] (fun _ => rfl) fun tz => ?_
               refine awp_regW fun KK hKK => ?_
               refine xw_id ?_
               try simp only [go_sem, Nat.reduceEqDiff, reduceIte, Nat.reduceAdd, Nat.reduceMul, Nat.reduceSub, Nat.reduceLT, Nat.reduceLeDiff, fx73_0, fx73_1, fx73_2]
               refine hKK _ _ (Wk.refl _ _ _) ?_; clear hKK KK
               refine awp_cond (b := (decide ((IntKind.wrap .i64 (d61.2.1 + x74)) ≤ d70.1))) rfl (fun h17 => ?_) (fun h17 => ?_)
               ·
                have hi16 := cT hi16 h17
                refine awp_assoc ?_
                refine awp_nr [] (fun _ => rfl) fun tz => ?_
                refine awp_regW fun KK hKK => ?_
                refine xw_id ?_
                try simp only [go_sem, Nat.reduceEqDiff, reduceIte, Nat.reduceAdd, Nat.reduceMul, Nat.reduceSub, Nat.reduceLT, Nat.reduceLeDiff, fx73_0, fx73_1, fx73_2]
                refine hKK _ _ (Wk.refl _ _ _) ?_; clear hKK KK
                refine awp_ret ?_
                refine bq_r ?_
                refine sq_r ?_
                refine lq_r ?_
                refine bq_r ?_
                refine sq_r ?_
                refine bq_r ?_
                refine sq_r ?_
                refine lq_r ?_
                refine bq_r ?_
                refine sq_r ?_
                obtain rfl := someInj hi16
                obtain rfl := Ex.kE_ret hl14
                obtain rfl := Ex.kE_ret hi8
                obtain rfl := Ex.kE_ret hl6
                obtain rfl := Ex.k_ret h0
                refine endW_i ?_
                refine end_ret0 rs8 (rfl) ?_
                try simp only [go_sem, Nat.reduceEqDiff, reduceIte, Nat.reduceAdd, Nat.reduceMul, Nat.reduceSub, Nat.reduceLT, Nat.reduceLeDiff, fz, nilS, packR, List.take_nil, List.take_length, List.length_map, List.length_append, cond_true, cond_false, Nat.ble_eq, ble_self]
                all_goals first | rfl | (simp only [go_sem, Nat.reduceEqDiff, reduceIte, Nat.reduceAdd, Nat.reduceMul, Nat.reduceSub, Nat.reduceLT, Nat.reduceLeDiff, fz, nilS, packR, List.take_nil, List.take_length, List.length_map, List.length_append, cond_true, cond_false, Nat.ble_eq, ble_self, List.map_append] <;> rfl)
               ·
                have hi16 := cF hi16 h17
                refine awp_skip ?_
                refine awp_nr [3,9,10,12,14,15,16,17,19,20] (fun _ => rfl) fun tz => ?_
                refine awp_regW fun KK hKK => ?_
                refine xw_id ?_
                try simp only [go_sem, Nat.reduceEqDiff, reduceIte, Nat.reduceAdd, Nat.reduceMul, Nat.reduceSub, Nat.reduceLT, Nat.reduceLeDiff, fx73_0, fx73_1, fx73_2]
                refine hKK _ _ (Wk.refl _ _ _) ?_; clear hKK KK
                refine awp_nr [3,9,10,12,13,14,15,16,17,19] (fun _ => rfl) fun tz => ?_
                refine awp_regW fun KK hKK => ?_
                refine xw_id ?_
                try simp only [go_sem, Nat.reduceEqDiff, reduceIte, Nat.reduceAdd, Nat.reduceMul, Nat.reduceSub, Nat.reduceLT, Nat.reduceLeDiff, fx73_0, fx73_1, fx73_2]
                refine hKK _ _ (Wk.refl _ _ _) ?_; clear hKK KK
                refine awp_assoc ?_
                refine awp_nr [3,9,10,12,13,14,15,16,17,19,21] (fun _ => rfl) fun tz => ?_
                refine awp_regW fun KK hKK => ?_
                refine xw_id ?_
                try simp only [go_sem, Nat.reduceEqDiff, reduceIte, Nat.reduceAdd, Nat.reduceMul, Nat.reduceSub, Nat.reduceLT, Nat.reduceLeDiff, fx73_0, fx73_1, fx73_2]
                refine hKK _ _ (Wk.refl _ _ _) ?_; clear hKK KK
                obtain ⟨d75, hi18, hi16⟩ := bnd hi16
                refine awp_cut (fun z => d75 = z) (fun d75 : (List Frame × Bool) => hotspotlaw18_ReorderOnce_S10 d61 x65 a3 x55 x74 d70 d75) ?_ ?_
                ·
                 refine awp_block1 ?_
                 refine awp_loopS (fun n (d76 : (List Frame × Bool × Int)) => hotspotlaw18_ReorderOnce_L12 x65 d70 n d76 = some d75) (fun d76 : (List Frame × Bool × Int) => hotspotlaw18_ReorderOnce_S11 d61 x65 a3 x55 x74 d70 d76) big (d70.2.1, false, 0) (by refine Wk.canonD [] [] [some 0, some 1, some 2] rfl trivial rfl (tmOU 2 (tmOU 1 (tmOU 0 tmO0 rfl List.not_mem_nil (by simp only [upd_get, Nat.reduceEqDiff, reduceIte, Nat.reduceAdd, Nat.reduceMul, Nat.reduceSub, Nat.reduceLT, Nat.reduceLeDiff, if_true, if_false] <;> rfl) (e_Reorder_tmx (by rfl) (Tm.clean (Clean.imm (c_HeldSeq _))))) rfl List.not_mem_nil (by simp only [upd_get, Nat.reduceEqDiff, reduceIte, Nat.reduceAdd, Nat.reduceMul, Nat.reduceSub, Nat.reduceLT, Nat.reduceLeDiff, if_true, if_false] <;> rfl) (TmL.of_eq (by first | rfl | (simp only [List.flatMap_append, List.flatMap_cons, List.flatMap_nil, List.map_append, List.map_cons, List.map_nil, List.append_nil, List.nil_append]; done) | (simp only [List.flatMap_append, List.flatMap_cons, List.flatMap_nil, List.map_append, List.map_cons, List.map_nil, List.append_nil, List.nil_append]; rfl)) (c_Frame _))) rfl List.not_mem_nil (by simp only [upd_get, Nat.reduceEqDiff, reduceIte, Nat.reduceAdd, Nat.reduceMul, Nat.reduceSub, Nat.reduceLT, Nat.reduceLeDiff, if_true, if_false] <;> rfl) (e_Reorder_tmx (by rfl) (Tm.clean (Clean.imm (c_HeldSeq _))))) (tmAllU 22 (tmAllU 21 (tmAllU 19 (tmAllU 17 (tmAllU 16 (tmAllU 15 (tmAllU 14 (tmAllU 13 (tmAllU 12 (tmAllU 10 (tmAllU 9 (tmAllU 3 tmAll0 (Tm.clean (Clean.imm (c_Hotspotref18_Step _)))) (Tm.v _)) (Tm.ptr rfl)) (Tm.v _)) (Tm.v _)) (Tm.refL rfl ?_)) (Tm.v _)) (Tm.clean (Clean.imm (c_Frame _)))) (Tm.ptr rfl)) (Tm.v _)) (Tm.v _)) (Tm.v _)); all_goals (first | rfl | (simp only [List.length_take]; omega) | (simp only [List.length_append, List.length_cons, List.length_nil, List.length_modify, List.length_set, Nat.zero_add]; done) | (simp only [List.length_append, List.length_take, List.length_drop, List.length_cons, List.length_nil, List.length_modify, List.length_set, Nat.zero_add]; omega) | (simp only [List.length_append, List.length_take, List.length_drop, List.length_cons, List.length_nil, List.length_modify, List.length_set, Nat.zero_add]; done) | omega)) hi18 ?_
                 clear hi18
                 rintro n d76 hl20
                 rcases n with _ | n19
                 ·
                  (rw [hotspotlaw18_ReorderOnce_L12] at hl20; cases hl20)
                 ·
                  rw [hotspotlaw18_ReorderOnce_L12] at hl20
                  unfold hotspotlaw18_ReorderOnce_S11
                  refine awp_assoc ?_
                  refine awp_nr [3,9,10,12,13,14,15,16,17,19,21,22] (fun _ => rfl) fun tz => ?_
                  refine awp_regW fun KK hKK => ?_
                  refine xw_id ?_
                  refine xw_stop 5 (by (try simp only [go_sem]); rfl) (by (try simp only [go_sem]); rfl) (by rfl) fun K1 hK1 => ?_
                  refine xw_id ?_
                  try simp only [go_sem, Nat.reduceEqDiff, reduceIte, Nat.reduceAdd, Nat.reduceMul, Nat.reduceSub, Nat.reduceLT, Nat.reduceLeDiff, Int.reduceToNat, Int.reduceBEq, Int.reduceBNe, Int.reduceLT, Int.reduceLE, Int.reduceAdd, Int.reduceSub, Int.reduceMul, Int.reduceNeg, Int.reduceEq, Int.reduceNe]
                  refine hK1 _ ?_; clear hK1 K1
                  refine xw_cut 3 [(3, (.imm (List.flatMap E_Hotspotref18_Step a3) a3.length)), (9, (vb x55)), (10, (.ptr 0 0)), (12, (vi d61.2.1)), (13, (vi (IntKind.wrap .i64 (d61.2.1 + x74)))), (14, (.ref 1 0 ((d76.1).length) 41)), (15, (vi d61.2.2.2.2)), (16, (.imm (List.flatMap E_Frame x65.1) x65.1.length)), (17, (.ptr 2 0)), (19, (vi d70.2.2)), (21, (vb d76.2.1)), (22, (vi d76.2.2)), (102, (vb ((decide (d76.2.2 < (((d76.1).length : Nat) : Int))) && (!d76.2.1))))] (by (try simp only [go_sem]); rfl) (by (try simp only [go_sem]); rfl) (by rfl) (fun K1 hK1 => ?_) fun tz => ?_
                  ·
                   refine xw_id ?_
                   rcases Bool.eq_false_or_eq_true (decide (d76.2.2 < (((d76.1).length : Nat) : Int))) with h21 | h21
                   ·
                    try simp only [go_sem, Nat.reduceEqDiff, reduceIte, Nat.reduceAdd, Nat.reduceMul, Nat.reduceSub, Nat.reduceLT, Nat.reduceLeDiff, Int.reduceToNat, Int.reduceBEq, Int.reduceBNe, Int.reduceLT, Int.reduceLE, Int.reduceAdd, Int.reduceSub, Int.reduceMul, Int.reduceNeg, Int.reduceEq, Int.reduceNe, h21]
                    exact hK1 _ ⟨rfl, rfl, rfl, rfl, rfl, rfl, rfl, rfl, rfl, rfl, rfl, rfl, rfl, (by first | rfl | (rw [h21]; rfl) | (simp only [h21, Bool.true_and, Bool.false_and, Bool.true_or, Bool.false_or, cond_true, cond_false]; done)), trivial⟩
                   ·
                    try simp only [go_sem, Nat.reduceEqDiff, reduceIte, Nat.reduceAdd, Nat.reduceMul, Nat.reduceSub, Nat.reduceLT, Nat.reduceLeDiff, Int.reduceToNat, Int.reduceBEq, Int.reduceBNe, Int.reduceLT, Int.reduceLE, Int.reduceAdd, Int.reduceSub, Int.reduceMul, Int.reduceNeg, Int.reduceEq, Int.reduceNe, h21]
                    exact hK1 _ ⟨rfl, rfl, rfl, rfl, rfl, rfl, rfl, rfl, rfl, rfl, rfl, rfl, rfl, (by first | rfl | (rw [h21]; rfl) | (simp only [h21, Bool.true_and, Bool.false_and, Bool.true_or, Bool.false_or, cond_true, cond_false]; done)), trivial⟩
                  ·
                   refine xw_id ?_
                   try simp only [go_sem, Nat.reduceEqDiff, reduceIte, Nat.reduceAdd, Nat.reduceMul, Nat.reduceSub, Nat.reduceLT, Nat.reduceLeDiff, Int.reduceToNat, Int.reduceBEq, Int.reduceBNe, Int.reduceLT, Int.reduceLE, Int.reduceAdd, Int.reduceSub, Int.reduceMul, Int.reduceNeg, Int.reduceEq, Int.reduceNe]
                   refine hKK _ _ (Wk.refl _ _ _) ?_; clear hKK KK
                   refine awp_cond (b := ((decide (d76.2.2 < (((d76.1).length : Nat) : Int))) && (!d76.2.1))) rfl (fun h22 => ?_) (fun h22 => ?_)
                   ·
                    have hl20 := cT hl20 h22
                    refine awp_skip ?_
                    refine awp_blockW ?_
                    refine awp_nr [3,9,10,12,13,14,15,16,17,19,21,22] (fun _ => rfl) fun tz => ?_
                    refine awp_regW fun KK hKK => ?_
                    refine xw_id ?_
                    obtain ⟨x77, bx77, hl20⟩ := bnd hl20
                    obtain ⟨fx77_0, fx77_1, fx77_2, fx77_3⟩ := idx_some bx77
                    have fx77_5 : ((d76.2.2 : Int) < (((d76.1).length : Nat) : Int)) = True := by first | exact fx77_1 | (simp [List.length_modify, List.length_set]; omega)
                    obtain ⟨x78, bx78, hl20⟩ := bnd hl20
                    obtain ⟨fx78_0, fx78_1, fx78_2, fx78_3⟩ := idx_some bx78
                    obtain ⟨x79, bx79, hl20⟩ := bnd hl20
                    try simp only [go_sem, Nat.reduceEqDiff, reduceIte, Nat.reduceAdd, Nat.reduceMul, Nat.reduceSub, Nat.reduceLT, Nat.reduceLeDiff, fx77_0, fx77_1, fx77_2, fx77_5, fx78_0, fx78_1, fx78_2]
                    refine xcall_p (hotspotref05_Same_p x77 x78 bx79) ?_; try dsimp only
                    try refine xw_id ?_
                    try simp only [go_sem, Nat.reduceEqDiff, reduceIte, Nat.reduceAdd, Nat.reduceMul, Nat.reduceSub, Nat.reduceLT, Nat.reduceLeDiff, fx77_0, fx77_1, fx77_2, fx77_5, fx78_0, fx78_1, fx78_2]
                    refine hKK _ _ (Wk.refl _ _ _) ?_; clear hKK KK
                    refine awp_cond1 (b := x79) rfl (fun h23 => ?_) (fun h23 => ?_)
                    ·
                     have hl20 := cT hl20 h23
                     refine awp_nr [3,9,10,12,13,14,15,16,17,19,22] (fun _ => rfl) fun tz => ?_
                     refine awp_regDW fun KK hKK all hall => ?_
                     refine xd_id ?_
                     try simp only [List.toList_toArray, List.map_cons, List.map_nil, List.size_toArray, List.length_cons, List.length_nil, Nat.zero_add]
                     try simp only [Nat.reduceAdd]
                     obtain ⟨x80, bx80, hl20⟩ := bnd hl20
                     have bx80 := chk_some bx80
                     simp only [Bool.and_eq_true, decide_eq_true_eq] at bx80
                     obtain ⟨gx80_0, gx80_1⟩ := bx80
                     have gp24 : sub? (List.flatMap E_Frame d76.1) 0 (((d76.2.2).toNat) * 41) = some (List.flatMap E_Frame (List.take ((d76.2.2).toNat) d76.1)) := rows_subT l_Frame _ _ (by omega)
                     have gp24l : (List.take ((d76.2.2).toNat) d76.1).length = ((d76.2.2).toNat) := List.length_take_of_le (by omega)
                     obtain ⟨x81, bx81, hl20⟩ := bnd hl20
                     have bx81 := chk_some bx81
                     simp only [Bool.and_eq_true, decide_eq_true_eq] at bx81
                     have gx81_0 := bx81
                     obtain ⟨x82, bx82, hl20⟩ := bnd hl20
                     have bx82 := chk_some bx82
                     simp only [Bool.and_eq_true, decide_eq_true_eq] at bx82
                     obtain ⟨gx82_0, gx82_1⟩ := bx82
                     have g25 : ((((d76.1).length : Nat) : Int) - (IntKind.wrap .i64 (d76.2.2 + 1))).toNat = ((d76.1).length) - (IntKind.wrap .i64 (d76.2.2 + 1)).toNat := by omega
                     have gp26 : sub? (List.flatMap E_Frame d76.1) (((IntKind.wrap .i64 (d76.2.2 + 1)).toNat) * 41) ((((d76.1).length) - (IntKind.wrap .i64 (d76.2.2 + 1)).toNat) * 41) = some (List.flatMap E_Frame (List.drop ((IntKind.wrap .i64 (d76.2.2 + 1)).toNat) d76.1)) := rows_subD l_Frame _ _ (by omega)
                     obtain ⟨x83, bx83, hl20⟩ := bnd hl20
                     have bx83 := chk_some bx83
                     simp only [Bool.and_eq_true, decide_eq_true_eq] at bx83
                     have gx83_0 := bx83
                     simp only [go_sem, Nat.reduceEqDiff, reduceIte, Nat.reduceMul, Nat.reduceSub, Nat.reduceLT, Nat.reduceLeDiff, Int.reduceToNat, Int.reduceBEq, Int.reduceBNe, Int.reduceLT, Int.reduceLE, Int.reduceAdd, Int.reduceSub, Int.reduceMul, Int.reduceNeg, Int.reduceEq, Int.reduceNe, fx77_0, fx77_1, fx77_2, fx77_5, fx78_0, fx78_1, fx78_2, gx80_0, gx80_1, Int.sub_zero, gp24, gp24l, gx81_0, gx82_0, gx82_1, g25, gp26, gx83_0]
                     try simp only [Nat.reduceAdd]
                     try simp only [go_sem, Nat.reduceEqDiff, reduceIte, Nat.reduceMul, Nat.reduceSub, Nat.reduceLT, Nat.reduceLeDiff, Int.reduceToNat, Int.reduceBEq, Int.reduceBNe, Int.reduceLT, Int.reduceLE, Int.reduceAdd, Int.reduceSub, Int.reduceMul, Int.reduceNeg, Int.reduceEq, Int.reduceNe, fx77_0, fx77_1, fx77_2, fx77_5, fx78_0, fx78_1, fx78_2, gx80_0, gx80_1, Int.sub_zero, gp24, gp24l, gx81_0, gx82_0, gx82_1, g25, gp26, gx83_0]
                     try simp only [Nat.reduceAdd]
                     try simp only [go_sem, Nat.reduceEqDiff, reduceIte, Nat.reduceMul, Nat.reduceSub, Nat.reduceLT, Nat.reduceLeDiff, Int.reduceToNat, Int.reduceBEq, Int.reduceBNe, Int.reduceLT, Int.reduceLE, Int.reduceAdd, Int.reduceSub, Int.reduceMul, Int.reduceNeg, Int.reduceEq, Int.reduceNe, fx77_0, fx77_1, fx77_2, fx77_5, fx78_0, fx78_1, fx78_2, gx80_0, gx80_1, Int.sub_zero, gp24, gp24l, gx81_0, gx82_0, gx82_1, g25, gp26, gx83_0]
                     refine And.intro ?_ (hKK _ _ (Wk.refl _ _ _) ?_)
                     ·
                      subst hall
                      clear hKK KK
                      first | decide +kernel | (simp [printsOk, apartP, clash, meet]; done) | (simp [printsOk, apartP, clash, meet]; decide +kernel)
                     ·
                      clear hKK KK hall all
                      refine awp_nr1 [3,9,10,12,13,14,15,16,17,19,22] (fun _ => rfl) fun tz => ?_
                      refine awp_reg1 fun KK hKK => ?_
                      refine xw_id ?_
                      try simp only [go_sem, Nat.reduceEqDiff, reduceIte, Nat.reduceAdd, Nat.reduceMul, Nat.reduceSub, Nat.reduceLT, Nat.reduceLeDiff, fx77_0, fx77_1, fx77_2, fx77_5, fx78_0, fx78_1, fx78_2]
                      refine hKK _ ?_; clear hKK KK
                      refine bq_n ?_
                      refine seqW_i ?_
                      refine awp_nr1 [3,9,10,12,13,14,15,16,17,19,21,22] (fun _ => rfl) fun tz => ?_
                      refine awp_reg1 fun KK hKK => ?_
                      refine xw_id ?_
                      try simp only [go_sem, Nat.reduceEqDiff, reduceIte, Nat.reduceAdd, Nat.reduceMul, Nat.reduceSub, Nat.reduceLT, Nat.reduceLeDiff, fx77_0, fx77_1, fx77_2, fx77_5, fx78_0, fx78_1, fx78_2]
                      refine hKK _ ?_; clear hKK KK
                      refine lq_n ?_
                      exact ⟨n19, (((List.take ((d76.2.2).toNat) d76.1) ++ (List.drop ((IntKind.wrap .i64 (d76.2.2 + 1)).toNat) d76.1)), true, IntKind.wrap .i64 (d76.2.2 + 1)), rfl, hl20, (by refine Wk.canonD [] [] [some 0, some 29, some 2] rfl trivial rfl (tmOU 2 (tmOU 1 (tmOU 0 tmO0 rfl List.not_mem_nil (by simp only [upd_get, Nat.reduceEqDiff, reduceIte, Nat.reduceAdd, Nat.reduceMul, Nat.reduceSub, Nat.reduceLT, Nat.reduceLeDiff, if_true, if_false] <;> rfl) (e_Reorder_tmx (by rfl) (Tm.clean (Clean.imm (c_HeldSeq _))))) rfl List.not_mem_nil (by simp only [upd_get, Nat.reduceEqDiff, reduceIte, Nat.reduceAdd, Nat.reduceMul, Nat.reduceSub, Nat.reduceLT, Nat.reduceLeDiff, if_true, if_false] <;> rfl) (TmL.of_eq (by first | rfl | (simp only [List.flatMap_append, List.flatMap_cons, List.flatMap_nil, List.map_append, List.map_cons, List.map_nil, List.append_nil, List.nil_append]; done) | (simp only [List.flatMap_append, List.flatMap_cons, List.flatMap_nil, List.map_append, List.map_cons, List.map_nil, List.append_nil, List.nil_append]; rfl)) (c_Frame _))) rfl List.not_mem_nil (by simp only [upd_get, Nat.reduceEqDiff, reduceIte, Nat.reduceAdd, Nat.reduceMul, Nat.reduceSub, Nat.reduceLT, Nat.reduceLeDiff, if_true, if_false] <;> rfl) (e_Reorder_tmx (by rfl) (Tm.clean (Clean.imm (c_HeldSeq _))))) (tmAllU 22 (tmAllU 21 (tmAllU 19 (tmAllU 17 (tmAllU 16 (tmAllU 15 (tmAllU 14 (tmAllU 13 (tmAllU 12 (tmAllU 10 (tmAllU 9 (tmAllU 3 tmAll0 (Tm.clean (Clean.imm (c_Hotspotref18_Step _)))) (Tm.v _)) (Tm.ptr rfl)) (Tm.v _)) (Tm.v _)) (Tm.refL rfl ?_)) (Tm.v _)) (Tm.clean (Clean.imm (c_Frame _)))) (Tm.ptr rfl)) (Tm.v _)) (Tm.v _)) (Tm.v _)); all_goals (first | rfl | (simp only [List.length_take]; omega) | (simp only [List.length_append, List.length_cons, List.length_nil, List.length_modify, List.length_set, Nat.zero_add]; done) | (simp only [List.length_append, List.length_take, List.length_drop, List.length_cons, List.length_nil, List.length_modify, List.length_set, Nat.zero_add]; omega) | (simp only [List.length_append, List.length_take, List.length_drop, List.length_cons, List.length_nil, List.length_modify, List.length_set, Nat.zero_add]; done) | omega))⟩
                    ·
                     have hl20 := cF hl20 h23
                     refine awp_skip1 ?_
                     refine bq_n ?_
                     refine seqW_i ?_
                     refine awp_nr1 [3,9,10,12,13,14,15,16,17,19,21,22] (fun _ => rfl) fun tz => ?_
                     refine awp_reg1 fun KK hKK => ?_
                     refine xw_id ?_
                     try simp only [go_sem, Nat.reduceEqDiff, reduceIte, Nat.reduceAdd, Nat.reduceMul, Nat.reduceSub, Nat.reduceLT, Nat.reduceLeDiff, fx77_0, fx77_1, fx77_2, fx77_5, fx78_0, fx78_1, fx78_2]
                     refine hKK _ ?_; clear hKK KK
                     refine lq_n ?_
                     exact ⟨n19, (d76.1, d76.2.1, IntKind.wrap .i64 (d76.2.2 + 1)), rfl, hl20, (by refine Wk.canonD [] [] [some 0, some 1, some 2] rfl trivial rfl (tmOU 2 (tmOU 1 (tmOU 0 tmO0 rfl List.not_mem_nil (by simp only [upd_get, Nat.reduceEqDiff, reduceIte, Nat.reduceAdd, Nat.reduceMul, Nat.reduceSub, Nat.reduceLT, Nat.reduceLeDiff, if_true, if_false] <;> rfl) (e_Reorder_tmx (by rfl) (Tm.clean (Clean.imm (c_HeldSeq _))))) rfl List.not_mem_nil (by simp only [upd_get, Nat.reduceEqDiff, reduceIte, Nat.reduceAdd, Nat.reduceMul, Nat.reduceSub, Nat.reduceLT, Nat.reduceLeDiff, if_true, if_false] <;> rfl) (TmL.of_eq (by first | rfl | (simp only [List.flatMap_append, List.flatMap_cons, List.flatMap_nil, List.map_append, List.map_cons, List.map_nil, List.append_nil, List.nil_append]; done) | (simp only [List.flatMap_append, List.flatMap_cons, List.flatMap_nil, List.map_append, List.map_cons, List.map_nil, List.append_nil, List.nil_append]; rfl)) (c_Frame _))) rfl List.not_mem_nil (by simp only [upd_get, Nat.reduceEqDiff, reduceIte, Nat.reduceAdd, Nat.reduceMul, Nat.reduceSub, Nat.reduceLT, Nat.reduceLeDiff, if_true, if_false] <;> rfl) (e_Reorder_tmx (by rfl) (Tm.clean (Clean.imm (c_HeldSeq _))))) (tmAllU 22 (tmAllU 21 (tmAllU 19 (tmAllU 17 (tmAllU 16 (tmAllU 15 (tmAllU 14 (tmAllU 13 (tmAllU 12 (tmAllU 10 (tmAllU 9 (tmAllU 3 tmAll0 (Tm.clean (Clean.imm (c_Hotspotref18_Step _)))) (Tm.v _)) (Tm.ptr rfl)) (Tm.v _)) (Tm.v _)) (Tm.refL rfl ?_)) (Tm.v _)) (Tm.clean (Clean.imm (c_Frame _)))) (Tm.ptr rfl)) (Tm.v _)) (Tm.v _)) (Tm.v _)); all_goals (first | rfl | (simp only [List.length_take]; omega) | (simp only [List.length_append, List.length_cons, List.length_nil, List.length_modify, List.length_set, Nat.zero_add]; done) | (simp only [List.length_append, List.length_take, List.length_drop, List.length_cons, List.length_nil, List.length_modify, List.length_set, Nat.zero_add]; omega) | (simp only [List.length_append, List.length_take, List.length_drop, List.length_cons, List.length_nil, List.length_modify, List.length_set, Nat.zero_add]; done) | omega))⟩
                   ·
                    have hl20 := cF hl20 h22
                    refine awp_exit ?_
                    refine lq_e ?_
                    refine bq_e ?_
                    refine sq_n ?_
                    obtain rfl := someInj hl20
                    exact ⟨_, rfl, (by refine Wk.canonD [] [] [some 0, some 1, some 2] rfl trivial rfl (tmOU 2 (tmOU 1 (tmOU 0 tmO0 rfl List.not_mem_nil (by simp only [upd_get, Nat.reduceEqDiff, reduceIte, Nat.reduceAdd, Nat.reduceMul, Nat.reduceSub, Nat.reduceLT, Nat.reduceLeDiff, if_true, if_false] <;> rfl) (e_Reorder_tmx (by rfl) (Tm.clean (Clean.imm (c_HeldSeq _))))) rfl List.not_mem_nil (by simp only [upd_get, Nat.reduceEqDiff, reduceIte, Nat.reduceAdd, Nat.reduceMul, Nat.reduceSub, Nat.reduceLT, Nat.reduceLeDiff, if_true, if_false] <;> rfl) (TmL.of_eq (by first | rfl | (simp only [List.flatMap_append, List.flatMap_cons, List.flatMap_nil, List.map_append, List.map_cons, List.map_nil, List.append_nil, List.nil_append]; done) | (simp only [List.flatMap_append, List.flatMap_cons, List.flatMap_nil, List.map_append, List.map_cons, List.map_nil, List.append_nil, List.nil_append]; rfl)) (c_Frame _))) rfl List.not_mem_nil (by simp only [upd_get, Nat.reduceEqDiff, reduceIte, Nat.reduceAdd, Nat.reduceMul, Nat.reduceSub, Nat.reduceLT, Nat.reduceLeDiff, if_true, if_false] <;> rfl) (e_Reorder_tmx (by rfl) (Tm.clean (Clean.imm (c_HeldSeq _))))) (tmAllU 21 (tmAllU 19 (tmAllU 17 (tmAllU 16 (tmAllU 15 (tmAllU 14 (tmAllU 13 (tmAllU 12 (tmAllU 10 (tmAllU 9 (tmAllU 3 tmAll0 (Tm.clean (Clean.imm (c_Hotspotref18_Step _)))) (Tm.v _)) (Tm.ptr rfl)) (Tm.v _)) (Tm.v _)) (Tm.refL rfl ?_)) (Tm.v _)) (Tm.clean (Clean.imm (c_Frame _)))) (Tm.ptr rfl)) (Tm.v _)) (Tm.v _)); all_goals (first | rfl | (simp only [List.length_take]; omega) | (simp only [List.length_append, List.length_cons, List.length_nil, List.length_modify, List.length_set, Nat.zero_add]; done) | (simp only [List.length_append, List.length_take, List.length_drop, List.length_cons, List.length_nil, List.length_modify, List.length_set, Nat.zero_add]; omega) | (simp only [List.length_append, List.length_take, List.length_drop, List.length_cons, List.length_nil, List.length_modify, List.length_set, Nat.zero_add]; done) | omega))⟩
                ·
                 rintro _ rfl
                 clear hi18
                 unfold hotspotlaw18_ReorderOnce_S10
                 refine awp_nr [3,9,10,12,13,14,15,16,17,19,21] (fun _ => rfl) fun tz => ?_
                 refine awp_regW fun KK hKK => ?_
                 refine xw_id ?_
                 try simp only [go_sem, Nat.reduceEqDiff, reduceIte, Nat.reduceAdd, Nat.reduceMul, Nat.reduceSub, Nat.reduceLT, Nat.reduceLeDiff]
                 refine hKK _ _ (Wk.refl _ _ _) ?_; clear hKK KK
                 refine awp_cond1 (b := (!d75.2)) rfl (fun h27 => ?_) (fun h27 => ?_)
                 ·
                  have hi16 := cT hi16 h27
                  refine awp_nr [] (fun _ => rfl) fun tz => ?_
                  refine awp_regW fun KK hKK => ?_
                  refine xw_id ?_
                  try simp only [go_sem, Nat.reduceEqDiff, reduceIte, Nat.reduceAdd, Nat.reduceMul, Nat.reduceSub, Nat.reduceLT, Nat.reduceLeDiff]
                  refine hKK _ _ (Wk.refl _ _ _) ?_; clear hKK KK
                  refine awp_ret1 ?_
                  refine bq_r ?_
                  refine sq_r ?_
                  refine lq_r ?_
                  refine bq_r ?_
                  refine sq_r ?_
                  refine bq_r ?_
                  refine sq_r ?_
                  refine lq_r ?_
                  refine bq_r ?_
                  refine sq_r ?_
                  obtain rfl := someInj hi16
                  obtain rfl := Ex.kE_ret hl14
                  obtain rfl := Ex.kE_ret hi8
                  obtain rfl := Ex.kE_ret hl6
                  obtain rfl := Ex.k_ret h0
                  refine endW_i ?_
                  refine end_ret0 rs8 (rfl) ?_
                  try simp only [go_sem, Nat.reduceEqDiff, reduceIte, Nat.reduceAdd, Nat.reduceMul, Nat.reduceSub, Nat.reduceLT, Nat.reduceLeDiff, fz, nilS, packR, List.take_nil, List.take_length, List.length_map, List.length_append, cond_true, cond_false, Nat.ble_eq, ble_self]
                  all_goals first | rfl | (simp only [go_sem, Nat.reduceEqDiff, reduceIte, Nat.reduceAdd, Nat.reduceMul, Nat.reduceSub, Nat.reduceLT, Nat.reduceLeDiff, fz, nilS, packR, List.take_nil, List.take_length, List.length_map, List.length_append, cond_true, cond_false, Nat.ble_eq, ble_self, List.map_append] <;> rfl)
                 ·
                  have hi16 := cF hi16 h27
                  refine awp_skip1 ?_
                  refine bq_n ?_
                  refine sq_n ?_
                  obtain rfl := someInj hi16
                  exact ⟨_, rfl, (by refine Wk.canonD [] [] [some 0, some 1, some 2] rfl trivial rfl (tmOU 2 (tmOU 1 (tmOU 0 tmO0 rfl List.not_mem_nil (by simp only [upd_get, Nat.reduceEqDiff, reduceIte, Nat.reduceAdd, Nat.reduceMul, Nat.reduceSub, Nat.reduceLT, Nat.reduceLeDiff, if_true, if_false] <;> rfl) (e_Reorder_tmx (by rfl) (Tm.clean (Clean.imm (c_HeldSeq _))))) rfl List.not_mem_nil (by simp only [upd_get, Nat.reduceEqDiff, reduceIte, Nat.reduceAdd, Nat.reduceMul, Nat.reduceSub, Nat.reduceLT, Nat.reduceLeDiff, if_true, if_false] <;> rfl) (TmL.of_eq (by first | rfl | (simp only [List.flatMap_append, List.flatMap_cons, List.flatMap_nil, List.map_append, List.map_cons, List.map_nil, List.append_nil, List.nil_append]; done) | (simp only [List.flatMap_append, List.flatMap_cons, List.flatMap_nil, List.map_append, List.map_cons, List.map_nil, List.append_nil, List.nil_append]; rfl)) (c_Frame _))) rfl List.not_mem_nil (by simp only [upd_get, Nat.reduceEqDiff, reduceIte, Nat.reduceAdd, Nat.reduceMul, Nat.reduceSub, Nat.reduceLT, Nat.reduceLeDiff, if_true, if_false] <;> rfl) (e_Reorder_tmx (by rfl) (Tm.clean (Clean.imm (c_HeldSeq _))))) (tmAllU 19 (tmAllU 17 (tmAllU 16 (tmAllU 15 (tmAllU 14 (tmAllU 13 (tmAllU 12 (tmAllU 10 (tmAllU 9 (tmAllU 3 tmAll0 (Tm.clean (Clean.imm (c_Hotspotref18_Step _)))) (Tm.v _)) (Tm.ptr rfl)) (Tm.v _)) (Tm.v _)) (Tm.refL rfl ?_)) (Tm.v _)) (Tm.clean (Clean.imm (c_Frame _)))) (Tm.ptr rfl)) (Tm.v _)); all_goals (first | rfl | (simp only [List.length_take]; omega) | (simp only [List.length_append, List.length_cons, List.length_nil, List.length_modify, List.length_set, Nat.zero_add]; done) | (simp only [List.length_append, List.length_take, List.length_drop, List.length_cons, List.length_nil, List.length_modify, List.length_set, Nat.zero_add]; omega) | (simp only [List.length_append, List.length_take, List.length_drop, List.length_cons, List.length_nil, List.length_modify, List.length_set, Nat.zero_add]; done) | omega))⟩
              ·
               rintro d71 rfl
               have hl14 := Ex.kE_go hl14
               clear hi16
               unfold hotspotlaw18_ReorderOnce_S9
               refine awp_nr1 [3,9,10,12,13,14,15,16,17,19] (fun _ => rfl) fun tz => ?_
               refine awp_reg1 fun KK hKK => ?_
               refine xw_id ?_
               try simp only [go_sem, Nat.reduceEqDiff, reduceIte, Nat.reduceAdd, Nat.reduceMul, Nat.reduceSub, Nat.reduceLT, Nat.reduceLeDiff]
               refine hKK _ ?_; clear hKK KK
               refine lq_n ?_
               exact ⟨n13, (d71.1, d71.2, IntKind.wrap .i64 (d70.2.2 + 1)), rfl, hl14, (by refine Wk.canonD [] [] [some 0, some 1, some 2] rfl trivial rfl (tmOU 2 (tmOU 1 (tmOU 0 tmO0 rfl List.not_mem_nil (by simp only [upd_get, Nat.reduceEqDiff, reduceIte, Nat.reduceAdd, Nat.reduceMul, Nat.reduceSub, Nat.reduceLT, Nat.reduceLeDiff, if_true, if_false] <;> rfl) (e_Reorder_tmx (by rfl) (Tm.clean (Clean.imm (c_HeldSeq _))))) rfl List.not_mem_nil (by simp only [upd_get, Nat.reduceEqDiff, reduceIte, Nat.reduceAdd, Nat.reduceMul, Nat.reduceSub, Nat.reduceLT, Nat.reduceLeDiff, if_true, if_false] <;> rfl) (TmL.of_eq (by first | rfl | (simp only [List.flatMap_append, List.flatMap_cons, List.flatMap_nil, List.map_append, List.map_cons, List.map_nil, List.append_nil, List.nil_append]; done) | (simp only [List.flatMap_append, List.flatMap_cons, List.flatMap_nil, List.map_append, List.map_cons, List.map_nil, List.append_nil, List.nil_append]; rfl)) (c_Frame _))) rfl List.not_mem_nil (by simp only [upd_get, Nat.reduceEqDiff, reduceIte, Nat.reduceAdd, Nat.reduceMul, Nat.reduceSub, Nat.reduceLT, Nat.reduceLeDiff, if_true, if_false] <;> rfl) (e_Reorder_tmx (by rfl) (Tm.clean (Clean.imm (c_HeldSeq _))))) (tmAllU 19 (tmAllU 17 (tmAllU 16 (tmAllU 15 (tmAllU 14 (tmAllU 13 (tmAllU 12 (tmAllU 10 (tmAllU 9 (tmAllU 3 tmAll0 (Tm.clean (Clean.imm (c_Hotspotref18_Step _)))) (Tm.v _)) (Tm.ptr rfl)) (Tm.v _)) (Tm.v _)) (Tm.refL rfl ?_)) (Tm.v _)) (Tm.clean (Clean.imm (c_Frame _)))) (Tm.ptr rfl)) (Tm.v _)); all_goals (first | rfl | (simp only [List.length_take]; omega) | (simp only [List.length_append, List.length_cons, List.length_nil, List.length_modify, List.length_set, Nat.zero_add]; done) | (simp only [List.length_append, List.length_take, List.length_drop, List.length_cons, List.length_nil, List.length_modify, List.length_set, Nat.zero_add]; omega) | (simp only [List.length_append, List.length_take, List.length_drop, List.length_cons, List.length_nil, List.length_modify, List.length_set, Nat.zero_add]; done) | omega))⟩
             ·
              have hl14 := cF hl14 h15
              refine awp_exit ?_
              refine lq_e ?_
              refine bq_e ?_
              refine sq_n ?_
              obtain rfl := someInj hl14
              exact ⟨_, rfl, (by refine Wk.canonD [] [] [some 0, some 1, some 2] rfl trivial rfl (tmOU 2 (tmOU 1 (tmOU 0 tmO0 rfl List.not_mem_nil (by simp only [upd_get, Nat.reduceEqDiff, reduceIte, Nat.reduceAdd, Nat.reduceMul, Nat.reduceSub, Nat.reduceLT, Nat.reduceLeDiff, if_true, if_false] <;> rfl) (e_Reorder_tmx (by rfl) (Tm.clean (Clean.imm (c_HeldSeq _))))) rfl List.not_mem_nil (by simp only [upd_get, Nat.reduceEqDiff, reduceIte, Nat.reduceAdd, Nat.reduceMul, Nat.reduceSub, Nat.reduceLT, Nat.reduceLeDiff, if_true, if_false] <;> rfl) (TmL.of_eq (by first | rfl | (simp only [List.flatMap_append, List.flatMap_cons, List.flatMap_nil, List.map_append, List.map_cons, List.map_nil, List.append_nil, List.nil_append]; done) | (simp only [List.flatMap_append, List.flatMap_cons, List.flatMap_nil, List.map_append, List.map_cons, List.map_nil, List.append_nil, List.nil_append]; rfl)) (c_Frame _))) rfl List.not_mem_nil (by simp only [upd_get, Nat.reduceEqDiff, reduceIte, Nat.reduceAdd, Nat.reduceMul, Nat.reduceSub, Nat.reduceLT, Nat.reduceLeDiff, if_true, if_false] <;> rfl) (e_Reorder_tmx (by rfl) (Tm.clean (Clean.imm (c_HeldSeq _))))) (tmAllU 17 (tmAllU 15 (tmAllU 14 (tmAllU 13 (tmAllU 12 (tmAllU 10 (tmAllU 9 (tmAllU 3 tmAll0 (Tm.clean (Clean.imm (c_Hotspotref18_Step _)))) (Tm.v _)) (Tm.ptr rfl)) (Tm.v _)) (Tm.v _)) (Tm.refL rfl ?_)) (Tm.v _)) (Tm.ptr rfl)); all_goals (first | rfl | (simp only [List.length_take]; omega) | (simp only [List.length_append, List.length_cons, List.length_nil, List.length_modify, List.length_set, Nat.zero_add]; done) | (simp only [List.length_append, List.length_take, List.length_drop, List.length_cons, List.length_nil, List.length_modify, List.length_set, Nat.zero_add]; omega) | (simp only [List.length_append, List.length_take, List.length_drop, List.length_cons, List.length_nil, List.length_modify, List.length_set, Nat.zero_add]; done) | omega))⟩
           ·
            rintro d68 rfl
            have hi8 := Ex.kE_go hi8
            clear hi12
            unfold hotspotlaw18_ReorderOnce_S6
            refine awp_nr [3,9,10,12,13,14,15,17] (fun _ => rfl) fun tz => ?_
            refine awp_regW fun KK hKK => ?_
            refine xw_id ?_
            obtain ⟨x84, bx84, hi8⟩ := bnd hi8
            try simp only [go_sem, Nat.reduceEqDiff, reduceIte, Nat.reduceAdd, Nat.reduceMul, Nat.reduceSub, Nat.reduceLT, Nat.reduceLeDiff]
            refine xcall_p (window_Dist_p d61.1.Start x65.2.1.Start bx84) ?_; try dsimp only
            try refine xw_id ?_
            try simp only [go_sem, Nat.reduceEqDiff, reduceIte, Nat.reduceAdd, Nat.reduceMul, Nat.reduceSub, Nat.reduceLT, Nat.reduceLeDiff]
            refine hKK _ _ (Wk.refl _ _ _) ?_; clear hKK KK
            refine awp_assoc ?_
            refine awp_nr [3,9,10,12,13,14,15,17] (fun _ => rfl) fun tz => ?_
            refine awp_regW fun KK hKK => ?_
            refine xw_id ?_
            try simp only [go_sem, Nat.reduceEqDiff, reduceIte, Nat.reduceAdd, Nat.reduceMul, Nat.reduceSub, Nat.reduceLT, Nat.reduceLeDiff]
            refine hKK _ _ (Wk.refl _ _ _) ?_; clear hKK KK
            refine awp_cond (b := (decide ((IntKind.wrap .i64 (d61.2.1 + x84)) ≤ d68.1))) rfl (fun h28 => ?_) (fun h28 => ?_)
            ·
             have hi8 := cT hi8 h28
             refine awp_assoc ?_
             refine awp_nr [] (fun _ => rfl) fun tz => ?_
             refine awp_regW fun KK hKK => ?_
             refine xw_id ?_
             try simp only [go_sem, Nat.reduceEqDiff, reduceIte, Nat.reduceAdd, Nat.reduceMul, Nat.reduceSub, Nat.reduceLT, Nat.reduceLeDiff]
             refine hKK _ _ (Wk.refl _ _ _) ?_; clear hKK KK
             refine awp_ret ?_
             refine bq_r ?_
             refine sq_r ?_
             refine lq_r ?_
             refine bq_r ?_
             refine sq_r ?_
             obtain rfl := someInj hi8
             obtain rfl := Ex.kE_ret hl6
             obtain rfl := Ex.k_ret h0
             refine endW_i ?_
             refine end_ret0 rs8 (rfl) ?_
             try simp only [go_sem, Nat.reduceEqDiff, reduceIte, Nat.reduceAdd, Nat.reduceMul, Nat.reduceSub, Nat.reduceLT, Nat.reduceLeDiff, fz, nilS, packR, List.take_nil, List.take_length, List.length_map, List.length_append, cond_true, cond_false, Nat.ble_eq, ble_self]
             all_goals first | rfl | (simp only [go_sem, Nat.reduceEqDiff, reduceIte, Nat.reduceAdd, Nat.reduceMul, Nat.reduceSub, Nat.reduceLT, Nat.reduceLeDiff, fz, nilS, packR, List.take_nil, List.take_length, List.length_map, List.length_append, cond_true, cond_false, Nat.ble_eq, ble_self, List.map_append] <;> rfl)
            ·
             have hi8 := cF hi8 h28
             refine awp_skip ?_
             refine awp_nr1 [3,9,10,12,13,14,15,17] (fun _ => rfl) fun tz => ?_
             refine awp_reg1 fun KK hKK => ?_
             refine xw_id ?_
             try simp only [go_sem, Nat.reduceEqDiff, reduceIte, Nat.reduceAdd, Nat.reduceMul, Nat.reduceSub, Nat.reduceLT, Nat.reduceLeDiff]
             refine hKK _ ?_; clear hKK KK
             refine bq_n ?_
             refine sq_n ?_
             obtain rfl := someInj hi8
             exact ⟨_, rfl, (by refine Wk.canonD [] [] [some 0, some 1] rfl trivial rfl (tmOU 1 (tmOU 0 tmO0 rfl List.not_mem_nil (by simp only [upd_get, Nat.reduceEqDiff, reduceIte, Nat.reduceAdd, Nat.reduceMul, Nat.reduceSub, Nat.reduceLT, Nat.reduceLeDiff, if_true, if_false] <;> rfl) (e_Reorder_tmx (by rfl) (Tm.clean (Clean.imm (c_HeldSeq _))))) rfl List.not_mem_nil (by simp only [upd_get, Nat.reduceEqDiff, reduceIte, Nat.reduceAdd, Nat.reduceMul, Nat.reduceSub, Nat.reduceLT, Nat.reduceLeDiff, if_true, if_false] <;> rfl) (TmL.of_eq (by first | rfl | (simp only [List.flatMap_append, List.flatMap_cons, List.flatMap_nil, List.map_append, List.map_cons, List.map_nil, List.append_nil, List.nil_append]; done) | (simp only [List.flatMap_append, List.flatMap_cons, List.flatMap_nil, List.map_append, List.map_cons, List.map_nil, List.append_nil, List.nil_append]; rfl)) (c_Frame _))) (tmAllU 15 (tmAllU 14 (tmAllU 13 (tmAllU 12 (tmAllU 10 (tmAllU 9 (tmAllU 3 tmAll0 (Tm.clean (Clean.imm (c_Hotspotref18_Step _)))) (Tm.v _)) (Tm.ptr rfl)) (Tm.v _)) (Tm.v _)) (Tm.refL rfl ?_)) (Tm.v _)); all_goals (first | rfl | (simp only [List.length_take]; omega) | (simp only [List.length_append, List.length_cons, List.length_nil, List.length_modify, List.length_set, Nat.zero_add]; done) | (simp only [List.length_append, List.length_take, List.length_drop, List.length_cons, List.length_nil, List.length_modify, List.length_set, Nat.zero_add]; omega) | (simp only [List.length_append, List.length_take, List.length_drop, List.length_cons, List.length_nil, List.length_modify, List.length_set, Nat.zero_add]; done) | omega))⟩
       ·
        rintro d62 rfl
        have hl6 := Ex.kE_go hl6
        clear hi8
        unfold hotspotlaw18_ReorderOnce_S4
        refine awp_nr1 [3,9,10,12,13,14,15] (fun _ => rfl) fun tz => ?_
        refine awp_reg1 fun KK hKK => ?_
        refine xw_id ?_
        try simp only [go_sem, Nat.reduceEqDiff, reduceIte, Nat.reduceAdd, Nat.reduceMul, Nat.reduceSub, Nat.reduceLT, Nat.reduceLeDiff]
        refine hKK _ ?_; clear hKK KK
        refine lq_n ?_
        exact ⟨n5, ({ d62.1 with Held := (d62.1).Held }, d62.2.1, d62.2.2.1, d62.2.2.2, IntKind.wrap .i64 (d61.2.2.2.2 + 1)), rfl, hl6, (by refine Wk.canonD [] [] [some 0, some 1] rfl trivial rfl (tmOU 1 (tmOU 0 tmO0 rfl List.not_mem_nil (by simp only [upd_get, Nat.reduceEqDiff, reduceIte, Nat.reduceAdd, Nat.reduceMul, Nat.reduceSub, Nat.reduceLT, Nat.reduceLeDiff, if_true, if_false] <;> rfl) (e_Reorder_tmx (by rfl) (Tm.clean (Clean.imm (c_HeldSeq _))))) rfl List.not_mem_nil (by simp only [upd_get, Nat.reduceEqDiff, reduceIte, Nat.reduceAdd, Nat.reduceMul, Nat.reduceSub, Nat.reduceLT, Nat.reduceLeDiff, if_true, if_false] <;> rfl) (TmL.of_eq (by first | rfl | (simp only [List.flatMap_append, List.flatMap_cons, List.flatMap_nil, List.map_append, List.map_cons, List.map_nil, List.append_nil, List.nil_append]; done) | (simp only [List.flatMap_append, List.flatMap_cons, List.flatMap_nil, List.map_append, List.map_cons, List.map_nil, List.append_nil, List.nil_append]; rfl)) (c_Frame _))) (tmAllU 15 (tmAllU 14 (tmAllU 13 (tmAllU 12 (tmAllU 10 (tmAllU 9 (tmAllU 3 tmAll0 (Tm.clean (Clean.imm (c_Hotspotref18_Step _)))) (Tm.v _)) (Tm.ptr rfl)) (Tm.v _)) (Tm.v _)) (Tm.refL rfl ?_)) (Tm.v _)); all_goals (first | rfl | (simp only [List.length_take]; omega) | (simp only [List.length_append, List.length_cons, List.length_nil, List.length_modify, List.length_set, Nat.zero_add]; done) | (simp only [List.length_append, List.length_take, List.length_drop, List.length_cons, List.length_nil, List.length_modify, List.length_set, Nat.zero_add]; omega) | (simp only [List.length_append, List.length_take, List.length_drop, List.length_cons, List.length_nil, List.length_modify, List.length_set, Nat.zero_add]; done) | omega))⟩
      ·
       have hl6 := cF hl6 h7
       refine awp_exit ?_
       refine lq_e ?_
       refine bq_e ?_
       refine sq_n ?_
       obtain rfl := someInj hl6
       exact ⟨_, rfl, (by refine Wk.canonD [] [] [some 0, some 1] rfl trivial rfl (tmOU 1 (tmOU 0 tmO0 rfl List.not_mem_nil (by simp only [upd_get, Nat.reduceEqDiff, reduceIte, Nat.reduceAdd, Nat.reduceMul, Nat.reduceSub, Nat.reduceLT, Nat.reduceLeDiff, if_true, if_false] <;> rfl) (e_Reorder_tmx (by rfl) (Tm.clean (Clean.imm (c_HeldSeq _))))) rfl List.not_mem_nil (by simp only [upd_get, Nat.reduceEqDiff, reduceIte, Nat.reduceAdd, Nat.reduceMul, Nat.reduceSub, Nat.reduceLT, Nat.reduceLeDiff, if_true, if_false] <;> rfl) (TmL.of_eq (by first | rfl | (simp only [List.flatMap_append, List.flatMap_cons, List.flatMap_nil, List.map_append, List.map_cons, List.map_nil, List.append_nil, List.nil_append]; done) | (simp only [List.flatMap_append, List.flatMap_cons, List.flatMap_nil, List.map_append, List.map_cons, List.map_nil, List.append_nil, List.nil_append]; rfl)) (c_Frame _))) (tmAllU 14 (tmAllU 10 (tmAllU 9 tmAll0 (Tm.v _)) (Tm.ptr rfl)) (Tm.refL rfl ?_)); all_goals (first | rfl | (simp only [List.length_take]; omega) | (simp only [List.length_append, List.length_cons, List.length_nil, List.length_modify, List.length_set, Nat.zero_add]; done) | (simp only [List.length_append, List.length_take, List.length_drop, List.length_cons, List.length_nil, List.length_modify, List.length_set, Nat.zero_add]; omega) | (simp only [List.length_append, List.length_take, List.length_drop, List.length_cons, List.length_nil, List.length_modify, List.length_set, Nat.zero_add]; done) | omega))⟩
    ·
     rintro d59 rfl
     have h0 := Ex.k_go h0
     clear hi4
     unfold hotspotlaw18_ReorderOnce_S1
     refine awp_nr [9,10,14] (fun _ => rfl) fun tz => ?_
     refine awp_regW fun KK hKK => ?_
     refine xw_id ?_
     refine xw_stop 2 (by (try simp only [go_sem]); rfl) (by (try simp only [go_sem]); rfl) (by rfl) fun K1 hK1 => ?_
     refine xw_id ?_
     try simp only [go_sem, Nat.reduceEqDiff, reduceIte, Nat.reduceAdd, Nat.reduceMul, Nat.reduceSub, Nat.reduceLT, Nat.reduceLeDiff]
     refine hK1 _ ?_; clear hK1 K1
     refine xw_cut 7 [(145, (vb (x55 && ((((d59.2).length : Nat) : Int) == (((d59.1).Held).length : Int)))))] (by (try simp only [go_sem]); rfl) (by (try simp only [go_sem]); rfl) (by rfl) (fun K1 hK1 => ?_) fun tz => ?_
     ·
      refine xw_id ?_
      rcases Bool.eq_false_or_eq_true x55 with h29 | h29
      ·
       try simp only [go_sem, Nat.reduceEqDiff, reduceIte, Nat.reduceAdd, Nat.reduceMul, Nat.reduceSub, Nat.reduceLT, Nat.reduceLeDiff, Int.reduceToNat, Int.reduceBEq, Int.reduceBNe, Int.reduceLT, Int.reduceLE, Int.reduceAdd, Int.reduceSub, Int.reduceMul, Int.reduceNeg, Int.reduceEq, Int.reduceNe, h29]
       exact hK1 _ ⟨rfl, (by first | rfl | (rw [h29]; rfl) | (simp only [h29, Bool.true_and, Bool.false_and, Bool.true_or, Bool.false_or, cond_true, cond_false]; done)), trivial⟩
      ·
       try simp only [go_sem, Nat.reduceEqDiff, reduceIte, Nat.reduceAdd, Nat.reduceMul, Nat.reduceSub, Nat.reduceLT, Nat.reduceLeDiff, h29]
       exact hK1 _ ⟨rfl, (by first | rfl | (rw [h29]; rfl) | (simp only [h29, Bool.true_and, Bool.false_and, Bool.true_or, Bool.false_or, cond_true, cond_false]; done)), trivial⟩
     ·
      refine xw_id ?_
      try simp only [go_sem, Nat.reduceEqDiff, reduceIte, Nat.reduceAdd, Nat.reduceMul, Nat.reduceSub, Nat.reduceLT, Nat.reduceLeDiff]
      refine hKK _ _ (Wk.refl _ _ _) ?_; clear hKK KK
      refine awp_ret1 ?_
      obtain rfl := someInj h0
      refine endW_i ?_
      refine end_ret0 rs8 (rfl) ?_
      try simp only [go_sem, Nat.reduceEqDiff, reduceIte, Nat.reduceAdd, Nat.reduceMul, Nat.reduceSub, Nat.reduceLT, Nat.reduceLeDiff, fz, nilS, packR, List.take_nil, List.take_length, List.length_map, List.length_append, cond_true, cond_false, Nat.ble_eq, ble_self]
      all_goals first | rfl | (simp only [go_sem, Nat.reduceEqDiff, reduceIte, Nat.reduceAdd, Nat.reduceMul, Nat.reduceSub, Nat.reduceLT, Nat.reduceLeDiff, fz, nilS, packR, List.take_nil, List.take_length, List.length_map, List.length_append, cond_true, cond_false, Nat.ble_eq, ble_self, List.map_append] <;> rfl)

end Go.AX.Z.TR
