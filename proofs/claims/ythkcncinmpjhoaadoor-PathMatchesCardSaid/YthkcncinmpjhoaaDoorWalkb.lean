/- A part of the proof: walks through the functions that the statement reaches. -/
import Derived.Test.YthkcncinmpjhoaaDoorWalka
set_option linter.unusedVariables false
set_option linter.unusedSimpArgs false

/-! (walks) -/

set_option linter.unusedSimpArgs false
set_option linter.unusedVariables false
set_option maxHeartbeats 4000000
set_option maxRecDepth 20000
namespace Go.AX.Z.TO
open Go.AX Go.Proofs
attribute [local irreducible] awp xw xop xcall gsp ob xd xdop xcallD seqQ loopQ blkQ endQ
def path_node_fail_B_S0 (a1 : Path_node) (d75 : (List Sent)) : AS :=
 { objs := (upd (upd (upd (upd (upd (fun _ => .dead) 0 (.live (e_Path_node a1 (.ref 1 0 a1.Paths.Routes.length 17) (.ref 2 0 a1.Paths.Wanted.length 8) (.ref 5 0 d75.length 7)))) 1 (.live (List.flatMap e_PathRoute a1.Paths.Routes))) 2 (.live (List.flatMap e_PathWanted a1.Paths.Wanted))) 4 (.live [(.ptr 0 0)])) 5 (.live (List.flatMap E_Sent d75))), next := 6, tmps := (fun _ => .unk) }

def path_node_fail_B_S1 (a1 : Path_node) (d76 : (List Int)) : AS :=
 { objs := (upd (upd (upd (upd (upd (fun _ => .dead) 0 (.live (e_Path_node a1 (.ref 1 0 a1.Paths.Routes.length 17) (.ref 2 0 a1.Paths.Wanted.length 8) (.ref 3 0 a1.out.length 7)))) 1 (.live (List.flatMap e_PathRoute a1.Paths.Routes))) 2 (.live (List.flatMap e_PathWanted a1.Paths.Wanted))) 3 (.live (List.flatMap E_Sent a1.out))) 4 (.live [(.ptr 0 0)])), next := 5, tmps := (upd (upd (fun _ => .unk) 2 (.ptr 4 0)) 5 (.imm (List.map vu d76) d76.length)) }

def path_node_fail_B_S2 (a1 : Path_node) (a0 : (List PathRoute)) (d77 : (List Int × Int)) : AS :=
 { objs := (upd (upd (upd (upd (upd (upd (fun _ => .dead) 0 (.live (e_Path_node a1 (.ref 1 0 a1.Paths.Routes.length 17) (.ref 2 0 a1.Paths.Wanted.length 8) (.ref 3 0 a1.out.length 7)))) 1 (.live (List.flatMap e_PathRoute a1.Paths.Routes))) 2 (.live (List.flatMap e_PathWanted a1.Paths.Wanted))) 3 (.live (List.flatMap E_Sent a1.out))) 4 (.live [(.ptr 0 0)])) 5 (.live (List.map vu d77.1))), next := 6, tmps := (upd (upd (upd (upd (upd (fun _ => .unk) 2 (.ptr 4 0)) 5 (.ref 5 0 d77.1.length 1)) 15 (.imm (List.flatMap e_PathRoute a0) a0.length)) 16 (vi (a0.length : Int))) 17 (vi d77.2)) }

def bdF : Option Code → Code
 | some (.seq _ (.seq _ (.block _ (.rangeFunc _ _ _ bd)))) => bd
 | _ => .skip
theorem path_node_fail_B_w (a0 : (List PathRoute)) (a1 : Path_node) {r : (List Sent)} (h0 : path_node_fail_B a0 a1 = some r) : awp 5 K (bdF Tryd.f35.body) (fun e s' => e = .normal ∧ ∃ t, Wk 5 K s' t ∧ ResIO 5 .unk t.toHS (fun _ => .unk) [(some (fun q => (e_Path_node a1 (.ref (q 1) 0 a1.Paths.Routes.length 17) (.ref (q 2) 0 a1.Paths.Wanted.length 8) (.ref (q 5) 0 r.length 7)))), (some (fun q => (List.flatMap e_PathRoute a1.Paths.Routes))), (some (fun q => (List.flatMap e_PathWanted a1.Paths.Wanted))), none, (some (fun q => [(.ptr (q 0) 0)])), (some (fun q => (List.flatMap E_Sent r)))]) { objs := iniU (fun _ => .dead) 0 [(fun q => (e_Path_node a1 (.ref (q 1) 0 a1.Paths.Routes.length 17) (.ref (q 2) 0 a1.Paths.Wanted.length 8) (.ref (q 3) 0 a1.out.length 7))), (fun q => (List.flatMap e_PathRoute a1.Paths.Routes)), (fun q => (List.flatMap e_PathWanted a1.Paths.Wanted)), (fun q => (List.flatMap E_Sent a1.out)), (fun q => [(.ptr (q 0) 0)])], next := 5, tmps := upd (upd (fun _ => .unk) 2 (.ptr 4 0)) 4 (.imm (List.flatMap e_PathRoute a0) a0.length) } := by
 show awp 5 K (.block _ _) _ _
 unfold path_node_fail_B at h0
 obtain ⟨d75, hi1, h0⟩ := bnd h0
 refine awp_cutQ (fun z => d75 = z) (fun d75 : (List Sent) => path_node_fail_B_S0 a1 d75) (fun _ _ hw ⟨h1, u, h2, h3⟩ => ⟨h1, u, Wk.trans hw h2, h3⟩) ?_ ?_
 ·
  refine awp_block1 ?_
  refine awp_nr [2,4] (fun _ => rfl) fun tz => ?_
  refine awp_regW fun KK hKK => ?_
  refine xw_id ?_
  try simp only [go_sem, Nat.reduceAdd, gt0]
  refine hKK _ _ (Wk.refl _ _ _) ?_; clear hKK KK
  refine awp_assoc ?_
  refine awp_nr [2,4,5] (fun _ => rfl) fun tz => ?_
  refine awp_regW fun KK hKK => ?_
  refine xw_id ?_
  try simp only [go_sem, Nat.reduceAdd, gt0]
  refine hKK _ _ (Wk.refl _ _ _) ?_; clear hKK KK
  obtain ⟨d76, hi2, hi1⟩ := bnd hi1
  refine awp_cut (fun z => d76 = z) (fun d76 : (List Int) => path_node_fail_B_S1 a1 d76) ?_ ?_
  ·
   refine awp_block1 ?_
   refine awp_loopS (fun n (d77 : (List Int × Int)) => path_node_fail_B_L3 a0 a1 n d77 = some d76) (fun d77 : (List Int × Int) => path_node_fail_B_S2 a1 a0 d77) big ([3, IntKind.wrap .u8 (a0.length : Int)], 0) (by refine Wk.canonD [] [] [some 0, some 1, some 2, some 3, some 4, some 8] rfl trivial rfl (tmOU 5 (tmOU 4 (tmOU 3 (tmOU 2 (tmOU 1 (tmOU 0 tmO0 rfl List.not_mem_nil rfl (e_Path_node_tmx (by rfl) (Tm.refL rfl ?_) (Tm.refL rfl ?_) (Tm.refL rfl ?_))) rfl List.not_mem_nil rfl (TmL.of_eq (by first | rfl | (simp only [List.flatMap_append, List.flatMap_cons, List.flatMap_nil, List.map_append, List.map_cons, List.map_nil, List.append_nil, List.nil_append] <;> rfl)) (c_PathRoute _))) rfl List.not_mem_nil rfl (TmL.of_eq (by first | rfl | (simp only [List.flatMap_append, List.flatMap_cons, List.flatMap_nil, List.map_append, List.map_cons, List.map_nil, List.append_nil, List.nil_append] <;> rfl)) (c_PathWanted _))) rfl List.not_mem_nil rfl (TmL.of_eq (by first | rfl | (simp only [List.flatMap_append, List.flatMap_cons, List.flatMap_nil, List.map_append, List.map_cons, List.map_nil, List.append_nil, List.nil_append] <;> rfl)) (c_Sent _))) rfl List.not_mem_nil rfl (TmL.cons (Tm.ptr rfl) TmL.nil)) rfl List.not_mem_nil rfl (TmL.of_eq (by first | rfl | (simp only [List.flatMap_append, List.flatMap_cons, List.flatMap_nil, List.map_append, List.map_cons, List.map_nil, List.append_nil, List.nil_append] <;> rfl)) (vu_clean _))) (tmAllU 17 (tmAllU 16 (tmAllU 15 (tmAllU 5 (tmAllU 2 tmAll0 (Tm.ptr rfl)) (Tm.refL rfl ?_)) (Tm.clean (Clean.imm (c_PathRoute _)))) (Tm.v _)) (Tm.v _)); all_goals (first | rfl | (simp only [List.length_append, List.length_take, List.length_drop, List.length_cons, List.length_nil, List.length_modify, List.length_set, Nat.zero_add] <;> omega) | omega)) hi2 ?_
   clear hi2
   rintro n d77 hl4
   rcases n with _ | n3
   ·
    (rw [path_node_fail_B_L3] at hl4; cases hl4)
   ·
    rw [path_node_fail_B_L3] at hl4
    unfold path_node_fail_B_S2
    refine awp_nr [2,5,15,16,17] (fun _ => rfl) fun tz => ?_
    refine awp_regW fun KK hKK => ?_
    refine xw_id ?_
    try simp only [go_sem, Nat.reduceAdd, gt0]
    refine hKK _ _ (Wk.refl _ _ _) ?_; clear hKK KK
    refine awp_cond (b := (decide (d77.2 < (a0.length : Int)))) rfl (fun h5 => ?_) (fun h5 => ?_)
    ·
     have hl4 := cT hl4 h5
     refine awp_skip ?_
     refine awp_blockW ?_
     refine awp_nr [2,5,15,16,17] (fun _ => rfl) fun tz => ?_
     refine awp_regW fun KK hKK => ?_
     refine xw_id ?_
     obtain ⟨x78, bx78, hl4⟩ := bnd hl4
     obtain ⟨fx78_0, fx78_1, fx78_2, fx78_3⟩ := idx_some bx78
     try simp only [go_sem, Nat.reduceAdd, gt0, fx78_0, fx78_1, fx78_2]
     refine hKK _ _ (Wk.refl _ _ _) ?_; clear hKK KK
     refine awp_nr1 [2,5,7,15,16,17] (fun _ => rfl) fun tz => ?_
     refine awp_regD1 fun KK hKK all hall => ?_
     refine xd_id ?_
     try simp only [List.toList_toArray, List.map_cons, List.map_nil, List.size_toArray, List.length_cons, List.length_nil, Nat.zero_add]
     try simp only [Nat.reduceAdd]
     have gp6 : sub? (e_PathRoute x78) 0 6 = some (List.map vu [x78.Dest.a0, x78.Dest.a1, x78.Dest.a2, x78.Dest.a3, x78.Dest.a4, x78.Dest.a5]) := by rfl
     obtain ⟨x79, bx79, hl4⟩ := bnd hl4
     have bx79 := chk_some bx79
     simp only [Bool.and_eq_true, decide_eq_true_eq] at bx79
     have gx79_0 := bx79
     try simp only [List.cons_append, List.nil_append, List.length_append, List.length_cons, List.length_nil, Nat.zero_add, Nat.reduceAdd, Nat.add_assoc, Nat.reduceLeDiff] at gx79_0
     obtain ⟨x80, bx80, hl4⟩ := bnd hl4
     iterate 3 ((try simp only [go_sem, gt0, fx78_0, fx78_1, fx78_2, Int.sub_zero, gp6, gx79_0, List.length_append, vu_len]); try simp only [Nat.reduceAdd])
     refine xcallD_A 14 (RenML.cons (RenM.ref 0 0 _ _) (RenML.cons (RenM.const (Clean.v _)) (RenML.cons (RenM.const (Clean.v _)) RenML.nil))) (RenM.ref 1 0 _ _) (vu_clean _) (vu_clean _) (path_put_io x78.Seq 4 (d77.1 ++ [x78.Dest.a0, x78.Dest.a1, x78.Dest.a2, x78.Dest.a3, x78.Dest.a4, x78.Dest.a5]) bx80) (by first | rfl | (simp only [upd_get, Nat.reduceEqDiff, reduceIte, if_true, if_false, List.map_append, List.map_cons, List.map_nil, List.cons_append, List.nil_append] <;> rfl)) (by first | rfl | (simp only [go_sem, Nat.reduceAdd, gt0, fx78_0, fx78_1, fx78_2, Int.sub_zero, gp6, gx79_0, List.length_append, vu_len] <;> rfl) | (simp only [go_sem, List.length_append, Nat.reduceAdd, gt0, fx78_0, fx78_1, fx78_2, Int.sub_zero, gp6, gx79_0, List.length_append, vu_len] <;> rfl)) (fun a b h => by simp only [h]) (fun a b h => by simp only [h]) (by decide) ?_; try dsimp only
     try refine xd_id ?_
     iterate 3 ((try simp only [go_sem, gt0, fx78_0, fx78_1, fx78_2, Int.sub_zero, gp6, gx79_0, List.length_append, vu_len, List.length_cons, List.length_nil]); try simp only [Nat.reduceAdd])
     refine And.intro ?_ (hKK _ ?_)
     ·
      subst hall
      clear hKK KK
      first | decide +kernel | (simp [printsOk, apartP, clash, meet]; try (first | done | decide +kernel | (repeat (first | exact Or.inr (by decide +kernel) | (refine And.intro (Or.inr (by decide +kernel)) ?_)))))
     ·
      clear hKK KK hall all
      refine bq_n ?_
      refine seqW_i ?_
      refine awp_nr1 [2,5,15,16,17] (fun _ => rfl) fun tz => ?_
      refine awp_reg1 fun KK hKK => ?_
      refine xw_id ?_
      try simp only [go_sem, Nat.reduceAdd, gt0, fx78_0, fx78_1, fx78_2]
      refine hKK _ ?_; clear hKK KK
      refine lq_n ?_
      exact ⟨n3, (x80, IntKind.wrap .i64 (d77.2 + 1)), rfl, hl4, (by refine Wk.canonD [] [] [some 0, some 1, some 2, some 3, some 4, some 17] rfl trivial rfl (tmOU 5 (tmOU 4 (tmOU 3 (tmOU 2 (tmOU 1 (tmOU 0 tmO0 rfl List.not_mem_nil rfl (e_Path_node_tmx (by rfl) (Tm.refL rfl ?_) (Tm.refL rfl ?_) (Tm.refL rfl ?_))) rfl List.not_mem_nil rfl (TmL.of_eq (by first | rfl | (simp only [List.flatMap_append, List.flatMap_cons, List.flatMap_nil, List.map_append, List.map_cons, List.map_nil, List.append_nil, List.nil_append] <;> rfl)) (c_PathRoute _))) rfl List.not_mem_nil rfl (TmL.of_eq (by first | rfl | (simp only [List.flatMap_append, List.flatMap_cons, List.flatMap_nil, List.map_append, List.map_cons, List.map_nil, List.append_nil, List.nil_append] <;> rfl)) (c_PathWanted _))) rfl List.not_mem_nil rfl (TmL.of_eq (by first | rfl | (simp only [List.flatMap_append, List.flatMap_cons, List.flatMap_nil, List.map_append, List.map_cons, List.map_nil, List.append_nil, List.nil_append] <;> rfl)) (c_Sent _))) rfl List.not_mem_nil rfl (TmL.cons (Tm.ptr rfl) TmL.nil)) rfl List.not_mem_nil rfl (TmL.of_eq (by first | rfl | (simp only [List.flatMap_append, List.flatMap_cons, List.flatMap_nil, List.map_append, List.map_cons, List.map_nil, List.append_nil, List.nil_append] <;> rfl)) (vu_clean _))) (tmAllU 17 (tmAllU 16 (tmAllU 15 (tmAllU 5 (tmAllU 2 tmAll0 (Tm.ptr rfl)) (Tm.refL rfl ?_)) (Tm.clean (Clean.imm (c_PathRoute _)))) (Tm.v _)) (Tm.v _)); all_goals (first | rfl | (simp only [List.length_append, List.length_take, List.length_drop, List.length_cons, List.length_nil, List.length_modify, List.length_set, Nat.zero_add] <;> omega) | omega))⟩
    ·
     have hl4 := cF hl4 h5
     refine awp_exit ?_
     refine lq_e ?_
     refine bq_e ?_
     refine sq_n ?_
     obtain rfl := someInj hl4
     exact ⟨_, rfl, (by refine Wk.canonD [5] [] [some 0, some 1, some 2, some 3, some 4] rfl trivial rfl (tmOU 4 (tmOU 3 (tmOU 2 (tmOU 1 (tmOU 0 tmO0 rfl (by decide) rfl (e_Path_node_tmx (by rfl) (Tm.refL rfl ?_) (Tm.refL rfl ?_) (Tm.refL rfl ?_))) rfl (by decide) rfl (TmL.of_eq (by first | rfl | (simp only [List.flatMap_append, List.flatMap_cons, List.flatMap_nil, List.map_append, List.map_cons, List.map_nil, List.append_nil, List.nil_append] <;> rfl)) (c_PathRoute _))) rfl (by decide) rfl (TmL.of_eq (by first | rfl | (simp only [List.flatMap_append, List.flatMap_cons, List.flatMap_nil, List.map_append, List.map_cons, List.map_nil, List.append_nil, List.nil_append] <;> rfl)) (c_PathWanted _))) rfl (by decide) rfl (TmL.of_eq (by first | rfl | (simp only [List.flatMap_append, List.flatMap_cons, List.flatMap_nil, List.map_append, List.map_cons, List.map_nil, List.append_nil, List.nil_append] <;> rfl)) (c_Sent _))) rfl (by decide) rfl (TmL.cons (Tm.ptr rfl) TmL.nil)) (tmAllU 5 (tmAllU 2 tmAll0 (Tm.ptr rfl)) (Tm.frz0 (by simp) rfl (by simp only [vu_len, List.length_append, List.length_cons, List.length_nil, List.length_modify, List.length_set, Nat.zero_add, Nat.mul_one] <;> omega) (TmL.of_eq (by first | rfl | (simp only [List.flatMap_append, List.flatMap_cons, List.flatMap_nil, List.map_append, List.map_cons, List.map_nil, List.append_nil, List.nil_append] <;> rfl)) (vu_clean _)))); all_goals (first | rfl | (simp only [List.length_append, List.length_take, List.length_drop, List.length_cons, List.length_nil, List.length_modify, List.length_set, Nat.zero_add] <;> omega) | omega))⟩
  ·
   rintro _ rfl
   clear hi2
   unfold path_node_fail_B_S1
   refine awp_nr1 [2,5] (fun _ => rfl) fun tz => ?_
   refine awp_reg1 fun KK hKK => ?_
   refine xw_id ?_
   obtain ⟨x81, bx81, hi1⟩ := bnd hi1
   try simp only [go_sem, Nat.reduceAdd, gt0]
   refine xcall_O [0, 1, 2, 3] (path_node_send_2_io gv0 d76 a1 bx81) (by decide) (by decide) ⟨(by first | rfl | (simp only [go_sem, Nat.reduceAdd, gt0] <;> rfl) | (simp only [go_sem, List.length_append, Nat.reduceAdd, gt0] <;> rfl)), (by first | rfl | (simp only [go_sem, Nat.reduceAdd, gt0] <;> rfl) | (simp only [go_sem, List.length_append, Nat.reduceAdd, gt0] <;> rfl)), (by first | rfl | (simp only [go_sem, Nat.reduceAdd, gt0] <;> rfl) | (simp only [go_sem, List.length_append, Nat.reduceAdd, gt0] <;> rfl)), (by first | rfl | (simp only [go_sem, Nat.reduceAdd, gt0] <;> rfl) | (simp only [go_sem, List.length_append, Nat.reduceAdd, gt0] <;> rfl)), trivial⟩ (by first | rfl | (simp only [go_sem, Nat.reduceAdd, gt0] <;> rfl) | (simp only [go_sem, List.length_append, Nat.reduceAdd, gt0] <;> rfl)) ?_; try dsimp only
   try refine xw_id ?_
   try simp only [go_sem, Nat.reduceAdd, gt0, List.length_cons, List.length_nil]
   refine hKK _ ?_; clear hKK KK
   refine bq_n ?_
   refine sq_n ?_
   obtain rfl := someInj hi1
   exact ⟨_, rfl, (by refine Wk.canonD [] [3] [some 0, some 1, some 2, some 3, some 4, some 9] rfl ⟨rfl, trivial⟩ rfl (tmOU 5 (tmOU 4 (tmOU 2 (tmOU 1 (tmOU 0 tmO0 rfl List.not_mem_nil rfl (e_Path_node_tmx (by rfl) (Tm.refL rfl ?_) (Tm.refL rfl ?_) (Tm.refL rfl ?_))) rfl List.not_mem_nil rfl (TmL.of_eq (by first | rfl | (simp only [List.flatMap_append, List.flatMap_cons, List.flatMap_nil, List.map_append, List.map_cons, List.map_nil, List.append_nil, List.nil_append] <;> rfl)) (c_PathRoute _))) rfl List.not_mem_nil rfl (TmL.of_eq (by first | rfl | (simp only [List.flatMap_append, List.flatMap_cons, List.flatMap_nil, List.map_append, List.map_cons, List.map_nil, List.append_nil, List.nil_append] <;> rfl)) (c_PathWanted _))) rfl List.not_mem_nil rfl (TmL.cons (Tm.ptr rfl) TmL.nil)) rfl List.not_mem_nil rfl (TmL.of_eq (by first | rfl | (simp only [List.flatMap_append, List.flatMap_cons, List.flatMap_nil, List.map_append, List.map_cons, List.map_nil, List.append_nil, List.nil_append] <;> rfl)) (c_Sent _))) tmAll0; all_goals (first | rfl | (simp only [List.length_append, List.length_take, List.length_drop, List.length_cons, List.length_nil, List.length_modify, List.length_set, Nat.zero_add] <;> omega) | omega))⟩
 ·
  rintro _ rfl
  clear hi1
  unfold path_node_fail_B_S0
  obtain rfl := someInj h0
  refine ⟨rfl, _, Wk.refl _ _ _, ?_⟩
  refine ResIO.mk [] [some 0, some 1, some 2, some 3, some 4, some 5] rfl (resEU List.not_mem_nil rfl (e_Path_node_tmx (by rfl) (Tm.refL rfl ?_) (Tm.refL rfl ?_) (Tm.refL rfl ?_)) (resEU List.not_mem_nil rfl (TmL.of_eq (by first | rfl | (simp only [List.flatMap_append, List.flatMap_cons, List.flatMap_nil, List.map_append, List.map_cons, List.map_nil, List.append_nil, List.nil_append] <;> rfl)) (c_PathRoute _)) (resEU List.not_mem_nil rfl (TmL.of_eq (by first | rfl | (simp only [List.flatMap_append, List.flatMap_cons, List.flatMap_nil, List.map_append, List.map_cons, List.map_nil, List.append_nil, List.nil_append] <;> rfl)) (c_PathWanted _)) (resED (resEU List.not_mem_nil rfl (TmL.cons (Tm.ptr rfl) TmL.nil) (resEU List.not_mem_nil rfl (TmL.of_eq (by first | rfl | (simp only [List.flatMap_append, List.flatMap_cons, List.flatMap_nil, List.map_append, List.map_cons, List.map_nil, List.append_nil, List.nil_append] <;> rfl)) (c_Sent _)) resE0)))))) (Tm.clean Clean.unk)
  all_goals (first | rfl | (simp only [List.length_append, List.length_take, List.length_drop, List.length_cons, List.length_nil, List.length_modify, List.length_set, Nat.zero_add] <;> omega) | omega)
theorem chN_nil (n : Nat) : chN n [] = [] := by cases n <;> rfl
theorem chN_cons {n : Nat} {l : List PathRoute} (h : 0 < l.length) : chN (n + 1) l = l.take 16 :: chN n (l.drop 16) := by
 rw [chN, decide_eq_true h, cond_true]
def chX (L : List (List PathRoute)) : List (List AV) := L.map fun b => [.imm (List.flatMap e_PathRoute b) b.length]
theorem chX_get {L m : List (List PathRoute)} {b : List PathRoute} {k : Nat} (h : L.drop k = b :: m) : (chX L)[k]? = some [.imm (List.flatMap e_PathRoute b) b.length] := by
 have : L[k]? = some b := by
  have := congrArg (fun q => q[0]?) h
  simpa [List.getElem?_drop] using this
 unfold chX
 rw [List.getElem?_map, this]; rfl
theorem chX_drop {L m : List (List PathRoute)} {b : List PathRoute} {k : Nat} (h : L.drop k = b :: m) : L.drop (k + 1) = m := by
 rw [← List.drop_drop, h]; rfl
def tC (y : Value) (p c : Nat) : Nat → AV := upd (upd (upd (fun _ => .unk) 2 (.ptr c 0)) 1 (.ptr p 0)) 0 (.v y)
def RdC (p c : Nat) (l : List PathRoute) (hs : HS) : Prop := hs.objs p = .live [.imm (List.flatMap e_PathRoute l) l.length] ∧ hs.objs c = .live [vi 16]

theorem ch_iter (l : List PathRoute) (hl : l.length ≤ 100000) (p c : Nat) : Iter K 59 [.ptr p 0, .ptr c 0] (RdC p c l) (chX (chL l)) := by
 intro lo lb ρ0 V0 J Jx hlb hJ hJx hJc hJxc hy ρ V hs W h0
 have hAb : ∀ i, Abides K (J i) := fun i => ⟨fun ρ V hs W h => ⟨(hJ i ρ V hs W h).2.1, (hJ i ρ V hs W h).2.2.1⟩, hJc i⟩
 have hAx : Abides K Jx := ⟨hJx, hJxc⟩
 obtain ⟨loc, loc2, hloc, hloc2, rfl⟩ : ∃ loc loc2, ρ0 p = some loc ∧ ρ0 c = some loc2 ∧ lb = #[.pointer (some ⟨loc.b, loc.base + 0, none⟩), .pointer (some ⟨loc2.b, loc2.base + 0, none⟩)] := by
  obtain ⟨e1, e2⟩ := hlb
  obtain ⟨lb⟩ := lb
  match lb, e1, e2 with
  | [y, z], _, e2 =>
   have h1 := e2 0 _ y rfl rfl
   have h2 := e2 1 _ z rfl rfl
   cases h1 with
   | ptr _ _ loc h => cases h2 with
    | ptr _ _ loc2 h' => exact ⟨loc, loc2, h, h', rfl⟩
 obtain ⟨Y, hY⟩ : ∃ Y, Value.func (.yield lo) #[] #[] = Y := ⟨_, rfl⟩
 refine callsIn_of_wp (fn := Tryd.f59) Tryd.func59 rfl trivial ?_ rfl
 have hst0 := StJ.start (N := Tryd.f59.ntmps) (t := tC Y p c) (J := J 0) (args := #[.func (.yield lo) #[] #[]] ++ #[.pointer (some ⟨loc.b, loc.base + 0, none⟩), .pointer (some ⟨loc2.b, loc2.base + 0, none⟩)]) (by show 3 ≤ 31; decide) h0 (fun i y hy => by
  match i, hy with
  | 0, hy => cases hy; rw [hY]; exact .v _
  | 1, hy => cases hy; exact .ptr p 0 loc ((hJ 0 _ _ _ _ h0).1.rho _ _ hloc)
  | 2, hy => cases hy; exact .ptr c 0 loc2 ((hJ 0 _ _ _ _ h0).1.rho _ _ hloc2)) (fun i hi => by
  have hi : 3 ≤ i := hi
  unfold tC
  rw [upd_ne _ _ (by omega), upd_ne _ _ (by omega), upd_ne _ _ (by omega)])
 have hRd : ∀ i ρ V hs W, J i ρ V hs W → RdC p c l hs := fun i ρ V hs W h => (hJ i ρ V hs W h).2.2.2
 have hlen17 : (List.flatMap e_PathRoute l).length = l.length * 17 := r_PathRoute_len l
 generalize hL : chL l = L at *
 refine wpIn_seq ?_
 refine iter_region hC (hAb 0) (by decide +kernel) (by decide +kernel) (K := fun t => t 0 = .v Y ∧ t 1 = .ptr p 0 ∧ t 2 = .ptr c 0 ∧ t 4 = vi ((0 : Nat) : Int)) hst0 ?_ ?_
 ·
  unfold tC
  simp only [go_sem, Nat.reduceEqDiff, reduceIte, Nat.reduceAdd, Nat.reduceMul, Nat.reduceSub, Nat.reduceLT, Nat.reduceLeDiff, Int.reduceToNat, Int.reduceBEq, Int.reduceBNe, Int.reduceLT, Int.reduceLE, Int.reduceAdd, Int.reduceSub, Int.reduceMul, Int.reduceNeg, Int.reduceEq, Int.reduceNe]
  try exact ⟨rfl, rfl, rfl, rfl, rfl⟩
 intro ρ1 V1 hs1 a1 W1 t1 ⟨e0, e1, e2, e4⟩ _ hst1
 refine wpIn_block ?_
 refine wpIn_loop (I := fun a w => ∃ (k o n : Nat) (ρ : Rho) (V : View) (hs : HS) (t : Nat → AV), (L.drop k = chN n (l.drop o) ∧ (l.drop o).length ≤ n ∧ k ≤ L.length ∧ o ≤ l.length + 16) ∧ (t 0 = .v Y ∧ t 1 = .ptr p 0 ∧ t 2 = .ptr c 0 ∧ t 4 = vi (o : Int)) ∧ StJ Tryd.f59.ntmps t (J k) ρ V hs a w)
  (fun a _ => (match a.tmps.getD 4 undef with | .int _ n => ((l.length : Int) + 32 - n).toNat | _ => 0)) ⟨0, 0, l.length, ρ1, V1, hs1, t1, ⟨by rw [← hL]; rfl, Nat.le_refl _, Nat.zero_le _, Nat.zero_le _⟩, ⟨e0, e1, e2, e4⟩, hst1⟩ ?_
 rintro a w ⟨k, o, n, ρ2, V2, hs2, t2, ⟨hk, hn, hkl, hol⟩, ⟨e0, e1, e2, e4⟩, hst2⟩
 have hk4 : a.tmps.getD 4 undef = .int .i64 (o : Int) := by
  have := hst2.tm 4
  rw [e4] at this
  exact Rel.v_inv this
 refine wpIn_seq ?_
 refine wpIn_seq ?_
 obtain ⟨r1, r2⟩ := hRd _ _ _ _ _ hst2.j
 refine iter_region hC (hAb _) (by decide +kernel) (by decide +kernel) (K := fun t => (t 0 = .v Y ∧ t 1 = .ptr p 0 ∧ t 2 = .ptr c 0 ∧ t 4 = vi (o : Int)) ∧ t 9 = vb (decide ((o : Int) < (l.length : Int)))) hst2 ?_ ?_
 ·
  simp only [go_sem, Nat.reduceEqDiff, reduceIte, Nat.reduceAdd, Nat.reduceMul, Nat.reduceSub, Nat.reduceLT, Nat.reduceLeDiff, Int.reduceToNat, Int.reduceBEq, Int.reduceBNe, Int.reduceLT, Int.reduceLE, Int.reduceAdd, Int.reduceSub, Int.reduceMul, Int.reduceNeg, Int.reduceEq, Int.reduceNe, e0, e1, e2, e4, r1, r2]
  try exact ⟨rfl, ⟨rfl, rfl, rfl, rfl⟩, rfl⟩
 intro ρ3 V3 hs3 a3 W3 t3 ⟨⟨e0, e1, e2, e4⟩, e9⟩ _ hst3
 have hc9 : a3.eval (.tmp 9) = .bool (decide ((o : Int) < (l.length : Int))) := by
  have := ev_rel (C := K) (s := { toHS := hs3, tmps := t3 }) hst3.tm ((hAb _).inv _ _ _ _ hst3.j).2 (.tmp 9)
  rw [show ev K { toHS := hs3, tmps := t3 } (.tmp 9) = t3 9 from rfl, e9] at this
  exact Rel.v_inv this
 refine wpIn_cond_split hc9 (fun hlt => ?_) (fun hge => ?_)
 ·
  have hlt : o < l.length := by have := of_decide_eq_true hlt; omega
  have hr : 0 < (l.drop o).length := by rw [List.length_drop]; omega
  obtain ⟨n, rfl⟩ : ∃ m, n = m + 1 := ⟨n - 1, by omega⟩
  rw [chN_cons hr] at hk
  refine wpIn_skip ?_
  refine wpIn_seq ?_
  refine wpIn_block ?_
  refine wpIn_seq ?_
  obtain ⟨r1, r2⟩ := hRd _ _ _ _ _ hst3.j
  have hLo := StJ.lo (hAb k) hst3.j
  obtain ⟨m, hm⟩ : ∃ m : Nat, m = if l.length - o < 16 then l.length - o else 16 := ⟨_, rfl⟩
  have hm1 : m ≤ l.length - o ∧ m ≤ 16 ∧ 0 < m := by rw [hm]; split <;> omega
  have gO : ((o : Int)).toNat = o := Int.toNat_natCast _
  have g0 : ((0 : Int) ≤ (o : Int)) = True := eq_true (by omega)
  have g1 : ((o : Int) ≤ (l.length : Int)) = True := eq_true (by omega)
  have gs : ((l.length : Int) - (o : Int)).toNat = l.length - o := by omega
  have gm : (if ((l.length - o : Nat) : Int) < 16 then ((l.length - o : Nat) : Int) else 16) = (m : Int) := by
   rw [hm]
   by_cases q : l.length - o < 16
   ·
    rw [if_pos q, if_pos (by omega)]
   ·
    rw [if_neg q, if_neg (by omega)]; rfl
  refine iter_awp hC hLo (by decide +kernel) (by decide +kernel) (K := fun s' => s'.objs = hs3.objs ∧ (s'.tmps 0 = .v Y ∧ s'.tmps 1 = .ptr p 0 ∧ s'.tmps 2 = .ptr c 0 ∧ s'.tmps 4 = vi (o : Int)) ∧ s'.tmps 5 = vi (m : Int)) (GS.weak (hst3.gs (hAb k) 0)) ?_ ?_
  ·
   refine awp_reg1 fun KK hKK => ?_
   refine xw_id ?_
   simp only [go_sem, Nat.reduceEqDiff, reduceIte, Nat.reduceAdd, Nat.reduceMul, Nat.reduceSub, Nat.reduceLT, Nat.reduceLeDiff, Int.reduceToNat, Int.reduceBEq, Int.reduceBNe, Int.reduceLT, Int.reduceLE, Int.reduceAdd, Int.reduceSub, Int.reduceMul, Int.reduceNeg, Int.reduceEq, Int.reduceNe, e0, e1, e2, e4, r1, r2, gO, g0, g1, gs, gm, hlen17]
   exact hKK _ ⟨rfl, rfl, ⟨e0, e1, e2, e4⟩, rfl⟩
  rintro ⟨⟨o8, n8⟩, t8⟩ a8 W8 ⟨k1, ⟨e0, e1, e2, e4⟩, e5⟩ hg8
  simp only at k1 e0 e1 e2 e4 e5
  subst k1
  have hpart : (l.drop o).take m = (l.drop o).take 16 := by
   rw [hm]
   by_cases q : l.length - o < 16
   ·
    rw [if_pos q, List.take_of_length_le (by rw [List.length_drop]; omega), List.take_of_length_le (by rw [List.length_drop]; omega)]
   ·
    rw [if_neg q]
  have hpl : ((l.drop o).take 16).length = m := by rw [← hpart, List.length_take, List.length_drop]; omega
  have gw : IntKind.wrap .i64 ((o : Int) + (m : Int)) = (o : Int) + (m : Int) := wrapI (by omega) (by omega)
  have g2 : ((o : Int) ≤ (o : Int) + (m : Int)) = True := eq_true (by omega)
  have g3 : ((o : Int) + (m : Int) ≤ (l.length : Int)) = True := eq_true (by omega)
  have g4 : ((o : Int) + (m : Int) - (o : Int)).toNat = m := by omega
  refine wpIn_seq ?_
  refine iter_yieldG hC (hAb k) (hAb (k + 1)) hAx (by decide +kernel) (by decide +kernel) 10 _ rfl (l := lo) rfl rfl rfl rfl (x := [.imm (List.flatMap e_PathRoute ((l.drop o).take 16)) ((l.drop o).take 16).length])
   (K1 := fun t => (t 0 = .v Y ∧ t 1 = .ptr p 0 ∧ t 2 = .ptr c 0 ∧ t 4 = vi (o : Int)) ∧ t 19 = .v Y ∧ t 28 = .imm (List.flatMap e_PathRoute ((l.drop o).take 16)) ((l.drop o).take 16).length)
   (K2 := fun b t => (t 0 = .v Y ∧ t 1 = .ptr p 0 ∧ t 2 = .ptr c 0 ∧ t 4 = vi (o : Int)) ∧ t 30 = vb (!b)) hst3.j hg8 ?_ ?_ ?_ ?_ ?_ ?_
  ·
   simp only [List.take_succ_cons, List.take_zero, go_sem, Nat.reduceEqDiff, reduceIte, Nat.reduceAdd, Nat.reduceMul, Nat.reduceSub, Nat.reduceLT, Nat.reduceLeDiff, Int.reduceToNat, Int.reduceBEq, Int.reduceBNe, Int.reduceLT, Int.reduceLE, Int.reduceAdd, Int.reduceSub, Int.reduceMul, Int.reduceNeg, Int.reduceEq, Int.reduceNe, e0, e1, e2, e4, e5, r1, r2, gO, g0, g1, g2, g3, g4, gw, hlen17]
   refine ⟨_, Wk.refl _ _ _, rfl, ⟨e0, e1, e2, e4⟩, rfl, ?_⟩
   show AV.imm (List.flatMap e_PathRoute (List.take m (List.drop o l))) m = _
   rw [hpl, hpart]
  ·
   rintro t1 hs' ⟨_, h20, h21⟩
   exact ⟨by rw [hY]; exact h20, by show [t1 28] = _; rw [h21]⟩
  ·
   intro ρ' V' hs' W' args' _ hj hargs
   exact hy _ _ _ _ _ _ _ hj (chX_get hk) hargs
  ·
   rintro b t1 hs' ⟨⟨e0, e1, e2, e4⟩, _⟩
   simp only [go_sem, Nat.reduceEqDiff, reduceIte, Nat.reduceAdd, Nat.reduceMul, Nat.reduceSub, Nat.reduceLT, Nat.reduceLeDiff, Int.reduceToNat, Int.reduceBEq, Int.reduceBNe, Int.reduceLT, Int.reduceLE, Int.reduceAdd, Int.reduceSub, Int.reduceMul, Int.reduceNeg, Int.reduceEq, Int.reduceNe, e0, e1, e2, e4]
   try exact ⟨rfl, ⟨rfl, rfl, rfl, rfl⟩, rfl⟩
  ·
   rintro ρ9 V9 hs9 a9 W9 t9 ⟨⟨e0, e1, e2, e4⟩, e30⟩ _ hst9
   have hc : a9.eval (.tmp 30) = .bool false := by
    have := ev_rel (C := K) (s := { toHS := hs9, tmps := t9 }) hst9.tm ((hAb _).inv _ _ _ _ hst9.j).2 (.tmp 30)
    rw [show ev K { toHS := hs9, tmps := t9 } (.tmp 30) = t9 30 from rfl, e30] at this
    exact Rel.v_inv this
   refine wpIn_cond_false hc (wpIn_skip ?_)
   have hkl' : k + 1 ≤ L.length := by
    have := congrArg List.length hk
    simp only [List.length_drop, List.length_cons] at this
    omega
   obtain ⟨r1, r2⟩ := hRd _ _ _ _ _ hst9.j
   have gw2 : IntKind.wrap .i64 ((o : Int) + 16) = ((o + 16 : Nat) : Int) := by rw [wrapI (by omega) (by omega)]; rfl
   refine iter_region hC (hAb _) (by decide +kernel) (by decide +kernel) (K := fun t => (t 0 = .v Y ∧ t 1 = .ptr p 0 ∧ t 2 = .ptr c 0 ∧ t 4 = vi ((o + 16 : Nat) : Int))) hst9 ?_ ?_
   ·
    simp only [go_sem, Nat.reduceEqDiff, reduceIte, Nat.reduceAdd, Nat.reduceMul, Nat.reduceSub, Nat.reduceLT, Nat.reduceLeDiff, Int.reduceToNat, Int.reduceBEq, Int.reduceBNe, Int.reduceLT, Int.reduceLE, Int.reduceAdd, Int.reduceSub, Int.reduceMul, Int.reduceNeg, Int.reduceEq, Int.reduceNe, e0, e1, e2, e4, r1, r2, gw2]
    try exact ⟨rfl, rfl, rfl, rfl, rfl⟩
   rintro ρ10 V10 hs10 a10 W10 t10 ⟨e0, e1, e2, e4⟩ _ hst10
   refine ⟨⟨k + 1, o + 16, n, ρ10, V10, hs10, t10, ⟨by rw [chX_drop hk, List.drop_drop], by rw [List.length_drop] at hn ⊢; omega, hkl', by omega⟩, ⟨e0, e1, e2, e4⟩, hst10⟩, ?_⟩
   have h4 : a10.tmps.getD 4 undef = .int .i64 ((o + 16 : Nat) : Int) := by
    have := hst10.tm 4
    rw [e4] at this
    exact Rel.v_inv this
   show (match a10.tmps.getD 4 undef with | .int _ n => ((l.length : Int) + 32 - n).toNat | _ => 0) < (match a.tmps.getD 4 undef with | .int _ n => ((l.length : Int) + 32 - n).toNat | _ => 0)
   rw [h4, hk4]
   show ((l.length : Int) + 32 - ((o + 16 : Nat) : Int)).toNat < ((l.length : Int) + 32 - (o : Int)).toNat
   omega
  ·
   rintro ρ9 V9 hs9 a9 W9 t9 ⟨_, e30⟩ _ hst9
   have hc : a9.eval (.tmp 30) = .bool true := by
    have := ev_rel (C := K) (s := { toHS := hs9, tmps := t9 }) hst9.tm (hAx.inv _ _ _ _ hst9.j).2 (.tmp 30)
    rw [show ev K { toHS := hs9, tmps := t9 } (.tmp 30) = t9 30 from rfl, e30] at this
    exact Rel.v_inv this
   refine wpIn_cond_true hc (wpIn_ret ?_)
   exact iter_end (R := fun e W' => (∃ v, e = .returned v) ∧ ∃ ρ' V' hs', J (chX L).length ρ' V' hs' W' ∨ Jx ρ' V' hs' W') hst9 rfl (fun v h => ⟨⟨v, rfl⟩, _, _, _, .inr h⟩)
 ·
  have hge' : l.length ≤ o := by have := of_decide_eq_false hge; omega
  rw [List.drop_eq_nil_of_le hge', chN_nil] at hk
  have hkL : k = L.length := by
   have := congrArg List.length hk
   simp only [List.length_drop, List.length_nil] at this
   omega
  subst hkL
  refine wpIn_exit ?_
  exact iter_end (R := fun e W' => (∃ v, e = .returned v) ∧ ∃ ρ' V' hs', J (chX L).length ρ' V' hs' W' ∨ Jx ρ' V' hs' W') hst3 rfl (fun v h => ⟨⟨v, rfl⟩, _, _, _, .inl (by rw [show (chX L).length = L.length from List.length_map _]; exact h)⟩)
theorem ch_snd (l : List PathRoute) (hs : HS) : Snd K 55 [.imm (List.flatMap e_PathRoute l) l.length, vi 16] hs (fun r hs' => r = .clo 59 [] [.ptr hs.next 0, .ptr (hs.next + 1) 0] ∧ hs'.objs = upd (upd hs.objs hs.next (.live [.imm (List.flatMap e_PathRoute l) l.length])) (hs.next + 1) (.live [vi 16]) ∧ hs.next + 1 < hs'.next) := by
 obtain ⟨objs, nx⟩ := hs
 refine snd_of_awp hC (fn := Tryd.f55) Tryd.func55 rfl rfl (by decide +kernel) (Nat.le_of_ble_eq_true rfl) ?_
 refine awp_reg fun KK hKK => ?_
 refine xw_id ?_
 simp only [init, List.getD_cons_zero, List.getD_cons_succ, go_sem, Nat.reduceEqDiff, reduceIte, Nat.reduceAdd, Nat.reduceMul, Nat.reduceSub, Nat.reduceLT, Nat.reduceLeDiff, Int.reduceToNat, Int.reduceBEq, Int.reduceBNe, Int.reduceLT, Int.reduceLE, Int.reduceAdd, Int.reduceSub, Int.reduceMul, Int.reduceNeg, Int.reduceEq, Int.reduceNe]
 refine hKK _ ?_; clear hKK KK
 refine awp_assoc ?_
 refine awp_reg fun KK hKK => ?_
 refine xw_id ?_
 simp only [go_sem, Nat.reduceEqDiff, reduceIte, Nat.reduceAdd, Nat.reduceMul, Nat.reduceSub, Nat.reduceLT, Nat.reduceLeDiff, Int.reduceToNat, Int.reduceBEq, Int.reduceBNe, Int.reduceLT, Int.reduceLE, Int.reduceAdd, Int.reduceSub, Int.reduceMul, Int.reduceNeg, Int.reduceEq, Int.reduceNe]
 refine hKK _ ?_; clear hKK KK
 refine awp_condF rfl ?_
 refine awp_skip ?_
 refine awp_reg fun KK hKK => ?_
 refine xw_id ?_
 simp only [go_sem, Nat.reduceEqDiff, reduceIte, Nat.reduceAdd, Nat.reduceMul, Nat.reduceSub, Nat.reduceLT, Nat.reduceLeDiff, Int.reduceToNat, Int.reduceBEq, Int.reduceBNe, Int.reduceLT, Int.reduceLE, Int.reduceAdd, Int.reduceSub, Int.reduceMul, Int.reduceNeg, Int.reduceEq, Int.reduceNe]
 refine hKK _ ?_; clear hKK KK
 refine awp_ret1 ?_
 refine end_ret0 (fn := Tryd.f55) (rs := #[.tmp 4]) rfl (by simp only [go_sem, resV, resAll, resOf, packR, Nat.reduceEqDiff, reduceIte, Nat.reduceAdd, Nat.reduceMul, Nat.reduceSub, Nat.reduceLT, Nat.reduceLeDiff, Int.reduceToNat, Int.reduceBEq, Int.reduceBNe, Int.reduceLT, Int.reduceLE, Int.reduceAdd, Int.reduceSub, Int.reduceMul, Int.reduceNeg, Int.reduceEq, Int.reduceNe]; rfl) ?_
 exact ⟨rfl, rfl, by show nx + 1 < nx + 3 + 2 + 2; omega⟩

theorem upd_at (o : Nat → Ob) (n : Nat) (x : Ob) : upd o n x n = x := upd_eq _ _ _

theorem path_node_fail_io (a0 : Path_node) (a1 : List PathRoute) {r : List Sent} (h0 : path_node_fail a0 a1 = some r) : SndIO K 35 4 (fun q => [(.ptr (q 0) 0), (.ref (q 1) 0 a1.length 17)]) [(fun q => (e_Path_node a0 (.ref (q 2) 0 a0.Paths.Routes.length 17) (.ref (q 3) 0 a0.Paths.Wanted.length 8) vnil)), (fun q => (List.flatMap e_PathRoute a1)), (fun q => (List.flatMap e_PathRoute a0.Paths.Routes)), (fun q => (List.flatMap e_PathWanted a0.Paths.Wanted))] (fun q => (.tup [])) [(some (fun q => (e_Path_node a0 (.ref (q 2) 0 a0.Paths.Routes.length 17) (.ref (q 3) 0 a0.Paths.Wanted.length 8) (.ref (q 4) 0 r.length 7)))), none, (some (fun q => (List.flatMap e_PathRoute a0.Paths.Routes))), (some (fun q => (List.flatMap e_PathWanted a0.Paths.Wanted))), (some (fun q => (List.flatMap E_Sent r)))] := by
 refine SndIO.of_walkW hC (RenML.cons (RenM.ptr 0 0) (RenML.cons (RenM.ref 1 0 _ _) RenML.nil)) (tpl_cons (e_Path_node_ren _ (RenM.ref 2 0 _ _) (RenM.ref 3 0 _ _) (RenM.const (Clean.v _))) (tpl_cons (RenML.const (c_PathRoute _)) (tpl_cons (RenML.const (c_PathRoute _)) (tpl_cons (RenML.const (c_PathWanted _)) tpl_nil))))
  (otpl_some (e_Path_node_ren _ (RenM.ref 2 0 _ _) (RenM.ref 3 0 _ _) (RenM.ref 4 0 _ _)) (otpl_none (otpl_some (RenML.const (c_PathRoute _)) (otpl_some (RenML.const (c_PathWanted _)) (otpl_some (RenML.const (c_Sent _)) otpl_nil))))) (RenM.tup RenML.nil) rfl (Nat.le_of_ble_eq_true rfl) (show K.P.funcs[35]? = some Tryd.f35 from Tryd.func35) rfl rfl (by decide +kernel) (Nat.le_of_ble_eq_true rfl) ?_
 unfold path_node_fail at h0
 obtain ⟨_, bx, h0⟩ := bnd h0
 have hlen := chk_some bx
 simp only [decide_eq_true_eq] at hlen
 refine awp_regW fun KK hKK => ?_
 refine xw_id ?_
 simp only [go_sem, Nat.reduceEqDiff, reduceIte, Nat.reduceAdd, Nat.reduceMul, Nat.reduceSub, Nat.reduceLT, Nat.reduceLeDiff, Int.reduceToNat, Int.reduceBEq, Int.reduceBNe, Int.reduceLT, Int.reduceLE, Int.reduceAdd, Int.reduceSub, Int.reduceMul, Int.reduceNeg, Int.reduceEq, Int.reduceNe]
 refine hKK _ { objs := upd (upd (upd (upd (upd (fun _ => .dead) 0 (.live (e_Path_node a0 (.ref 2 0 a0.Paths.Routes.length 17) (.ref 3 0 a0.Paths.Wanted.length 8) (.ref 4 0 0 7)))) 2 (.live (List.flatMap e_PathRoute a0.Paths.Routes))) 3 (.live (List.flatMap e_PathWanted a0.Paths.Wanted))) 4 (.live [])) 5 (.live [.ptr 0 0]), next := 6, tmps := upd (upd (fun _ => .unk) 1 (.imm (List.flatMap e_PathRoute a1) a1.length)) 2 (.ptr 5 0) }
  (by
   refine Wk.canonD [1] [1] [some 0, some 1, some 2, some 3, none, some 4] rfl ⟨rfl, trivial⟩ rfl (tmOU 5 (tmON 4 (tmOU 3 (tmOU 2 (tmOU 0 tmO0 rfl (by decide) rfl (e_Path_node_tmx (by rfl) (Tm.refL rfl ?_) (Tm.refL rfl ?_) (Tm.thaw _ _ _))) rfl (by decide) rfl (TmL.clean (c_PathRoute _))) rfl (by decide) rfl (TmL.clean (c_PathWanted _))) rfl) rfl (by decide) rfl (TmL.cons (Tm.ptr rfl) TmL.nil))
    (tmAllU 2 (tmAllU 1 tmAll0 (Tm.frz0 (by simp) (by simp only [upd_get, Nat.reduceEqDiff, reduceIte] <;> rfl) (by simp only [r_PathRoute_len]) (TmL.clean (c_PathRoute _)))) (Tm.ptr rfl))
   all_goals rfl) ?_
 clear hKK KK
 refine awp_reg fun KK hKK => ?_
 refine xw_id ?_
 simp only [go_sem, Nat.reduceEqDiff, reduceIte, Nat.reduceAdd, Nat.reduceMul, Nat.reduceSub, Nat.reduceLT, Nat.reduceLeDiff, Int.reduceToNat, Int.reduceBEq, Int.reduceBNe, Int.reduceLT, Int.reduceLE, Int.reduceAdd, Int.reduceSub, Int.reduceMul, Int.reduceNeg, Int.reduceEq, Int.reduceNe]
 refine xcall_g (ch_snd a1 _) ?_
 rintro r' hs' ⟨rfl, hob, hnx⟩
 obtain ⟨objs', nx'⟩ := hs'
 simp only at hob hnx
 try dsimp only
 refine hKK _ ?_; clear hKK KK
 have k8 : objs' 8 = .live [.imm (List.flatMap e_PathRoute a1) a1.length] := by rw [hob]; rfl
 have k9 : objs' 9 = .live [vi 16] := by rw [hob]; rfl
 have k0 : objs' 0 = .live (e_Path_node a0 (.ref 2 0 a0.Paths.Routes.length 17) (.ref 3 0 a0.Paths.Wanted.length 8) (.ref 4 0 0 7)) := by rw [hob]; rfl
 have k2 : objs' 2 = .live (List.flatMap e_PathRoute a0.Paths.Routes) := by rw [hob]; rfl
 have k3 : objs' 3 = .live (List.flatMap e_PathWanted a0.Paths.Wanted) := by rw [hob]; rfl
 have k4 : objs' 4 = .live [] := by rw [hob]; rfl
 have k5 : objs' 5 = .live [.ptr 0 0] := by rw [hob]; rfl
 have hnx : 9 < nx' := hnx
 clear hob
 generalize hL : chL a1 = L at *
 refine awp_block1 ?_
 refine awp_rangeFuncB hC (gf := 59) (caps := [.ptr 8 0, .ptr 9 0]) (xs := chX L) rfl (hL ▸ ch_iter a1 hlen 8 9) ⟨Tryd.f59, Tryd.func59, rfl, rfl⟩ (by
   intro x hx
   obtain ⟨b, _, rfl⟩ := List.mem_map.1 hx
   rfl) (by decide +kernel)
  (fun i hs => 9 < hs.next ∧ (hs.objs 8 = .live [.imm (List.flatMap e_PathRoute a1) a1.length] ∧ hs.objs 9 = .live [vi 16]) ∧ (hs.objs 2 = .live (List.flatMap e_PathRoute a0.Paths.Routes) ∧ hs.objs 3 = .live (List.flatMap e_PathWanted a0.Paths.Wanted) ∧ hs.objs 5 = .live [.ptr 0 0]) ∧
   ∃ (out : List Sent) (id : Nat), hs.objs 0 = .live (e_Path_node a0 (.ref 2 0 a0.Paths.Routes.length 17) (.ref 3 0 a0.Paths.Wanted.length 8) (.ref id 0 out.length 7)) ∧ hs.objs id = .live (List.flatMap E_Sent out) ∧ (id = 4 ∨ 10 ≤ id) ∧ id < hs.next ∧ failL { a0 with out := out } (L.drop i) = some r)
  (fun e hs => False) ?_ ?_ ?_ ?_ ?_ ?_ ?_
 ·
  rintro i ⟨ob, n⟩ n' ⟨b1, b2, b3, out, id, c1, c2, c3, c4, c5⟩ hle
  simp only at hle b1 c4
  exact ⟨by show 9 < n'; omega, b2, b3, out, id, c1, c2, c3, by show id < n'; omega, c5⟩
 ·
  intro e hs n hf _; exact hf
 ·
  rintro i hs ⟨_, b2, _⟩
  exact b2
 ·
  exact ⟨hnx, ⟨k8, k9⟩, ⟨k2, k3, k5⟩, [], 4, k0, k4, .inl rfl, by show 4 < nx'; omega, h0⟩
 ·
  rintro i x ⟨ob, n⟩ hx ⟨b1, ⟨b8, b9⟩, ⟨b2, b3, b5⟩, out, id, c1, c2, c3, c4, c5⟩
  simp only at b1 b8 b9 b2 b3 b5 c1 c2 c4
  obtain ⟨b, hb, rfl⟩ : ∃ b, L[i]? = some b ∧ x = [.imm (List.flatMap e_PathRoute b) b.length] := by
   unfold chX at hx
   rw [List.getElem?_map] at hx
   obtain ⟨b, hb, hx⟩ := Option.map_eq_some_iff.1 hx
   exact ⟨b, hb, hx.symm⟩
  have hdr : L.drop i = b :: L.drop (i + 1) := by
   obtain ⟨hi, rfl⟩ := List.getElem?_eq_some_iff.1 hb
   exact List.drop_eq_getElem_cons hi
  rw [hdr, failL] at c5
  obtain ⟨out', hB, c5⟩ := bnd c5
  refine awp_reg1 fun KK hKK => ?_
  refine xw_id ?_
  simp only [putAll, go_sem, Nat.reduceEqDiff, reduceIte, Nat.reduceAdd, Nat.reduceMul, Nat.reduceSub, Nat.reduceLT, Nat.reduceLeDiff, Int.reduceToNat, Int.reduceBEq, Int.reduceBNe, Int.reduceLT, Int.reduceLE, Int.reduceAdd, Int.reduceSub, Int.reduceMul, Int.reduceNeg, Int.reduceEq, Int.reduceNe]
  refine hKK _ ?_; clear hKK KK
  rw [seqQ_n]
  have nd : ([0, 2, 3, id, 5] : List Nat).Nodup := by
   simp only [List.nodup_cons, List.mem_cons, List.not_mem_nil, or_false, List.nodup_nil, and_true, not_false_eq_true]
   omega
  refine body_io hC (k := 5) (M := 5) (T := fun q => upd (upd (fun _ => .unk) 2 (.ptr (q 4) 0)) 4 (.imm (List.flatMap e_PathRoute b) b.length)) (fun j => ?_) (fun q j hj => ?_) ?_ ?_ rfl (Nat.le_of_ble_eq_true rfl) (by show noDef (Code.block _ _) = true; decide +kernel) (path_node_fail_B_w b { a0 with out := out } hB) [0, 2, 3, id, 5] nd (fun x hx => ?_) ?_ (fun j hj => ?_) ?_
  ·
   by_cases j4 : j = 4
   ·
    subst j4; exact RenM.const (Clean.imm (c_PathRoute _))
   ·
    by_cases j2 : j = 2
    ·
     subst j2; exact RenM.ptr 4 0
    ·
     have e : (fun q : Nat → Nat => upd (upd (fun _ => AV.unk) 2 (.ptr (q 4) 0)) 4 (.imm (List.flatMap e_PathRoute b) b.length) j) = fun _ => .unk := by
      funext q
      rw [upd_ne _ _ j4, upd_ne _ _ j2]
     rw [e]; exact RenM.const Clean.unk
  ·
   rw [upd_ne _ _ (by omega), upd_ne _ _ (by omega)]
  ·
   exact (tpl_cons (e_Path_node_ren _ (RenM.ref 1 0 _ _) (RenM.ref 2 0 _ _) (RenM.ref 3 0 _ _)) (tpl_cons (RenML.const (c_PathRoute _)) (tpl_cons (RenML.const (c_PathWanted _)) (tpl_cons (RenML.const (c_Sent _)) (tpl_cons (RenML.cons (RenM.ptr 0 0) RenML.nil) tpl_nil)))))
  ·
   exact (otpl_some (e_Path_node_ren _ (RenM.ref 1 0 _ _) (RenM.ref 2 0 _ _) (RenM.ref 5 0 _ _)) (otpl_some (RenML.const (c_PathRoute _)) (otpl_some (RenML.const (c_PathWanted _)) (otpl_none (otpl_some (RenML.cons (RenM.ptr 0 0) RenML.nil) (otpl_some (RenML.const (c_Sent _)) otpl_nil))))))
  ·
   simp only [List.mem_cons, List.not_mem_nil, or_false] at hx
   show x < n + 1
   rcases hx with rfl | rfl | rfl | rfl | rfl <;> omega
  ·
   exact ⟨c1, b2, b3, c2, b5, trivial⟩
  ·
   match j, hj with
   | 0, _ => exact .inl rfl
   | 1, _ => exact .inl rfl
   | 2, _ => exact .inr rfl
   | 3, _ => exact .inl rfl
   | 4, _ => exact .inr rfl
  ·
   have e5 : ex 5 (thl [0, 2, 3, id, 5]) (n + 1) 5 = n + 1 := by simp [ex]
   have f0 : (0 = n + 1) = False := eq_false (by omega)
   have f2 : (2 = n + 1) = False := eq_false (by omega)
   have f3 : (3 = n + 1) = False := eq_false (by omega)
   have f5 : (5 = n + 1) = False := eq_false (by omega)
   have f8 : (8 = n + 1) = False := eq_false (by omega)
   have f9 : (9 = n + 1) = False := eq_false (by omega)
   have i0 : (0 = id) = False := eq_false (by omega)
   have i2 : (2 = id) = False := eq_false (by omega)
   have i3 : (3 = id) = False := eq_false (by omega)
   have i5 : (5 = id) = False := eq_false (by omega)
   have i8 : (8 = id) = False := eq_false (by omega)
   have i9 : (9 = id) = False := eq_false (by omega)
   have q : finL ob (ex 5 (thl [0, 2, 3, id, 5]) (n + 1)) 0 ([(some (fun q => (e_Path_node ({ a0 with out := out } : Path_node) (.ref (q 1) 0 ({ a0 with out := out } : Path_node).Paths.Routes.length 17) (.ref (q 2) 0 ({ a0 with out := out } : Path_node).Paths.Wanted.length 8) (.ref (q 5) 0 out'.length 7)))), (some (fun q => (List.flatMap e_PathRoute ({ a0 with out := out } : Path_node).Paths.Routes))), (some (fun q => (List.flatMap e_PathWanted ({ a0 with out := out } : Path_node).Paths.Wanted))), none, (some (fun q => [(.ptr (q 0) 0)])), (some (fun q => (List.flatMap E_Sent out')))]) = upd (upd (upd (upd (upd (upd ob 0 (.live (e_Path_node a0 (.ref 2 0 a0.Paths.Routes.length 17) (.ref 3 0 a0.Paths.Wanted.length 8) (.ref (n + 1) 0 out'.length 7)))) 2 (.live (List.flatMap e_PathRoute a0.Paths.Routes))) 3 (.live (List.flatMap e_PathWanted a0.Paths.Wanted))) id .dead) 5 (.live [.ptr 0 0])) (n + 1) (.live (List.flatMap E_Sent out')) := by
    simp only [finL_c, finL_n, obOf_s, obOf_n, Nat.zero_add, Nat.reduceAdd, e5]
    rfl
   refine ⟨by show 9 < n + 1 + 1; omega, ⟨?_, ?_⟩, ⟨?_, ?_, ?_⟩, out', n + 1, ?_, ?_, .inr (by omega), by show n + 1 < n + 1 + 1; omega, c5⟩
   ·
    show finL ob _ 0 _ 8 = _
    rw [q]; simp only [upd_get, Nat.reduceEqDiff, reduceIte, Nat.reduceAdd, Nat.reduceMul, Nat.reduceSub, Nat.reduceLT, Nat.reduceLeDiff, Int.reduceToNat, Int.reduceBEq, Int.reduceBNe, Int.reduceLT, Int.reduceLE, Int.reduceAdd, Int.reduceSub, Int.reduceMul, Int.reduceNeg, Int.reduceEq, Int.reduceNe, f8, i8, if_false]; exact b8
   ·
    show finL ob _ 0 _ 9 = _
    rw [q]; simp only [upd_get, Nat.reduceEqDiff, reduceIte, Nat.reduceAdd, Nat.reduceMul, Nat.reduceSub, Nat.reduceLT, Nat.reduceLeDiff, Int.reduceToNat, Int.reduceBEq, Int.reduceBNe, Int.reduceLT, Int.reduceLE, Int.reduceAdd, Int.reduceSub, Int.reduceMul, Int.reduceNeg, Int.reduceEq, Int.reduceNe, f9, i9, if_false]; exact b9
   ·
    show finL ob _ 0 _ 2 = _
    rw [q]; simp only [upd_get, Nat.reduceEqDiff, reduceIte, Nat.reduceAdd, Nat.reduceMul, Nat.reduceSub, Nat.reduceLT, Nat.reduceLeDiff, Int.reduceToNat, Int.reduceBEq, Int.reduceBNe, Int.reduceLT, Int.reduceLE, Int.reduceAdd, Int.reduceSub, Int.reduceMul, Int.reduceNeg, Int.reduceEq, Int.reduceNe, f2, i2, if_false, if_true]
   ·
    show finL ob _ 0 _ 3 = _
    rw [q]; simp only [upd_get, Nat.reduceEqDiff, reduceIte, Nat.reduceAdd, Nat.reduceMul, Nat.reduceSub, Nat.reduceLT, Nat.reduceLeDiff, Int.reduceToNat, Int.reduceBEq, Int.reduceBNe, Int.reduceLT, Int.reduceLE, Int.reduceAdd, Int.reduceSub, Int.reduceMul, Int.reduceNeg, Int.reduceEq, Int.reduceNe, f3, i3, if_false, if_true]
   ·
    show finL ob _ 0 _ 5 = _
    rw [q]; simp only [upd_get, Nat.reduceEqDiff, reduceIte, Nat.reduceAdd, Nat.reduceMul, Nat.reduceSub, Nat.reduceLT, Nat.reduceLeDiff, Int.reduceToNat, Int.reduceBEq, Int.reduceBNe, Int.reduceLT, Int.reduceLE, Int.reduceAdd, Int.reduceSub, Int.reduceMul, Int.reduceNeg, Int.reduceEq, Int.reduceNe, f5, if_false, if_true]
   ·
    show finL ob _ 0 _ 0 = _
    rw [q]; simp only [upd_get, Nat.reduceEqDiff, reduceIte, Nat.reduceAdd, Nat.reduceMul, Nat.reduceSub, Nat.reduceLT, Nat.reduceLeDiff, Int.reduceToNat, Int.reduceBEq, Int.reduceBNe, Int.reduceLT, Int.reduceLE, Int.reduceAdd, Int.reduceSub, Int.reduceMul, Int.reduceNeg, Int.reduceEq, Int.reduceNe, f0, i0, if_false, if_true]
   ·
    show finL ob _ 0 _ (n + 1) = _
    rw [q, upd_at]
 ·
  rintro ⟨ob, n⟩ ⟨b1, ⟨b8, b9⟩, ⟨b2, b3, b5⟩, out, id, c1, c2, c3, c4, c5⟩
  simp only at b1 b8 b9 b2 b3 b5 c1 c2 c4
  rw [show (chX L).length = L.length from List.length_map _, List.drop_length, failL] at c5
  cases c5
  refine bq_n ?_
  refine endW_i ?_
  refine end_normal0 rs35 (rfl) ?_
  refine ResIO.mk [] [some 0, some 1, some 2, some 3, some id] ?_ (resEU List.not_mem_nil c1 (e_Path_node_tmx (by rfl) (Tm.refL rfl rfl) (Tm.refL rfl rfl) (Tm.refL rfl rfl)) (resED (resEU List.not_mem_nil b2 (TmL.clean (c_PathRoute _)) (resEU List.not_mem_nil b3 (TmL.clean (c_PathWanted _)) (resEU List.not_mem_nil c2 (TmL.clean (c_Sent _)) resE0))))) (Tm.tup TmL.nil)
  have hid : 4 ≤ id := by omega
  obtain ⟨m, rfl⟩ : ∃ m, id = m + 4 := ⟨id - 4, by omega⟩
  unfold sgD
  rw [Bool.and_eq_true]
  refine ⟨rfl, decide_eq_true ?_⟩
  show ([0, 2, 3, m + 4] : List Nat).Nodup
  simp only [List.nodup_cons, List.mem_cons, List.not_mem_nil, or_false, List.nodup_nil, and_true, not_false_eq_true]
  omega
 ·
  intro e hs _ hf; exact hf.elim
end Go.AX.Z.TO

/-! (walks) -/

set_option linter.unusedSimpArgs false
set_option linter.unusedVariables false
set_option maxHeartbeats 4000000
set_option maxRecDepth 20000
namespace Go.AX.Z.TO
open Go.AX Go.Proofs
attribute [local irreducible] awp xw xop xcall gsp ob xd xdop xcallD seqQ loopQ blkQ endQ
attribute [local go_sem ↓] iop_and iop_or iop_xor iop_andn
attribute [local go_sem] Nat.reduceAdd
def path_Broken_S0 (a1 : A6vu) (a0 : Paths) (a2 : Int) (x67 : (List PathRoute × List PathWanted)) : AS :=
 { objs := (upd (upd (upd (upd (upd (fun _ => .dead) 0 (.live (e_A6vu a1))) 1 (.live (e_Paths Paths.z vnil vnil))) 2 (.live (e_Path_node { Path_node.z with Paths := a0, now := a2, out := [] } (.ref 3 0 x67.1.length 17) (.ref 4 0 x67.2.length 8) vnil))) 3 (.live (List.flatMap e_PathRoute x67.1))) 4 (.live (List.flatMap e_PathWanted x67.2))), next := 5, tmps := (upd (upd (upd (upd (fun _ => .unk) 4 (.ptr 0 0)) 6 (.ptr 1 0)) 9 (.ptr 2 0)) 10 (vi 0)) }

def path_Broken_S1 (a0 : Paths) (a2 : Int) (x67 : (List PathRoute × List PathWanted)) (d68 : (List PathRoute × List PathRoute)) : AS :=
 { objs := (upd (upd (upd (upd (upd (fun _ => .dead) 0 (.live (e_Paths Paths.z vnil vnil))) 1 (.live (e_Path_node { Path_node.z with Paths := a0, now := a2, out := [] } (.ref 2 0 d68.1.length 17) (.ref 3 0 x67.2.length 8) vnil))) 2 (.live (List.flatMap e_PathRoute d68.1))) 3 (.live (List.flatMap e_PathWanted x67.2))) 4 (.live (List.flatMap e_PathRoute d68.2))), next := 5, tmps := (upd (upd (upd (fun _ => .unk) 6 (.ptr 0 0)) 9 (.ptr 1 0)) 11 (.ref 4 0 d68.2.length 17)) }

def path_Broken_S2 (a1 : A6vu) (a0 : Paths) (a2 : Int) (x67 : (List PathRoute × List PathWanted)) (d69 : (List PathRoute × List PathRoute × Int)) : AS :=
 { objs := (upd (upd (upd (upd (upd (upd (fun _ => .dead) 0 (.live (e_A6vu a1))) 1 (.live (e_Paths Paths.z vnil vnil))) 2 (.live (e_Path_node { Path_node.z with Paths := a0, now := a2, out := [] } (.ref 3 0 d69.1.length 17) (.ref 4 0 x67.2.length 8) vnil))) 3 (.live (List.flatMap e_PathRoute d69.1))) 4 (.live (List.flatMap e_PathWanted x67.2))) 5 (.live (List.flatMap e_PathRoute d69.2.1))), next := 6, tmps := (upd (upd (upd (upd (upd (upd (fun _ => .unk) 4 (.ptr 0 0)) 6 (.ptr 1 0)) 9 (.ptr 2 0)) 11 (.ref 5 0 d69.2.1.length 17)) 29 (vi ((x67.1.length : Nat) : Int))) 30 (vi d69.2.2)) }

def path_Broken_S4 (a1 : A6vu) (x76 : Int) : AS :=
 { objs := (upd (upd (fun _ => .dead) 0 (.live (e_A6vu a1))) 1 (.live (e_Paths Paths.z vnil vnil))), next := 2, tmps := (upd (upd (upd (upd (fun _ => .unk) 4 (.ptr 0 0)) 6 (.ptr 1 0)) 9 (.v (.pointer none))) 10 (vi x76)) }

theorem path_Broken_r (a0 : Paths) (a1 : A6vu) (a2 : Int) {r : (Paths × (List Sent) × Int)} (h0 : path_Broken a0 a1 a2 = some r) : SndR K 11 [(.agg (E_Paths a0)), (.agg (e_A6vu a1)), (vi a2)] (fun q => (.tup [(.agg (e_Paths r.1 (.ref (q 0) 0 r.1.Routes.length 17) (.ref (q 1) 0 r.1.Wanted.length 8))), (.ref (q 2) 0 r.2.1.length 7), (vi r.2.2)])) [(List.flatMap e_PathRoute r.1.Routes), (List.flatMap e_PathWanted r.1.Wanted), (List.flatMap E_Sent r.2.1)] := by
 refine SndR.of_walkW hC (show K.P.funcs[11]? = some Tryd.f11 from Tryd.func11) rfl rfl (by decide +kernel) (qB2 rfl) ?_; unfold path_Broken at h0; refine awp_nw [0,1,2] fun tz U u => ?_; (try simp only [go_sem]); refine qU u ?_; clear u U; refine awp_nw [2,3,4,6] fun tz U u => ?_; rcases bE ((path_begun a0 a2).isSome) with h1 | h1
 ·
  have h0 := cT h0 h1; obtain ⟨x67, bx67, h0⟩ := bnd h0; (try simp only [go_sem]); (refine xcall_O [] (path_begun_io a0 a2 bx67) (by decide) (by decide) trivial (by first | rfl | (simp only [go_sem] <;> rfl) | (simp only [go_sem, List.length_append] <;> rfl)) ?_; try dsimp only); (try refine xw_id ?_); (try simp only [go_sem, lc, ln]); refine u _ (path_Broken_S0 a1 a0 a2 x67) (by refine Wk.canonD [] [] [some 1, some 2, some 13, some 14, some 15] rfl trivial rfl (tmOU 4 (tmOU 3 (tmOU 2 (tmOU 1 (tmOU 0 tmO0 rfl qM rfl (TmL.clean (e_A6vu_clean _))) rfl qM rfl (e_Paths_tmx (by rfl) tv tv)) rfl qM rfl (e_Path_node_tmx (by rfl) tr tr tv)) rfl qM rfl (TmL.of_eq qL (c_PathRoute _))) rfl qM rfl (TmL.of_eq qL (c_PathWanted _))) (tA 10 (tA 9 (tA 6 (tA 4 tmAll0 tp) tp) tp) tv); all_goals exact qN) ?_; clear u U; unfold path_Broken_S0; refine awp_assoc ?_; refine awp_nw [4,6,9,10] fun tz U u => ?_; (try simp only [go_sem]); refine qU u ?_; clear u U; refine awp_condF rfl ?_; refine awp_skip ?_; refine awp_nw [4,6,9] fun tz U u => ?_; (try simp only [go_sem]); refine qU u ?_; clear u U; refine awp_assoc ?_; refine awp_nw [4,6,9,11] fun tz U u => ?_; (try simp only [go_sem]); refine qU u ?_; clear u U; obtain ⟨d68, hi2, h0⟩ := bnd h0; refine awp_cut (fun z => d68 = z) (fun d68 : (List PathRoute × List PathRoute) => path_Broken_S1 a0 a2 x67 d68) ?_ ?_
  ·
   refine awp_block1 ?_; refine awp_loopS (fun n (d69 : (List PathRoute × List PathRoute × Int)) => path_Broken_L3 x67 a1 n d69 = some d68) (fun d69 : (List PathRoute × List PathRoute × Int) => path_Broken_S2 a1 a0 a2 x67 d69) big (x67.1, [], 0) (by refine Wk.canonD [] [] [some 0, some 1, some 2, some 3, some 4, none] rfl trivial rfl (tmON 5 (tmOU 4 (tmOU 3 (tmOU 2 (tmOU 1 (tmOU 0 tmO0 rfl qM rfl (TmL.clean (e_A6vu_clean _))) rfl qM rfl (e_Paths_tmx (by rfl) tv tv)) rfl qM rfl (e_Path_node_tmx (by rfl) tr tr tv)) rfl qM rfl (TmL.of_eq qL (c_PathRoute _))) rfl qM rfl (TmL.of_eq qL (c_PathWanted _))) rfl) (tA 30 (tA 29 (tA 11 (tA 9 (tA 6 (tA 4 tmAll0 tp) tp) tp) tT) tv) tv); all_goals exact qN) hi2 ?_; clear hi2; rintro n d69 hl4; rcases n with _ | n3
   ·
    (rw [path_Broken_L3] at hl4; cases hl4)
   ·
    rw [path_Broken_L3] at hl4; unfold path_Broken_S2; refine awp_nw [4,6,9,11,29,30] fun tz U u => ?_; (try simp only [go_sem]); refine qU u ?_; clear u U; refine awp_cond (b := (decide (d69.2.2 < ((x67.1.length : Nat) : Int)))) rfl (fun h5 => ?_) (fun h5 => ?_)
    ·
     have hl4 := cT hl4 h5; refine awp_skip ?_; refine awp_blockW ?_; refine awp_nw [4,6,9,11,29,30] fun tz U u => ?_; (try simp only [go_sem]); refine qU u ?_; clear u U; refine awp_nw [4,6,9,11,12,29,30] fun tz U u => ?_; obtain ⟨x70, bx70, hl4⟩ := bnd hl4; obtain ⟨fx70_0, fx70_1, fx70_2, fx70_3⟩ := idx_some bx70; (have fx70_5 : ((d69.2.2 : Int) < ((d69.1.length : Nat) : Int)) = True := by first | exact fx70_1 | (simp [List.length_modify, List.length_set]; omega)); (try simp only [go_sem, fx70_0, fx70_1, fx70_2, fx70_5]); refine qU u ?_; clear u U; refine awp_nw [4,6,9,11,13,29,30] fun tz U u => ?_; refine xw_stop 5 qS qS (by rfl) fun V v => ?_; refine xw_id ?_; (try simp only [go_sem, fx70_0, fx70_1, fx70_2, fx70_5]); refine v _ ?_; clear v V; refine xw_cut 7 [(4, (.ptr 0 0)), (6, (.ptr 1 0)), (9, (.ptr 2 0)), (11, (.ref 5 0 d69.2.1.length 17)), (13, (.ptr 3 ((d69.2.2).toNat * 17))), (29, (vi ((x67.1.length : Nat) : Int))), (30, (vi d69.2.2)), (51, (vb (x70.Valid && (decide (x70.Next = a1)))))] qS qS (by rfl) (fun V v => ?_) fun tz => ?_
     ·
      refine xw_id ?_; rcases bE x70.Valid with h6 | h6
      ·
       (try simp only [go_sem, fx70_0, fx70_1, fx70_2, fx70_5, h6]); exact v _ ⟨(by first | rfl | (simp only [h6]; done)), rfl, rfl, rfl, rfl, rfl, rfl, rfl, (qB h6), trivial⟩
      ·
       (try simp only [go_sem, fx70_0, fx70_1, fx70_2, fx70_5, h6]); exact v _ ⟨(by first | rfl | (simp only [h6]; done)), rfl, rfl, rfl, rfl, rfl, rfl, rfl, (qB h6), trivial⟩
     ·
      refine xw_id ?_; (try simp only [go_sem, fx70_0, fx70_1, fx70_2, fx70_5]); refine qU u ?_; clear u U; refine awp_cond1 (b := (x70.Valid && (decide (x70.Next = a1)))) rfl (fun h7 => ?_) (fun h7 => ?_)
      ·
       have hl4 := cT hl4 h7; refine awp_nw [4,6,9,11,13,29,30] fun tz U u => ?_; obtain ⟨x71, bx71, hl4⟩ := bnd hl4; (try simp only [go_sem, fx70_0, fx70_1, fx70_2, fx70_5]); (refine xcall_O [3] (path_spoil_io d69.2.2 d69.1 bx71) (by decide) (by decide) ⟨(by first | rfl | (simp only [go_sem, fx70_0, fx70_1, fx70_2, fx70_5] <;> rfl) | (simp only [go_sem, List.length_append, fx70_0, fx70_1, fx70_2, fx70_5] <;> rfl)), trivial⟩ (by first | rfl | (simp only [go_sem, fx70_0, fx70_1, fx70_2, fx70_5] <;> rfl) | (simp only [go_sem, List.length_append, fx70_0, fx70_1, fx70_2, fx70_5] <;> rfl)) ?_; try dsimp only); (try refine xw_id ?_); obtain ⟨x72, bx72, hl4⟩ := bnd hl4; have bx72 := chk_some bx72; simp only [decide_eq_true_eq] at bx72; (try simp only [go_sem, fx70_0, fx70_1, fx70_2, fx70_5, lc, ln]); refine qU u ?_; clear u U; refine awp_nw1 [4,6,9,11,13,29,30] fun tz U u => ?_; obtain ⟨x73, bx73, hl4⟩ := bnd hl4; obtain ⟨fx73_0, fx73_1, fx73_2, fx73_3⟩ := idx_some bx73; obtain ⟨x74, bx74, hl4⟩ := bnd hl4; have bx74 := chk_some bx74; simp only [Bool.and_eq_true, decide_eq_true_eq] at bx74; have gx74_0 := bx74; (try simp only [go_sem, fx70_0, fx70_1, fx70_2, fx70_5, fx73_0, fx73_1, fx73_2, gx74_0]); refine u _ ?_; clear u U; refine bq_n ?_; refine seqW_i ?_; refine awp_nw1 [4,6,9,11,29,30] fun tz U u => ?_; (try simp only [go_sem, fx70_0, fx70_1, fx70_2, fx70_5, fx73_0, fx73_1, fx73_2]); refine u _ ?_; clear u U; refine lq_n ?_; exact ⟨n3, (x71, (d69.2.1 ++ [x73]), IntKind.wrap .i64 (d69.2.2 + 1)), rfl, hl4, (by refine Wk.canonD [] [] [some 0, some 1, some 2, some 3, some 4, some 36] rfl trivial rfl (tmOU 5 (tmOU 4 (tmOU 3 (tmOU 2 (tmOU 1 (tmOU 0 tmO0 rfl qM rfl (TmL.clean (e_A6vu_clean _))) rfl qM rfl (e_Paths_tmx (by rfl) tv tv)) rfl qM rfl (e_Path_node_tmx (by rfl) tr tr tv)) rfl qM rfl (TmL.of_eq qL (c_PathRoute _))) rfl qM rfl (TmL.of_eq qL (c_PathWanted _))) rfl qM rfl (TmL.of_eq qL (c_PathRoute _))) (tA 30 (tA 29 (tA 11 (tA 9 (tA 6 (tA 4 tmAll0 tp) tp) tp) tr) tv) tv); all_goals exact qN)⟩
      ·
       have hl4 := cF hl4 h7; refine awp_skip1 ?_; refine bq_n ?_; refine seqW_i ?_; refine awp_nw1 [4,6,9,11,29,30] fun tz U u => ?_; (try simp only [go_sem, fx70_0, fx70_1, fx70_2, fx70_5]); refine u _ ?_; clear u U; refine lq_n ?_; exact ⟨n3, (d69.1, d69.2.1, IntKind.wrap .i64 (d69.2.2 + 1)), rfl, hl4, (by refine Wk.canonD [] [] [some 0, some 1, some 2, some 3, some 4, some 5] rfl trivial rfl (tmOU 5 (tmOU 4 (tmOU 3 (tmOU 2 (tmOU 1 (tmOU 0 tmO0 rfl qM rfl (TmL.clean (e_A6vu_clean _))) rfl qM rfl (e_Paths_tmx (by rfl) tv tv)) rfl qM rfl (e_Path_node_tmx (by rfl) tr tr tv)) rfl qM rfl (TmL.of_eq qL (c_PathRoute _))) rfl qM rfl (TmL.of_eq qL (c_PathWanted _))) rfl qM rfl (TmL.of_eq qL (c_PathRoute _))) (tA 30 (tA 29 (tA 11 (tA 9 (tA 6 (tA 4 tmAll0 tp) tp) tp) tr) tv) tv); all_goals exact qN)⟩
    ·
     have hl4 := cF hl4 h5; refine awp_exit ?_; refine lq_e ?_; refine bq_e ?_; refine sq_n ?_; obtain rfl := someInj hl4; exact ⟨_, rfl, (by refine Wk.canonD [] [] [some 1, some 2, some 3, some 4, some 5] rfl trivial rfl (tmOU 4 (tmOU 3 (tmOU 2 (tmOU 1 (tmOU 0 tmO0 rfl qM rfl (e_Paths_tmx (by rfl) tv tv)) rfl qM rfl (e_Path_node_tmx (by rfl) tr tr tv)) rfl qM rfl (TmL.of_eq qL (c_PathRoute _))) rfl qM rfl (TmL.of_eq qL (c_PathWanted _))) rfl qM rfl (TmL.of_eq qL (c_PathRoute _))) (tA 11 (tA 9 (tA 6 tmAll0 tp) tp) tr); all_goals exact qN)⟩
  ·
   rintro _ rfl; clear hi2; unfold path_Broken_S1; refine awp_nw [6,9,11] fun tz U u => ?_; obtain ⟨x75, bx75, h0⟩ := bnd h0; (try simp only [go_sem]); (refine xcall_O [1, 4, 2, 3] (path_node_fail_io { Path_node.z with Paths := { a0 with Routes := d68.1, Wanted := x67.2 }, now := a2, out := [] } d68.2 bx75) (by decide) (by decide) ⟨(by first | rfl | (simp only [go_sem] <;> rfl) | (simp only [go_sem, List.length_append] <;> rfl)), (by first | rfl | (simp only [go_sem] <;> rfl) | (simp only [go_sem, List.length_append] <;> rfl)), (by first | rfl | (simp only [go_sem] <;> rfl) | (simp only [go_sem, List.length_append] <;> rfl)), (by first | rfl | (simp only [go_sem] <;> rfl) | (simp only [go_sem, List.length_append] <;> rfl)), trivial⟩ (by first | rfl | (simp only [go_sem] <;> rfl) | (simp only [go_sem, List.length_append] <;> rfl)) ?_; try dsimp only); (try refine xw_id ?_); (try simp only [go_sem, lc, ln]); refine qU u ?_; clear u U; refine awp_nr [6,9] (fun _ => rfl) fun tz => ?_; refine awp_regDW fun U u all hall => ?_; refine xd_id ?_; (try simp only [List.toList_toArray, List.map_cons, List.map_nil, List.size_toArray, List.length_cons, List.length_nil, Nat.zero_add]); (try simp only [Nat.reduceAdd]); (iterate 3 ((try simp only [go_sem, -Nat.reduceAdd]); try simp only [Nat.reduceAdd])); refine And.intro ?_ (u _ _ (Wk.refl _ _ _) ?_)
   ·
    subst hall; clear u U; exact qP
   ·
    clear u U hall all; refine awp_ret1 ?_; obtain rfl := someInj h0; refine endW_i ?_; refine end_ret0 rs11 qR ?_; refine Res.mk [] [some 2, some 3, some 8] rfl (resOU qM rfl (TmL.of_eq qL (c_PathRoute _)) (resOU qM rfl (TmL.of_eq qL (c_PathWanted _)) (resOU qM rfl (TmL.of_eq qL (c_Sent _)) resO0))) (Tm.tup (tc (Tm.agg (e_Paths_tmx (by rfl) tr tr)) (tc tr (tc tv tn)))); (all_goals exact qN)
 ·
  have h0 := cF h0 h1; obtain ⟨x76, bx76, h0⟩ := bnd h0; (try simp only [go_sem]); (refine xcall_O [] (path_begun_2_io a0 a2 bx76) (by decide) (by decide) trivial (by first | rfl | (simp only [go_sem] <;> rfl) | (simp only [go_sem, List.length_append] <;> rfl)) ?_; try dsimp only); (try refine xw_id ?_); (try simp only [go_sem, lc, ln]); refine u _ (path_Broken_S4 a1 x76) (Wk.canonD [] [] [some 1, some 2] rfl trivial rfl (tmOU 1 (tmOU 0 tmO0 rfl qM rfl (TmL.clean (e_A6vu_clean _))) rfl qM rfl (e_Paths_tmx (by rfl) tv tv)) (tA 10 (tA 9 (tA 6 (tA 4 tmAll0 tp) tp) tv) tv)) ?_; clear u U; unfold path_Broken_S4; refine awp_assoc ?_; refine awp_nw [4,6,9,10] fun tz U u => ?_; (try simp only [go_sem]); refine qU u ?_; clear u U; refine awp_cond (b := (x76 != 0)) rfl (fun h8 => ?_) (fun h8 => ?_)
  ·
   have h0 := cT h0 h8; refine awp_assoc ?_; refine awp_nw [6,10] fun tz U u => ?_; (try simp only [go_sem]); refine qU u ?_; clear u U; refine awp_ret ?_; obtain rfl := someInj h0; refine endW_i ?_; refine end_ret0 rs11 qR ?_; refine Res.mk [] [none, none, none] rfl (resON (resON (resON resO0))) (Tm.tup (tc (Tm.agg (e_Paths_tmx (by rfl) tT tT)) (tc tT (tc tv tn))))
  ·
   have h0 := cF h0 h8; refine awp_skip ?_; refine awp_nw [4,6,9] fun tz U u => ?_; (try simp only [go_sem]); refine qU u ?_; clear u U; refine awp_assoc ?_; refine awp_nw [4,6,9,11] fun tz U u => ?_; cases h0

theorem path_Broken_m (a0 : Paths) (a1 : A6vu) (a2 : Int) {r : (Paths × (List Sent) × Int)} (h0 : path_Broken a0 a1 a2 = some r) : SndM K 11 [(.agg (E_Paths a0)), (.agg (e_A6vu a1)), (vi a2)] (fun q => (.tup [(.agg (e_Paths r.1 (.ref (q 0) 0 r.1.Routes.length 17) (.ref (q 1) 0 r.1.Wanted.length 8))), (.ref (q 2) 0 r.2.1.length 7), (vi r.2.2)])) [(List.flatMap e_PathRoute r.1.Routes), (List.flatMap e_PathWanted r.1.Wanted), (List.flatMap E_Sent r.2.1)] :=
 fun hs => Snd.of_newM (RenM.tup (RenML.cons (RenM.agg (e_Paths_ren _ (RenM.ref 0 0 _ _) (RenM.ref 1 0 _ _))) (RenML.cons (RenM.ref 2 0 _ _) (RenML.cons rv RenML.nil)))) (rows_all_cons (c_PathRoute _) (rows_all_cons (c_PathWanted _) (rows_all_cons (c_Sent _) rows_all_nil))) (clean_cons (Clean.agg (E_Paths_clean _)) (clean_cons (Clean.agg (e_A6vu_clean _)) (clean_cons cv clean_nil))) (path_Broken_r a0 a1 a2 h0) hs
def hotspotref39_Failure_S0 (d84 : (List Int)) : AS :=
 { objs := (upd (fun _ => .dead) 0 (.live (List.map vu d84))), next := 1, tmps := (upd (fun _ => .unk) 3 (.ref 0 0 d84.length 1)) }

def hotspotref39_Failure_S1 (a0 : (List PathRoute)) (d85 : (List Int × Int)) : AS :=
 { objs := (upd (fun _ => .dead) 0 (.live (List.map vu d85.1))), next := 1, tmps := (upd (upd (upd (fun _ => .unk) 0 (.imm (List.flatMap e_PathRoute a0) a0.length)) 3 (.ref 0 0 d85.1.length 1)) 4 (vi d85.2)) }

theorem hotspotref39_Failure_r (a0 : (List PathRoute)) {r : (List Int)} (h0 : hotspotref39_Failure a0 = some r) : SndR K 37 [(S_PathRoute a0)] (fun q => (.ref (q 0) 0 r.length 1)) [(List.map vu r)] := by
 refine SndR.of_walkW hC (show K.P.funcs[37]? = some Tryd.f37 from Tryd.func37) rfl rfl (by decide +kernel) (qB2 rfl) ?_; unfold hotspotref39_Failure at h0; refine awp_nw [0] fun tz U u => ?_; (try simp only [go_sem]); refine qU u ?_; clear u U; refine awp_nw [0] fun tz U u => ?_; (try simp only [go_sem]); refine qU u ?_; clear u U; refine awp_assoc ?_; refine awp_nw [0,3] fun tz U u => ?_; (try simp only [go_sem]); refine qU u ?_; clear u U; obtain ⟨d84, hi1, h0⟩ := bnd h0; refine awp_cut (fun z => d84 = z) (fun d84 : (List Int) => hotspotref39_Failure_S0 d84) ?_ ?_
 ·
  refine awp_block1 ?_; refine awp_loopS (fun n (d85 : (List Int × Int)) => hotspotref39_Failure_L2 a0 n d85 = some d84) (fun d85 : (List Int × Int) => hotspotref39_Failure_S1 a0 d85) big ([3, IntKind.wrap .u8 (a0.length : Int)], 0) (by refine Wk.canonD [] [] [some 4] rfl trivial rfl (tmOU 0 tmO0 rfl qM rfl (TmL.of_eq qL (vu_clean _))) (tA 4 (tA 3 (tA 0 tmAll0 (tI (c_PathRoute _))) tr) tv); all_goals exact qN) hi1 ?_; clear hi1; rintro n d85 hl3; rcases n with _ | n2
  ·
   (rw [hotspotref39_Failure_L2] at hl3; cases hl3)
  ·
   rw [hotspotref39_Failure_L2] at hl3; unfold hotspotref39_Failure_S1; refine awp_assoc ?_; refine awp_nw [0,3,4] fun tz U u => ?_; (try simp only [go_sem]); refine qU u ?_; clear u U; refine awp_cond (b := (decide (d85.2 < (a0.length : Int)))) rfl (fun h4 => ?_) (fun h4 => ?_)
   ·
    have hl3 := cT hl3 h4; refine awp_skip ?_; refine awp_blockW ?_; refine awp_nw [0,3,4] fun tz U u => ?_; obtain ⟨x86, bx86, hl3⟩ := bnd hl3; obtain ⟨fx86_0, fx86_1, fx86_2, fx86_3⟩ := idx_some bx86; (have gs5 : List.take 6 (List.flatMap e_PathRoute (List.drop (d85.2).toNat a0)) = List.map vu [x86.Dest.a0, x86.Dest.a1, x86.Dest.a2, x86.Dest.a3, x86.Dest.a4, x86.Dest.a5] := by rw [List.drop_eq_getElem_cons fx86_3, (List.getElem?_eq_some_iff.1 fx86_2).2, List.flatMap_cons, List.take_append_of_le_length (by rw [e_PathRoute_len]; omega)]; rfl); have gs5b : ((d85.2).toNat * 17 + 6 ≤ a0.length * 17) = True := eq_true (by omega); obtain ⟨x87, bx87, hl3⟩ := bnd hl3; have bx87 := chk_some bx87; simp only [Bool.and_eq_true, decide_eq_true_eq] at bx87; have gx87_0 := bx87; (try simp only [List.cons_append, List.nil_append, List.length_append, List.length_cons, List.length_nil, Nat.zero_add, Nat.reduceAdd, Nat.add_assoc, Nat.reduceLeDiff] at gx87_0); (try simp only [go_sem, fx86_0, fx86_1, fx86_2, gs5b, gs5, Int.sub_zero, gx87_0, List.length_append, vu_len]); (try (rw [if_pos (by (try simp only [List.length_append, lc, ln]); omega)]; try simp only [go_sem, fx86_0, fx86_1, fx86_2, gs5b, gs5, Int.sub_zero, gx87_0, List.length_append, vu_len])); refine qU u ?_; clear u U; refine awp_nw1 [0,3,4] fun tz U u => ?_; obtain ⟨x88, bx88, hl3⟩ := bnd hl3; (try simp only [go_sem, fx86_0, fx86_1, fx86_2]); (refine xcall_M (hotspotref39_low_m x86.Seq 4 bx88) ?_; try dsimp only); (try refine xw_id ?_); have gc6 : (6 + d85.1.length = d85.1.length + 6) = True := eq_true (Nat.add_comm _ _); obtain ⟨x89, bx89, hl3⟩ := bnd hl3; have bx89 := chk_some bx89; simp only [Bool.and_eq_true, decide_eq_true_eq] at bx89; have gx89_0 := bx89; (try simp only [List.cons_append, List.nil_append, List.length_append, List.length_cons, List.length_nil, Nat.zero_add, Nat.reduceAdd, Nat.add_assoc, Nat.reduceLeDiff] at gx89_0); (try simp only [go_sem, fx86_0, fx86_1, fx86_2, gc6, gx89_0, List.length_append, vu_len]); (try (rw [if_pos (by (try simp only [List.length_append, lc, ln]); omega)]; try simp only [go_sem, fx86_0, fx86_1, fx86_2, gc6, gx89_0, List.length_append, vu_len])); refine u _ ?_; clear u U; refine bq_n ?_; refine seqW_i ?_; refine awp_nw1 [0,3,4] fun tz U u => ?_; (try simp only [go_sem, fx86_0, fx86_1, fx86_2]); refine u _ ?_; clear u U; refine lq_n ?_; exact ⟨n2, (((d85.1 ++ [x86.Dest.a0, x86.Dest.a1, x86.Dest.a2, x86.Dest.a3, x86.Dest.a4, x86.Dest.a5]) ++ x88), IntKind.wrap .i64 (d85.2 + 1)), rfl, hl3, (by refine Wk.canonD [] [] [some 20] rfl trivial rfl (tmOU 0 tmO0 rfl qM rfl (TmL.of_eq qL (vu_clean _))) (tA 4 (tA 3 (tA 0 tmAll0 (tI (c_PathRoute _))) tr) tv); all_goals exact qN)⟩
   ·
    have hl3 := cF hl3 h4; refine awp_exit ?_; refine lq_e ?_; refine bq_e ?_; refine sq_n ?_; obtain rfl := someInj hl3; exact ⟨_, rfl, (by refine Wk.canonD [] [] [some 0] rfl trivial rfl (tmOU 0 tmO0 rfl qM rfl (TmL.of_eq qL (vu_clean _))) (tA 3 tmAll0 tr); all_goals exact qN)⟩
 ·
  rintro _ rfl; clear hi1; unfold hotspotref39_Failure_S0; refine awp_nw [3] fun tz U u => ?_; (try simp only [go_sem]); refine qU u ?_; clear u U; refine awp_ret1 ?_; obtain rfl := someInj h0; refine endW_i ?_; refine end_ret0 rs37 (rfl) ?_; refine Res.mk [] [some 0] rfl (resOU qM rfl (TmL.of_eq qL (vu_clean _)) resO0) tr; (all_goals exact qN)


theorem hotspotref39_Failure_p (a0 : (List PathRoute)) {r : (List Int)} (h0 : hotspotref39_Failure a0 = some r) : SndP K 37 [(S_PathRoute a0)] (S_vu r) :=
 SndM.pure (rM (hotspotref39_Failure_r a0 h0) (RenM.ref 0 0 _ _) (rows_all_cons (vu_clean _) rows_all_nil) (clean_cons (S_PathRoute_clean _) clean_nil)) (S_vu_clean _) (clean_cons (S_PathRoute_clean _) clean_nil) qV
def hotspotref39_Broken_S0 (x78 : (Paths × Int)) (a1 : A6vu) : AS :=
 { objs := (upd (upd (upd (upd (upd (fun _ => .dead) 0 (.live (e_Paths x78.1 (.ref 1 0 x78.1.Routes.length 17) (.ref 2 0 x78.1.Wanted.length 8)))) 1 (.live (List.flatMap e_PathRoute x78.1.Routes))) 2 (.live (List.flatMap e_PathWanted x78.1.Wanted))) 3 (.live (e_A6vu a1))) 4 (.live (e_Paths Paths.z vnil vnil))), next := 5, tmps := (upd (upd (upd (upd (fun _ => .unk) 3 (.ptr 0 0)) 4 (.ptr 3 0)) 6 (.ptr 4 0)) 9 (vi x78.2)) }

def hotspotref39_Broken_S1 (x78 : (Paths × Int)) (d79 : (List PathRoute × List Sent)) : AS :=
 { objs := (upd (upd (upd (upd (upd (fun _ => .dead) 0 (.live (e_Paths x78.1 (.ref 1 0 d79.1.length 17) (.ref 2 0 x78.1.Wanted.length 8)))) 1 (.live (List.flatMap e_PathRoute d79.1))) 2 (.live (List.flatMap e_PathWanted x78.1.Wanted))) 3 (.live (e_Paths Paths.z vnil vnil))) 4 (.live (List.flatMap E_Sent d79.2))), next := 5, tmps := (upd (upd (upd (fun _ => .unk) 3 (.ptr 0 0)) 6 (.ptr 3 0)) 11 (.ref 4 0 d79.2.length 7)) }

def hotspotref39_Broken_S2 (x78 : (Paths × Int)) (a1 : A6vu) (d80 : (List PathRoute × List PathRoute × List Sent × Int)) : AS :=
 { objs := (upd (upd (upd (upd (upd (upd (upd (fun _ => .dead) 0 (.live (e_Paths x78.1 (.ref 1 0 d80.1.length 17) (.ref 2 0 x78.1.Wanted.length 8)))) 1 (.live (List.flatMap e_PathRoute d80.1))) 2 (.live (List.flatMap e_PathWanted x78.1.Wanted))) 3 (.live (e_A6vu a1))) 4 (.live (e_Paths Paths.z vnil vnil))) 5 (.live (List.flatMap e_PathRoute d80.2.1))) 6 (.live (List.flatMap E_Sent d80.2.2.1))), next := 7, tmps := (upd (upd (upd (upd (upd (upd (fun _ => .unk) 3 (.ptr 0 0)) 4 (.ptr 3 0)) 6 (.ptr 4 0)) 10 (.ref 5 0 d80.2.1.length 17)) 11 (.ref 6 0 d80.2.2.1.length 7)) 12 (vi d80.2.2.2)) }

def hotspotref39_Broken_S4 (x78 : (Paths × Int)) (a1 : A6vu) (d80 : (List PathRoute × List PathRoute × List Sent × Int)) (d82 : (List PathRoute × List PathRoute)) : AS :=
 { objs := (upd (upd (upd (upd (upd (upd (upd (fun _ => .dead) 0 (.live (e_Paths x78.1 (.ref 1 0 d82.1.length 17) (.ref 2 0 x78.1.Wanted.length 8)))) 1 (.live (List.flatMap e_PathRoute d82.1))) 2 (.live (List.flatMap e_PathWanted x78.1.Wanted))) 3 (.live (e_A6vu a1))) 4 (.live (e_Paths Paths.z vnil vnil))) 5 (.live (List.flatMap e_PathRoute d82.2))) 6 (.live (List.flatMap E_Sent d80.2.2.1))), next := 7, tmps := (upd (upd (upd (upd (upd (upd (fun _ => .unk) 3 (.ptr 0 0)) 4 (.ptr 3 0)) 6 (.ptr 4 0)) 10 (.ref 5 0 d82.2.length 17)) 11 (.ref 6 0 d80.2.2.1.length 7)) 12 (vi d80.2.2.2)) }

theorem hotspotref39_Broken_r (a0 : Paths) (a1 : A6vu) (a2 : Int) {r : (Paths × (List Sent) × Int)} (h0 : hotspotref39_Broken a0 a1 a2 = some r) : SndR K 12 [(.agg (E_Paths a0)), (.agg (e_A6vu a1)), (vi a2)] (fun q => (.tup [(.agg (e_Paths r.1 (.ref (q 0) 0 r.1.Routes.length 17) (.ref (q 1) 0 r.1.Wanted.length 8))), (.ref (q 2) 0 r.2.1.length 7), (vi r.2.2)])) [(List.flatMap e_PathRoute r.1.Routes), (List.flatMap e_PathWanted r.1.Wanted), (List.flatMap E_Sent r.2.1)] := by
 refine SndR.of_walkW hC (show K.P.funcs[12]? = some Tryd.f12 from Tryd.func12) rfl rfl (by decide +kernel) (qB2 rfl) ?_; unfold hotspotref39_Broken at h0; refine awp_nw [0,1,2] fun tz U u => ?_; (try simp only [go_sem]); refine qU u ?_; clear u U; refine awp_nw [2,3,4,6] fun tz U u => ?_; obtain ⟨x78, bx78, h0⟩ := bnd h0; (try simp only [go_sem]); (refine xcall_M (hotspotref39_before_m a0 a2 bx78) ?_; try dsimp only); (try refine xw_id ?_); (try simp only [go_sem]); refine u _ (hotspotref39_Broken_S0 x78 a1) (by refine Wk.canonD [] [] [some 0, some 13, some 14, some 1, some 2] rfl trivial rfl (tmOU 4 (tmOU 3 (tmOU 2 (tmOU 1 (tmOU 0 tmO0 rfl qM rfl (e_Paths_tmx (by rfl) tr tr)) rfl qM rfl (TmL.of_eq qL (c_PathRoute _))) rfl qM rfl (TmL.of_eq qL (c_PathWanted _))) rfl qM rfl (TmL.clean (e_A6vu_clean _))) rfl qM rfl (e_Paths_tmx (by rfl) tv tv)) (tA 9 (tA 6 (tA 4 (tA 3 tmAll0 tp) tp) tp) tv); all_goals exact qN) ?_; clear u U; unfold hotspotref39_Broken_S0; refine awp_assoc ?_; refine awp_nw [3,4,6,9] fun tz U u => ?_; (try simp only [go_sem]); refine qU u ?_; clear u U; refine awp_cond (b := (x78.2 != 0)) rfl (fun h1 => ?_) (fun h1 => ?_)
 ·
  have h0 := cT h0 h1; refine awp_assoc ?_; refine awp_nw [6,9] fun tz U u => ?_; (try simp only [go_sem]); refine qU u ?_; clear u U; refine awp_ret ?_; obtain rfl := someInj h0; refine endW_i ?_; refine end_ret0 rs12 qR ?_; refine Res.mk [] [none, none, none] rfl (resON (resON (resON resO0))) (Tm.tup (tc (Tm.agg (e_Paths_tmx (by rfl) tT tT)) (tc tT (tc tv tn))))
 ·
  have h0 := cF h0 h1; refine awp_skip ?_; refine awp_nw [3,4,6] fun tz U u => ?_; (try simp only [go_sem]); refine qU u ?_; clear u U; refine awp_nw [3,4,6,10] fun tz U u => ?_; (try simp only [go_sem]); refine qU u ?_; clear u U; refine awp_assoc ?_; refine awp_nw [3,4,6,10,11] fun tz U u => ?_; (try simp only [go_sem]); refine qU u ?_; clear u U; obtain ⟨d79, hi2, h0⟩ := bnd h0; refine awp_cut (fun z => d79 = z) (fun d79 : (List PathRoute × List Sent) => hotspotref39_Broken_S1 x78 d79) ?_ ?_
  ·
   refine awp_block1 ?_; refine awp_loopS (fun n (d80 : (List PathRoute × List PathRoute × List Sent × Int)) => hotspotref39_Broken_L3 a1 n d80 = some d79) (fun d80 : (List PathRoute × List PathRoute × List Sent × Int) => hotspotref39_Broken_S2 x78 a1 d80) big (x78.1.Routes, [], [], 0) (by refine Wk.canonD [] [] [some 0, some 1, some 2, some 3, some 4, none, none] rfl trivial rfl (tmON 6 (tmON 5 (tmOU 4 (tmOU 3 (tmOU 2 (tmOU 1 (tmOU 0 tmO0 rfl qM rfl (e_Paths_tmx (by rfl) tr tr)) rfl qM rfl (TmL.of_eq qL (c_PathRoute _))) rfl qM rfl (TmL.of_eq qL (c_PathWanted _))) rfl qM rfl (TmL.clean (e_A6vu_clean _))) rfl qM rfl (e_Paths_tmx (by rfl) tv tv)) rfl) rfl) (tA 12 (tA 11 (tA 10 (tA 6 (tA 4 (tA 3 tmAll0 tp) tp) tp) tT) tT) tv); all_goals exact qN) hi2 ?_; clear hi2; rintro n d80 hl4; rcases n with _ | n3
   ·
    (rw [hotspotref39_Broken_L3] at hl4; cases hl4)
   ·
    rw [hotspotref39_Broken_L3] at hl4; unfold hotspotref39_Broken_S2; refine awp_assoc ?_; refine awp_nw [3,4,6,10,11,12] fun tz U u => ?_; (try simp only [go_sem]); refine qU u ?_; clear u U; refine awp_cond (b := (decide (d80.2.2.2 < ((d80.1.length : Nat) : Int)))) rfl (fun h5 => ?_) (fun h5 => ?_)
    ·
     have hl4 := cT hl4 h5; refine awp_skip ?_; refine awp_blockW ?_; refine awp_assoc ?_; refine awp_nw [3,4,6,10,11,12] fun tz U u => ?_; obtain ⟨x81, bx81, hl4⟩ := bnd hl4; obtain ⟨fx81_0, fx81_1, fx81_2, fx81_3⟩ := idx_some bx81; (have fx81_5 : ((d80.2.2.2 : Int) < ((d80.1.length : Nat) : Int)) = True := by first | exact fx81_1 | (simp [List.length_modify, List.length_set]; omega)); refine xw_stop 7 qS qS (by rfl) fun V v => ?_; refine xw_id ?_; (try simp only [go_sem, fx81_0, fx81_1, fx81_2, fx81_5]); refine v _ ?_; clear v V; refine xw_cut 9 [(3, (.ptr 0 0)), (4, (.ptr 3 0)), (6, (.ptr 4 0)), (10, (.ref 5 0 d80.2.1.length 17)), (11, (.ref 6 0 d80.2.2.1.length 7)), (12, (vi d80.2.2.2)), (45, (vb (x81.Valid && (decide (x81.Next = a1)))))] qS qS (by rfl) (fun V v => ?_) fun tz => ?_
     ·
      refine xw_id ?_; rcases bE x81.Valid with h6 | h6
      ·
       (try simp only [go_sem, fx81_0, fx81_1, fx81_2, fx81_5, h6]); exact v _ ⟨(by first | rfl | (simp only [h6]; done)), rfl, rfl, rfl, rfl, rfl, rfl, (qB h6), trivial⟩
      ·
       (try simp only [go_sem, fx81_0, fx81_1, fx81_2, fx81_5, h6]); exact v _ ⟨(by first | rfl | (simp only [h6]; done)), rfl, rfl, rfl, rfl, rfl, rfl, (qB h6), trivial⟩
     ·
      refine xw_id ?_; (try simp only [go_sem, fx81_0, fx81_1, fx81_2, fx81_5]); refine qU u ?_; clear u U; obtain ⟨d82, hi7, hl4⟩ := bnd hl4; refine awp_cut (fun z => d82 = z) (fun d82 : (List PathRoute × List PathRoute) => hotspotref39_Broken_S4 x78 a1 d80 d82) ?_ ?_
      ·
       refine awp_cond1 (b := (x81.Valid && (decide (x81.Next = a1)))) rfl (fun h8 => ?_) (fun h8 => ?_)
       ·
        have hi7 := cT hi7 h8; refine awp_nr [3,4,6,10,11,12] (fun _ => rfl) fun tz => ?_; refine awp_regDW fun U u all hall => ?_; refine xd_id ?_; (try simp only [List.toList_toArray, List.map_cons, List.map_nil, List.size_toArray, List.length_cons, List.length_nil, Nat.zero_add]); (try simp only [Nat.reduceAdd]); obtain ⟨x83, bx83, hi7⟩ := bnd hi7; (iterate 3 ((try simp only [go_sem, -Nat.reduceAdd, fx81_0, fx81_1, fx81_2, fx81_5]); try simp only [Nat.reduceAdd])); (refine xcallD_p (hotspotref39_gone_p x81 bx83) ?_; try dsimp only); (try refine xd_id ?_); have gs9 : ((d80.2.2.2).toNat * 17 + 17 ≤ d80.1.length * 17) = True := eq_true (by (try simp only [List.length_modify, List.length_set]); omega); have gm10 : (d80.1.set ((d80.2.2.2).toNat) x83)[(d80.2.2.2).toNat]? = some x83 := getSet _ fx81_2; (iterate 3 ((try simp only [go_sem, -Nat.reduceAdd, fx81_0, fx81_1, fx81_2, fx81_5, gs9, gm10]); try simp only [Nat.reduceAdd])); refine And.intro ?_ (u _ _ (Wk.refl _ _ _) ?_)
        ·
         subst hall; clear u U; exact qP
        ·
         clear u U hall all; refine awp_nw1 [3,4,6,10,11,12] fun tz U u => ?_; obtain ⟨x84, bx84, hi7⟩ := bnd hi7; have bx84 := chk_some bx84; simp only [Bool.and_eq_true, decide_eq_true_eq] at bx84; have gx84_0 := bx84; (try simp only [go_sem, fx81_0, fx81_1, fx81_2, fx81_5, gm10, gx84_0]); (try (rw [if_pos (by (try simp only [List.length_append, lc, ln]); omega)]; try simp only [go_sem, fx81_0, fx81_1, fx81_2, fx81_5, gm10, gx84_0])); refine u _ ?_; clear u U; refine sq_n ?_; obtain rfl := someInj hi7; exact ⟨_, rfl, (by refine Wk.canonD [] [] [some 0, some 1, some 2, some 3, some 4, some 46, some 6] rfl trivial rfl (tmOU 6 (tmOU 5 (tmOU 4 (tmOU 3 (tmOU 2 (tmOU 1 (tmOU 0 tmO0 rfl qM rfl (e_Paths_tmx (by rfl) tr tr)) rfl qM rfl (TmL.of_eq qL (c_PathRoute _))) rfl qM rfl (TmL.of_eq qL (c_PathWanted _))) rfl qM rfl (TmL.clean (e_A6vu_clean _))) rfl qM rfl (e_Paths_tmx (by rfl) tv tv)) rfl qM rfl (TmL.of_eq qL (c_PathRoute _))) rfl qM rfl (TmL.of_eq qL (c_Sent _))) (tA 12 (tA 11 (tA 10 (tA 6 (tA 4 (tA 3 tmAll0 tp) tp) tp) tr) tr) tv); all_goals exact qN)⟩
       ·
        have hi7 := cF hi7 h8; refine awp_skip1 ?_; refine sq_n ?_; obtain rfl := someInj hi7; exact ⟨_, rfl, (by refine Wk.canonD [] [] [some 0, some 1, some 2, some 3, some 4, some 5, some 6] rfl trivial rfl (tmOU 6 (tmOU 5 (tmOU 4 (tmOU 3 (tmOU 2 (tmOU 1 (tmOU 0 tmO0 rfl qM rfl (e_Paths_tmx (by rfl) tr tr)) rfl qM rfl (TmL.of_eq qL (c_PathRoute _))) rfl qM rfl (TmL.of_eq qL (c_PathWanted _))) rfl qM rfl (TmL.clean (e_A6vu_clean _))) rfl qM rfl (e_Paths_tmx (by rfl) tv tv)) rfl qM rfl (TmL.of_eq qL (c_PathRoute _))) rfl qM rfl (TmL.of_eq qL (c_Sent _))) (tA 12 (tA 11 (tA 10 (tA 6 (tA 4 (tA 3 tmAll0 tp) tp) tp) tr) tr) tv); all_goals exact qN)⟩
      ·
       rintro _ rfl; clear hi7; unfold hotspotref39_Broken_S4; refine awp_nw [3,4,6,10,11,12] fun tz U u => ?_; refine xw_stop 4 qS qS (by rfl) fun V v => ?_; refine xw_id ?_; (try simp only [go_sem]); refine v _ ?_; clear v V; refine xw_cut 12 [(3, (.ptr 0 0)), (4, (.ptr 3 0)), (6, (.ptr 4 0)), (10, (.ref 5 0 d82.2.length 17)), (11, (.ref 6 0 d80.2.2.1.length 7)), (12, (vi d80.2.2.2)), (79, (vb ((((d82.2.length : Nat) : Int) == 16) || ((decide (0 < ((d82.2.length : Nat) : Int))) && (d80.2.2.2 == (IntKind.wrap .i64 (((d82.1.length : Nat) : Int) - 1)))))))] qS qS (by rfl) (fun V v => ?_) fun tz => ?_
       ·
        refine xw_id ?_; rcases bE (((d82.2.length : Nat) : Int) == 16) with h11 | h11
        ·
         (try simp only [go_sem, h11]); exact v _ ⟨rfl, rfl, rfl, rfl, rfl, rfl, rfl, (qB h11), trivial⟩
        ·
         refine xw_stop 4 qS qS (by rfl) fun V v => ?_; refine xw_id ?_; (try simp only [go_sem, h11]); refine v _ ?_; clear v V; refine xw_cut 7 [(3, (.ptr 0 0)), (4, (.ptr 3 0)), (6, (.ptr 4 0)), (10, (.ref 5 0 d82.2.length 17)), (11, (.ref 6 0 d80.2.2.1.length 7)), (12, (vi d80.2.2.2)), (67, (vb false)), (78, (vb ((decide (0 < ((d82.2.length : Nat) : Int))) && (d80.2.2.2 == (IntKind.wrap .i64 (((d82.1.length : Nat) : Int) - 1))))))] qS qS (by rfl) (fun V v => ?_) fun tz => ?_
         ·
          refine xw_id ?_; rcases bE (decide (0 < ((d82.2.length : Nat) : Int))) with h12 | h12
          ·
           (try simp only [go_sem, h11, h12]); exact v _ ⟨rfl, rfl, rfl, rfl, rfl, rfl, rfl, rfl, (qB h12), trivial⟩
          ·
           (try simp only [go_sem, h11, h12]); exact v _ ⟨rfl, rfl, rfl, rfl, rfl, rfl, rfl, rfl, (qB h12), trivial⟩
         ·
          refine xw_id ?_; (try simp only [go_sem, h11]); exact v _ ⟨rfl, rfl, rfl, rfl, rfl, rfl, rfl, (qB h11), trivial⟩
       ·
        refine xw_id ?_; (try simp only [go_sem]); refine qU u ?_; clear u U; refine awp_cond1 (b := ((((d82.2.length : Nat) : Int) == 16) || ((decide (0 < ((d82.2.length : Nat) : Int))) && (d80.2.2.2 == (IntKind.wrap .i64 (((d82.1.length : Nat) : Int) - 1)))))) rfl (fun h13 => ?_) (fun h13 => ?_)
        ·
         have hl4 := cT hl4 h13; refine awp_nw [3,4,6,10,11,12] fun tz U u => ?_; obtain ⟨x85, bx85, hl4⟩ := bnd hl4; (try simp only [go_sem]); (refine xcall_p (hotspotref39_All_p  bx85) ?_; try dsimp only); (try refine xw_id ?_); obtain ⟨x86, bx86, hl4⟩ := bnd hl4; (try simp only [go_sem]); (refine xcall_F [5] (by first | (simp only [go_sem, fz] <;> rfl) | (simp only [go_sem, fz, List.length_set, ble_self, take_set, cond_true, cond_false] <;> rfl)) (hotspotref39_Failure_p d82.2 bx86) ?_; try dsimp only); (try refine xw_id ?_); obtain ⟨x87, bx87, hl4⟩ := bnd hl4; have bx87 := chk_some bx87; simp only [Bool.and_eq_true, decide_eq_true_eq] at bx87; have gx87_0 := bx87; (try simp only [go_sem, gx87_0]); (try (rw [if_pos (by (try simp only [List.length_append, lc, ln]); omega)]; try simp only [go_sem, gx87_0])); refine qU u ?_; clear u U; refine awp_nw1 [3,4,6,11,12] fun tz U u => ?_; (try simp only [go_sem]); refine u _ ?_; clear u U; refine bq_n ?_; refine seqW_i ?_; refine awp_nw1 [3,4,6,10,11,12] fun tz U u => ?_; (try simp only [go_sem]); refine u _ ?_; clear u U; refine lq_n ?_; exact ⟨n3, (d82.1, [], (d80.2.2.1 ++ [{ Sent.z with Data := x86, To := x85 }]), IntKind.wrap .i64 (d80.2.2.2 + 1)), rfl, hl4, (by refine Wk.canonD [] [] [some 0, some 1, some 2, some 3, some 4, none, some 29] rfl trivial rfl (tmOU 6 (tmON 5 (tmOU 4 (tmOU 3 (tmOU 2 (tmOU 1 (tmOU 0 tmO0 rfl qM rfl (e_Paths_tmx (by rfl) tr tr)) rfl qM rfl (TmL.of_eq qL (c_PathRoute _))) rfl qM rfl (TmL.of_eq qL (c_PathWanted _))) rfl qM rfl (TmL.clean (e_A6vu_clean _))) rfl qM rfl (e_Paths_tmx (by rfl) tv tv)) rfl) rfl qM rfl (TmL.of_eq qL (c_Sent _))) (tA 12 (tA 11 (tA 10 (tA 6 (tA 4 (tA 3 tmAll0 tp) tp) tp) tT) tr) tv); all_goals exact qN)⟩
        ·
         have hl4 := cF hl4 h13; refine awp_skip1 ?_; refine bq_n ?_; refine seqW_i ?_; refine awp_nw1 [3,4,6,10,11,12] fun tz U u => ?_; (try simp only [go_sem]); refine u _ ?_; clear u U; refine lq_n ?_; exact ⟨n3, (d82.1, d82.2, d80.2.2.1, IntKind.wrap .i64 (d80.2.2.2 + 1)), rfl, hl4, (by refine Wk.canonD [] [] [some 0, some 1, some 2, some 3, some 4, some 5, some 6] rfl trivial rfl (tmOU 6 (tmOU 5 (tmOU 4 (tmOU 3 (tmOU 2 (tmOU 1 (tmOU 0 tmO0 rfl qM rfl (e_Paths_tmx (by rfl) tr tr)) rfl qM rfl (TmL.of_eq qL (c_PathRoute _))) rfl qM rfl (TmL.of_eq qL (c_PathWanted _))) rfl qM rfl (TmL.clean (e_A6vu_clean _))) rfl qM rfl (e_Paths_tmx (by rfl) tv tv)) rfl qM rfl (TmL.of_eq qL (c_PathRoute _))) rfl qM rfl (TmL.of_eq qL (c_Sent _))) (tA 12 (tA 11 (tA 10 (tA 6 (tA 4 (tA 3 tmAll0 tp) tp) tp) tr) tr) tv); all_goals exact qN)⟩
    ·
     have hl4 := cF hl4 h5; refine awp_exit ?_; refine lq_e ?_; refine bq_e ?_; refine sq_n ?_; obtain rfl := someInj hl4; exact ⟨_, rfl, (by refine Wk.canonD [] [] [some 0, some 1, some 2, some 4, some 6] rfl trivial rfl (tmOU 4 (tmOU 3 (tmOU 2 (tmOU 1 (tmOU 0 tmO0 rfl qM rfl (e_Paths_tmx (by rfl) tr tr)) rfl qM rfl (TmL.of_eq qL (c_PathRoute _))) rfl qM rfl (TmL.of_eq qL (c_PathWanted _))) rfl qM rfl (e_Paths_tmx (by rfl) tv tv)) rfl qM rfl (TmL.of_eq qL (c_Sent _))) (tA 11 (tA 6 (tA 3 tmAll0 tp) tp) tr); all_goals exact qN)⟩
  ·
   rintro _ rfl; clear hi2; unfold hotspotref39_Broken_S1; refine awp_nw [3,6,11] fun tz U u => ?_; (try simp only [go_sem]); refine qU u ?_; clear u U; refine awp_ret1 ?_; obtain rfl := someInj h0; refine endW_i ?_; refine end_ret0 rs12 qR ?_; refine Res.mk [] [some 1, some 2, some 4] rfl (resOU qM rfl (TmL.of_eq qL (c_PathRoute _)) (resOU qM rfl (TmL.of_eq qL (c_PathWanted _)) (resOU qM rfl (TmL.of_eq qL (c_Sent _)) resO0))) (Tm.tup (tc (Tm.agg (e_Paths_tmx (by rfl) tr tr)) (tc tr (tc tv tn)))); (all_goals exact qN)


theorem hotspotref39_Broken_p (a0 : Paths) (a1 : A6vu) (a2 : Int) {r : (Paths × (List Sent) × Int)} (h0 : hotspotref39_Broken a0 a1 a2 = some r) : SndP K 12 [(.agg (E_Paths a0)), (.agg (e_A6vu a1)), (vi a2)] (.tup [(.agg (E_Paths r.1)), (S_Sent r.2.1), (vi r.2.2)]) :=
 SndM.pure (rM (hotspotref39_Broken_r a0 a1 a2 h0) (RenM.tup (RenML.cons (RenM.agg (e_Paths_ren _ (RenM.ref 0 0 _ _) (RenM.ref 1 0 _ _))) (RenML.cons (RenM.ref 2 0 _ _) (RenML.cons rv RenML.nil)))) (rows_all_cons (c_PathRoute _) (rows_all_cons (c_PathWanted _) (rows_all_cons (c_Sent _) rows_all_nil))) (clean_cons (Clean.agg (E_Paths_clean _)) (clean_cons (Clean.agg (e_A6vu_clean _)) (clean_cons cv clean_nil)))) (Clean.tup (clean_cons (Clean.agg (E_Paths_clean _)) (clean_cons (S_Sent_clean _) (clean_cons cv clean_nil)))) (clean_cons (Clean.agg (E_Paths_clean _)) (clean_cons (Clean.agg (e_A6vu_clean _)) (clean_cons cv clean_nil))) qV
theorem path_node_ask_3_io (a0 : A6vu) (a1 : Path_node) {r : (List Sent)} (h0 : path_node_ask_3 a0 a1 = some r) : SndIO K 25 4 (fun q => [(.ptr (q 0) 0), (.agg (e_A6vu a0))]) [(fun q => (e_Path_node a1 (.ref (q 1) 0 a1.Paths.Routes.length 17) (.ref (q 2) 0 a1.Paths.Wanted.length 8) (.ref (q 3) 0 a1.out.length 7))), (fun q => (List.flatMap e_PathRoute a1.Paths.Routes)), (fun q => (List.flatMap e_PathWanted a1.Paths.Wanted)), (fun q => (List.flatMap E_Sent a1.out))] (fun q => (.tup [])) [(some (fun q => (e_Path_node { a1 with Paths.Seq := IntKind.wrap .i64 (a1.Paths.Seq + 1) } (.ref (q 1) 0 a1.Paths.Routes.length 17) (.ref (q 2) 0 a1.Paths.Wanted.length 8) (.ref (q 4) 0 r.length 7)))), (some (fun q => (List.flatMap e_PathRoute a1.Paths.Routes))), (some (fun q => (List.flatMap e_PathWanted a1.Paths.Wanted))), none, (some (fun q => (List.flatMap E_Sent r)))] := by
 refine SndIO.of_walkW hC (RenML.cons (RenM.ptr 0 0) (RenML.cons (RenM.const (Clean.agg (e_A6vu_clean _))) RenML.nil)) (tpl_cons (e_Path_node_ren _ (RenM.ref 1 0 _ _) (RenM.ref 2 0 _ _) (RenM.ref 3 0 _ _)) (tpl_cons (RenML.const (c_PathRoute _)) (tpl_cons (RenML.const (c_PathWanted _)) (tpl_cons (RenML.const (c_Sent _)) tpl_nil)))) (otpl_some (e_Path_node_ren _ (RenM.ref 1 0 _ _) (RenM.ref 2 0 _ _) (RenM.ref 4 0 _ _)) (otpl_some (RenML.const (c_PathRoute _)) (otpl_some (RenML.const (c_PathWanted _)) (otpl_none (otpl_some (RenML.const (c_Sent _)) otpl_nil))))) (RenM.tup RenML.nil) rfl (qB2 rfl) (show K.P.funcs[25]? = some Tryd.f25 from Tryd.func25) rfl rfl (by decide +kernel) (qB2 rfl) ?_; unfold path_node_ask_3 at h0; refine awp_nw [0,1] fun tz U u => ?_; (try simp only [go_sem, gt0]); refine qU u ?_; clear u U; refine awp_nw [0,3] fun tz U u => ?_; (try simp only [go_sem, gt0]); refine qU u ?_; clear u U; refine awp_nr1 [0,3] (fun _ => rfl) fun tz => ?_; refine awp_regD1 fun U u all hall => ?_; refine xd_id ?_; (try simp only [List.toList_toArray, List.map_cons, List.map_nil, List.size_toArray, List.length_cons, List.length_nil, Nat.zero_add]); (try simp only [Nat.reduceAdd]); obtain ⟨x96, bx96, h0⟩ := bnd h0; (iterate 3 ((try simp only [go_sem, -Nat.reduceAdd, gt0]); try simp only [Nat.reduceAdd])); (refine xcallD_L (by first | (simp only [go_sem, fz, gt0] <;> rfl) | (simp only [go_sem, fz, List.length_set, ble_self, take_set, cond_true, cond_false, gt0] <;> rfl)) (by first | (simp only [go_sem, reach, gt0] <;> rfl)) (path_node_known_p { a1 with Paths.Seq := IntKind.wrap .i64 (a1.Paths.Seq + 1) } a0 bx96) (Bare.v _) ?_; try dsimp only); (try refine xd_id ?_); obtain ⟨x97, bx97, h0⟩ := bnd h0; (iterate 3 ((try simp only [go_sem, -Nat.reduceAdd, gt0]); try simp only [Nat.reduceAdd])); (refine xcallD_p (path_asked_bytes_p { Path_asked.z with dest := a0, known := x96, origin := a1.Paths.Own, seq := IntKind.wrap .i64 (a1.Paths.Seq + 1) } bx97) ?_; try dsimp only); (try refine xd_id ?_); obtain ⟨x98, bx98, h0⟩ := bnd h0; (iterate 3 ((try simp only [go_sem, -Nat.reduceAdd, gt0]); try simp only [Nat.reduceAdd])); (refine xcallD_O [0, 1, 2, 3] (path_node_send_2_io gv0 x97 { a1 with Paths.Seq := IntKind.wrap .i64 (a1.Paths.Seq + 1) } bx98) (by decide) (by decide) ⟨(by first | rfl | (simp only [go_sem, gt0] <;> rfl) | (simp only [go_sem, List.length_append, gt0] <;> rfl)), (by first | rfl | (simp only [go_sem, gt0] <;> rfl) | (simp only [go_sem, List.length_append, gt0] <;> rfl)), (by first | rfl | (simp only [go_sem, gt0] <;> rfl) | (simp only [go_sem, List.length_append, gt0] <;> rfl)), (by first | rfl | (simp only [go_sem, gt0] <;> rfl) | (simp only [go_sem, List.length_append, gt0] <;> rfl)), trivial⟩ (by first | rfl | (simp only [go_sem, gt0] <;> rfl) | (simp only [go_sem, List.length_append, gt0] <;> rfl)) (by subst hall; decide +kernel) (by subst hall; first | decide +kernel | (simp [printsOk, apartP, clash, meet]; done) | (simp [printsOk, apartP, clash, meet]; decide +kernel)) ?_; try dsimp only); (try refine xd_id ?_); (iterate 3 ((try simp only [go_sem, -Nat.reduceAdd, gt0, lc, ln]); try simp only [Nat.reduceAdd])); refine And.intro ?_ (u _ ?_)
 ·
  subst hall; clear u U; exact qP
 ·
  clear u U hall all; obtain rfl := someInj h0; refine endW_i ?_; refine end_normal0 rs25 (rfl) ?_; refine ResIO.mk [] [some 0, some 1, some 2, some 3, some 34] rfl (resEU qM rfl (e_Path_node_tmx (by rfl) tr tr tr) (resEU qM rfl (TmL.of_eq qL (c_PathRoute _)) (resEU qM rfl (TmL.of_eq qL (c_PathWanted _)) (resED (resEU qM rfl (TmL.of_eq qL (c_Sent _)) resE0))))) (Tm.tup tn); (all_goals exact qN)
def path_Tick_S0 (a0 : Paths) (a1 : Int) (x93 : (List PathRoute × List PathWanted)) : AS :=
 { objs := (upd (upd (upd (upd (fun _ => .dead) 0 (.live (e_Paths Paths.z vnil vnil))) 1 (.live (e_Path_node { Path_node.z with Paths := a0, now := a1, out := [] } (.ref 2 0 x93.1.length 17) vnil vnil))) 2 (.live (List.flatMap e_PathRoute x93.1))) 3 (.live (List.flatMap e_PathWanted x93.2))), next := 4, tmps := (upd (upd (upd (upd (fun _ => .unk) 1 (vi a1)) 4 (.ptr 0 0)) 7 (.ptr 1 0)) 9 (.ref 3 0 x93.2.length 8)) }

def path_Tick_S1 (x93 : (List PathRoute × List PathWanted)) (d94 : (Path_node × List PathWanted × List Sent)) : AS :=
 { objs := (upd (upd (upd (upd (upd (fun _ => .dead) 0 (.live (e_Paths Paths.z vnil vnil))) 1 (.live (e_Path_node d94.1 (.ref 2 0 x93.1.length 17) (.ref 3 0 d94.2.1.length 8) (.ref 4 0 d94.2.2.length 7)))) 2 (.live (List.flatMap e_PathRoute x93.1))) 3 (.live (List.flatMap e_PathWanted d94.2.1))) 4 (.live (List.flatMap E_Sent d94.2.2))), next := 5, tmps := (upd (upd (fun _ => .unk) 4 (.ptr 0 0)) 7 (.ptr 1 0)) }

def path_Tick_S2 (x93 : (List PathRoute × List PathWanted)) (a1 : Int) (d95 : (Path_node × List PathWanted × List Sent × Int)) : AS :=
 { objs := (upd (upd (upd (upd (upd (upd (fun _ => .dead) 0 (.live (e_Paths Paths.z vnil vnil))) 1 (.live (e_Path_node d95.1 (.ref 2 0 x93.1.length 17) (.ref 3 0 d95.2.1.length 8) (.ref 4 0 d95.2.2.1.length 7)))) 2 (.live (List.flatMap e_PathRoute x93.1))) 3 (.live (List.flatMap e_PathWanted d95.2.1))) 4 (.live (List.flatMap E_Sent d95.2.2.1))) 5 (.live (List.flatMap e_PathWanted x93.2))), next := 6, tmps := (upd (upd (upd (upd (upd (upd (fun _ => .unk) 1 (vi a1)) 4 (.ptr 0 0)) 7 (.ptr 1 0)) 32 (.ref 5 0 x93.2.length 8)) 33 (vi ((x93.2.length : Nat) : Int))) 34 (vi d95.2.2.2)) }

def path_Tick_S4 (x93 : (List PathRoute × List PathWanted)) (d95 : (Path_node × List PathWanted × List Sent × Int)) (a1 : Int) (d97 : (Path_node × List Sent × PathWanted)) : AS :=
 { objs := (upd (upd (upd (upd (upd (upd (upd (fun _ => .dead) 0 (.live (e_Paths Paths.z vnil vnil))) 1 (.live (e_Path_node d97.1 (.ref 2 0 x93.1.length 17) (.ref 3 0 d95.2.1.length 8) (.ref 4 0 d97.2.1.length 7)))) 2 (.live (List.flatMap e_PathRoute x93.1))) 3 (.live (List.flatMap e_PathWanted d95.2.1))) 4 (.live (List.flatMap E_Sent d97.2.1))) 5 (.live (e_PathWanted d97.2.2))) 6 (.live (List.flatMap e_PathWanted x93.2))), next := 7, tmps := (upd (upd (upd (upd (upd (upd (upd (fun _ => .unk) 1 (vi a1)) 4 (.ptr 0 0)) 7 (.ptr 1 0)) 11 (.ptr 5 0)) 32 (.ref 6 0 x93.2.length 8)) 33 (vi ((x93.2.length : Nat) : Int))) 34 (vi d95.2.2.2)) }

def path_Tick_S5 (d95 : (Path_node × List PathWanted × List Sent × Int)) (x93 : (List PathRoute × List PathWanted)) (x96 : PathWanted) (a1 : Int) : AS :=
 { objs := (upd (upd (upd (upd (upd (upd (upd (fun _ => .dead) 0 (.live (e_Paths Paths.z vnil vnil))) 1 (.live (e_Path_node d95.1 (.ref 2 0 x93.1.length 17) (.ref 3 0 d95.2.1.length 8) (.ref 4 0 d95.2.2.1.length 7)))) 2 (.live (List.flatMap e_PathRoute x93.1))) 3 (.live (List.flatMap e_PathWanted d95.2.1))) 4 (.live (List.flatMap E_Sent d95.2.2.1))) 5 (.live (e_PathWanted { x96 with Due := IntKind.wrap .i64 (a1 + 100000), Tries := IntKind.wrap .i64 (x96.Tries + 1) }))) 6 (.live (List.flatMap e_PathWanted x93.2))), next := 7, tmps := (upd (upd (upd (upd (upd (upd (upd (fun _ => .unk) 1 (vi a1)) 4 (.ptr 0 0)) 7 (.ptr 1 0)) 11 (.ptr 5 0)) 32 (.ref 6 0 x93.2.length 8)) 33 (vi ((x93.2.length : Nat) : Int))) 34 (vi d95.2.2.2)) }

theorem path_Tick_r (a0 : Paths) (a1 : Int) {r : (Paths × (List Sent) × Int)} (h0 : path_Tick a0 a1 = some r) : SndR K 13 [(.agg (E_Paths a0)), (vi a1)] (fun q => (.tup [(.agg (e_Paths r.1 (.ref (q 0) 0 r.1.Routes.length 17) (.ref (q 1) 0 r.1.Wanted.length 8))), (.ref (q 2) 0 r.2.1.length 7), (vi r.2.2)])) [(List.flatMap e_PathRoute r.1.Routes), (List.flatMap e_PathWanted r.1.Wanted), (List.flatMap E_Sent r.2.1)] := by
 refine SndR.of_walkW hC (show K.P.funcs[13]? = some Tryd.f13 from Tryd.func13) rfl rfl (by decide +kernel) (qB2 rfl) ?_; unfold path_Tick at h0; refine awp_nw [0,1] fun tz U u => ?_; (try simp only [go_sem]); refine qU u ?_; clear u U; refine awp_nw [1,2,4] fun tz U u => ?_; rcases bE ((path_begun a0 a1).isSome) with h1 | h1
 ·
  have h0 := cT h0 h1; obtain ⟨x93, bx93, h0⟩ := bnd h0; (try simp only [go_sem]); (refine xcall_O [] (path_begun_io a0 a1 bx93) (by decide) (by decide) trivial (by first | rfl | (simp only [go_sem] <;> rfl) | (simp only [go_sem, List.length_append] <;> rfl)) ?_; try dsimp only); (try refine xw_id ?_); (try simp only [go_sem, lc, ln]); refine qU u ?_; clear u U; refine awp_assoc ?_; refine awp_nw [1,4,7,8] fun tz U u => ?_; (try simp only [go_sem]); refine qU u ?_; clear u U; refine awp_condF rfl ?_; refine awp_skip ?_; refine awp_nw [1,4,7] fun tz U u => ?_; (try simp only [go_sem]); refine qU u ?_; clear u U; refine awp_nw [1,4,7,9] fun tz U u => ?_; (try simp only [go_sem]); refine u _ (path_Tick_S0 a0 a1 x93) (by refine Wk.canonD [] [] [some 1, some 12, some 13, some 14] rfl trivial rfl (tmOU 3 (tmOU 2 (tmOU 1 (tmOU 0 tmO0 rfl qM rfl (e_Paths_tmx (by rfl) tv tv)) rfl qM rfl (e_Path_node_tmx (by rfl) tr tv tv)) rfl qM rfl (TmL.of_eq qL (c_PathRoute _))) rfl qM rfl (TmL.of_eq qL (c_PathWanted _))) (tA 9 (tA 7 (tA 4 (tA 1 tmAll0 tv) tp) tp) tr); all_goals exact qN) ?_; clear u U; unfold path_Tick_S0; refine awp_assoc ?_; refine awp_nw [1,4,7,9] fun tz U u => ?_; (try simp only [go_sem]); refine qU u ?_; clear u U; obtain ⟨d94, hi2, h0⟩ := bnd h0; refine awp_cut (fun z => d94 = z) (fun d94 : (Path_node × List PathWanted × List Sent) => path_Tick_S1 x93 d94) ?_ ?_
  ·
   refine awp_block1 ?_; refine awp_loopS (fun n (d95 : (Path_node × List PathWanted × List Sent × Int)) => path_Tick_L3 x93 a1 n d95 = some d94) (fun d95 : (Path_node × List PathWanted × List Sent × Int) => path_Tick_S2 x93 a1 d95) big ({ Path_node.z with Paths := { a0 with Wanted := [] }, now := a1, out := [] }, [], [], 0) (by refine Wk.canonD [] [] [some 0, some 1, some 2, none, none, some 3] rfl trivial rfl (tmOU 5 (tmON 4 (tmON 3 (tmOU 2 (tmOU 1 (tmOU 0 tmO0 rfl qM rfl (e_Paths_tmx (by rfl) tv tv)) rfl qM rfl (e_Path_node_tmx (by rfl) tr tT tT)) rfl qM rfl (TmL.of_eq qL (c_PathRoute _))) rfl) rfl) rfl qM rfl (TmL.of_eq qL (c_PathWanted _))) (tA 34 (tA 33 (tA 32 (tA 7 (tA 4 (tA 1 tmAll0 tv) tp) tp) tr) tv) tv); all_goals exact qN) hi2 ?_; clear hi2; rintro n d95 hl4; rcases n with _ | n3
   ·
    (rw [path_Tick_L3] at hl4; cases hl4)
   ·
    rw [path_Tick_L3] at hl4; unfold path_Tick_S2; refine awp_nw [1,4,7,32,33,34] fun tz U u => ?_; (try simp only [go_sem]); refine qU u ?_; clear u U; refine awp_cond (b := (decide (d95.2.2.2 < ((x93.2.length : Nat) : Int)))) rfl (fun h5 => ?_) (fun h5 => ?_)
    ·
     have hl4 := cT hl4 h5; refine awp_skip ?_; refine awp_blockW ?_; refine awp_nw [1,4,7,32,33,34] fun tz U u => ?_; obtain ⟨x96, bx96, hl4⟩ := bnd hl4; obtain ⟨fx96_0, fx96_1, fx96_2, fx96_3⟩ := idx_some bx96; (have fx96_5 : ((d95.2.2.2 : Int) < ((x93.2.length : Nat) : Int)) = True := by first | exact fx96_1 | (simp [List.length_modify, List.length_set]; omega)); (try simp only [go_sem, fx96_0, fx96_1, fx96_2, fx96_5]); refine qU u ?_; clear u U; refine awp_nw [1,4,7,11,32,33,34] fun tz U u => ?_; (try simp only [go_sem, fx96_0, fx96_1, fx96_2, fx96_5]); refine qU u ?_; clear u U; refine awp_assoc ?_; refine awp_nw [1,4,7,11,12,32,33,34] fun tz U u => ?_; refine xw_stop 2 qS qS (by rfl) fun V v => ?_; refine xw_id ?_; (try simp only [go_sem, fx96_0, fx96_1, fx96_2, fx96_5]); refine v _ ?_; clear v V; refine xw_cut 12 [(1, (vi a1)), (4, (.ptr 0 0)), (7, (.ptr 1 0)), (11, (.ptr 9 0)), (12, (vb (decide (x96.Due ≤ a1)))), (32, (.ref 5 0 x93.2.length 8)), (33, (vi ((x93.2.length : Nat) : Int))), (34, (vi d95.2.2.2)), (55, (vb ((decide (x96.Due ≤ a1)) && ((x96.Tries == 3) || (d95.1.Paths.Seq == 2147483647)))))] qS qS (by rfl) (fun V v => ?_) fun tz => ?_
     ·
      refine xw_id ?_; rcases bE (decide (x96.Due ≤ a1)) with h6 | h6
      ·
       refine xw_stop 4 qS qS (by rfl) fun V v => ?_; refine xw_id ?_; (try simp only [go_sem, fx96_0, fx96_1, fx96_2, fx96_5, h6]); refine v _ ?_; clear v V; refine xw_cut 7 [(1, (vi a1)), (4, (.ptr 0 0)), (7, (.ptr 1 0)), (11, (.ptr 9 0)), (12, (vb true)), (32, (.ref 5 0 x93.2.length 8)), (33, (vi ((x93.2.length : Nat) : Int))), (34, (vi d95.2.2.2)), (43, (vb true)), (54, (vb ((x96.Tries == 3) || (d95.1.Paths.Seq == 2147483647))))] qS qS (by rfl) (fun V v => ?_) fun tz => ?_
       ·
        refine xw_id ?_; rcases bE (x96.Tries == 3) with h7 | h7
        ·
         (try simp only [go_sem, fx96_0, fx96_1, fx96_2, fx96_5, h6, h7]); exact v _ ⟨rfl, rfl, rfl, rfl, rfl, rfl, rfl, rfl, rfl, rfl, (qB h7), trivial⟩
        ·
         (try simp only [go_sem, fx96_0, fx96_1, fx96_2, fx96_5, h6, h7]); exact v _ ⟨rfl, rfl, rfl, rfl, rfl, rfl, rfl, rfl, rfl, rfl, (qB h7), trivial⟩
       ·
        refine xw_id ?_; (try simp only [go_sem, fx96_0, fx96_1, fx96_2, fx96_5, h6]); exact v _ ⟨rfl, rfl, rfl, rfl, rfl, (qB h6), rfl, rfl, rfl, (qB h6), trivial⟩
      ·
       (try simp only [go_sem, fx96_0, fx96_1, fx96_2, fx96_5, h6]); exact v _ ⟨rfl, rfl, rfl, rfl, rfl, (qB h6), rfl, rfl, rfl, (qB h6), trivial⟩
     ·
      refine xw_id ?_; (try simp only [go_sem, fx96_0, fx96_1, fx96_2, fx96_5]); refine qU u ?_; clear u U; refine awp_cond (b := ((decide (x96.Due ≤ a1)) && ((x96.Tries == 3) || (d95.1.Paths.Seq == 2147483647)))) rfl (fun h8 => ?_) (fun h8 => ?_)
      ·
       have hl4 := cT hl4 h8; refine awp_exit ?_; refine bq_e ?_; refine seqW_i ?_; refine awp_nw1 [1,4,7,32,33,34] fun tz U u => ?_; (try simp only [go_sem, fx96_0, fx96_1, fx96_2, fx96_5]); refine u _ ?_; clear u U; refine lq_n ?_; exact ⟨n3, (d95.1, d95.2.1, d95.2.2.1, IntKind.wrap .i64 (d95.2.2.2 + 1)), rfl, hl4, (by refine Wk.canonD [] [] [some 0, some 1, some 2, some 3, some 4, some 5] rfl trivial rfl (tmOU 5 (tmOU 4 (tmOU 3 (tmOU 2 (tmOU 1 (tmOU 0 tmO0 rfl qM rfl (e_Paths_tmx (by rfl) tv tv)) rfl qM rfl (e_Path_node_tmx (by rfl) tr tr tr)) rfl qM rfl (TmL.of_eq qL (c_PathRoute _))) rfl qM rfl (TmL.of_eq qL (c_PathWanted _))) rfl qM rfl (TmL.of_eq qL (c_Sent _))) rfl qM rfl (TmL.of_eq qL (c_PathWanted _))) (tA 34 (tA 33 (tA 32 (tA 7 (tA 4 (tA 1 tmAll0 tv) tp) tp) tr) tv) tv); all_goals exact qN)⟩
      ·
       have hl4 := cF hl4 h8; refine awp_skip ?_; refine awp_assoc ?_; refine awp_nw [1,4,7,11,12,32,33,34] fun tz U u => ?_; (try simp only [go_sem, fx96_0, fx96_1, fx96_2, fx96_5]); refine qU u ?_; clear u U; obtain ⟨d97, hi9, hl4⟩ := bnd hl4; refine awp_cut (fun z => d97 = z) (fun d97 : (Path_node × List Sent × PathWanted) => path_Tick_S4 x93 d95 a1 d97) ?_ ?_
       ·
        refine awp_cond1 (b := (decide (x96.Due ≤ a1))) rfl (fun h10 => ?_) (fun h10 => ?_)
        ·
         have hi9 := cT hi9 h10; refine awp_nw [1,4,7,11,32,33,34] fun tz U u => ?_; (try simp only [go_sem, fx96_0, fx96_1, fx96_2, fx96_5]); refine u _ (path_Tick_S5 d95 x93 x96 a1) (by refine Wk.canonD [] [] [some 0, some 1, some 2, some 3, some 4, some 9, some 5] rfl trivial rfl (tmOU 6 (tmOU 5 (tmOU 4 (tmOU 3 (tmOU 2 (tmOU 1 (tmOU 0 tmO0 rfl qM rfl (e_Paths_tmx (by rfl) tv tv)) rfl qM rfl (e_Path_node_tmx (by rfl) tr tr tr)) rfl qM rfl (TmL.of_eq qL (c_PathRoute _))) rfl qM rfl (TmL.of_eq qL (c_PathWanted _))) rfl qM rfl (TmL.of_eq qL (c_Sent _))) rfl qM rfl (TmL.clean (e_PathWanted_clean _))) rfl qM rfl (TmL.of_eq qL (c_PathWanted _))) (tA 34 (tA 33 (tA 32 (tA 11 (tA 7 (tA 4 (tA 1 tmAll0 tv) tp) tp) tp) tr) tv) tv); all_goals exact qN) ?_; clear u U; unfold path_Tick_S5; refine awp_nw1 [1,4,7,11,32,33,34] fun tz U u => ?_; obtain ⟨x98, bx98, hi9⟩ := bnd hi9; (try simp only [go_sem, fx96_0, fx96_1, fx96_2, fx96_5]); (refine xcall_O [1, 2, 3, 4] (path_node_ask_3_io x96.Dest { d95.1 with Paths.Routes := x93.1, Paths.Wanted := d95.2.1, out := d95.2.2.1 } bx98) (by decide) (by decide) ⟨(by first | rfl | (simp only [go_sem, fx96_0, fx96_1, fx96_2, fx96_5] <;> rfl) | (simp only [go_sem, List.length_append, fx96_0, fx96_1, fx96_2, fx96_5] <;> rfl)), (by first | rfl | (simp only [go_sem, fx96_0, fx96_1, fx96_2, fx96_5] <;> rfl) | (simp only [go_sem, List.length_append, fx96_0, fx96_1, fx96_2, fx96_5] <;> rfl)), (by first | rfl | (simp only [go_sem, fx96_0, fx96_1, fx96_2, fx96_5] <;> rfl) | (simp only [go_sem, List.length_append, fx96_0, fx96_1, fx96_2, fx96_5] <;> rfl)), (by first | rfl | (simp only [go_sem, fx96_0, fx96_1, fx96_2, fx96_5] <;> rfl) | (simp only [go_sem, List.length_append, fx96_0, fx96_1, fx96_2, fx96_5] <;> rfl)), trivial⟩ (by first | rfl | (simp only [go_sem, fx96_0, fx96_1, fx96_2, fx96_5] <;> rfl) | (simp only [go_sem, List.length_append, fx96_0, fx96_1, fx96_2, fx96_5] <;> rfl)) ?_; try dsimp only); (try refine xw_id ?_); (try simp only [go_sem, fx96_0, fx96_1, fx96_2, fx96_5, lc, ln]); refine u _ ?_; clear u U; refine sq_n ?_; obtain rfl := someInj hi9; exact ⟨_, rfl, (by refine Wk.canonD [] [] [some 0, some 1, some 2, some 3, some 11, some 5, some 6] rfl trivial rfl (tmOU 6 (tmOU 5 (tmOU 4 (tmOU 3 (tmOU 2 (tmOU 1 (tmOU 0 tmO0 rfl qM rfl (e_Paths_tmx (by rfl) tv tv)) rfl qM rfl (e_Path_node_tmx (by rfl) tr tr tr)) rfl qM rfl (TmL.of_eq qL (c_PathRoute _))) rfl qM rfl (TmL.of_eq qL (c_PathWanted _))) rfl qM rfl (TmL.of_eq qL (c_Sent _))) rfl qM rfl (TmL.clean (e_PathWanted_clean _))) rfl qM rfl (TmL.of_eq qL (c_PathWanted _))) (tA 34 (tA 33 (tA 32 (tA 11 (tA 7 (tA 4 (tA 1 tmAll0 tv) tp) tp) tp) tr) tv) tv); all_goals exact qN)⟩
        ·
         have hi9 := cF hi9 h10; refine awp_skip1 ?_; refine sq_n ?_; obtain rfl := someInj hi9; exact ⟨_, rfl, (by refine Wk.canonD [] [] [some 0, some 1, some 2, some 3, some 4, some 9, some 5] rfl trivial rfl (tmOU 6 (tmOU 5 (tmOU 4 (tmOU 3 (tmOU 2 (tmOU 1 (tmOU 0 tmO0 rfl qM rfl (e_Paths_tmx (by rfl) tv tv)) rfl qM rfl (e_Path_node_tmx (by rfl) tr tr tr)) rfl qM rfl (TmL.of_eq qL (c_PathRoute _))) rfl qM rfl (TmL.of_eq qL (c_PathWanted _))) rfl qM rfl (TmL.of_eq qL (c_Sent _))) rfl qM rfl (TmL.clean (e_PathWanted_clean _))) rfl qM rfl (TmL.of_eq qL (c_PathWanted _))) (tA 34 (tA 33 (tA 32 (tA 11 (tA 7 (tA 4 (tA 1 tmAll0 tv) tp) tp) tp) tr) tv) tv); all_goals exact qN)⟩
       ·
        rintro _ rfl; clear hi9; unfold path_Tick_S4; refine awp_nr1 [1,4,7,11,32,33,34] (fun _ => rfl) fun tz => ?_; refine awp_regD1 fun U u all hall => ?_; refine xd_id ?_; (try simp only [List.toList_toArray, List.map_cons, List.map_nil, List.size_toArray, List.length_cons, List.length_nil, Nat.zero_add]); (try simp only [Nat.reduceAdd]); obtain ⟨x99, bx99, hl4⟩ := bnd hl4; have bx99 := chk_some bx99; simp only [Bool.and_eq_true, decide_eq_true_eq] at bx99; have gx99_0 := bx99; (iterate 3 ((try simp only [go_sem, -Nat.reduceAdd, gx99_0]); try simp only [Nat.reduceAdd])); refine And.intro ?_ (u _ ?_)
        ·
         subst hall; clear u U; exact qP
        ·
         clear u U hall all; refine bq_n ?_; refine seqW_i ?_; refine awp_nw1 [1,4,7,32,33,34] fun tz U u => ?_; (try simp only [go_sem]); refine u _ ?_; clear u U; refine lq_n ?_; exact ⟨n3, (d97.1, (d95.2.1 ++ [d97.2.2]), d97.2.1, IntKind.wrap .i64 (d95.2.2.2 + 1)), rfl, hl4, (by refine Wk.canonD [] [] [some 0, some 1, some 2, some 15, some 4, some 6] rfl trivial rfl (tmOU 5 (tmOU 4 (tmOU 3 (tmOU 2 (tmOU 1 (tmOU 0 tmO0 rfl qM rfl (e_Paths_tmx (by rfl) tv tv)) rfl qM rfl (e_Path_node_tmx (by rfl) tr tr tr)) rfl qM rfl (TmL.of_eq qL (c_PathRoute _))) rfl qM rfl (TmL.of_eq qL (c_PathWanted _))) rfl qM rfl (TmL.of_eq qL (c_Sent _))) rfl qM rfl (TmL.of_eq qL (c_PathWanted _))) (tA 34 (tA 33 (tA 32 (tA 7 (tA 4 (tA 1 tmAll0 tv) tp) tp) tr) tv) tv); all_goals exact qN)⟩
    ·
     have hl4 := cF hl4 h5; refine awp_exit ?_; refine lq_e ?_; refine bq_e ?_; refine sq_n ?_; obtain rfl := someInj hl4; exact ⟨_, rfl, (by refine Wk.canonD [] [] [some 0, some 1, some 2, some 3, some 4] rfl trivial rfl (tmOU 4 (tmOU 3 (tmOU 2 (tmOU 1 (tmOU 0 tmO0 rfl qM rfl (e_Paths_tmx (by rfl) tv tv)) rfl qM rfl (e_Path_node_tmx (by rfl) tr tr tr)) rfl qM rfl (TmL.of_eq qL (c_PathRoute _))) rfl qM rfl (TmL.of_eq qL (c_PathWanted _))) rfl qM rfl (TmL.of_eq qL (c_Sent _))) (tA 7 (tA 4 tmAll0 tp) tp); all_goals exact qN)⟩
  ·
   rintro _ rfl; clear hi2; unfold path_Tick_S1; refine awp_nr [4,7] (fun _ => rfl) fun tz => ?_; refine awp_regDW fun U u all hall => ?_; refine xd_id ?_; (try simp only [List.toList_toArray, List.map_cons, List.map_nil, List.size_toArray, List.length_cons, List.length_nil, Nat.zero_add]); (try simp only [Nat.reduceAdd]); (iterate 3 ((try simp only [go_sem, -Nat.reduceAdd]); try simp only [Nat.reduceAdd])); refine And.intro ?_ (u _ _ (Wk.refl _ _ _) ?_)
   ·
    subst hall; clear u U; exact qP
   ·
    clear u U hall all; refine awp_ret1 ?_; obtain rfl := someInj h0; refine endW_i ?_; refine end_ret0 rs13 qR ?_; refine Res.mk [] [some 2, some 3, some 4] rfl (resOU qM rfl (TmL.of_eq qL (c_PathRoute _)) (resOU qM rfl (TmL.of_eq qL (c_PathWanted _)) (resOU qM rfl (TmL.of_eq qL (c_Sent _)) resO0))) (Tm.tup (tc (Tm.agg (e_Paths_tmx (by rfl) tr tr)) (tc tr (tc tv tn)))); (all_goals exact qN)
 ·
  have h0 := cF h0 h1; obtain ⟨x100, bx100, h0⟩ := bnd h0; (try simp only [go_sem]); (refine xcall_O [] (path_begun_2_io a0 a1 bx100) (by decide) (by decide) trivial (by first | rfl | (simp only [go_sem] <;> rfl) | (simp only [go_sem, List.length_append] <;> rfl)) ?_; try dsimp only); (try refine xw_id ?_); (try simp only [go_sem, lc, ln]); refine qU u ?_; clear u U; refine awp_assoc ?_; refine awp_nw [1,4,7,8] fun tz U u => ?_; (try simp only [go_sem]); refine qU u ?_; clear u U; refine awp_cond (b := (x100 != 0)) rfl (fun h11 => ?_) (fun h11 => ?_)
  ·
   have h0 := cT h0 h11; refine awp_assoc ?_; refine awp_nw [4,8] fun tz U u => ?_; (try simp only [go_sem]); refine qU u ?_; clear u U; refine awp_ret ?_; obtain rfl := someInj h0; refine endW_i ?_; refine end_ret0 rs13 qR ?_; refine Res.mk [] [none, none, none] rfl (resON (resON (resON resO0))) (Tm.tup (tc (Tm.agg (e_Paths_tmx (by rfl) tT tT)) (tc tT (tc tv tn))))
  ·
   have h0 := cF h0 h11; refine awp_skip ?_; refine awp_nw [1,4,7] fun tz U u => ?_; cases h0

theorem path_Tick_m (a0 : Paths) (a1 : Int) {r : (Paths × (List Sent) × Int)} (h0 : path_Tick a0 a1 = some r) : SndM K 13 [(.agg (E_Paths a0)), (vi a1)] (fun q => (.tup [(.agg (e_Paths r.1 (.ref (q 0) 0 r.1.Routes.length 17) (.ref (q 1) 0 r.1.Wanted.length 8))), (.ref (q 2) 0 r.2.1.length 7), (vi r.2.2)])) [(List.flatMap e_PathRoute r.1.Routes), (List.flatMap e_PathWanted r.1.Wanted), (List.flatMap E_Sent r.2.1)] :=
 fun hs => Snd.of_newM (RenM.tup (RenML.cons (RenM.agg (e_Paths_ren _ (RenM.ref 0 0 _ _) (RenM.ref 1 0 _ _))) (RenML.cons (RenM.ref 2 0 _ _) (RenML.cons rv RenML.nil)))) (rows_all_cons (c_PathRoute _) (rows_all_cons (c_PathWanted _) (rows_all_cons (c_Sent _) rows_all_nil))) (clean_cons (Clean.agg (E_Paths_clean _)) (clean_cons cv clean_nil)) (path_Tick_r a0 a1 h0) hs
def hotspotref39_Tick_S0 (x102 : (Paths × Int)) (a1 : Int) : AS :=
 { objs := (upd (upd (upd (upd (fun _ => .dead) 0 (.live (e_Paths x102.1 (.ref 1 0 x102.1.Routes.length 17) (.ref 2 0 x102.1.Wanted.length 8)))) 1 (.live (List.flatMap e_PathRoute x102.1.Routes))) 2 (.live (List.flatMap e_PathWanted x102.1.Wanted))) 3 (.live (e_Paths Paths.z vnil vnil))), next := 4, tmps := (upd (upd (upd (upd (fun _ => .unk) 1 (vi a1)) 2 (.ptr 0 0)) 4 (.ptr 3 0)) 7 (vi x102.2)) }

def hotspotref39_Tick_S1 (x102 : (Paths × Int)) (d103 : (Paths × List Sent × List PathWanted)) : AS :=
 { objs := (upd (upd (upd (upd (upd (upd (fun _ => .dead) 0 (.live (e_Paths d103.1 (.ref 1 0 x102.1.Routes.length 17) (.ref 2 0 x102.1.Wanted.length 8)))) 1 (.live (List.flatMap e_PathRoute x102.1.Routes))) 2 (.live (List.flatMap e_PathWanted x102.1.Wanted))) 3 (.live (e_Paths Paths.z vnil vnil))) 4 (.live (List.flatMap E_Sent d103.2.1))) 5 (.live (List.flatMap e_PathWanted d103.2.2))), next := 6, tmps := (upd (upd (upd (upd (fun _ => .unk) 2 (.ptr 0 0)) 4 (.ptr 3 0)) 8 (.ref 4 0 d103.2.1.length 7)) 9 (.ref 5 0 d103.2.2.length 8)) }

def hotspotref39_Tick_S2 (x102 : (Paths × Int)) (a1 : Int) (d104 : (Paths × List Sent × List PathWanted × Int)) : AS :=
 { objs := (upd (upd (upd (upd (upd (upd (fun _ => .dead) 0 (.live (e_Paths d104.1 (.ref 1 0 x102.1.Routes.length 17) (.ref 2 0 x102.1.Wanted.length 8)))) 1 (.live (List.flatMap e_PathRoute x102.1.Routes))) 2 (.live (List.flatMap e_PathWanted x102.1.Wanted))) 3 (.live (e_Paths Paths.z vnil vnil))) 4 (.live (List.flatMap E_Sent d104.2.1))) 5 (.live (List.flatMap e_PathWanted d104.2.2.1))), next := 6, tmps := (upd (upd (upd (upd (upd (upd (fun _ => .unk) 1 (vi a1)) 2 (.ptr 0 0)) 4 (.ptr 3 0)) 8 (.ref 4 0 d104.2.1.length 7)) 9 (.ref 5 0 d104.2.2.1.length 8)) 10 (vi d104.2.2.2)) }

def hotspotref39_Tick_S4 (d104 : (Paths × List Sent × List PathWanted × Int)) (x102 : (Paths × Int)) (x105 : PathWanted) (a1 : Int) : AS :=
 { objs := (upd (upd (upd (upd (upd (upd (fun _ => .dead) 0 (.live (e_Paths d104.1 (.ref 1 0 x102.1.Routes.length 17) (.ref 2 0 x102.1.Wanted.length 8)))) 1 (.live (List.flatMap e_PathRoute x102.1.Routes))) 2 (.live (List.flatMap e_PathWanted x102.1.Wanted))) 3 (.live (e_Paths Paths.z vnil vnil))) 4 (.live (List.flatMap E_Sent d104.2.1))) 5 (.live (List.flatMap e_PathWanted (d104.2.2.1 ++ [x105])))), next := 6, tmps := (upd (upd (upd (upd (upd (upd (fun _ => .unk) 1 (vi a1)) 2 (.ptr 0 0)) 4 (.ptr 3 0)) 8 (.ref 4 0 d104.2.1.length 7)) 9 (.ref 5 0 ((d104.2.2.1 ++ [x105]).length) 8)) 10 (vi d104.2.2.2)) }

def hotspotref39_Tick_S5 (d104 : (Paths × List Sent × List PathWanted × Int)) (x102 : (Paths × Int)) (x105 : PathWanted) (a1 : Int) : AS :=
 { objs := (upd (upd (upd (upd (upd (upd (upd (fun _ => .dead) 0 (.live (e_Paths { d104.1 with Seq := IntKind.wrap .i64 (d104.1.Seq + 1) } (.ref 1 0 x102.1.Routes.length 17) (.ref 2 0 x102.1.Wanted.length 8)))) 1 (.live (List.flatMap e_PathRoute x102.1.Routes))) 2 (.live (List.flatMap e_PathWanted x102.1.Wanted))) 3 (.live (e_Paths Paths.z vnil vnil))) 4 (.live (List.flatMap E_Sent d104.2.1))) 5 (.live (List.flatMap e_PathWanted d104.2.2.1))) 6 (.live (e_PathWanted { x105 with Tries := IntKind.wrap .i64 (x105.Tries + 1) }))), next := 7, tmps := (upd (upd (upd (upd (upd (upd (upd (fun _ => .unk) 1 (vi a1)) 2 (.ptr 0 0)) 4 (.ptr 3 0)) 8 (.ref 4 0 d104.2.1.length 7)) 9 (.ref 5 0 d104.2.2.1.length 8)) 10 (vi d104.2.2.2)) 11 (.ptr 6 0)) }

theorem hotspotref39_Tick_r (a0 : Paths) (a1 : Int) {r : (Paths × (List Sent) × Int)} (h0 : hotspotref39_Tick a0 a1 = some r) : SndR K 14 [(.agg (E_Paths a0)), (vi a1)] (fun q => (.tup [(.agg (e_Paths r.1 (.ref (q 0) 0 r.1.Routes.length 17) (.ref (q 1) 0 r.1.Wanted.length 8))), (.ref (q 2) 0 r.2.1.length 7), (vi r.2.2)])) [(List.flatMap e_PathRoute r.1.Routes), (List.flatMap e_PathWanted r.1.Wanted), (List.flatMap E_Sent r.2.1)] := by
 refine SndR.of_walkW hC (show K.P.funcs[14]? = some Tryd.f14 from Tryd.func14) rfl rfl (by decide +kernel) (qB2 rfl) ?_; unfold hotspotref39_Tick at h0; refine awp_nw [0,1] fun tz U u => ?_; (try simp only [go_sem]); refine qU u ?_; clear u U; refine awp_nw [1,2,4] fun tz U u => ?_; obtain ⟨x102, bx102, h0⟩ := bnd h0; (try simp only [go_sem]); (refine xcall_M (hotspotref39_before_m a0 a1 bx102) ?_; try dsimp only); (try refine xw_id ?_); (try simp only [go_sem]); refine u _ (hotspotref39_Tick_S0 x102 a1) (by refine Wk.canonD [] [] [some 0, some 12, some 13, some 1] rfl trivial rfl (tmOU 3 (tmOU 2 (tmOU 1 (tmOU 0 tmO0 rfl qM rfl (e_Paths_tmx (by rfl) tr tr)) rfl qM rfl (TmL.of_eq qL (c_PathRoute _))) rfl qM rfl (TmL.of_eq qL (c_PathWanted _))) rfl qM rfl (e_Paths_tmx (by rfl) tv tv)) (tA 7 (tA 4 (tA 2 (tA 1 tmAll0 tv) tp) tp) tv); all_goals exact qN) ?_; clear u U; unfold hotspotref39_Tick_S0; refine awp_assoc ?_; refine awp_nw [1,2,4,7] fun tz U u => ?_; (try simp only [go_sem]); refine qU u ?_; clear u U; refine awp_cond (b := (x102.2 != 0)) rfl (fun h1 => ?_) (fun h1 => ?_)
 ·
  have h0 := cT h0 h1; refine awp_assoc ?_; refine awp_nw [4,7] fun tz U u => ?_; (try simp only [go_sem]); refine qU u ?_; clear u U; refine awp_ret ?_; obtain rfl := someInj h0; refine endW_i ?_; refine end_ret0 rs14 qR ?_; refine Res.mk [] [none, none, none] rfl (resON (resON (resON resO0))) (Tm.tup (tc (Tm.agg (e_Paths_tmx (by rfl) tT tT)) (tc tT (tc tv tn))))
 ·
  have h0 := cF h0 h1; refine awp_skip ?_; refine awp_nw [1,2,4] fun tz U u => ?_; (try simp only [go_sem]); refine qU u ?_; clear u U; refine awp_nw [1,2,4,8] fun tz U u => ?_; (try simp only [go_sem]); refine qU u ?_; clear u U; refine awp_assoc ?_; refine awp_nw [1,2,4,8,9] fun tz U u => ?_; (try simp only [go_sem]); refine qU u ?_; clear u U; obtain ⟨d103, hi2, h0⟩ := bnd h0; refine awp_cut (fun z => d103 = z) (fun d103 : (Paths × List Sent × List PathWanted) => hotspotref39_Tick_S1 x102 d103) ?_ ?_
  ·
   refine awp_block1 ?_; refine awp_loopS (fun n (d104 : (Paths × List Sent × List PathWanted × Int)) => hotspotref39_Tick_L3 x102 a1 n d104 = some d103) (fun d104 : (Paths × List Sent × List PathWanted × Int) => hotspotref39_Tick_S2 x102 a1 d104) big (x102.1, [], [], 0) (by refine Wk.canonD [] [] [some 0, some 1, some 2, some 3, none, none] rfl trivial rfl (tmON 5 (tmON 4 (tmOU 3 (tmOU 2 (tmOU 1 (tmOU 0 tmO0 rfl qM rfl (e_Paths_tmx (by rfl) tr tr)) rfl qM rfl (TmL.of_eq qL (c_PathRoute _))) rfl qM rfl (TmL.of_eq qL (c_PathWanted _))) rfl qM rfl (e_Paths_tmx (by rfl) tv tv)) rfl) rfl) (tA 10 (tA 9 (tA 8 (tA 4 (tA 2 (tA 1 tmAll0 tv) tp) tp) tT) tT) tv); all_goals exact qN) hi2 ?_; clear hi2; rintro n d104 hl4; rcases n with _ | n3
   ·
    (rw [hotspotref39_Tick_L3] at hl4; cases hl4)
   ·
    rw [hotspotref39_Tick_L3] at hl4; unfold hotspotref39_Tick_S2; refine awp_assoc ?_; refine awp_nw [1,2,4,8,9,10] fun tz U u => ?_; (try simp only [go_sem]); refine qU u ?_; clear u U; refine awp_cond (b := (decide (d104.2.2.2 < ((x102.1.Wanted.length : Nat) : Int)))) rfl (fun h5 => ?_) (fun h5 => ?_)
    ·
     have hl4 := cT hl4 h5; refine awp_skip ?_; refine awp_blockW ?_; refine awp_nw [1,2,4,8,9,10] fun tz U u => ?_; obtain ⟨x105, bx105, hl4⟩ := bnd hl4; obtain ⟨fx105_0, fx105_1, fx105_2, fx105_3⟩ := idx_some bx105; (have fx105_5 : ((d104.2.2.2 : Int) < ((x102.1.Wanted.length : Nat) : Int)) = True := by first | exact fx105_1 | (simp [List.length_modify, List.length_set]; omega)); (try simp only [go_sem, fx105_0, fx105_1, fx105_2, fx105_5]); refine qU u ?_; clear u U; refine awp_assoc ?_; refine awp_nw [1,2,4,8,9,10,11] fun tz U u => ?_; (try simp only [go_sem, fx105_0, fx105_1, fx105_2, fx105_5]); refine qU u ?_; clear u U; refine awp_cond (b := (decide (a1 < x105.Due))) rfl (fun h6 => ?_) (fun h6 => ?_)
     ·
      have hl4 := cT hl4 h6; refine awp_assoc ?_; refine awp_nw [1,2,4,8,9,10,11] fun tz U u => ?_; obtain ⟨x106, bx106, hl4⟩ := bnd hl4; have bx106 := chk_some bx106; simp only [Bool.and_eq_true, decide_eq_true_eq] at bx106; have gx106_0 := bx106; (try simp only [go_sem, fx105_0, fx105_1, fx105_2, fx105_5, gx106_0]); (try (rw [if_pos (by (try simp only [List.length_append, lc, ln]); omega)]; try simp only [go_sem, fx105_0, fx105_1, fx105_2, fx105_5, gx106_0])); refine u _ (hotspotref39_Tick_S4 d104 x102 x105 a1) (by refine Wk.canonD [] [] [some 0, some 1, some 2, some 3, some 4, some 25] rfl trivial rfl (tmOU 5 (tmOU 4 (tmOU 3 (tmOU 2 (tmOU 1 (tmOU 0 tmO0 rfl qM rfl (e_Paths_tmx (by rfl) tr tr)) rfl qM rfl (TmL.of_eq qL (c_PathRoute _))) rfl qM rfl (TmL.of_eq qL (c_PathWanted _))) rfl qM rfl (e_Paths_tmx (by rfl) tv tv)) rfl qM rfl (TmL.of_eq qL (c_Sent _))) rfl qM rfl (TmL.of_eq qL (c_PathWanted _))) (tA 10 (tA 9 (tA 8 (tA 4 (tA 2 (tA 1 tmAll0 tv) tp) tp) tr) tr) tv); all_goals exact qN) ?_; clear u U; unfold hotspotref39_Tick_S4; refine awp_exit ?_; refine bq_e ?_; refine seqW_i ?_; refine awp_nw1 [1,2,4,8,9,10] fun tz U u => ?_; (try simp only [go_sem, fx105_0, fx105_1, fx105_2, fx105_5]); refine u _ ?_; clear u U; refine lq_n ?_; exact ⟨n3, (d104.1, d104.2.1, (d104.2.2.1 ++ [x105]), IntKind.wrap .i64 (d104.2.2.2 + 1)), rfl, hl4, (by refine Wk.canonD [] [] [some 0, some 1, some 2, some 3, some 4, some 5] rfl trivial rfl (tmOU 5 (tmOU 4 (tmOU 3 (tmOU 2 (tmOU 1 (tmOU 0 tmO0 rfl qM rfl (e_Paths_tmx (by rfl) tr tr)) rfl qM rfl (TmL.of_eq qL (c_PathRoute _))) rfl qM rfl (TmL.of_eq qL (c_PathWanted _))) rfl qM rfl (e_Paths_tmx (by rfl) tv tv)) rfl qM rfl (TmL.of_eq qL (c_Sent _))) rfl qM rfl (TmL.of_eq qL (c_PathWanted _))) (tA 10 (tA 9 (tA 8 (tA 4 (tA 2 (tA 1 tmAll0 tv) tp) tp) tr) tr) tv); all_goals exact qN)⟩
     ·
      have hl4 := cF hl4 h6; refine awp_skip ?_; refine awp_assoc ?_; refine awp_nw [1,2,4,8,9,10,11] fun tz U u => ?_; refine xw_stop 4 qS qS (by rfl) fun V v => ?_; refine xw_id ?_; (try simp only [go_sem, fx105_0, fx105_1, fx105_2, fx105_5]); refine v _ ?_; clear v V; refine xw_cut 4 [(1, (vi a1)), (2, (.ptr 0 0)), (4, (.ptr 3 0)), (8, (.ref 4 0 d104.2.1.length 7)), (9, (.ref 5 0 d104.2.2.1.length 8)), (10, (vi d104.2.2.2)), (11, (.ptr 16 0)), (49, (vb ((decide (3 ≤ x105.Tries)) || (decide (2147483647 ≤ d104.1.Seq)))))] qS qS (by rfl) (fun V v => ?_) fun tz => ?_
      ·
       refine xw_id ?_; rcases bE (decide (3 ≤ x105.Tries)) with h7 | h7
       ·
        (try simp only [go_sem, fx105_0, fx105_1, fx105_2, fx105_5, h7]); exact v _ ⟨rfl, rfl, rfl, rfl, rfl, rfl, rfl, rfl, (qB h7), trivial⟩
       ·
        (try simp only [go_sem, fx105_0, fx105_1, fx105_2, fx105_5, h7]); exact v _ ⟨rfl, rfl, rfl, rfl, rfl, rfl, rfl, rfl, (qB h7), trivial⟩
      ·
       refine xw_id ?_; (try simp only [go_sem, fx105_0, fx105_1, fx105_2, fx105_5]); refine qU u ?_; clear u U; refine awp_cond (b := ((decide (3 ≤ x105.Tries)) || (decide (2147483647 ≤ d104.1.Seq)))) rfl (fun h8 => ?_) (fun h8 => ?_)
       ·
        have hl4 := cT hl4 h8; refine awp_exit ?_; refine bq_e ?_; refine seqW_i ?_; refine awp_nw1 [1,2,4,8,9,10] fun tz U u => ?_; (try simp only [go_sem, fx105_0, fx105_1, fx105_2, fx105_5]); refine u _ ?_; clear u U; refine lq_n ?_; exact ⟨n3, (d104.1, d104.2.1, d104.2.2.1, IntKind.wrap .i64 (d104.2.2.2 + 1)), rfl, hl4, (by refine Wk.canonD [] [] [some 0, some 1, some 2, some 3, some 4, some 5] rfl trivial rfl (tmOU 5 (tmOU 4 (tmOU 3 (tmOU 2 (tmOU 1 (tmOU 0 tmO0 rfl qM rfl (e_Paths_tmx (by rfl) tr tr)) rfl qM rfl (TmL.of_eq qL (c_PathRoute _))) rfl qM rfl (TmL.of_eq qL (c_PathWanted _))) rfl qM rfl (e_Paths_tmx (by rfl) tv tv)) rfl qM rfl (TmL.of_eq qL (c_Sent _))) rfl qM rfl (TmL.of_eq qL (c_PathWanted _))) (tA 10 (tA 9 (tA 8 (tA 4 (tA 2 (tA 1 tmAll0 tv) tp) tp) tr) tr) tv); all_goals exact qN)⟩
       ·
        have hl4 := cF hl4 h8; refine awp_skip ?_; refine awp_nw [1,2,4,8,9,10,11] fun tz U u => ?_; (try simp only [go_sem, fx105_0, fx105_1, fx105_2, fx105_5]); refine qU u ?_; clear u U; refine awp_nw [1,2,4,8,9,10,11] fun tz U u => ?_; (try simp only [go_sem, fx105_0, fx105_1, fx105_2, fx105_5]); refine u _ (hotspotref39_Tick_S5 d104 x102 x105 a1) (by refine Wk.canonD [] [] [some 0, some 1, some 2, some 3, some 4, some 5, some 16] rfl trivial rfl (tmOU 6 (tmOU 5 (tmOU 4 (tmOU 3 (tmOU 2 (tmOU 1 (tmOU 0 tmO0 rfl qM rfl (e_Paths_tmx (by rfl) tr tr)) rfl qM rfl (TmL.of_eq qL (c_PathRoute _))) rfl qM rfl (TmL.of_eq qL (c_PathWanted _))) rfl qM rfl (e_Paths_tmx (by rfl) tv tv)) rfl qM rfl (TmL.of_eq qL (c_Sent _))) rfl qM rfl (TmL.of_eq qL (c_PathWanted _))) rfl qM rfl (TmL.clean (e_PathWanted_clean _))) (tA 11 (tA 10 (tA 9 (tA 8 (tA 4 (tA 2 (tA 1 tmAll0 tv) tp) tp) tr) tr) tv) tp); all_goals exact qN) ?_; clear u U; unfold hotspotref39_Tick_S5; refine awp_nw [1,2,4,8,9,10,11] fun tz U u => ?_; (try simp only [go_sem, fx105_0, fx105_1, fx105_2, fx105_5]); refine qU u ?_; clear u U; refine awp_nw [1,2,4,8,9,10,11] fun tz U u => ?_; obtain ⟨x107, bx107, hl4⟩ := bnd hl4; have bx107 := chk_some bx107; simp only [Bool.and_eq_true, decide_eq_true_eq] at bx107; have gx107_0 := bx107; (try simp only [go_sem, fx105_0, fx105_1, fx105_2, fx105_5, gx107_0]); (try (rw [if_pos (by (try simp only [List.length_append, lc, ln]); omega)]; try simp only [go_sem, fx105_0, fx105_1, fx105_2, fx105_5, gx107_0])); refine qU u ?_; clear u U; refine awp_nr1 [1,2,4,8,9,10,11] (fun _ => rfl) fun tz => ?_; refine awp_regD1 fun U u all hall => ?_; refine xd_id ?_; (try simp only [List.toList_toArray, List.map_cons, List.map_nil, List.size_toArray, List.length_cons, List.length_nil, Nat.zero_add]); (try simp only [Nat.reduceAdd]); obtain ⟨x108, bx108, hl4⟩ := bnd hl4; (iterate 3 ((try simp only [go_sem, -Nat.reduceAdd, fx105_0, fx105_1, fx105_2, fx105_5]); try simp only [Nat.reduceAdd])); (refine xcallD_p (hotspotref39_All_p  bx108) ?_; try dsimp only); (try refine xd_id ?_); obtain ⟨x109, bx109, hl4⟩ := bnd hl4; (iterate 3 ((try simp only [go_sem, -Nat.reduceAdd, fx105_0, fx105_1, fx105_2, fx105_5]); try simp only [Nat.reduceAdd])); (refine xcallD_L (by first | (simp only [go_sem, fz, fx105_0, fx105_1, fx105_2, fx105_5] <;> rfl) | (simp only [go_sem, fz, List.length_set, ble_self, take_set, cond_true, cond_false, fx105_0, fx105_1, fx105_2, fx105_5] <;> rfl)) (by first | (simp only [go_sem, reach, fx105_0, fx105_1, fx105_2, fx105_5] <;> rfl)) (hotspotref39_known_p { d104.1 with Routes := x102.1.Routes, Seq := IntKind.wrap .i64 (d104.1.Seq + 1), Wanted := x102.1.Wanted } x105.Dest bx109) (Bare.v _) ?_; try dsimp only); (try refine xd_id ?_); obtain ⟨x110, bx110, hl4⟩ := bnd hl4; (iterate 3 ((try simp only [go_sem, -Nat.reduceAdd, fx105_0, fx105_1, fx105_2, fx105_5]); try simp only [Nat.reduceAdd])); (refine xcallD_p (hotspotref39_Request_p d104.1.Own (IntKind.wrap .i64 (d104.1.Seq + 1)) x105.Dest x109 0 0 bx110) ?_; try dsimp only); (try refine xd_id ?_); obtain ⟨x111, bx111, hl4⟩ := bnd hl4; have bx111 := chk_some bx111; simp only [Bool.and_eq_true, decide_eq_true_eq] at bx111; have gx111_0 := bx111; (iterate 3 ((try simp only [go_sem, -Nat.reduceAdd, fx105_0, fx105_1, fx105_2, fx105_5, gx111_0]); try simp only [Nat.reduceAdd])); refine And.intro ?_ (u _ ?_)
        ·
         subst hall; clear u U; exact qP
        ·
         clear u U hall all; refine bq_n ?_; refine seqW_i ?_; refine awp_nw1 [1,2,4,8,9,10] fun tz U u => ?_; (try simp only [go_sem, fx105_0, fx105_1, fx105_2, fx105_5]); refine u _ ?_; clear u U; refine lq_n ?_; exact ⟨n3, ({ d104.1 with Seq := IntKind.wrap .i64 (d104.1.Seq + 1) }, (d104.2.1 ++ [{ Sent.z with Data := x110, To := x108 }]), (d104.2.2.1 ++ [{ x105 with Due := IntKind.wrap .i64 (a1 + 100000), Tries := IntKind.wrap .i64 (x105.Tries + 1) }]), IntKind.wrap .i64 (d104.2.2.2 + 1)), rfl, hl4, (by refine Wk.canonD [] [] [some 0, some 1, some 2, some 3, some 31, some 14] rfl trivial rfl (tmOU 5 (tmOU 4 (tmOU 3 (tmOU 2 (tmOU 1 (tmOU 0 tmO0 rfl qM rfl (e_Paths_tmx (by rfl) tr tr)) rfl qM rfl (TmL.of_eq qL (c_PathRoute _))) rfl qM rfl (TmL.of_eq qL (c_PathWanted _))) rfl qM rfl (e_Paths_tmx (by rfl) tv tv)) rfl qM rfl (TmL.of_eq qL (c_Sent _))) rfl qM rfl (TmL.of_eq qL (c_PathWanted _))) (tA 10 (tA 9 (tA 8 (tA 4 (tA 2 (tA 1 tmAll0 tv) tp) tp) tr) tr) tv); all_goals exact qN)⟩
    ·
     have hl4 := cF hl4 h5; refine awp_exit ?_; refine lq_e ?_; refine bq_e ?_; refine sq_n ?_; obtain rfl := someInj hl4; exact ⟨_, rfl, (by refine Wk.canonD [] [] [some 0, some 1, some 2, some 3, some 4, some 5] rfl trivial rfl (tmOU 5 (tmOU 4 (tmOU 3 (tmOU 2 (tmOU 1 (tmOU 0 tmO0 rfl qM rfl (e_Paths_tmx (by rfl) tr tr)) rfl qM rfl (TmL.of_eq qL (c_PathRoute _))) rfl qM rfl (TmL.of_eq qL (c_PathWanted _))) rfl qM rfl (e_Paths_tmx (by rfl) tv tv)) rfl qM rfl (TmL.of_eq qL (c_Sent _))) rfl qM rfl (TmL.of_eq qL (c_PathWanted _))) (tA 9 (tA 8 (tA 4 (tA 2 tmAll0 tp) tp) tr) tr); all_goals exact qN)⟩
  ·
   rintro _ rfl; clear hi2; unfold hotspotref39_Tick_S1; refine awp_nw [2,4,8,9] fun tz U u => ?_; (try simp only [go_sem]); refine qU u ?_; clear u U; refine awp_nw [2,4,8] fun tz U u => ?_; (try simp only [go_sem]); refine qU u ?_; clear u U; refine awp_ret1 ?_; obtain rfl := someInj h0; refine endW_i ?_; refine end_ret0 rs14 qR ?_; refine Res.mk [] [some 1, some 5, some 4] rfl (resOU qM rfl (TmL.of_eq qL (c_PathRoute _)) (resOU qM rfl (TmL.of_eq qL (c_PathWanted _)) (resOU qM rfl (TmL.of_eq qL (c_Sent _)) resO0))) (Tm.tup (tc (Tm.agg (e_Paths_tmx (by rfl) tr tr)) (tc tr (tc tv tn)))); (all_goals exact qN)


theorem hotspotref39_Tick_p (a0 : Paths) (a1 : Int) {r : (Paths × (List Sent) × Int)} (h0 : hotspotref39_Tick a0 a1 = some r) : SndP K 14 [(.agg (E_Paths a0)), (vi a1)] (.tup [(.agg (E_Paths r.1)), (S_Sent r.2.1), (vi r.2.2)]) :=
 SndM.pure (rM (hotspotref39_Tick_r a0 a1 h0) (RenM.tup (RenML.cons (RenM.agg (e_Paths_ren _ (RenM.ref 0 0 _ _) (RenM.ref 1 0 _ _))) (RenML.cons (RenM.ref 2 0 _ _) (RenML.cons rv RenML.nil)))) (rows_all_cons (c_PathRoute _) (rows_all_cons (c_PathWanted _) (rows_all_cons (c_Sent _) rows_all_nil))) (clean_cons (Clean.agg (E_Paths_clean _)) (clean_cons cv clean_nil))) (Clean.tup (clean_cons (Clean.agg (E_Paths_clean _)) (clean_cons (S_Sent_clean _) (clean_cons cv clean_nil)))) (clean_cons (Clean.agg (E_Paths_clean _)) (clean_cons cv clean_nil)) qV
def path_Next_S0 (a1 : A6vu) (a0 : Paths) (a2 : Int) (x117 : (List PathRoute × List PathWanted)) : AS :=
 { objs := (upd (upd (upd (upd (upd (fun _ => .dead) 0 (.live (e_A6vu a1))) 1 (.live (e_A6vu A6vu.z))) 2 (.live (e_Path_node { Path_node.z with Paths := a0, now := a2, out := [] } (.ref 3 0 x117.1.length 17) (.ref 4 0 x117.2.length 8) vnil))) 3 (.live (List.flatMap e_PathRoute x117.1))) 4 (.live (List.flatMap e_PathWanted x117.2))), next := 5, tmps := (upd (upd (upd (upd (fun _ => .unk) 4 (.ptr 0 0)) 6 (.ptr 1 0)) 8 (.ptr 2 0)) 9 (vi 0)) }

def path_Next_S1 (a1 : A6vu) (x122 : Int) : AS :=
 { objs := (upd (upd (fun _ => .dead) 0 (.live (e_A6vu a1))) 1 (.live (e_A6vu A6vu.z))), next := 2, tmps := (upd (upd (upd (upd (fun _ => .unk) 4 (.ptr 0 0)) 6 (.ptr 1 0)) 8 (.v (.pointer none))) 9 (vi x122)) }

theorem path_Next_p (a0 : Paths) (a1 : A6vu) (a2 : Int) {r : (A6vu × Int)} (h0 : path_Next a0 a1 a2 = some r) : SndP K 15 [(.agg (E_Paths a0)), (.agg (e_A6vu a1)), (vi a2)] (.tup [(.agg (e_A6vu r.1)), (vi r.2)]) := by
 refine SndP.of_walkW hC (Clean.tup (clean_cons (Clean.agg (e_A6vu_clean _)) (clean_cons cv clean_nil))) (clean_cons (Clean.agg (E_Paths_clean _)) (clean_cons (Clean.agg (e_A6vu_clean _)) (clean_cons cv clean_nil))) (show K.P.funcs[15]? = some Tryd.f15 from Tryd.func15) rfl rfl (by decide +kernel) (qB2 rfl) ?_; unfold path_Next at h0; refine awp_nw [0,1,2] fun tz U u => ?_; (try simp only [go_sem]); refine qU u ?_; clear u U; refine awp_nw [2,3,4,6] fun tz U u => ?_; rcases bE ((path_begun a0 a2).isSome) with h1 | h1
 ·
  have h0 := cT h0 h1; obtain ⟨x117, bx117, h0⟩ := bnd h0; (try simp only [go_sem]); (refine xcall_O [] (path_begun_io a0 a2 bx117) (by decide) (by decide) trivial (by first | rfl | (simp only [go_sem] <;> rfl) | (simp only [go_sem, List.length_append] <;> rfl)) ?_; try dsimp only); (try refine xw_id ?_); (try simp only [go_sem, lc, ln]); refine u _ (path_Next_S0 a1 a0 a2 x117) (by refine Wk.canonD [] [] [some 1, some 2, some 12, some 13, some 14] rfl trivial rfl (tmOU 4 (tmOU 3 (tmOU 2 (tmOU 1 (tmOU 0 tmO0 rfl qM rfl (TmL.clean (e_A6vu_clean _))) rfl qM rfl (TmL.clean (e_A6vu_clean _))) rfl qM rfl (e_Path_node_tmx (by rfl) tr tr tv)) rfl qM rfl (TmL.of_eq qL (c_PathRoute _))) rfl qM rfl (TmL.of_eq qL (c_PathWanted _))) (tA 9 (tA 8 (tA 6 (tA 4 tmAll0 tp) tp) tp) tv); all_goals exact qN) ?_; clear u U; unfold path_Next_S0; refine awp_assoc ?_; refine awp_nw [4,6,8,9] fun tz U u => ?_; (try simp only [go_sem]); refine qU u ?_; clear u U; refine awp_condF rfl ?_; refine awp_skip ?_; refine awp_nw [4,6,8] fun tz U u => ?_; obtain ⟨x118, bx118, h0⟩ := bnd h0; (try simp only [go_sem]); (refine xcall_L (by first | (simp only [go_sem, fz] <;> rfl) | (simp only [go_sem, fz, List.length_set, ble_self, take_set, cond_true, cond_false] <;> rfl)) (path_node_route_p { Path_node.z with Paths := { a0 with Routes := x117.1, Wanted := x117.2 }, now := a2, out := [] } a1 bx118) (bare_ok (by rfl)) ?_; try dsimp only); (try refine xw_id ?_); (try simp only [go_sem]); refine qU u ?_; clear u U; refine awp_assoc ?_; refine awp_nw [6,8,10,11] fun tz U u => ?_; refine xw_stop 3 qS qS (by rfl) fun V v => ?_; refine xw_id ?_; (try simp only [go_sem]); refine v _ ?_; clear v V; obtain ⟨x120, hvh2, h0⟩ := bnd h0; refine xw_cut 11 [(6, (.ptr 1 0)), (8, (.ptr 2 0)), (10, (vi x118.1)), (41, (vb x120))] qS qS (by rfl) (fun V v => ?_) fun tz => ?_
  ·
   refine xw_id ?_; rcases bE (!x118.2) with h2 | h2
   ·
    have hvh2 := cT hvh2 h2; (try simp only [go_sem, h2]); obtain rfl := someInj hvh2; exact v _ ⟨rfl, rfl, rfl, rfl, (qB h2), trivial⟩
   ·
    have hvh2 := cF hvh2 h2; obtain ⟨x119, bx119, hvh2⟩ := bnd hvh2; obtain ⟨fx119_0, fx119_1, fx119_2, fx119_3⟩ := idx_some bx119; (have fx119_5 : ((x118.1 : Int) < ((x117.1.length : Nat) : Int)) = True := by first | exact fx119_1 | (simp [List.length_modify, List.length_set]; omega)); (try simp only [go_sem, h2, fx119_0, fx119_1, fx119_2, fx119_5]); obtain rfl := someInj hvh2; exact v _ ⟨rfl, rfl, rfl, rfl, (qB h2), trivial⟩
  ·
   refine xw_id ?_; (try simp only [go_sem]); refine qU u ?_; clear u U; refine awp_cond (b := x120) rfl (fun h3 => ?_) (fun h3 => ?_)
   ·
    have h0 := cT h0 h3; refine awp_assoc ?_; refine awp_nw [6] fun tz U u => ?_; (try simp only [go_sem]); refine qU u ?_; clear u U; refine awp_ret ?_; obtain rfl := someInj h0; refine endW_i ?_; refine end_ret0 rs15 qR ?_; exact qF
   ·
    have h0 := cF h0 h3; refine awp_skip ?_; refine awp_nw [6,8,10] fun tz U u => ?_; obtain ⟨x121, bx121, h0⟩ := bnd h0; obtain ⟨fx121_0, fx121_1, fx121_2, fx121_3⟩ := idx_some bx121; (have fx121_5 : ((x118.1 : Int) < ((x117.1.length : Nat) : Int)) = True := by first | exact fx121_1 | (simp [List.length_modify, List.length_set]; omega)); (try simp only [go_sem, fx121_0, fx121_1, fx121_2, fx121_5]); refine qU u ?_; clear u U; refine awp_ret1 ?_; obtain rfl := someInj h0; refine endW_i ?_; refine end_ret0 rs15 qR ?_; exact qF
 ·
  have h0 := cF h0 h1; obtain ⟨x122, bx122, h0⟩ := bnd h0; (try simp only [go_sem]); (refine xcall_O [] (path_begun_2_io a0 a2 bx122) (by decide) (by decide) trivial (by first | rfl | (simp only [go_sem] <;> rfl) | (simp only [go_sem, List.length_append] <;> rfl)) ?_; try dsimp only); (try refine xw_id ?_); (try simp only [go_sem, lc, ln]); refine u _ (path_Next_S1 a1 x122) (Wk.canonD [] [] [some 1, some 2] rfl trivial rfl (tmOU 1 (tmOU 0 tmO0 rfl qM rfl (TmL.clean (e_A6vu_clean _))) rfl qM rfl (TmL.clean (e_A6vu_clean _))) (tA 9 (tA 8 (tA 6 (tA 4 tmAll0 tp) tp) tv) tv)) ?_; clear u U; unfold path_Next_S1; refine awp_assoc ?_; refine awp_nw [4,6,8,9] fun tz U u => ?_; (try simp only [go_sem]); refine qU u ?_; clear u U; refine awp_cond (b := (x122 != 0)) rfl (fun h4 => ?_) (fun h4 => ?_)
  ·
   have h0 := cT h0 h4; refine awp_assoc ?_; refine awp_nw [6,9] fun tz U u => ?_; (try simp only [go_sem]); refine qU u ?_; clear u U; refine awp_ret ?_; obtain rfl := someInj h0; refine endW_i ?_; refine end_ret0 rs15 qR ?_; exact qF
  ·
   have h0 := cF h0 h4; refine awp_skip ?_; refine awp_nw [4,6,8] fun tz U u => ?_; cases h0
def hotspotref39_Next_S0 (x124 : (Paths × Int)) (a1 : A6vu) : AS :=
 { objs := (upd (upd (upd (upd (upd (fun _ => .dead) 0 (.live (e_Paths x124.1 (.ref 1 0 x124.1.Routes.length 17) (.ref 2 0 x124.1.Wanted.length 8)))) 1 (.live (List.flatMap e_PathRoute x124.1.Routes))) 2 (.live (List.flatMap e_PathWanted x124.1.Wanted))) 3 (.live (e_A6vu a1))) 4 (.live (e_A6vu A6vu.z))), next := 5, tmps := (upd (upd (upd (upd (fun _ => .unk) 3 (.ptr 0 0)) 4 (.ptr 3 0)) 6 (.ptr 4 0)) 8 (vi x124.2)) }

theorem hotspotref39_Next_p (a0 : Paths) (a1 : A6vu) (a2 : Int) {r : (A6vu × Int)} (h0 : hotspotref39_Next a0 a1 a2 = some r) : SndP K 16 [(.agg (E_Paths a0)), (.agg (e_A6vu a1)), (vi a2)] (.tup [(.agg (e_A6vu r.1)), (vi r.2)]) := by
 refine SndP.of_walkW hC (Clean.tup (clean_cons (Clean.agg (e_A6vu_clean _)) (clean_cons cv clean_nil))) (clean_cons (Clean.agg (E_Paths_clean _)) (clean_cons (Clean.agg (e_A6vu_clean _)) (clean_cons cv clean_nil))) (show K.P.funcs[16]? = some Tryd.f16 from Tryd.func16) rfl rfl (by decide +kernel) (qB2 rfl) ?_; unfold hotspotref39_Next at h0; refine awp_nw [0,1,2] fun tz U u => ?_; (try simp only [go_sem]); refine qU u ?_; clear u U; refine awp_nw [2,3,4,6] fun tz U u => ?_; obtain ⟨x124, bx124, h0⟩ := bnd h0; (try simp only [go_sem]); (refine xcall_M (hotspotref39_before_m a0 a2 bx124) ?_; try dsimp only); (try refine xw_id ?_); (try simp only [go_sem]); refine u _ (hotspotref39_Next_S0 x124 a1) (by refine Wk.canonD [] [] [some 0, some 12, some 13, some 1, some 2] rfl trivial rfl (tmOU 4 (tmOU 3 (tmOU 2 (tmOU 1 (tmOU 0 tmO0 rfl qM rfl (e_Paths_tmx (by rfl) tr tr)) rfl qM rfl (TmL.of_eq qL (c_PathRoute _))) rfl qM rfl (TmL.of_eq qL (c_PathWanted _))) rfl qM rfl (TmL.clean (e_A6vu_clean _))) rfl qM rfl (TmL.clean (e_A6vu_clean _))) (tA 8 (tA 6 (tA 4 (tA 3 tmAll0 tp) tp) tp) tv); all_goals exact qN) ?_; clear u U; unfold hotspotref39_Next_S0; refine awp_assoc ?_; refine awp_nw [3,4,6,8] fun tz U u => ?_; (try simp only [go_sem]); refine qU u ?_; clear u U; refine awp_cond (b := (x124.2 != 0)) rfl (fun h1 => ?_) (fun h1 => ?_)
 ·
  have h0 := cT h0 h1; refine awp_assoc ?_; refine awp_nw [6,8] fun tz U u => ?_; (try simp only [go_sem]); refine qU u ?_; clear u U; refine awp_ret ?_; obtain rfl := someInj h0; refine endW_i ?_; refine end_ret0 rs16 qR ?_; exact qF
 ·
  have h0 := cF h0 h1; refine awp_skip ?_; refine awp_nw [3,4,6] fun tz U u => ?_; obtain ⟨x125, bx125, h0⟩ := bnd h0; (try simp only [go_sem]); (refine xcall_L (by first | (simp only [go_sem, fz] <;> rfl) | (simp only [go_sem, fz, List.length_set, ble_self, take_set, cond_true, cond_false] <;> rfl)) (hotspotref39_at_p x124.1 a1 bx125) (Bare.v _) ?_; try dsimp only); (try refine xw_id ?_); (try simp only [go_sem]); refine qU u ?_; clear u U; refine awp_assoc ?_; refine awp_nw [3,6,9] fun tz U u => ?_; refine xw_stop 3 qS qS (by rfl) fun V v => ?_; refine xw_id ?_; (try simp only [go_sem]); refine v _ ?_; clear v V; obtain ⟨x127, hvh2, h0⟩ := bnd h0; refine xw_cut 8 [(3, (.ptr 0 0)), (6, (.ptr 4 0)), (9, (vi x125)), (33, (vb x127))] qS qS (by rfl) (fun V v => ?_) fun tz => ?_
  ·
   refine xw_id ?_; rcases bE (decide (x125 < 0)) with h2 | h2
   ·
    have hvh2 := cT hvh2 h2; (try simp only [go_sem, h2]); obtain rfl := someInj hvh2; exact v _ ⟨rfl, rfl, rfl, rfl, (qB h2), trivial⟩
   ·
    have hvh2 := cF hvh2 h2; obtain ⟨x126, bx126, hvh2⟩ := bnd hvh2; obtain ⟨fx126_0, fx126_1, fx126_2, fx126_3⟩ := idx_some bx126; (have fx126_5 : ((x125 : Int) < ((x124.1.Routes.length : Nat) : Int)) = True := by first | exact fx126_1 | (simp [List.length_modify, List.length_set]; omega)); (try simp only [go_sem, h2, fx126_0, fx126_1, fx126_2, fx126_5]); obtain rfl := someInj hvh2; exact v _ ⟨rfl, rfl, rfl, rfl, (qB h2), trivial⟩
  ·
   refine xw_id ?_; (try simp only [go_sem]); refine qU u ?_; clear u U; refine awp_cond (b := x127) rfl (fun h3 => ?_) (fun h3 => ?_)
   ·
    have h0 := cT h0 h3; refine awp_assoc ?_; refine awp_nw [6] fun tz U u => ?_; (try simp only [go_sem]); refine qU u ?_; clear u U; refine awp_ret ?_; obtain rfl := someInj h0; refine endW_i ?_; refine end_ret0 rs16 qR ?_; exact qF
   ·
    have h0 := cF h0 h3; refine awp_skip ?_; refine awp_nw [3,6,9] fun tz U u => ?_; obtain ⟨x128, bx128, h0⟩ := bnd h0; obtain ⟨fx128_0, fx128_1, fx128_2, fx128_3⟩ := idx_some bx128; (have fx128_5 : ((x125 : Int) < ((x124.1.Routes.length : Nat) : Int)) = True := by first | exact fx128_1 | (simp [List.length_modify, List.length_set]; omega)); (try simp only [go_sem, fx128_0, fx128_1, fx128_2, fx128_5]); refine qU u ?_; clear u U; refine awp_ret1 ?_; obtain rfl := someInj h0; refine endW_i ?_; refine end_ret0 rs16 qR ?_; exact qF
def slices_Equal_api_PathRoute_api_PathRoute_S0 (d135 : Unit) : AS :=
 { objs := (fun _ => .dead), next := 0, tmps := (fun _ => .unk) }

def slices_Equal_api_PathRoute_api_PathRoute_S1 (a0 : (List PathRoute)) (a1 : (List PathRoute)) (d137 : Int) : AS :=
 { objs := (fun _ => .dead), next := 0, tmps := (upd (upd (upd (upd (fun _ => .unk) 0 (.imm (List.flatMap e_PathRoute a0) a0.length)) 1 (.imm (List.flatMap e_PathRoute a1) a1.length)) 12 (vi (a0.length : Int))) 13 (vi d137)) }

theorem slices_Equal_api_PathRoute_api_PathRoute_p (a0 : (List PathRoute)) (a1 : (List PathRoute)) {r : Bool} (h0 : slices_Equal_api_PathRoute_api_PathRoute a0 a1 = some r) : SndP K 41 [(S_PathRoute a0), (S_PathRoute a1)] (vb r) := by
 refine SndP.of_walkW hC cv (clean_cons (S_PathRoute_clean _) (clean_cons (S_PathRoute_clean _) clean_nil)) (show K.P.funcs[41]? = some Tryd.f41 from Tryd.func41) rfl rfl (by decide +kernel) (qB2 rfl) ?_; unfold slices_Equal_api_PathRoute_api_PathRoute at h0; refine awp_nw [0,1] fun tz U u => ?_; (try simp only [go_sem]); refine qU u ?_; clear u U; refine awp_assoc ?_; refine awp_nw [0,1] fun tz U u => ?_; (try simp only [go_sem]); refine qU u ?_; clear u U; refine awp_cond (b := ((a0.length : Int) != (a1.length : Int))) rfl (fun h1 => ?_) (fun h1 => ?_)
 ·
  have h0 := cT h0 h1; refine awp_assoc ?_; refine awp_nw [] fun tz U u => ?_; (try simp only [go_sem]); refine qU u ?_; clear u U; refine awp_ret ?_; obtain rfl := someInj h0; refine endW_i ?_; refine end_ret0 rs41 (rfl) ?_; exact qF
 ·
  have h0 := cF h0 h1; refine awp_skip ?_; refine awp_assoc ?_; refine awp_nw [0,1] fun tz U u => ?_; (try simp only [go_sem]); refine qU u ?_; clear u U; obtain ⟨o136, hi2, h0⟩ := bnd h0; refine awp_cut (fun d135 : Unit => o136 = Ex.go d135) (fun d135 : Unit => slices_Equal_api_PathRoute_api_PathRoute_S0 d135) ?_ ?_
  ·
   refine awp_block1 ?_; refine awp_loopS (fun n (d137 : Int) => slices_Equal_api_PathRoute_api_PathRoute_L2 a0 a1 n d137 = some o136) (fun d137 : Int => slices_Equal_api_PathRoute_api_PathRoute_S1 a0 a1 d137) big 0 (Wk.canonD [] [] [] rfl trivial rfl tmO0 (tA 13 (tA 12 (tA 1 (tA 0 tmAll0 (tI (c_PathRoute _))) (tI (c_PathRoute _))) tv) tv)) hi2 ?_; clear hi2; rintro n d137 hl4; rcases n with _ | n3
   ·
    (rw [slices_Equal_api_PathRoute_api_PathRoute_L2] at hl4; cases hl4)
   ·
    rw [slices_Equal_api_PathRoute_api_PathRoute_L2] at hl4; unfold slices_Equal_api_PathRoute_api_PathRoute_S1; refine awp_nw [0,1,12,13] fun tz U u => ?_; (try simp only [go_sem]); refine qU u ?_; clear u U; refine awp_cond (b := (decide (d137 < (a0.length : Int)))) rfl (fun h5 => ?_) (fun h5 => ?_)
    ·
     have hl4 := cT hl4 h5; refine awp_skip ?_; refine awp_blockW ?_; refine awp_nw [0,1,12,13] fun tz U u => ?_; (try simp only [go_sem]); refine qU u ?_; clear u U; refine awp_nw [0,1,5,12,13] fun tz U u => ?_; obtain ⟨x138, bx138, hl4⟩ := bnd hl4; obtain ⟨fx138_0, fx138_1, fx138_2, fx138_3⟩ := idx_some bx138; obtain ⟨x139, bx139, hl4⟩ := bnd hl4; obtain ⟨fx139_0, fx139_1, fx139_2, fx139_3⟩ := idx_some bx139; (try simp only [go_sem, fx138_0, fx138_1, fx138_2, fx139_0, fx139_1, fx139_2]); refine qU u ?_; clear u U; refine awp_cond1 (b := (!decide (x138 = x139))) rfl (fun h6 => ?_) (fun h6 => ?_)
     ·
      have hl4 := cT hl4 h6; refine awp_nw [] fun tz U u => ?_; (try simp only [go_sem, fx138_0, fx138_1, fx138_2, fx139_0, fx139_1, fx139_2]); refine qU u ?_; clear u U; refine awp_ret1 ?_; refine bq_r ?_; refine sq_r ?_; refine lq_r ?_; refine bq_r ?_; refine sq_r ?_; obtain rfl := someInj hl4; obtain rfl := Ex.k_ret h0; refine endW_i ?_; refine end_ret0 rs41 (rfl) ?_; exact qF
     ·
      have hl4 := cF hl4 h6; refine awp_skip1 ?_; refine bq_n ?_; refine seqW_i ?_; refine awp_nw1 [0,1,12,13] fun tz U u => ?_; (try simp only [go_sem, fx138_0, fx138_1, fx138_2, fx139_0, fx139_1, fx139_2]); refine u _ ?_; clear u U; refine lq_n ?_; exact ⟨n3, IntKind.wrap .i64 (d137 + 1), rfl, hl4, (Wk.canonD [] [] [] rfl trivial rfl tmO0 (tA 13 (tA 12 (tA 1 (tA 0 tmAll0 (tI (c_PathRoute _))) (tI (c_PathRoute _))) tv) tv))⟩
    ·
     have hl4 := cF hl4 h5; refine awp_exit ?_; refine lq_e ?_; refine bq_e ?_; refine sq_n ?_; obtain rfl := someInj hl4; exact ⟨_, rfl, (Wk.canonD [] [] [] rfl trivial rfl tmO0 tmAll0)⟩
  ·
   rintro d135 rfl; have h0 := Ex.k_go h0; clear hi2; unfold slices_Equal_api_PathRoute_api_PathRoute_S0; refine awp_nw [] fun tz U u => ?_; (try simp only [go_sem]); refine qU u ?_; clear u U; refine awp_ret1 ?_; obtain rfl := someInj h0; refine endW_i ?_; refine end_ret0 rs41 (rfl) ?_; exact qF
def slices_Equal_api_PathWanted_api_PathWanted_S0 (d142 : Unit) : AS :=
 { objs := (fun _ => .dead), next := 0, tmps := (fun _ => .unk) }

def slices_Equal_api_PathWanted_api_PathWanted_S1 (a0 : (List PathWanted)) (a1 : (List PathWanted)) (d144 : Int) : AS :=
 { objs := (fun _ => .dead), next := 0, tmps := (upd (upd (upd (upd (fun _ => .unk) 0 (.imm (List.flatMap e_PathWanted a0) a0.length)) 1 (.imm (List.flatMap e_PathWanted a1) a1.length)) 12 (vi (a0.length : Int))) 13 (vi d144)) }

theorem slices_Equal_api_PathWanted_api_PathWanted_p (a0 : (List PathWanted)) (a1 : (List PathWanted)) {r : Bool} (h0 : slices_Equal_api_PathWanted_api_PathWanted a0 a1 = some r) : SndP K 42 [(S_PathWanted a0), (S_PathWanted a1)] (vb r) := by
 refine SndP.of_walkW hC cv (clean_cons (S_PathWanted_clean _) (clean_cons (S_PathWanted_clean _) clean_nil)) (show K.P.funcs[42]? = some Tryd.f42 from Tryd.func42) rfl rfl (by decide +kernel) (qB2 rfl) ?_; unfold slices_Equal_api_PathWanted_api_PathWanted at h0; refine awp_nw [0,1] fun tz U u => ?_; (try simp only [go_sem]); refine qU u ?_; clear u U; refine awp_assoc ?_; refine awp_nw [0,1] fun tz U u => ?_; (try simp only [go_sem]); refine qU u ?_; clear u U; refine awp_cond (b := ((a0.length : Int) != (a1.length : Int))) rfl (fun h1 => ?_) (fun h1 => ?_)
 ·
  have h0 := cT h0 h1; refine awp_assoc ?_; refine awp_nw [] fun tz U u => ?_; (try simp only [go_sem]); refine qU u ?_; clear u U; refine awp_ret ?_; obtain rfl := someInj h0; refine endW_i ?_; refine end_ret0 rs42 (rfl) ?_; exact qF
 ·
  have h0 := cF h0 h1; refine awp_skip ?_; refine awp_assoc ?_; refine awp_nw [0,1] fun tz U u => ?_; (try simp only [go_sem]); refine qU u ?_; clear u U; obtain ⟨o143, hi2, h0⟩ := bnd h0; refine awp_cut (fun d142 : Unit => o143 = Ex.go d142) (fun d142 : Unit => slices_Equal_api_PathWanted_api_PathWanted_S0 d142) ?_ ?_
  ·
   refine awp_block1 ?_; refine awp_loopS (fun n (d144 : Int) => slices_Equal_api_PathWanted_api_PathWanted_L2 a0 a1 n d144 = some o143) (fun d144 : Int => slices_Equal_api_PathWanted_api_PathWanted_S1 a0 a1 d144) big 0 (Wk.canonD [] [] [] rfl trivial rfl tmO0 (tA 13 (tA 12 (tA 1 (tA 0 tmAll0 (tI (c_PathWanted _))) (tI (c_PathWanted _))) tv) tv)) hi2 ?_; clear hi2; rintro n d144 hl4; rcases n with _ | n3
   ·
    (rw [slices_Equal_api_PathWanted_api_PathWanted_L2] at hl4; cases hl4)
   ·
    rw [slices_Equal_api_PathWanted_api_PathWanted_L2] at hl4; unfold slices_Equal_api_PathWanted_api_PathWanted_S1; refine awp_nw [0,1,12,13] fun tz U u => ?_; (try simp only [go_sem]); refine qU u ?_; clear u U; refine awp_cond (b := (decide (d144 < (a0.length : Int)))) rfl (fun h5 => ?_) (fun h5 => ?_)
    ·
     have hl4 := cT hl4 h5; refine awp_skip ?_; refine awp_blockW ?_; refine awp_nw [0,1,12,13] fun tz U u => ?_; (try simp only [go_sem]); refine qU u ?_; clear u U; refine awp_nw [0,1,5,12,13] fun tz U u => ?_; obtain ⟨x145, bx145, hl4⟩ := bnd hl4; obtain ⟨fx145_0, fx145_1, fx145_2, fx145_3⟩ := idx_some bx145; obtain ⟨x146, bx146, hl4⟩ := bnd hl4; obtain ⟨fx146_0, fx146_1, fx146_2, fx146_3⟩ := idx_some bx146; (try simp only [go_sem, fx145_0, fx145_1, fx145_2, fx146_0, fx146_1, fx146_2]); refine qU u ?_; clear u U; refine awp_cond1 (b := (!decide (x145 = x146))) rfl (fun h6 => ?_) (fun h6 => ?_)
     ·
      have hl4 := cT hl4 h6; refine awp_nw [] fun tz U u => ?_; (try simp only [go_sem, fx145_0, fx145_1, fx145_2, fx146_0, fx146_1, fx146_2]); refine qU u ?_; clear u U; refine awp_ret1 ?_; refine bq_r ?_; refine sq_r ?_; refine lq_r ?_; refine bq_r ?_; refine sq_r ?_; obtain rfl := someInj hl4; obtain rfl := Ex.k_ret h0; refine endW_i ?_; refine end_ret0 rs42 (rfl) ?_; exact qF
     ·
      have hl4 := cF hl4 h6; refine awp_skip1 ?_; refine bq_n ?_; refine seqW_i ?_; refine awp_nw1 [0,1,12,13] fun tz U u => ?_; (try simp only [go_sem, fx145_0, fx145_1, fx145_2, fx146_0, fx146_1, fx146_2]); refine u _ ?_; clear u U; refine lq_n ?_; exact ⟨n3, IntKind.wrap .i64 (d144 + 1), rfl, hl4, (Wk.canonD [] [] [] rfl trivial rfl tmO0 (tA 13 (tA 12 (tA 1 (tA 0 tmAll0 (tI (c_PathWanted _))) (tI (c_PathWanted _))) tv) tv))⟩
    ·
     have hl4 := cF hl4 h5; refine awp_exit ?_; refine lq_e ?_; refine bq_e ?_; refine sq_n ?_; obtain rfl := someInj hl4; exact ⟨_, rfl, (Wk.canonD [] [] [] rfl trivial rfl tmO0 tmAll0)⟩
  ·
   rintro d142 rfl; have h0 := Ex.k_go h0; clear hi2; unfold slices_Equal_api_PathWanted_api_PathWanted_S0; refine awp_nw [] fun tz U u => ?_; (try simp only [go_sem]); refine qU u ?_; clear u U; refine awp_ret1 ?_; obtain rfl := someInj h0; refine endW_i ?_; refine end_ret0 rs42 (rfl) ?_; exact qF
theorem path_Same_p (a0 : Paths) (a1 : Paths) {r : Bool} (h0 : path_Same a0 a1 = some r) : SndP K 19 [(.agg (E_Paths a0)), (.agg (E_Paths a1))] (vb r) := by
 refine SndP.of_walkW hC cv (clean_cons (Clean.agg (E_Paths_clean _)) (clean_cons (Clean.agg (E_Paths_clean _)) clean_nil)) (show K.P.funcs[19]? = some Tryd.f19 from Tryd.func19) rfl rfl (by decide +kernel) (qB2 rfl) ?_; unfold path_Same at h0; refine awp_nw [0,1] fun tz U u => ?_; (try simp only [go_sem]); refine qU u ?_; clear u U; refine awp_nw [2,3] fun tz U u => ?_; refine xw_stop 6 qS qS (by rfl) fun V v => ?_; refine xw_id ?_; (try simp only [go_sem]); refine v _ ?_; clear v V; refine xw_cut 6 [(2, (.ptr 0 0)), (3, (.ptr 1 0)), (16, (vb ((decide (a0.Own = a1.Own)) && (a0.Seq == a1.Seq))))] qS qS (by rfl) (fun V v => ?_) fun tz => ?_
 ·
  refine xw_id ?_; rcases bE (decide (a0.Own = a1.Own)) with h1 | h1
  ·
   (try simp only [go_sem, h1]); exact v _ ⟨rfl, rfl, rfl, (qB h1), trivial⟩
  ·
   (try simp only [go_sem, h1]); exact v _ ⟨rfl, rfl, rfl, (qB h1), trivial⟩
 ·
  refine xw_id ?_; refine xw_stop 1 qS qS (by rfl) fun V v => ?_; refine xw_id ?_; (try simp only [go_sem]); refine v _ ?_; clear v V; obtain ⟨x136, hvh2, h0⟩ := bnd h0; refine xw_cut 6 [(2, (.ptr 0 0)), (3, (.ptr 1 0)), (23, (vb x136))] qS qS (by rfl) (fun V v => ?_) fun tz => ?_
  ·
   refine xw_id ?_; rcases bE ((decide (a0.Own = a1.Own)) && (a0.Seq == a1.Seq)) with h2 | h2
   ·
    have hvh2 := cT hvh2 h2; (have h2_0 : (decide (a0.Own = a1.Own)) = true := by simp only [Bool.and_eq_true] at h2; exact h2.1); (have h2_1 : (a0.Seq == a1.Seq) = true := by simp only [Bool.and_eq_true] at h2; exact h2.2); obtain ⟨x135, bx135, hvh2⟩ := bnd hvh2; (try simp only [go_sem, h2, h2_0, h2_1]); (refine xcall_p (slices_Equal_api_PathRoute_api_PathRoute_p a0.Routes a1.Routes bx135) ?_; try dsimp only); (try refine xw_id ?_); (try simp only [go_sem, h2, h2_0, h2_1]); obtain rfl := someInj hvh2; exact v _ ⟨rfl, rfl, rfl, (qB h2), trivial⟩
   ·
    have hvh2 := cF hvh2 h2; (try simp only [go_sem, h2]); obtain rfl := someInj hvh2; exact v _ ⟨rfl, rfl, rfl, (qB h2), trivial⟩
  ·
   refine xw_id ?_; refine xw_stop 1 qS qS (by rfl) fun V v => ?_; refine xw_id ?_; (try simp only [go_sem]); refine v _ ?_; clear v V; obtain ⟨x138, hvh3, h0⟩ := bnd h0; refine xw_cut 6 [(30, (vb x138))] qS qS (by rfl) (fun V v => ?_) fun tz => ?_
   ·
    refine xw_id ?_; rcases bE x136 with h3 | h3
    ·
     have hvh3 := cT hvh3 h3; obtain ⟨x137, bx137, hvh3⟩ := bnd hvh3; (try simp only [go_sem, h3]); (refine xcall_p (slices_Equal_api_PathWanted_api_PathWanted_p a0.Wanted a1.Wanted bx137) ?_; try dsimp only); (try refine xw_id ?_); (try simp only [go_sem, h3]); obtain rfl := someInj hvh3; exact v _ ⟨rfl, (qB h3), trivial⟩
    ·
     have hvh3 := cF hvh3 h3; (try simp only [go_sem, h3]); obtain rfl := someInj hvh3; exact v _ ⟨rfl, (qB h3), trivial⟩
   ·
    refine xw_id ?_; (try simp only [go_sem]); refine qU u ?_; clear u U; refine awp_ret1 ?_; obtain rfl := someInj h0; refine endW_i ?_; refine end_ret0 rs19 (rfl) ?_; exact qF
def hotspotlaw39_PathMatches_S0 (a0 : Paths) (a1 : A6vu) (x2 : Paths) (a2 : Int) : AS :=
 { objs := (upd (upd (upd (fun _ => .dead) 0 (.live (e_Paths a0 (.imm (List.flatMap e_PathRoute a0.Routes) a0.Routes.length) (.imm (List.flatMap e_PathWanted a0.Wanted) a0.Wanted.length)))) 1 (.live (e_A6vu a1))) 2 (.live (e_Paths x2 (.imm (List.flatMap e_PathRoute x2.Routes) x2.Routes.length) (.imm (List.flatMap e_PathWanted x2.Wanted) x2.Wanted.length)))), next := 3, tmps := (upd (upd (upd (upd (fun _ => .unk) 2 (vi a2)) 3 (.ptr 0 0)) 4 (.ptr 1 0)) 7 (.ptr 2 0)) }

def hotspotlaw39_PathMatches_S1 (a0 : Paths) (a1 : A6vu) (x2 : Paths) (x3 : (Paths × (List Sent) × Int)) (x4 : (Paths × (List Sent) × Int)) (a2 : Int) : AS :=
 { objs := (upd (upd (upd (upd (upd (upd (upd (upd (fun _ => .dead) 0 (.live (e_Paths a0 (.imm (List.flatMap e_PathRoute a0.Routes) a0.Routes.length) (.imm (List.flatMap e_PathWanted a0.Wanted) a0.Wanted.length)))) 1 (.live (e_A6vu a1))) 2 (.live (e_Paths x2 (.imm (List.flatMap e_PathRoute x2.Routes) x2.Routes.length) (.imm (List.flatMap e_PathWanted x2.Wanted) x2.Wanted.length)))) 3 (.live (e_Paths x3.1 (.ref 4 0 x3.1.Routes.length 17) (.ref 5 0 x3.1.Wanted.length 8)))) 4 (.live (List.flatMap e_PathRoute x3.1.Routes))) 5 (.live (List.flatMap e_PathWanted x3.1.Wanted))) 6 (.live (List.flatMap E_Sent x3.2.1))) 7 (.live (e_Paths x4.1 (.imm (List.flatMap e_PathRoute x4.1.Routes) x4.1.Routes.length) (.imm (List.flatMap e_PathWanted x4.1.Wanted) x4.1.Wanted.length)))), next := 8, tmps := (upd (upd (upd (upd (upd (upd (upd (upd (upd (upd (fun _ => .unk) 2 (vi a2)) 3 (.ptr 0 0)) 4 (.ptr 1 0)) 7 (.ptr 2 0)) 8 (.ptr 3 0)) 9 (.ref 6 0 x3.2.1.length 7)) 10 (vi x3.2.2)) 11 (.ptr 7 0)) 12 (.imm (List.flatMap E_Sent x4.2.1) x4.2.1.length)) 13 (vi x4.2.2)) }

def hotspotlaw39_PathMatches_S2 (a0 : Paths) (a1 : A6vu) (x2 : Paths) (x9 : (Paths × (List Sent) × Int)) (x4 : (Paths × (List Sent) × Int)) (a2 : Int) : AS :=
 { objs := (upd (upd (upd (upd (upd (upd (upd (upd (fun _ => .dead) 0 (.live (e_Paths a0 (.imm (List.flatMap e_PathRoute a0.Routes) a0.Routes.length) (.imm (List.flatMap e_PathWanted a0.Wanted) a0.Wanted.length)))) 1 (.live (e_A6vu a1))) 2 (.live (e_Paths x2 (.imm (List.flatMap e_PathRoute x2.Routes) x2.Routes.length) (.imm (List.flatMap e_PathWanted x2.Wanted) x2.Wanted.length)))) 3 (.live (e_Paths x9.1 (.ref 4 0 x9.1.Routes.length 17) (.ref 5 0 x9.1.Wanted.length 8)))) 4 (.live (List.flatMap e_PathRoute x9.1.Routes))) 5 (.live (List.flatMap e_PathWanted x9.1.Wanted))) 6 (.live (List.flatMap E_Sent x9.2.1))) 7 (.live (e_Paths x4.1 (.imm (List.flatMap e_PathRoute x4.1.Routes) x4.1.Routes.length) (.imm (List.flatMap e_PathWanted x4.1.Wanted) x4.1.Wanted.length)))), next := 8, tmps := (upd (upd (upd (upd (upd (upd (upd (upd (fun _ => .unk) 2 (vi a2)) 3 (.ptr 0 0)) 4 (.ptr 1 0)) 7 (.ptr 2 0)) 8 (.ptr 3 0)) 9 (.ref 6 0 x9.2.1.length 7)) 10 (vi x9.2.2)) 11 (.ptr 7 0)) }

def hotspotlaw39_PathMatches_S3 (a0 : Paths) (a1 : A6vu) (x2 : Paths) (x9 : (Paths × (List Sent) × Int)) (x10 : (Paths × (List Sent) × Int)) (a2 : Int) (x13 : Bool) : AS :=
 { objs := (upd (upd (upd (upd (upd (upd (upd (fun _ => .dead) 0 (.live (e_Paths a0 (.imm (List.flatMap e_PathRoute a0.Routes) a0.Routes.length) (.imm (List.flatMap e_PathWanted a0.Wanted) a0.Wanted.length)))) 1 (.live (e_A6vu a1))) 2 (.live (e_Paths x2 (.imm (List.flatMap e_PathRoute x2.Routes) x2.Routes.length) (.imm (List.flatMap e_PathWanted x2.Wanted) x2.Wanted.length)))) 3 (.live (e_Paths x9.1 (.ref 4 0 x9.1.Routes.length 17) (.ref 5 0 x9.1.Wanted.length 8)))) 4 (.live (List.flatMap e_PathRoute x9.1.Routes))) 5 (.live (List.flatMap e_PathWanted x9.1.Wanted))) 6 (.live (e_Paths x10.1 (.imm (List.flatMap e_PathRoute x10.1.Routes) x10.1.Routes.length) (.imm (List.flatMap e_PathWanted x10.1.Wanted) x10.1.Wanted.length)))), next := 7, tmps := (upd (upd (upd (upd (upd (upd (upd (fun _ => .unk) 2 (vi a2)) 3 (.ptr 0 0)) 4 (.ptr 1 0)) 7 (.ptr 2 0)) 8 (.ptr 3 0)) 11 (.ptr 6 0)) 85 (vb (x13 || (x9.2.2 != x10.2.2)))) }

def hotspotlaw39_PathMatches_S4 (a0 : Paths) (a1 : A6vu) (x2 : Paths) (x15 : (Paths × (List Sent) × Int)) (x16 : (Paths × (List Sent) × Int)) (a2 : Int) : AS :=
 { objs := (upd (upd (upd (upd (upd (upd (upd (upd (fun _ => .dead) 0 (.live (e_Paths a0 (.imm (List.flatMap e_PathRoute a0.Routes) a0.Routes.length) (.imm (List.flatMap e_PathWanted a0.Wanted) a0.Wanted.length)))) 1 (.live (e_A6vu a1))) 2 (.live (e_Paths x2 (.imm (List.flatMap e_PathRoute x2.Routes) x2.Routes.length) (.imm (List.flatMap e_PathWanted x2.Wanted) x2.Wanted.length)))) 3 (.live (e_Paths x15.1 (.ref 4 0 x15.1.Routes.length 17) (.ref 5 0 x15.1.Wanted.length 8)))) 4 (.live (List.flatMap e_PathRoute x15.1.Routes))) 5 (.live (List.flatMap e_PathWanted x15.1.Wanted))) 6 (.live (List.flatMap E_Sent x15.2.1))) 7 (.live (e_Paths x16.1 (.imm (List.flatMap e_PathRoute x16.1.Routes) x16.1.Routes.length) (.imm (List.flatMap e_PathWanted x16.1.Wanted) x16.1.Wanted.length)))), next := 8, tmps := (upd (upd (upd (upd (upd (upd (upd (upd (upd (upd (fun _ => .unk) 2 (vi a2)) 3 (.ptr 0 0)) 4 (.ptr 1 0)) 7 (.ptr 2 0)) 8 (.ptr 3 0)) 9 (.ref 6 0 x15.2.1.length 7)) 10 (vi x15.2.2)) 11 (.ptr 7 0)) 12 (.imm (List.flatMap E_Sent x16.2.1) x16.2.1.length)) 13 (vi x16.2.2)) }

def hotspotlaw39_PathMatches_S5 (a0 : Paths) (a1 : A6vu) (x2 : Paths) (x21 : (A6vu × Int)) (a2 : Int) : AS :=
 { objs := (upd (upd (upd (upd (fun _ => .dead) 0 (.live (e_Paths a0 (.imm (List.flatMap e_PathRoute a0.Routes) a0.Routes.length) (.imm (List.flatMap e_PathWanted a0.Wanted) a0.Wanted.length)))) 1 (.live (e_A6vu a1))) 2 (.live (e_Paths x2 (.imm (List.flatMap e_PathRoute x2.Routes) x2.Routes.length) (.imm (List.flatMap e_PathWanted x2.Wanted) x2.Wanted.length)))) 3 (.live (e_A6vu x21.1))), next := 4, tmps := (upd (upd (upd (upd (upd (upd (fun _ => .unk) 2 (vi a2)) 3 (.ptr 0 0)) 4 (.ptr 1 0)) 7 (.ptr 2 0)) 14 (.ptr 3 0)) 15 (vi x21.2)) }

theorem hotspotlaw39_PathMatches_p (a0 : Paths) (a1 : A6vu) (a2 : Int) {r : Bool} (h0 : hotspotlaw39_PathMatches a0 a1 a2 = some r) : SndP K 3 [(.agg (E_Paths a0)), (.agg (e_A6vu a1)), (vi a2)] (vb r) := by
 refine SndP.of_walkW hC cv (clean_cons (Clean.agg (E_Paths_clean _)) (clean_cons (Clean.agg (e_A6vu_clean _)) (clean_cons cv clean_nil))) (show K.P.funcs[3]? = some Tryd.f3 from Tryd.func3) rfl rfl (by decide +kernel) (qB2 rfl) ?_; unfold hotspotlaw39_PathMatches at h0; refine awp_nw [0,1,2] fun tz U u => ?_; (try simp only [go_sem]); refine qU u ?_; clear u U; refine awp_assoc ?_; refine awp_nw [2,3,4] fun tz U u => ?_; obtain ⟨x1, bx1, h0⟩ := bnd h0; (try simp only [go_sem]); (refine xcall_p (hotspotref39_Great_p a0 bx1) ?_; try dsimp only); (try refine xw_id ?_); (try simp only [go_sem]); refine qU u ?_; clear u U; refine awp_cond (b := x1) rfl (fun h1 => ?_) (fun h1 => ?_)
 ·
  have h0 := cT h0 h1; refine awp_assoc ?_; refine awp_nw [] fun tz U u => ?_; (try simp only [go_sem]); refine qU u ?_; clear u U; refine awp_ret ?_; obtain rfl := someInj h0; refine endW_i ?_; refine end_ret0 rs3 (rfl) ?_; exact qF
 ·
  have h0 := cF h0 h1; refine awp_skip ?_; refine awp_nw [2,3,4] fun tz U u => ?_; obtain ⟨x2, bx2, h0⟩ := bnd h0; (try simp only [go_sem]); (refine xcall_p (hotspotref39_Twin_p a0 bx2) ?_; try dsimp only); (try refine xw_id ?_); (try simp only [go_sem]); refine u _ (hotspotlaw39_PathMatches_S0 a0 a1 x2 a2) (Wk.canonD [] [] [some 0, some 1, some 7] rfl trivial rfl (tmOU 2 (tmOU 1 (tmOU 0 tmO0 rfl qM rfl (e_Paths_tmx (by rfl) (tI (c_PathRoute _)) (tI (c_PathWanted _)))) rfl qM rfl (TmL.clean (e_A6vu_clean _))) rfl qM rfl (e_Paths_tmx (by rfl) (tI (c_PathRoute _)) (tI (c_PathWanted _)))) (tA 7 (tA 4 (tA 3 (tA 2 tmAll0 tv) tp) tp) tp)) ?_; clear u U; unfold hotspotlaw39_PathMatches_S0; refine awp_nw [2,3,4,7] fun tz U u => ?_; obtain ⟨x3, bx3, h0⟩ := bnd h0; (try simp only [go_sem]); (refine xcall_M (path_Find_m x2 a1 a2 bx3) ?_; try dsimp only); (try refine xw_id ?_); (try simp only [go_sem]); refine qU u ?_; clear u U; refine awp_nw [2,3,4,7,8,9,10] fun tz U u => ?_; obtain ⟨x4, bx4, h0⟩ := bnd h0; (try simp only [go_sem]); (refine xcall_p (hotspotref39_Find_p a0 a1 a2 bx4) ?_; try dsimp only); (try refine xw_id ?_); (try simp only [go_sem]); refine u _ (hotspotlaw39_PathMatches_S1 a0 a1 x2 x3 x4 a2) (by refine Wk.canonD [] [] [some 0, some 1, some 2, some 11, some 15, some 16, some 17, some 26] rfl trivial rfl (tmOU 7 (tmOU 6 (tmOU 5 (tmOU 4 (tmOU 3 (tmOU 2 (tmOU 1 (tmOU 0 tmO0 rfl qM rfl (e_Paths_tmx (by rfl) (tI (c_PathRoute _)) (tI (c_PathWanted _)))) rfl qM rfl (TmL.clean (e_A6vu_clean _))) rfl qM rfl (e_Paths_tmx (by rfl) (tI (c_PathRoute _)) (tI (c_PathWanted _)))) rfl qM rfl (e_Paths_tmx (by rfl) tr tr)) rfl qM rfl (TmL.of_eq qL (c_PathRoute _))) rfl qM rfl (TmL.of_eq qL (c_PathWanted _))) rfl qM rfl (TmL.of_eq qL (c_Sent _))) rfl qM rfl (e_Paths_tmx (by rfl) (tI (c_PathRoute _)) (tI (c_PathWanted _)))) (tA 13 (tA 12 (tA 11 (tA 10 (tA 9 (tA 8 (tA 7 (tA 4 (tA 3 (tA 2 tmAll0 tv) tp) tp) tp) tp) tr) tv) tp) (tI (c_Sent _))) tv); all_goals exact qN) ?_; clear u U; unfold hotspotlaw39_PathMatches_S1; refine awp_assoc ?_; refine awp_nw [2,3,4,7,8,9,10,11,12,13] fun tz U u => ?_; obtain ⟨x5, bx5, h0⟩ := bnd h0; (try simp only [go_sem]); (refine xcall_L (by first | (simp only [go_sem, fz] <;> rfl) | (simp only [go_sem, fz, List.length_set, ble_self, take_set, cond_true, cond_false] <;> rfl)) (hotspotref39_Same_p x3.1 x4.1 bx5) (Bare.v _) ?_; try dsimp only); (try refine xw_id ?_); refine xw_stop 2 qS qS (by rfl) fun V v => ?_; refine xw_id ?_; (try simp only [go_sem]); refine v _ ?_; clear v V; obtain ⟨x7, hvh2, h0⟩ := bnd h0; refine xw_cut 5 [(2, (vi a2)), (3, (.ptr 0 0)), (4, (.ptr 1 0)), (7, (.ptr 2 0)), (8, (.ptr 3 0)), (10, (vi x3.2.2)), (11, (.ptr 7 0)), (13, (vi x4.2.2)), (47, (vb x7))] qS qS (by rfl) (fun V v => ?_) fun tz => ?_
  ·
   refine xw_id ?_; rcases bE (!x5) with h2 | h2
   ·
    have hvh2 := cT hvh2 h2; (try simp only [go_sem, h2]); obtain rfl := someInj hvh2; exact v _ ⟨rfl, rfl, rfl, rfl, rfl, rfl, rfl, rfl, rfl, (qB h2), trivial⟩
   ·
    have hvh2 := cF hvh2 h2; obtain ⟨x6, bx6, hvh2⟩ := bnd hvh2; (try simp only [go_sem, h2]); (refine xcall_L (by first | (simp only [go_sem, fz, h2] <;> rfl) | (simp only [go_sem, fz, List.length_set, ble_self, take_set, cond_true, cond_false, h2] <;> rfl)) (hotspotref39_SameSent_p x3.2.1 x4.2.1 bx6) (Bare.v _) ?_; try dsimp only); (try refine xw_id ?_); (try simp only [go_sem, h2]); obtain rfl := someInj hvh2; exact v _ ⟨rfl, rfl, rfl, rfl, rfl, rfl, rfl, rfl, rfl, (qB h2), trivial⟩
  ·
   refine xw_id ?_; refine xw_stop 1 qS qS (by rfl) fun V v => ?_; refine xw_id ?_; (try simp only [go_sem]); refine v _ ?_; clear v V; refine xw_cut 4 [(2, (vi a2)), (3, (.ptr 0 0)), (4, (.ptr 1 0)), (7, (.ptr 2 0)), (8, (.ptr 3 0)), (11, (.ptr 7 0)), (52, (vb (x7 || (x3.2.2 != x4.2.2))))] qS qS (by rfl) (fun V v => ?_) fun tz => ?_
   ·
    refine xw_id ?_; rcases bE x7 with h3 | h3
    ·
     (try simp only [go_sem, h3]); exact v _ ⟨rfl, rfl, rfl, rfl, rfl, rfl, rfl, (qB h3), trivial⟩
    ·
     (try simp only [go_sem, h3]); exact v _ ⟨rfl, rfl, rfl, rfl, rfl, rfl, rfl, (qB h3), trivial⟩
   ·
    refine xw_id ?_; (try simp only [go_sem]); refine qU u ?_; clear u U; refine awp_cond (b := (x7 || (x3.2.2 != x4.2.2))) rfl (fun h4 => ?_) (fun h4 => ?_)
    ·
     have h0 := cT h0 h4; refine awp_assoc ?_; refine awp_nw [] fun tz U u => ?_; (try simp only [go_sem]); refine qU u ?_; clear u U; refine awp_ret ?_; obtain rfl := someInj h0; refine endW_i ?_; refine end_ret0 rs3 (rfl) ?_; exact qF
    ·
     have h0 := cF h0 h4; refine awp_skip ?_; refine awp_nw [2,3,4,7,8,11] fun tz U u => ?_; obtain ⟨x8, bx8, h0⟩ := bnd h0; (try simp only [go_sem]); (refine xcall_O [4, 5] (hotspotlaw39_touch_io x3.1 bx8) (by decide) (by decide) ⟨qG, qG, trivial⟩ qG ?_; try dsimp only); (try refine xw_id ?_); (try simp only [go_sem, lc, ln]); refine qU u ?_; clear u U; refine awp_nw [2,3,4,7,8,11] fun tz U u => ?_; obtain ⟨x9, bx9, h0⟩ := bnd h0; (try simp only [go_sem]); (refine xcall_M (path_Broken_m x2 a1 a2 bx9) ?_; try dsimp only); (try refine xw_id ?_); (try simp only [go_sem]); refine u _ (hotspotlaw39_PathMatches_S2 a0 a1 x2 x9 x4 a2) (by refine Wk.canonD [] [] [some 0, some 1, some 2, some 3, some 36, some 37, some 38, some 7] rfl trivial rfl (tmOU 7 (tmOU 6 (tmOU 5 (tmOU 4 (tmOU 3 (tmOU 2 (tmOU 1 (tmOU 0 tmO0 rfl qM rfl (e_Paths_tmx (by rfl) (tI (c_PathRoute _)) (tI (c_PathWanted _)))) rfl qM rfl (TmL.clean (e_A6vu_clean _))) rfl qM rfl (e_Paths_tmx (by rfl) (tI (c_PathRoute _)) (tI (c_PathWanted _)))) rfl qM rfl (e_Paths_tmx (by rfl) tr tr)) rfl qM rfl (TmL.of_eq qL (c_PathRoute _))) rfl qM rfl (TmL.of_eq qL (c_PathWanted _))) rfl qM rfl (TmL.of_eq qL (c_Sent _))) rfl qM rfl (e_Paths_tmx (by rfl) (tI (c_PathRoute _)) (tI (c_PathWanted _)))) (tA 11 (tA 10 (tA 9 (tA 8 (tA 7 (tA 4 (tA 3 (tA 2 tmAll0 tv) tp) tp) tp) tp) tr) tv) tp); all_goals exact qN) ?_; clear u U; unfold hotspotlaw39_PathMatches_S2; refine awp_nw [2,3,4,7,8,9,10,11] fun tz U u => ?_; obtain ⟨x10, bx10, h0⟩ := bnd h0; (try simp only [go_sem]); (refine xcall_p (hotspotref39_Broken_p a0 a1 a2 bx10) ?_; try dsimp only); (try refine xw_id ?_); (try simp only [go_sem]); refine qU u ?_; clear u U; refine awp_assoc ?_; refine awp_nw [2,3,4,7,8,9,10,11,12,13] fun tz U u => ?_; obtain ⟨x11, bx11, h0⟩ := bnd h0; (try simp only [go_sem]); (refine xcall_L (by first | (simp only [go_sem, fz] <;> rfl) | (simp only [go_sem, fz, List.length_set, ble_self, take_set, cond_true, cond_false] <;> rfl)) (hotspotref39_Same_p x9.1 x10.1 bx11) (Bare.v _) ?_; try dsimp only); (try refine xw_id ?_); refine xw_stop 2 qS qS (by rfl) fun V v => ?_; refine xw_id ?_; (try simp only [go_sem]); refine v _ ?_; clear v V; obtain ⟨x13, hvh5, h0⟩ := bnd h0; refine xw_cut 5 [(2, (vi a2)), (3, (.ptr 0 0)), (4, (.ptr 1 0)), (7, (.ptr 2 0)), (8, (.ptr 3 0)), (10, (vi x9.2.2)), (11, (.ptr 7 0)), (13, (vi x10.2.2)), (80, (vb x13))] qS qS (by rfl) (fun V v => ?_) fun tz => ?_
     ·
      refine xw_id ?_; rcases bE (!x11) with h5 | h5
      ·
       have hvh5 := cT hvh5 h5; (try simp only [go_sem, h5]); obtain rfl := someInj hvh5; exact v _ ⟨rfl, rfl, rfl, rfl, rfl, rfl, rfl, rfl, rfl, (qB h5), trivial⟩
      ·
       have hvh5 := cF hvh5 h5; obtain ⟨x12, bx12, hvh5⟩ := bnd hvh5; (try simp only [go_sem, h5]); (refine xcall_L (by first | (simp only [go_sem, fz, h5] <;> rfl) | (simp only [go_sem, fz, List.length_set, ble_self, take_set, cond_true, cond_false, h5] <;> rfl)) (hotspotref39_SameSent_p x9.2.1 x10.2.1 bx12) (Bare.v _) ?_; try dsimp only); (try refine xw_id ?_); (try simp only [go_sem, h5]); obtain rfl := someInj hvh5; exact v _ ⟨rfl, rfl, rfl, rfl, rfl, rfl, rfl, rfl, rfl, (qB h5), trivial⟩
     ·
      refine xw_id ?_; refine xw_stop 1 qS qS (by rfl) fun V v => ?_; refine xw_id ?_; (try simp only [go_sem]); refine v _ ?_; clear v V; refine xw_cut 4 [(2, (vi a2)), (3, (.ptr 0 0)), (4, (.ptr 1 0)), (7, (.ptr 2 0)), (8, (.ptr 3 0)), (11, (.ptr 7 0)), (85, (vb (x13 || (x9.2.2 != x10.2.2))))] qS qS (by rfl) (fun V v => ?_) fun tz => ?_
      ·
       refine xw_id ?_; rcases bE x13 with h6 | h6
       ·
        (try simp only [go_sem, h6]); exact v _ ⟨rfl, rfl, rfl, rfl, rfl, rfl, rfl, (qB h6), trivial⟩
       ·
        (try simp only [go_sem, h6]); exact v _ ⟨rfl, rfl, rfl, rfl, rfl, rfl, rfl, (qB h6), trivial⟩
      ·
       refine xw_id ?_; (try simp only [go_sem]); refine u _ (hotspotlaw39_PathMatches_S3 a0 a1 x2 x9 x10 a2 x13) (by refine Wk.canonD [] [] [some 0, some 1, some 2, some 3, some 4, some 5, some 7] rfl trivial rfl (tmOU 6 (tmOU 5 (tmOU 4 (tmOU 3 (tmOU 2 (tmOU 1 (tmOU 0 tmO0 rfl qM rfl (e_Paths_tmx (by rfl) (tI (c_PathRoute _)) (tI (c_PathWanted _)))) rfl qM rfl (TmL.clean (e_A6vu_clean _))) rfl qM rfl (e_Paths_tmx (by rfl) (tI (c_PathRoute _)) (tI (c_PathWanted _)))) rfl qM rfl (e_Paths_tmx (by rfl) tr tr)) rfl qM rfl (TmL.of_eq qL (c_PathRoute _))) rfl qM rfl (TmL.of_eq qL (c_PathWanted _))) rfl qM rfl (e_Paths_tmx (by rfl) (tI (c_PathRoute _)) (tI (c_PathWanted _)))) (tA 85 (tA 11 (tA 8 (tA 7 (tA 4 (tA 3 (tA 2 tmAll0 tv) tp) tp) tp) tp) tp) tv); all_goals exact qN) ?_; clear u U; unfold hotspotlaw39_PathMatches_S3; refine awp_cond (b := (x13 || (x9.2.2 != x10.2.2))) rfl (fun h7 => ?_) (fun h7 => ?_)
       ·
        have h0 := cT h0 h7; refine awp_assoc ?_; refine awp_nw [] fun tz U u => ?_; (try simp only [go_sem]); refine qU u ?_; clear u U; refine awp_ret ?_; obtain rfl := someInj h0; refine endW_i ?_; refine end_ret0 rs3 (rfl) ?_; exact qF
       ·
        have h0 := cF h0 h7; refine awp_skip ?_; refine awp_nw [2,3,4,7,8,11] fun tz U u => ?_; obtain ⟨x14, bx14, h0⟩ := bnd h0; (try simp only [go_sem]); (refine xcall_O [4, 5] (hotspotlaw39_touch_io x9.1 bx14) (by decide) (by decide) ⟨qG, qG, trivial⟩ qG ?_; try dsimp only); (try refine xw_id ?_); (try simp only [go_sem, lc, ln]); refine qU u ?_; clear u U; refine awp_nw [2,3,4,7,8,11] fun tz U u => ?_; obtain ⟨x15, bx15, h0⟩ := bnd h0; (try simp only [go_sem]); (refine xcall_M (path_Tick_m x2 a2 bx15) ?_; try dsimp only); (try refine xw_id ?_); (try simp only [go_sem]); refine qU u ?_; clear u U; refine awp_nw [2,3,4,7,8,9,10,11] fun tz U u => ?_; obtain ⟨x16, bx16, h0⟩ := bnd h0; (try simp only [go_sem]); (refine xcall_p (hotspotref39_Tick_p a0 a2 bx16) ?_; try dsimp only); (try refine xw_id ?_); (try simp only [go_sem]); refine u _ (hotspotlaw39_PathMatches_S4 a0 a1 x2 x15 x16 a2) (by refine Wk.canonD [] [] [some 0, some 1, some 2, some 3, some 19, some 20, some 21, some 6] rfl trivial rfl (tmOU 7 (tmOU 6 (tmOU 5 (tmOU 4 (tmOU 3 (tmOU 2 (tmOU 1 (tmOU 0 tmO0 rfl qM rfl (e_Paths_tmx (by rfl) (tI (c_PathRoute _)) (tI (c_PathWanted _)))) rfl qM rfl (TmL.clean (e_A6vu_clean _))) rfl qM rfl (e_Paths_tmx (by rfl) (tI (c_PathRoute _)) (tI (c_PathWanted _)))) rfl qM rfl (e_Paths_tmx (by rfl) tr tr)) rfl qM rfl (TmL.of_eq qL (c_PathRoute _))) rfl qM rfl (TmL.of_eq qL (c_PathWanted _))) rfl qM rfl (TmL.of_eq qL (c_Sent _))) rfl qM rfl (e_Paths_tmx (by rfl) (tI (c_PathRoute _)) (tI (c_PathWanted _)))) (tA 13 (tA 12 (tA 11 (tA 10 (tA 9 (tA 8 (tA 7 (tA 4 (tA 3 (tA 2 tmAll0 tv) tp) tp) tp) tp) tr) tv) tp) (tI (c_Sent _))) tv); all_goals exact qN) ?_; clear u U; unfold hotspotlaw39_PathMatches_S4; refine awp_assoc ?_; refine awp_nw [2,3,4,7,8,9,10,11,12,13] fun tz U u => ?_; obtain ⟨x17, bx17, h0⟩ := bnd h0; (try simp only [go_sem]); (refine xcall_L (by first | (simp only [go_sem, fz] <;> rfl) | (simp only [go_sem, fz, List.length_set, ble_self, take_set, cond_true, cond_false] <;> rfl)) (hotspotref39_Same_p x15.1 x16.1 bx17) (Bare.v _) ?_; try dsimp only); (try refine xw_id ?_); refine xw_stop 2 qS qS (by rfl) fun V v => ?_; refine xw_id ?_; (try simp only [go_sem]); refine v _ ?_; clear v V; obtain ⟨x19, hvh8, h0⟩ := bnd h0; refine xw_cut 5 [(2, (vi a2)), (3, (.ptr 0 0)), (4, (.ptr 1 0)), (7, (.ptr 2 0)), (8, (.ptr 3 0)), (10, (vi x15.2.2)), (13, (vi x16.2.2)), (111, (vb x19))] qS qS (by rfl) (fun V v => ?_) fun tz => ?_
        ·
         refine xw_id ?_; rcases bE (!x17) with h8 | h8
         ·
          have hvh8 := cT hvh8 h8; (try simp only [go_sem, h8]); obtain rfl := someInj hvh8; exact v _ ⟨rfl, rfl, rfl, rfl, rfl, rfl, rfl, rfl, (qB h8), trivial⟩
         ·
          have hvh8 := cF hvh8 h8; obtain ⟨x18, bx18, hvh8⟩ := bnd hvh8; (try simp only [go_sem, h8]); (refine xcall_L (by first | (simp only [go_sem, fz, h8] <;> rfl) | (simp only [go_sem, fz, List.length_set, ble_self, take_set, cond_true, cond_false, h8] <;> rfl)) (hotspotref39_SameSent_p x15.2.1 x16.2.1 bx18) (Bare.v _) ?_; try dsimp only); (try refine xw_id ?_); (try simp only [go_sem, h8]); obtain rfl := someInj hvh8; exact v _ ⟨rfl, rfl, rfl, rfl, rfl, rfl, rfl, rfl, (qB h8), trivial⟩
        ·
         refine xw_id ?_; refine xw_stop 1 qS qS (by rfl) fun V v => ?_; refine xw_id ?_; (try simp only [go_sem]); refine v _ ?_; clear v V; refine xw_cut 4 [(2, (vi a2)), (3, (.ptr 0 0)), (4, (.ptr 1 0)), (7, (.ptr 2 0)), (8, (.ptr 3 0)), (116, (vb (x19 || (x15.2.2 != x16.2.2))))] qS qS (by rfl) (fun V v => ?_) fun tz => ?_
         ·
          refine xw_id ?_; rcases bE x19 with h9 | h9
          ·
           (try simp only [go_sem, h9]); exact v _ ⟨rfl, rfl, rfl, rfl, rfl, rfl, (qB h9), trivial⟩
          ·
           (try simp only [go_sem, h9]); exact v _ ⟨rfl, rfl, rfl, rfl, rfl, rfl, (qB h9), trivial⟩
         ·
          refine xw_id ?_; (try simp only [go_sem]); refine qU u ?_; clear u U; refine awp_cond (b := (x19 || (x15.2.2 != x16.2.2))) rfl (fun h10 => ?_) (fun h10 => ?_)
          ·
           have h0 := cT h0 h10; refine awp_assoc ?_; refine awp_nw [] fun tz U u => ?_; (try simp only [go_sem]); refine qU u ?_; clear u U; refine awp_ret ?_; obtain rfl := someInj h0; refine endW_i ?_; refine end_ret0 rs3 (rfl) ?_; exact qF
          ·
           have h0 := cF h0 h10; refine awp_skip ?_; refine awp_nw [2,3,4,7,8] fun tz U u => ?_; obtain ⟨x20, bx20, h0⟩ := bnd h0; (try simp only [go_sem]); (refine xcall_O [4, 5] (hotspotlaw39_touch_io x15.1 bx20) (by decide) (by decide) ⟨qG, qG, trivial⟩ qG ?_; try dsimp only); (try refine xw_id ?_); (try simp only [go_sem, lc, ln]); refine qU u ?_; clear u U; refine awp_nw [2,3,4,7] fun tz U u => ?_; obtain ⟨x21, bx21, h0⟩ := bnd h0; (try simp only [go_sem]); (refine xcall_p (path_Next_p x2 a1 a2 bx21) ?_; try dsimp only); (try refine xw_id ?_); (try simp only [go_sem]); refine u _ (hotspotlaw39_PathMatches_S5 a0 a1 x2 x21 a2) (Wk.canonD [] [] [some 0, some 1, some 2, some 32] rfl trivial rfl (tmOU 3 (tmOU 2 (tmOU 1 (tmOU 0 tmO0 rfl qM rfl (e_Paths_tmx (by rfl) (tI (c_PathRoute _)) (tI (c_PathWanted _)))) rfl qM rfl (TmL.clean (e_A6vu_clean _))) rfl qM rfl (e_Paths_tmx (by rfl) (tI (c_PathRoute _)) (tI (c_PathWanted _)))) rfl qM rfl (TmL.clean (e_A6vu_clean _))) (tA 15 (tA 14 (tA 7 (tA 4 (tA 3 (tA 2 tmAll0 tv) tp) tp) tp) tp) tv)) ?_; clear u U; unfold hotspotlaw39_PathMatches_S5; refine awp_nw [2,3,4,7,14,15] fun tz U u => ?_; obtain ⟨x22, bx22, h0⟩ := bnd h0; (try simp only [go_sem]); (refine xcall_p (hotspotref39_Next_p a0 a1 a2 bx22) ?_; try dsimp only); (try refine xw_id ?_); (try simp only [go_sem]); refine qU u ?_; clear u U; refine awp_nw [3,7,14,15,16,17] fun tz U u => ?_; refine xw_stop 4 qS qS (by rfl) fun V v => ?_; refine xw_id ?_; (try simp only [go_sem]); refine v _ ?_; clear v V; refine xw_cut 4 [(3, (.ptr 0 0)), (7, (.ptr 2 0)), (140, (vb ((decide (x21.1 = x22.1)) && (x21.2 == x22.2))))] qS qS (by rfl) (fun V v => ?_) fun tz => ?_
           ·
            refine xw_id ?_; rcases bE (decide (x21.1 = x22.1)) with h11 | h11
            ·
             (try simp only [go_sem, h11]); exact v _ ⟨rfl, rfl, rfl, (qB h11), trivial⟩
            ·
             (try simp only [go_sem, h11]); exact v _ ⟨rfl, rfl, rfl, (qB h11), trivial⟩
           ·
            refine xw_id ?_; refine xw_stop 1 qS qS (by rfl) fun V v => ?_; refine xw_id ?_; (try simp only [go_sem]); refine v _ ?_; clear v V; obtain ⟨x25, hvh12, h0⟩ := bnd h0; refine xw_cut 6 [(3, (.ptr 0 0)), (7, (.ptr 2 0)), (147, (vb x25))] qS qS (by rfl) (fun V v => ?_) fun tz => ?_
            ·
             refine xw_id ?_; rcases bE ((decide (x21.1 = x22.1)) && (x21.2 == x22.2)) with h12 | h12
             ·
              have hvh12 := cT hvh12 h12; (have h12_0 : (decide (x21.1 = x22.1)) = true := by simp only [Bool.and_eq_true] at h12; exact h12.1); (have h12_1 : (x21.2 == x22.2) = true := by simp only [Bool.and_eq_true] at h12; exact h12.2); obtain ⟨x23, bx23, hvh12⟩ := bnd hvh12; (try simp only [go_sem, h12, h12_0, h12_1]); (refine xcall_p (path_Check_p x2 bx23) ?_; try dsimp only); (try refine xw_id ?_); obtain ⟨x24, bx24, hvh12⟩ := bnd hvh12; (try simp only [go_sem, h12, h12_0, h12_1]); (refine xcall_p (hotspotref39_Check_p a0 bx24) ?_; try dsimp only); (try refine xw_id ?_); (try simp only [go_sem, h12, h12_0, h12_1]); obtain rfl := someInj hvh12; exact v _ ⟨rfl, rfl, rfl, (qB h12), trivial⟩
             ·
              have hvh12 := cF hvh12 h12; (try simp only [go_sem, h12]); obtain rfl := someInj hvh12; exact v _ ⟨rfl, rfl, rfl, (qB h12), trivial⟩
            ·
             refine xw_id ?_; refine xw_stop 1 qS qS (by rfl) fun V v => ?_; refine xw_id ?_; (try simp only [go_sem]); refine v _ ?_; clear v V; obtain ⟨x27, hvh13, h0⟩ := bnd h0; refine xw_cut 4 [(3, (.ptr 0 0)), (7, (.ptr 2 0)), (152, (vb x27))] qS qS (by rfl) (fun V v => ?_) fun tz => ?_
             ·
              refine xw_id ?_; rcases bE x25 with h13 | h13
              ·
               have hvh13 := cT hvh13 h13; obtain ⟨x26, bx26, hvh13⟩ := bnd hvh13; (try simp only [go_sem, h13]); (refine xcall_p (hotspotref39_Same_p x2 a0 bx26) ?_; try dsimp only); (try refine xw_id ?_); (try simp only [go_sem, h13]); obtain rfl := someInj hvh13; exact v _ ⟨rfl, rfl, rfl, (qB h13), trivial⟩
              ·
               have hvh13 := cF hvh13 h13; (try simp only [go_sem, h13]); obtain rfl := someInj hvh13; exact v _ ⟨rfl, rfl, rfl, (qB h13), trivial⟩
             ·
              refine xw_id ?_; refine xw_stop 1 qS qS (by rfl) fun V v => ?_; refine xw_id ?_; (try simp only [go_sem]); refine v _ ?_; clear v V; obtain ⟨x29, hvh14, h0⟩ := bnd h0; refine xw_cut 4 [(157, (vb x29))] qS qS (by rfl) (fun V v => ?_) fun tz => ?_
              ·
               refine xw_id ?_; rcases bE x27 with h14 | h14
               ·
                have hvh14 := cT hvh14 h14; obtain ⟨x28, bx28, hvh14⟩ := bnd hvh14; (try simp only [go_sem, h14]); (refine xcall_p (path_Same_p x2 a0 bx28) ?_; try dsimp only); (try refine xw_id ?_); (try simp only [go_sem, h14]); obtain rfl := someInj hvh14; exact v _ ⟨rfl, (qB h14), trivial⟩
               ·
                have hvh14 := cF hvh14 h14; (try simp only [go_sem, h14]); obtain rfl := someInj hvh14; exact v _ ⟨rfl, (qB h14), trivial⟩
              ·
               refine xw_id ?_; (try simp only [go_sem]); refine qU u ?_; clear u U; refine awp_ret1 ?_; obtain rfl := someInj h0; refine endW_i ?_; refine end_ret0 rs3 (rfl) ?_; exact qF
end Go.AX.Z.TO
