/- A part of the proof: walks through the functions that the statement reaches. -/
import Derived.Test.YtnkikepecbjfdaaPrea
set_option linter.unusedVariables false
set_option linter.unusedSimpArgs false

/-! (walks) -/

set_option linter.unusedSimpArgs false
set_option linter.unusedVariables false
set_option maxHeartbeats 4000000
set_option maxRecDepth 20000
namespace Go.AX.Z.TR
open Go.AX Go.Proofs
attribute [local irreducible] awp xw xop xcall gsp ob xd xdop xcallD seqQ loopQ blkQ endQ
attribute [local go_sem ↓] iop_and iop_or iop_xor iop_andn
attribute [local go_sem] Nat.reduceAdd
theorem hotspotref05_Great_p (a0 : Frame) {r : Bool} (h0 : hotspotref05_Great a0 = some r) : SndP K 42 [(.agg (E_Frame a0))] (vb r) := by
 refine SndP.of_walkW hC cv (clean_cons (Clean.agg (E_Frame_clean _)) clean_nil) (show K.P.funcs[42]? = some Try.f42 from Try.func42) rfl rfl (by decide +kernel) (qB2 rfl) ?_; unfold hotspotref05_Great at h0; refine awp_nw [0] fun tz U u => ?_; (try simp only [go_sem]); refine qU u ?_; clear u U; refine awp_nw [1] fun tz U u => ?_; (try simp only [go_sem]); refine qU u ?_; clear u U; refine awp_ret1 ?_; obtain rfl := someInj h0; refine endW_i ?_; refine end_ret0 rs42 (rfl) ?_; exact qF
def hotspotref18_Great_S0 (d3 : Unit) : AS :=
 { objs := (fun _ => .dead), next := 0, tmps := (fun _ => .unk) }

def hotspotref18_Great_S1 (a0 : Reorder) (d5 : Int) : AS :=
 { objs := (upd (fun _ => .dead) 0 (.live (e_Reorder a0 (.imm (List.flatMap E_HeldSeq a0.Held) a0.Held.length)))), next := 1, tmps := (upd (upd (fun _ => .unk) 2 (.ptr 0 0)) 5 (vi d5)) }

theorem hotspotref18_Great_p (a0 : Reorder) (a1 : Frame) {r : Bool} (h0 : hotspotref18_Great a0 a1 = some r) : SndP K 16 [(.agg (E_Reorder a0)), (.agg (E_Frame a1))] (vb r) := by
 refine SndP.of_walkW hC cv (clean_cons (Clean.agg (E_Reorder_clean _)) (clean_cons (Clean.agg (E_Frame_clean _)) clean_nil)) (show K.P.funcs[16]? = some Try.f16 from Try.func16) rfl rfl (by decide +kernel) (qB2 rfl) ?_; unfold hotspotref18_Great at h0; refine awp_nw [0,1] fun tz U u => ?_; (try simp only [go_sem]); refine qU u ?_; clear u U; refine awp_assoc ?_; refine awp_nw [2,3] fun tz U u => ?_; refine xw_stop 5 qS qS (by rfl) fun V v => ?_; refine xw_id ?_; (try simp only [go_sem]); refine v _ ?_; clear v V; obtain ⟨x2, hvh1, h0⟩ := bnd h0; refine xw_cut 3 [(2, (.ptr 0 0)), (13, (vb x2))] qS qS (by rfl) (fun V v => ?_) fun tz => ?_
 ·
  refine xw_id ?_; rcases bE (decide (70 < (a0.Held.length : Int))) with h1 | h1
  ·
   have hvh1 := cT hvh1 h1; (try simp only [go_sem, h1]); obtain rfl := someInj hvh1; exact v _ ⟨rfl, rfl, (qB h1), trivial⟩
  ·
   have hvh1 := cF hvh1 h1; obtain ⟨x1, bx1, hvh1⟩ := bnd hvh1; (try simp only [go_sem, h1]); (refine xcall_p (hotspotref05_Great_p a1 bx1) ?_; try dsimp only); (try refine xw_id ?_); (try simp only [go_sem, h1]); obtain rfl := someInj hvh1; exact v _ ⟨rfl, rfl, (qB h1), trivial⟩
 ·
  refine xw_id ?_; (try simp only [go_sem]); refine qU u ?_; clear u U; refine awp_cond (b := x2) rfl (fun h2 => ?_) (fun h2 => ?_)
  ·
   have h0 := cT h0 h2; refine awp_assoc ?_; refine awp_nw [] fun tz U u => ?_; (try simp only [go_sem]); refine qU u ?_; clear u U; refine awp_ret ?_; obtain rfl := someInj h0; refine endW_i ?_; refine end_ret0 rs16 (rfl) ?_; exact qF
  ·
   have h0 := cF h0 h2; refine awp_skip ?_; refine awp_assoc ?_; refine awp_nw [2] fun tz U u => ?_; (try simp only [go_sem]); refine qU u ?_; clear u U; obtain ⟨o4, hi3, h0⟩ := bnd h0; refine awp_cut (fun d3 : Unit => o4 = Ex.go d3) (fun d3 : Unit => hotspotref18_Great_S0 d3) ?_ ?_
   ·
    refine awp_block1 ?_; refine awp_loopS (fun n (d5 : Int) => hotspotref18_Great_L2 a0 n d5 = some o4) (fun d5 : Int => hotspotref18_Great_S1 a0 d5) big 0 (Wk.canonD [] [] [some 0] rfl trivial rfl (tmOU 0 tmO0 rfl qM rfl (e_Reorder_tmx (by rfl) (tI (c_HeldSeq _)))) (tA 5 (tA 2 tmAll0 tp) tv)) hi3 ?_; clear hi3; rintro n d5 hl5; rcases n with _ | n4
    ·
     (rw [hotspotref18_Great_L2] at hl5; cases hl5)
    ·
     rw [hotspotref18_Great_L2] at hl5; unfold hotspotref18_Great_S1; refine awp_assoc ?_; refine awp_nw [2,5] fun tz U u => ?_; (try simp only [go_sem]); refine qU u ?_; clear u U; refine awp_cond (b := (decide (d5 < (a0.Held.length : Int)))) rfl (fun h6 => ?_) (fun h6 => ?_)
     ·
      have hl5 := cT hl5 h6; refine awp_skip ?_; refine awp_blockW ?_; refine awp_nw [2,5] fun tz U u => ?_; obtain ⟨x6, bx6, hl5⟩ := bnd hl5; obtain ⟨fx6_0, fx6_1, fx6_2, fx6_3⟩ := idx_some bx6; obtain ⟨x7, bx7, hl5⟩ := bnd hl5; (try simp only [go_sem, fx6_0, fx6_1, fx6_2]); (refine xcall_p (hotspotref05_Great_p x6.Frame bx7) ?_; try dsimp only); (try refine xw_id ?_); (try simp only [go_sem, fx6_0, fx6_1, fx6_2]); refine qU u ?_; clear u U; refine awp_cond1 (b := x7) rfl (fun h7 => ?_) (fun h7 => ?_)
      ·
       have hl5 := cT hl5 h7; refine awp_nw [] fun tz U u => ?_; (try simp only [go_sem, fx6_0, fx6_1, fx6_2]); refine qU u ?_; clear u U; refine awp_ret1 ?_; refine bq_r ?_; refine sq_r ?_; refine lq_r ?_; refine bq_r ?_; refine sq_r ?_; obtain rfl := someInj hl5; obtain rfl := Ex.k_ret h0; refine endW_i ?_; refine end_ret0 rs16 (rfl) ?_; exact qF
      ·
       have hl5 := cF hl5 h7; refine awp_skip1 ?_; refine bq_n ?_; refine seqW_i ?_; refine awp_nw1 [2,5] fun tz U u => ?_; (try simp only [go_sem, fx6_0, fx6_1, fx6_2]); refine u _ ?_; clear u U; refine lq_n ?_; exact ⟨n4, IntKind.wrap .i64 (d5 + 1), rfl, hl5, (Wk.canonD [] [] [some 0] rfl trivial rfl (tmOU 0 tmO0 rfl qM rfl (e_Reorder_tmx (by rfl) (tI (c_HeldSeq _)))) (tA 5 (tA 2 tmAll0 tp) tv))⟩
     ·
      have hl5 := cF hl5 h6; refine awp_exit ?_; refine lq_e ?_; refine bq_e ?_; refine sq_n ?_; obtain rfl := someInj hl5; exact ⟨_, rfl, (Wk.canonD [] [] [] rfl trivial rfl tmO0 tmAll0)⟩
   ·
    rintro d3 rfl; have h0 := Ex.k_go h0; clear hi3; unfold hotspotref18_Great_S0; refine awp_nw [] fun tz U u => ?_; (try simp only [go_sem]); refine qU u ?_; clear u U; refine awp_ret1 ?_; obtain rfl := someInj h0; refine endW_i ?_; refine end_ret0 rs16 (rfl) ?_; exact qF
theorem hotspotref05_Twin_p (a0 : Frame) {r : Frame} (h0 : hotspotref05_Twin a0 = some r) : SndP K 27 [(.agg (E_Frame a0))] (.agg (E_Frame r)) := by
 refine SndP.of_walkW hC (Clean.agg (E_Frame_clean _)) (clean_cons (Clean.agg (E_Frame_clean _)) clean_nil) (show K.P.funcs[27]? = some Try.f27 from Try.func27) rfl rfl (by decide +kernel) (qB2 rfl) ?_; unfold hotspotref05_Twin at h0; refine awp_nw [0] fun tz U u => ?_; (try simp only [go_sem]); refine qU u ?_; clear u U; refine awp_nr [1,2] (fun _ => rfl) fun tz => ?_; refine awp_regDW fun U u all hall => ?_; refine xd_id ?_; (try simp only [List.toList_toArray, List.map_cons, List.map_nil, List.size_toArray, List.length_cons, List.length_nil, Nat.zero_add]); (try simp only [Nat.reduceAdd]); obtain ⟨x11, bx11, h0⟩ := bnd h0; have bx11 := chk_some bx11; simp only [Bool.and_eq_true, decide_eq_true_eq] at bx11; have gx11_0 := bx11; (iterate 3 ((try simp only [go_sem, -Nat.reduceAdd, gx11_0]); try simp only [Nat.reduceAdd])); refine And.intro ?_ (u _ _ (Wk.refl _ _ _) ?_)
 ·
  subst hall; clear u U; exact qP
 ·
  clear u U hall all; refine awp_ret1 ?_; obtain rfl := someInj h0; refine endW_i ?_; refine end_ret0 rs27 qR ?_; exact qF
def hotspotref18_Twin_S0 (a0 : Reorder) (d9 : (List HeldSeq)) : AS :=
 { objs := (upd (upd (upd (fun _ => .dead) 0 (.live (e_Reorder a0 (.imm (List.flatMap E_HeldSeq a0.Held) a0.Held.length)))) 1 (.live (e_Reorder Reorder.z vnil))) 2 (.live (List.flatMap E_HeldSeq d9))), next := 3, tmps := (upd (upd (upd (fun _ => .unk) 1 (.ptr 0 0)) 2 (.ptr 1 0)) 3 (.ref 2 0 d9.length 42)) }

def hotspotref18_Twin_S1 (a0 : Reorder) (d10 : (List HeldSeq × Int)) : AS :=
 { objs := (upd (upd (upd (fun _ => .dead) 0 (.live (e_Reorder a0 (.imm (List.flatMap E_HeldSeq a0.Held) a0.Held.length)))) 1 (.live (e_Reorder Reorder.z vnil))) 2 (.live (List.flatMap E_HeldSeq d10.1))), next := 3, tmps := (upd (upd (upd (upd (fun _ => .unk) 1 (.ptr 0 0)) 2 (.ptr 1 0)) 3 (.ref 2 0 d10.1.length 42)) 4 (vi d10.2)) }

theorem hotspotref18_Twin_r (a0 : Reorder) {r : Reorder} (h0 : hotspotref18_Twin a0 = some r) : SndR K 17 [(.agg (E_Reorder a0))] (fun q => (.agg (e_Reorder r (.ref (q 0) 0 r.Held.length 42)))) [(List.flatMap E_HeldSeq r.Held)] := by
 refine SndR.of_walkW hC (show K.P.funcs[17]? = some Try.f17 from Try.func17) rfl rfl (by decide +kernel) (qB2 rfl) ?_; unfold hotspotref18_Twin at h0; refine awp_nw [0] fun tz U u => ?_; (try simp only [go_sem]); refine qU u ?_; clear u U; refine awp_nw [1,2] fun tz U u => ?_; (try simp only [go_sem]); refine qU u ?_; clear u U; refine awp_assoc ?_; refine awp_nw [1,2,3] fun tz U u => ?_; (try simp only [go_sem]); refine qU u ?_; clear u U; obtain ⟨d9, hi1, h0⟩ := bnd h0; refine awp_cut (fun z => d9 = z) (fun d9 : (List HeldSeq) => hotspotref18_Twin_S0 a0 d9) ?_ ?_
 ·
  refine awp_block1 ?_; refine awp_loopS (fun n (d10 : (List HeldSeq × Int)) => hotspotref18_Twin_L2 a0 n d10 = some d9) (fun d10 : (List HeldSeq × Int) => hotspotref18_Twin_S1 a0 d10) big ([], 0) (Wk.canonD [] [] [some 0, some 1, none] rfl trivial rfl (tmON 2 (tmOU 1 (tmOU 0 tmO0 rfl qM rfl (e_Reorder_tmx (by rfl) (tI (c_HeldSeq _)))) rfl qM rfl (e_Reorder_tmx (by rfl) tv)) rfl) (tA 4 (tA 3 (tA 2 (tA 1 tmAll0 tp) tp) tT) tv)) hi1 ?_; clear hi1; rintro n d10 hl3; rcases n with _ | n2
  ·
   (rw [hotspotref18_Twin_L2] at hl3; cases hl3)
  ·
   rw [hotspotref18_Twin_L2] at hl3; unfold hotspotref18_Twin_S1; refine awp_assoc ?_; refine awp_nw [1,2,3,4] fun tz U u => ?_; (try simp only [go_sem]); refine qU u ?_; clear u U; refine awp_cond (b := (decide (d10.2 < (a0.Held.length : Int)))) rfl (fun h4 => ?_) (fun h4 => ?_)
   ·
    have hl3 := cT hl3 h4; refine awp_skip ?_; refine awp_blockW ?_; refine awp_nr1 [1,2,3,4] (fun _ => rfl) fun tz => ?_; refine awp_regD1 fun U u all hall => ?_; refine xd_id ?_; (try simp only [List.toList_toArray, List.map_cons, List.map_nil, List.size_toArray, List.length_cons, List.length_nil, Nat.zero_add]); (try simp only [Nat.reduceAdd]); obtain ⟨x11, bx11, hl3⟩ := bnd hl3; obtain ⟨fx11_0, fx11_1, fx11_2, fx11_3⟩ := idx_some bx11; obtain ⟨x12, bx12, hl3⟩ := bnd hl3; (iterate 3 ((try simp only [go_sem, -Nat.reduceAdd, fx11_0, fx11_1, fx11_2]); try simp only [Nat.reduceAdd])); (refine xcallD_p (hotspotref05_Twin_p x11.Frame bx12) ?_; try dsimp only); (try refine xd_id ?_); obtain ⟨x13, bx13, hl3⟩ := bnd hl3; have bx13 := chk_some bx13; simp only [Bool.and_eq_true, decide_eq_true_eq] at bx13; have gx13_0 := bx13; (iterate 3 ((try simp only [go_sem, -Nat.reduceAdd, fx11_0, fx11_1, fx11_2, gx13_0]); try simp only [Nat.reduceAdd])); refine And.intro ?_ (u _ ?_)
    ·
     subst hall; clear u U; exact qP
    ·
     clear u U hall all; refine bq_n ?_; refine seqW_i ?_; refine awp_nw1 [1,2,3,4] fun tz U u => ?_; (try simp only [go_sem, fx11_0, fx11_1, fx11_2]); refine u _ ?_; clear u U; refine lq_n ?_; exact ⟨n2, ((d10.1 ++ [{ HeldSeq.z with At := x11.At, Frame := x12 }]), IntKind.wrap .i64 (d10.2 + 1)), rfl, hl3, (by refine Wk.canonD [] [] [some 0, some 1, some 24] rfl trivial rfl (tmOU 2 (tmOU 1 (tmOU 0 tmO0 rfl qM rfl (e_Reorder_tmx (by rfl) (tI (c_HeldSeq _)))) rfl qM rfl (e_Reorder_tmx (by rfl) tv)) rfl qM rfl (TmL.of_eq qL (c_HeldSeq _))) (tA 4 (tA 3 (tA 2 (tA 1 tmAll0 tp) tp) tr) tv); all_goals exact qN)⟩
   ·
    have hl3 := cF hl3 h4; refine awp_exit ?_; refine lq_e ?_; refine bq_e ?_; refine sq_n ?_; obtain rfl := someInj hl3; exact ⟨_, rfl, (by refine Wk.canonD [] [] [some 0, some 1, some 2] rfl trivial rfl (tmOU 2 (tmOU 1 (tmOU 0 tmO0 rfl qM rfl (e_Reorder_tmx (by rfl) (tI (c_HeldSeq _)))) rfl qM rfl (e_Reorder_tmx (by rfl) tv)) rfl qM rfl (TmL.of_eq qL (c_HeldSeq _))) (tA 3 (tA 2 (tA 1 tmAll0 tp) tp) tr); all_goals exact qN)⟩
 ·
  rintro _ rfl; clear hi1; unfold hotspotref18_Twin_S0; refine awp_nw [1,2,3] fun tz U u => ?_; (try simp only [go_sem]); refine qU u ?_; clear u U; refine awp_nw [1,2] fun tz U u => ?_; (try simp only [go_sem]); refine qU u ?_; clear u U; refine awp_ret1 ?_; obtain rfl := someInj h0; refine endW_i ?_; refine end_ret0 rs17 qR ?_; refine Res.mk [] [some 2] rfl (resOU qM rfl (TmL.of_eq qL (c_HeldSeq _)) resO0) (Tm.agg (e_Reorder_tmx (by rfl) tr)); (all_goals exact qN)


theorem hotspotref18_Twin_e (a0 : Reorder) {r : Reorder} (h0 : hotspotref18_Twin a0 = some r) (fr : Nat) (hs : HS) : SndE K 17 [(.agg (E_Reorder a0))] hs fr ⟨(fun q : Nat → Nat => (.agg (e_Reorder r (.ref (q 0) 0 r.Held.length 42)))) fun _ => fr, .new (List.flatMap E_HeldSeq r.Held)⟩ :=
 SndE.of_res (RenM.agg (e_Reorder_ren _ (RenM.ref 0 0 _ _))) (c_HeldSeq _) (clean_cons (Clean.agg (E_Reorder_clean _)) clean_nil) (fun a b h => by simp only [h]) (hotspotref18_Twin_r a0 h0) hs fr
theorem window_Dist_p (a0 : Int) (a1 : Int) {r : Int} (h0 : window_Dist a0 a1 = some r) : SndP K 38 [(vi a0), (vi a1)] (vi r) := by
 refine SndP.of_walkW hC cv (clean_cons cv (clean_cons cv clean_nil)) (show K.P.funcs[38]? = some Try.f38 from Try.func38) rfl rfl (by decide +kernel) (qB2 rfl) ?_; unfold window_Dist at h0; refine awp_nw [0,1] fun tz U u => ?_; (try simp only [go_sem]); refine qU u ?_; clear u U; refine awp_nw [0,1] fun tz U u => ?_; (try simp only [go_sem]); refine qU u ?_; clear u U; refine awp_ret1 ?_; obtain rfl := someInj h0; refine endW_i ?_; refine end_ret0 rs38 (rfl) ?_; exact qF
theorem window_Add_p (a0 : Int) (a1 : Int) {r : Int} (h0 : window_Add a0 a1 = some r) : SndP K 32 [(vi a0), (vi a1)] (vi r) := by
 refine SndP.of_walkW hC cv (clean_cons cv (clean_cons cv clean_nil)) (show K.P.funcs[32]? = some Try.f32 from Try.func32) rfl rfl (by decide +kernel) (qB2 rfl) ?_; unfold window_Add at h0; refine awp_nw [0,1] fun tz U u => ?_; (try simp only [go_sem]); refine qU u ?_; clear u U; refine awp_nw [0,1] fun tz U u => ?_; (try simp only [go_sem]); refine qU u ?_; clear u U; refine awp_ret1 ?_; obtain rfl := someInj h0; refine endW_i ?_; refine end_ret0 rs32 (rfl) ?_; exact qF
theorem reorder_number_p (a0 : Int) {r : Bool} (h0 : reorder_number a0 = some r) : SndP K 39 [(vi a0)] (vb r) := by
 refine SndP.of_walkW hC cv (clean_cons cv clean_nil) (show K.P.funcs[39]? = some Try.f39 from Try.func39) rfl rfl (by decide +kernel) (qB2 rfl) ?_; unfold reorder_number at h0; refine awp_nw [0] fun tz U u => ?_; (try simp only [go_sem]); refine qU u ?_; clear u U; refine awp_nw [0] fun tz U u => ?_; refine xw_stop 3 qS qS (by rfl) fun V v => ?_; refine xw_id ?_; (try simp only [go_sem]); refine v _ ?_; clear v V; refine xw_cut 3 [(8, (vb ((decide (0 ≤ a0)) && (decide (a0 < 4096)))))] qS qS (by rfl) (fun V v => ?_) fun tz => ?_
 ·
  refine xw_id ?_; rcases bE (decide (0 ≤ a0)) with h1 | h1
  ·
   (try simp only [go_sem, h1]); exact v _ ⟨rfl, (qB h1), trivial⟩
  ·
   (try simp only [go_sem, h1]); exact v _ ⟨rfl, (qB h1), trivial⟩
 ·
  refine xw_id ?_; (try simp only [go_sem]); refine qU u ?_; clear u U; refine awp_ret1 ?_; obtain rfl := someInj h0; refine endW_i ?_; refine end_ret0 rs39 (rfl) ?_; exact qF
theorem window_number_p (a0 : Int) {r : Bool} (h0 : window_number a0 = some r) : SndP K 58 [(vi a0)] (vb r) := by
 refine SndP.of_walkW hC cv (clean_cons cv clean_nil) (show K.P.funcs[58]? = some Try.f58 from Try.func58) rfl rfl (by decide +kernel) (qB2 rfl) ?_; unfold window_number at h0; refine awp_nw [0] fun tz U u => ?_; (try simp only [go_sem]); refine qU u ?_; clear u U; refine awp_nw [0] fun tz U u => ?_; refine xw_stop 3 qS qS (by rfl) fun V v => ?_; refine xw_id ?_; (try simp only [go_sem]); refine v _ ?_; clear v V; refine xw_cut 3 [(8, (vb ((decide (0 ≤ a0)) && (decide (a0 < 4096)))))] qS qS (by rfl) (fun V v => ?_) fun tz => ?_
 ·
  refine xw_id ?_; rcases bE (decide (0 ≤ a0)) with h1 | h1
  ·
   (try simp only [go_sem, h1]); exact v _ ⟨rfl, (qB h1), trivial⟩
  ·
   (try simp only [go_sem, h1]); exact v _ ⟨rfl, (qB h1), trivial⟩
 ·
  refine xw_id ?_; (try simp only [go_sem]); refine qU u ?_; clear u U; refine awp_ret1 ?_; obtain rfl := someInj h0; refine endW_i ?_; refine end_ret0 rs58 (rfl) ?_; exact qF
theorem window_Check_p (a0 : Window) {r : Int} (h0 : window_Check a0 = some r) : SndP K 40 [(.agg (e_Window a0))] (vi r) := by
 refine SndP.of_walkW hC cv (clean_cons (Clean.agg (e_Window_clean _)) clean_nil) (show K.P.funcs[40]? = some Try.f40 from Try.func40) rfl rfl (by decide +kernel) (qB2 rfl) ?_; unfold window_Check at h0; refine awp_nw [0] fun tz U u => ?_; (try simp only [go_sem]); refine qU u ?_; clear u U; refine awp_assoc ?_; refine awp_nw [1] fun tz U u => ?_; obtain ⟨x17, bx17, h0⟩ := bnd h0; (try simp only [go_sem]); (refine xcall_p (window_number_p a0.Start bx17) ?_; try dsimp only); (try refine xw_id ?_); (try simp only [go_sem]); refine qU u ?_; clear u U; refine awp_cond (b := (!x17)) rfl (fun h1 => ?_) (fun h1 => ?_)
 ·
  have h0 := cT h0 h1; refine awp_assoc ?_; refine awp_nw [] fun tz U u => ?_; (try simp only [go_sem]); refine qU u ?_; clear u U; refine awp_ret ?_; obtain rfl := someInj h0; refine endW_i ?_; refine end_ret0 rs40 (rfl) ?_; exact qF
 ·
  have h0 := cF h0 h1; refine awp_skip ?_; refine awp_nw [] fun tz U u => ?_; (try simp only [go_sem]); refine qU u ?_; clear u U; refine awp_ret1 ?_; obtain rfl := someInj h0; refine endW_i ?_; refine end_ret0 rs40 (rfl) ?_; exact qF
theorem reorder_moment_p (a0 : Int) {r : Bool} (h0 : reorder_moment a0 = some r) : SndP K 41 [(vi a0)] (vb r) := by
 refine SndP.of_walkW hC cv (clean_cons cv clean_nil) (show K.P.funcs[41]? = some Try.f41 from Try.func41) rfl rfl (by decide +kernel) (qB2 rfl) ?_; unfold reorder_moment at h0; refine awp_nw [0] fun tz U u => ?_; (try simp only [go_sem]); refine qU u ?_; clear u U; refine awp_nw [0] fun tz U u => ?_; refine xw_stop 3 qS qS (by rfl) fun V v => ?_; refine xw_id ?_; (try simp only [go_sem]); refine v _ ?_; clear v V; refine xw_cut 3 [(8, (vb ((decide (0 ≤ a0)) && (decide (a0 ≤ 1099511627776)))))] qS qS (by rfl) (fun V v => ?_) fun tz => ?_
 ·
  refine xw_id ?_; rcases bE (decide (0 ≤ a0)) with h1 | h1
  ·
   (try simp only [go_sem, h1]); exact v _ ⟨rfl, (qB h1), trivial⟩
  ·
   (try simp only [go_sem, h1]); exact v _ ⟨rfl, (qB h1), trivial⟩
 ·
  refine xw_id ?_; (try simp only [go_sem]); refine qU u ?_; clear u U; refine awp_ret1 ?_; obtain rfl := someInj h0; refine endW_i ?_; refine end_ret0 rs41 (rfl) ?_; exact qF
def reorder_Check_S0 (d19 : Unit) : AS :=
 { objs := (fun _ => .dead), next := 0, tmps := (fun _ => .unk) }

def reorder_Check_S1 (a0 : Reorder) (d21 : (Int × Int)) : AS :=
 { objs := (upd (fun _ => .dead) 0 (.live (e_Reorder a0 (.imm (List.flatMap E_HeldSeq a0.Held) a0.Held.length)))), next := 1, tmps := (upd (upd (upd (upd (upd (fun _ => .unk) 1 (.ptr 0 0)) 3 (vi d21.1)) 38 (.imm (List.flatMap E_HeldSeq a0.Held) a0.Held.length)) 39 (vi (a0.Held.length : Int))) 40 (vi d21.2)) }

def reorder_Check_S3 (a0 : Reorder) (x23 : Int) (d21 : (Int × Int)) (x26 : Bool) : AS :=
 { objs := (upd (fun _ => .dead) 0 (.live (e_Reorder a0 (.imm (List.flatMap E_HeldSeq a0.Held) a0.Held.length)))), next := 1, tmps := (upd (upd (upd (upd (upd (upd (fun _ => .unk) 1 (.ptr 0 0)) 6 (vi x23)) 38 (.imm (List.flatMap E_HeldSeq a0.Held) a0.Held.length)) 39 (vi (a0.Held.length : Int))) 40 (vi d21.2)) 73 (vb ((x26 || (decide (x23 ≤ d21.1))) || (decide (a0.Size ≤ x23))))) }

theorem reorder_Check_p (a0 : Reorder) {r : Int} (h0 : reorder_Check a0 = some r) : SndP K 14 [(.agg (E_Reorder a0))] (vi r) := by
 refine SndP.of_walkW hC cv (clean_cons (Clean.agg (E_Reorder_clean _)) clean_nil) (show K.P.funcs[14]? = some Try.f14 from Try.func14) rfl rfl (by decide +kernel) (qB2 rfl) ?_; unfold reorder_Check at h0; refine awp_nw [0] fun tz U u => ?_; (try simp only [go_sem]); refine qU u ?_; clear u U; refine awp_assoc ?_; refine awp_nw [1] fun tz U u => ?_; obtain ⟨x16, bx16, h0⟩ := bnd h0; (try simp only [go_sem]); (refine xcall_p (reorder_number_p a0.Start bx16) ?_; try dsimp only); (try refine xw_id ?_); refine xw_stop 2 qS qS (by rfl) fun V v => ?_; refine xw_id ?_; (try simp only [go_sem]); refine v _ ?_; clear v V; refine xw_cut 4 [(1, (.ptr 0 0)), (15, (vb ((!x16) || (decide (a0.Size < 1)))))] qS qS (by rfl) (fun V v => ?_) fun tz => ?_
 ·
  refine xw_id ?_; rcases bE (!x16) with h1 | h1
  ·
   (try simp only [go_sem, h1]); exact v _ ⟨rfl, rfl, (qB h1), trivial⟩
  ·
   (try simp only [go_sem, h1]); exact v _ ⟨rfl, rfl, (qB h1), trivial⟩
 ·
  refine xw_id ?_; refine xw_stop 1 qS qS (by rfl) fun V v => ?_; refine xw_id ?_; (try simp only [go_sem]); refine v _ ?_; clear v V; refine xw_cut 4 [(1, (.ptr 0 0)), (20, (vb (((!x16) || (decide (a0.Size < 1))) || (decide (64 < a0.Size)))))] qS qS (by rfl) (fun V v => ?_) fun tz => ?_
  ·
   refine xw_id ?_; rcases bE ((!x16) || (decide (a0.Size < 1))) with h2 | h2
   ·
    (try simp only [go_sem, h2]); exact v _ ⟨rfl, rfl, (qB h2), trivial⟩
   ·
    (try simp only [go_sem, h2]); exact v _ ⟨rfl, rfl, (qB h2), trivial⟩
  ·
   refine xw_id ?_; refine xw_stop 1 qS qS (by rfl) fun V v => ?_; refine xw_id ?_; (try simp only [go_sem]); refine v _ ?_; clear v V; refine xw_cut 4 [(1, (.ptr 0 0)), (25, (vb ((((!x16) || (decide (a0.Size < 1))) || (decide (64 < a0.Size))) || (decide (a0.Hold < 0)))))] qS qS (by rfl) (fun V v => ?_) fun tz => ?_
   ·
    refine xw_id ?_; rcases bE (((!x16) || (decide (a0.Size < 1))) || (decide (64 < a0.Size))) with h3 | h3
    ·
     (try simp only [go_sem, h3]); exact v _ ⟨rfl, rfl, (qB h3), trivial⟩
    ·
     (try simp only [go_sem, h3]); exact v _ ⟨rfl, rfl, (qB h3), trivial⟩
   ·
    refine xw_id ?_; refine xw_stop 1 qS qS (by rfl) fun V v => ?_; refine xw_id ?_; (try simp only [go_sem]); refine v _ ?_; clear v V; refine xw_cut 4 [(1, (.ptr 0 0)), (30, (vb (((((!x16) || (decide (a0.Size < 1))) || (decide (64 < a0.Size))) || (decide (a0.Hold < 0))) || (decide (16777216 < a0.Hold)))))] qS qS (by rfl) (fun V v => ?_) fun tz => ?_
    ·
     refine xw_id ?_; rcases bE ((((!x16) || (decide (a0.Size < 1))) || (decide (64 < a0.Size))) || (decide (a0.Hold < 0))) with h4 | h4
     ·
      (try simp only [go_sem, h4]); exact v _ ⟨rfl, rfl, (qB h4), trivial⟩
     ·
      (try simp only [go_sem, h4]); exact v _ ⟨rfl, rfl, (qB h4), trivial⟩
    ·
     refine xw_id ?_; refine xw_stop 1 qS qS (by rfl) fun V v => ?_; refine xw_id ?_; (try simp only [go_sem]); refine v _ ?_; clear v V; obtain ⟨x18, hvh5, h0⟩ := bnd h0; refine xw_cut 5 [(1, (.ptr 0 0)), (36, (vb x18))] qS qS (by rfl) (fun V v => ?_) fun tz => ?_
     ·
      refine xw_id ?_; rcases bE (((((!x16) || (decide (a0.Size < 1))) || (decide (64 < a0.Size))) || (decide (a0.Hold < 0))) || (decide (16777216 < a0.Hold))) with h5 | h5
      ·
       have hvh5 := cT hvh5 h5; (try simp only [go_sem, h5]); obtain rfl := someInj hvh5; exact v _ ⟨rfl, rfl, (qB h5), trivial⟩
      ·
       have hvh5 := cF hvh5 h5; obtain ⟨x17, bx17, hvh5⟩ := bnd hvh5; (try simp only [go_sem, h5]); (refine xcall_p (window_Check_p a0.Seen bx17) ?_; try dsimp only); (try refine xw_id ?_); (try simp only [go_sem, h5]); obtain rfl := someInj hvh5; exact v _ ⟨rfl, rfl, (qB h5), trivial⟩
     ·
      refine xw_id ?_; (try simp only [go_sem]); refine qU u ?_; clear u U; refine awp_cond (b := x18) rfl (fun h6 => ?_) (fun h6 => ?_)
      ·
       have h0 := cT h0 h6; refine awp_assoc ?_; refine awp_nw [] fun tz U u => ?_; (try simp only [go_sem]); refine qU u ?_; clear u U; refine awp_ret ?_; obtain rfl := someInj h0; refine endW_i ?_; refine end_ret0 rs14 (rfl) ?_; exact qF
      ·
       have h0 := cF h0 h6; refine awp_skip ?_; refine awp_nw [1] fun tz U u => ?_; (try simp only [go_sem]); refine qU u ?_; clear u U; refine awp_assoc ?_; refine awp_nw [1,3] fun tz U u => ?_; (try simp only [go_sem]); refine qU u ?_; clear u U; obtain ⟨o20, hi7, h0⟩ := bnd h0; refine awp_cut (fun d19 : Unit => o20 = Ex.go d19) (fun d19 : Unit => reorder_Check_S0 d19) ?_ ?_
       ·
        refine awp_block1 ?_; refine awp_loopS (fun n (d21 : (Int × Int)) => reorder_Check_L2 a0 n d21 = some o20) (fun d21 : (Int × Int) => reorder_Check_S1 a0 d21) big (0, 0) (Wk.canonD [] [] [some 0] rfl trivial rfl (tmOU 0 tmO0 rfl qM rfl (e_Reorder_tmx (by rfl) (tI (c_HeldSeq _)))) (tA 40 (tA 39 (tA 38 (tA 3 (tA 1 tmAll0 tp) tv) (tI (c_HeldSeq _))) tv) tv)) hi7 ?_; clear hi7; rintro n d21 hl9; rcases n with _ | n8
        ·
         (rw [reorder_Check_L2] at hl9; cases hl9)
        ·
         rw [reorder_Check_L2] at hl9; unfold reorder_Check_S1; refine awp_nw [1,3,38,39,40] fun tz U u => ?_; (try simp only [go_sem]); refine qU u ?_; clear u U; refine awp_cond (b := (decide (d21.2 < (a0.Held.length : Int)))) rfl (fun h10 => ?_) (fun h10 => ?_)
         ·
          have hl9 := cT hl9 h10; refine awp_skip ?_; refine awp_blockW ?_; refine awp_nw [1,3,38,39,40] fun tz U u => ?_; obtain ⟨x22, bx22, hl9⟩ := bnd hl9; obtain ⟨fx22_0, fx22_1, fx22_2, fx22_3⟩ := idx_some bx22; (try simp only [go_sem, fx22_0, fx22_1, fx22_2]); refine qU u ?_; clear u U; refine awp_nw [1,3,5,38,39,40] fun tz U u => ?_; obtain ⟨x23, bx23, hl9⟩ := bnd hl9; (try simp only [go_sem, fx22_0, fx22_1, fx22_2]); (refine xcall_p (window_Dist_p a0.Start x22.Frame.Head.Seq bx23) ?_; try dsimp only); (try refine xw_id ?_); (try simp only [go_sem, fx22_0, fx22_1, fx22_2]); refine qU u ?_; clear u U; refine awp_assoc ?_; refine awp_nw [1,3,5,6,38,39,40] fun tz U u => ?_; obtain ⟨x24, bx24, hl9⟩ := bnd hl9; (try simp only [go_sem, fx22_0, fx22_1, fx22_2]); (refine xcall_p (reorder_number_p x22.Frame.Head.Seq bx24) ?_; try dsimp only); (try refine xw_id ?_); refine xw_stop 2 qS qS (by rfl) fun V v => ?_; refine xw_id ?_; (try simp only [go_sem, fx22_0, fx22_1, fx22_2]); refine v _ ?_; clear v V; obtain ⟨x26, hvh11, hl9⟩ := bnd hl9; refine xw_cut 5 [(1, (.ptr 0 0)), (3, (vi d21.1)), (6, (vi x23)), (38, (.imm (List.flatMap E_HeldSeq a0.Held) a0.Held.length)), (39, (vi (a0.Held.length : Int))), (40, (vi d21.2)), (62, (vb x26))] qS qS (by rfl) (fun V v => ?_) fun tz => ?_
          ·
           refine xw_id ?_; rcases bE (!x24) with h11 | h11
           ·
            have hvh11 := cT hvh11 h11; (try simp only [go_sem, fx22_0, fx22_1, fx22_2, h11]); obtain rfl := someInj hvh11; exact v _ ⟨rfl, rfl, rfl, rfl, rfl, rfl, rfl, (qB h11), trivial⟩
           ·
            have hvh11 := cF hvh11 h11; obtain ⟨x25, bx25, hvh11⟩ := bnd hvh11; (try simp only [go_sem, fx22_0, fx22_1, fx22_2, h11]); (refine xcall_p (reorder_moment_p x22.At bx25) ?_; try dsimp only); (try refine xw_id ?_); (try simp only [go_sem, fx22_0, fx22_1, fx22_2, h11]); obtain rfl := someInj hvh11; exact v _ ⟨rfl, rfl, rfl, rfl, rfl, rfl, rfl, (qB h11), trivial⟩
          ·
           refine xw_id ?_; refine xw_stop 1 qS qS (by rfl) fun V v => ?_; refine xw_id ?_; (try simp only [go_sem, fx22_0, fx22_1, fx22_2]); refine v _ ?_; clear v V; refine xw_cut 4 [(1, (.ptr 0 0)), (6, (vi x23)), (38, (.imm (List.flatMap E_HeldSeq a0.Held) a0.Held.length)), (39, (vi (a0.Held.length : Int))), (40, (vi d21.2)), (67, (vb (x26 || (decide (x23 ≤ d21.1)))))] qS qS (by rfl) (fun V v => ?_) fun tz => ?_
           ·
            refine xw_id ?_; rcases bE x26 with h12 | h12
            ·
             (try simp only [go_sem, fx22_0, fx22_1, fx22_2, h12]); exact v _ ⟨rfl, rfl, rfl, rfl, rfl, rfl, (qB h12), trivial⟩
            ·
             (try simp only [go_sem, fx22_0, fx22_1, fx22_2, h12]); exact v _ ⟨rfl, rfl, rfl, rfl, rfl, rfl, (qB h12), trivial⟩
           ·
            refine xw_id ?_; refine xw_stop 1 qS qS (by rfl) fun V v => ?_; refine xw_id ?_; (try simp only [go_sem, fx22_0, fx22_1, fx22_2]); refine v _ ?_; clear v V; refine xw_cut 5 [(1, (.ptr 0 0)), (6, (vi x23)), (38, (.imm (List.flatMap E_HeldSeq a0.Held) a0.Held.length)), (39, (vi (a0.Held.length : Int))), (40, (vi d21.2)), (73, (vb ((x26 || (decide (x23 ≤ d21.1))) || (decide (a0.Size ≤ x23)))))] qS qS (by rfl) (fun V v => ?_) fun tz => ?_
            ·
             refine xw_id ?_; rcases bE (x26 || (decide (x23 ≤ d21.1))) with h13 | h13
             ·
              (try simp only [go_sem, fx22_0, fx22_1, fx22_2, h13]); exact v _ ⟨rfl, rfl, rfl, rfl, rfl, rfl, (qB h13), trivial⟩
             ·
              (try simp only [go_sem, fx22_0, fx22_1, fx22_2, h13]); exact v _ ⟨rfl, rfl, rfl, rfl, rfl, rfl, (qB h13), trivial⟩
            ·
             refine xw_id ?_; (try simp only [go_sem, fx22_0, fx22_1, fx22_2]); refine u _ (reorder_Check_S3 a0 x23 d21 x26) (Wk.canonD [] [] [some 0] rfl trivial rfl (tmOU 0 tmO0 rfl qM rfl (e_Reorder_tmx (by rfl) (tI (c_HeldSeq _)))) (tA 73 (tA 40 (tA 39 (tA 38 (tA 6 (tA 1 tmAll0 tp) tv) (tI (c_HeldSeq _))) tv) tv) tv)) ?_; clear u U; unfold reorder_Check_S3; refine awp_cond (b := ((x26 || (decide (x23 ≤ d21.1))) || (decide (a0.Size ≤ x23)))) rfl (fun h14 => ?_) (fun h14 => ?_)
             ·
              have hl9 := cT hl9 h14; refine awp_assoc ?_; refine awp_nw [] fun tz U u => ?_; (try simp only [go_sem, fx22_0, fx22_1, fx22_2]); refine qU u ?_; clear u U; refine awp_ret ?_; refine bq_r ?_; refine sq_r ?_; refine lq_r ?_; refine bq_r ?_; refine sq_r ?_; obtain rfl := someInj hl9; obtain rfl := Ex.k_ret h0; refine endW_i ?_; refine end_ret0 rs14 (rfl) ?_; exact qF
             ·
              have hl9 := cF hl9 h14; refine awp_skip ?_; refine awp_nw1 [1,6,38,39,40] fun tz U u => ?_; (try simp only [go_sem, fx22_0, fx22_1, fx22_2]); refine u _ ?_; clear u U; refine bq_n ?_; refine seqW_i ?_; refine awp_nw1 [1,3,38,39,40] fun tz U u => ?_; (try simp only [go_sem, fx22_0, fx22_1, fx22_2]); refine u _ ?_; clear u U; refine lq_n ?_; exact ⟨n8, (x23, IntKind.wrap .i64 (d21.2 + 1)), rfl, hl9, (Wk.canonD [] [] [some 0] rfl trivial rfl (tmOU 0 tmO0 rfl qM rfl (e_Reorder_tmx (by rfl) (tI (c_HeldSeq _)))) (tA 40 (tA 39 (tA 38 (tA 3 (tA 1 tmAll0 tp) tv) (tI (c_HeldSeq _))) tv) tv))⟩
         ·
          have hl9 := cF hl9 h10; refine awp_exit ?_; refine lq_e ?_; refine bq_e ?_; refine sq_n ?_; obtain rfl := someInj hl9; exact ⟨_, rfl, (Wk.canonD [] [] [] rfl trivial rfl tmO0 tmAll0)⟩
       ·
        rintro d19 rfl; have h0 := Ex.k_go h0; clear hi7; unfold reorder_Check_S0; refine awp_nw [] fun tz U u => ?_; (try simp only [go_sem]); refine qU u ?_; clear u U; refine awp_ret1 ?_; obtain rfl := someInj h0; refine endW_i ?_; refine end_ret0 rs14 (rfl) ?_; exact qF
theorem window_check_p (a0 : Window) (a1 : Int) {r : Int} (h0 : window_check a0 a1 = some r) : SndP K 57 [(.agg (e_Window a0)), (vi a1)] (vi r) := by
 refine SndP.of_walkW hC cv (clean_cons (Clean.agg (e_Window_clean _)) (clean_cons cv clean_nil)) (show K.P.funcs[57]? = some Try.f57 from Try.func57) rfl rfl (by decide +kernel) (qB2 rfl) ?_; unfold window_check at h0; refine awp_nw [0,1] fun tz U u => ?_; (try simp only [go_sem]); refine qU u ?_; clear u U; refine awp_assoc ?_; refine awp_nw [1,2] fun tz U u => ?_; obtain ⟨x37, bx37, h0⟩ := bnd h0; (try simp only [go_sem]); (refine xcall_p (window_Check_p a0 bx37) ?_; try dsimp only); (try refine xw_id ?_); (try simp only [go_sem]); refine qU u ?_; clear u U; refine awp_assoc ?_; refine awp_nw [1,5] fun tz U u => ?_; (try simp only [go_sem]); refine qU u ?_; clear u U; refine awp_cond (b := (x37 != 0)) rfl (fun h1 => ?_) (fun h1 => ?_)
 ·
  have h0 := cT h0 h1; refine awp_assoc ?_; refine awp_nw [5] fun tz U u => ?_; (try simp only [go_sem]); refine qU u ?_; clear u U; refine awp_ret ?_; obtain rfl := someInj h0; refine endW_i ?_; refine end_ret0 rs57 (rfl) ?_; exact qF
 ·
  have h0 := cF h0 h1; refine awp_skip ?_; refine awp_assoc ?_; refine awp_nw [1] fun tz U u => ?_; obtain ⟨x38, bx38, h0⟩ := bnd h0; (try simp only [go_sem]); (refine xcall_p (window_number_p a1 bx38) ?_; try dsimp only); (try refine xw_id ?_); (try simp only [go_sem]); refine qU u ?_; clear u U; refine awp_cond (b := (!x38)) rfl (fun h2 => ?_) (fun h2 => ?_)
  ·
   have h0 := cT h0 h2; refine awp_assoc ?_; refine awp_nw [] fun tz U u => ?_; (try simp only [go_sem]); refine qU u ?_; clear u U; refine awp_ret ?_; obtain rfl := someInj h0; refine endW_i ?_; refine end_ret0 rs57 (rfl) ?_; exact qF
  ·
   have h0 := cF h0 h2; refine awp_skip ?_; refine awp_nw [] fun tz U u => ?_; (try simp only [go_sem]); refine qU u ?_; clear u U; refine awp_ret1 ?_; obtain rfl := someInj h0; refine endW_i ?_; refine end_ret0 rs57 (rfl) ?_; exact qF
def window_Move_S0 (a0 : Window) (a1 : Int) : AS :=
 { objs := (upd (upd (upd (fun _ => .dead) 0 (.live (e_Window a0))) 1 (.live (e_Window Window.z))) 2 (.live (e_Window { Window.z with Start := a1 }))), next := 3, tmps := (upd (upd (upd (upd (fun _ => .unk) 1 (vi a1)) 2 (.ptr 0 0)) 4 (.ptr 1 0)) 7 (.ptr 2 0)) }

theorem window_Move_p (a0 : Window) (a1 : Int) {r : (Window × Int)} (h0 : window_Move a0 a1 = some r) : SndP K 64 [(.agg (e_Window a0)), (vi a1)] (.tup [(.agg (e_Window r.1)), (vi r.2)]) := by
 refine SndP.of_walkW hC (Clean.tup (clean_cons (Clean.agg (e_Window_clean _)) (clean_cons cv clean_nil))) (clean_cons (Clean.agg (e_Window_clean _)) (clean_cons cv clean_nil)) (show K.P.funcs[64]? = some Try.f64 from Try.func64) rfl rfl (by decide +kernel) (qB2 rfl) ?_; unfold window_Move at h0; refine awp_nw [0,1] fun tz U u => ?_; (try simp only [go_sem]); refine qU u ?_; clear u U; refine awp_assoc ?_; refine awp_nw [1,2,4] fun tz U u => ?_; obtain ⟨x37, bx37, h0⟩ := bnd h0; (try simp only [go_sem]); (refine xcall_p (window_check_p a0 a1 bx37) ?_; try dsimp only); (try refine xw_id ?_); (try simp only [go_sem]); refine qU u ?_; clear u U; refine awp_assoc ?_; refine awp_nw [1,2,4,6] fun tz U u => ?_; (try simp only [go_sem]); refine qU u ?_; clear u U; refine awp_cond (b := (x37 != 0)) rfl (fun h1 => ?_) (fun h1 => ?_)
 ·
  have h0 := cT h0 h1; refine awp_assoc ?_; refine awp_nw [4,6] fun tz U u => ?_; (try simp only [go_sem]); refine qU u ?_; clear u U; refine awp_ret ?_; obtain rfl := someInj h0; refine endW_i ?_; refine end_ret0 rs64 qR ?_; exact qF
 ·
  have h0 := cF h0 h1; refine awp_skip ?_; refine awp_nw [1,2,4] fun tz U u => ?_; (try simp only [go_sem]); refine u _ (window_Move_S0 a0 a1) (Wk.canonD [] [] [some 0, some 1, some 11] rfl trivial rfl (tmOU 2 (tmOU 1 (tmOU 0 tmO0 rfl qM rfl (TmL.clean (e_Window_clean _))) rfl qM rfl (TmL.clean (e_Window_clean _))) rfl qM rfl (TmL.clean (e_Window_clean _))) (tA 7 (tA 4 (tA 2 (tA 1 tmAll0 tv) tp) tp) tp)) ?_; clear u U; unfold window_Move_S0; refine awp_assoc ?_; refine awp_nw [1,2,4,7] fun tz U u => ?_; obtain ⟨x38, bx38, h0⟩ := bnd h0; (try simp only [go_sem]); (refine xcall_p (window_Dist_p a0.Start a1 bx38) ?_; try dsimp only); (try refine xw_id ?_); (try simp only [go_sem]); refine qU u ?_; clear u U; refine awp_assoc ?_; refine awp_nw [2,4,7,8] fun tz U u => ?_; (try simp only [go_sem]); refine qU u ?_; clear u U; refine awp_cond (b := (decide (x38 < 2048))) rfl (fun h2 => ?_) (fun h2 => ?_)
  ·
   have h0 := cT h0 h2; refine awp_nw [2,4,7,8] fun tz U u => ?_; obtain ⟨x39, bx39, h0⟩ := bnd h0; have bx39 := chk_some bx39; simp only [Bool.and_eq_true, decide_eq_true_eq] at bx39; have gx39_0 := bx39; (try simp only [go_sem, gx39_0]); refine qU u ?_; clear u U; refine awp_nw [4,7] fun tz U u => ?_; (try simp only [go_sem]); refine qU u ?_; clear u U; refine awp_ret1 ?_; obtain rfl := someInj h0; refine endW_i ?_; refine end_ret0 rs64 qR ?_; exact qF
  ·
   have h0 := cF h0 h2; refine awp_nw [2,4,7,8] fun tz U u => ?_; obtain ⟨x40, bx40, h0⟩ := bnd h0; have bx40 := chk_some bx40; simp only [Bool.and_eq_true, decide_eq_true_eq] at bx40; have gx40_0 := bx40; (try simp only [go_sem, gx40_0]); refine qU u ?_; clear u U; refine awp_nw [4,7] fun tz U u => ?_; (try simp only [go_sem]); refine qU u ?_; clear u U; refine awp_ret1 ?_; obtain rfl := someInj h0; refine endW_i ?_; refine end_ret0 rs64 qR ?_; exact qF
def window_Mark_S0 (a0 : Window) (x40 : Int) : AS :=
 { objs := (upd (upd (fun _ => .dead) 0 (.live (e_Window a0))) 1 (.live (e_Window Window.z))), next := 2, tmps := (upd (upd (upd (fun _ => .unk) 2 (.ptr 0 0)) 4 (.ptr 1 0)) 7 (vi x40)) }

theorem window_Mark_p (a0 : Window) (a1 : Int) {r : (Window × Int)} (h0 : window_Mark a0 a1 = some r) : SndP K 65 [(.agg (e_Window a0)), (vi a1)] (.tup [(.agg (e_Window r.1)), (vi r.2)]) := by
 refine SndP.of_walkW hC (Clean.tup (clean_cons (Clean.agg (e_Window_clean _)) (clean_cons cv clean_nil))) (clean_cons (Clean.agg (e_Window_clean _)) (clean_cons cv clean_nil)) (show K.P.funcs[65]? = some Try.f65 from Try.func65) rfl rfl (by decide +kernel) (qB2 rfl) ?_; unfold window_Mark at h0; refine awp_nw [0,1] fun tz U u => ?_; (try simp only [go_sem]); refine qU u ?_; clear u U; refine awp_assoc ?_; refine awp_nw [1,2,4] fun tz U u => ?_; obtain ⟨x39, bx39, h0⟩ := bnd h0; (try simp only [go_sem]); (refine xcall_p (window_check_p a0 a1 bx39) ?_; try dsimp only); (try refine xw_id ?_); (try simp only [go_sem]); refine qU u ?_; clear u U; refine awp_assoc ?_; refine awp_nw [1,2,4,6] fun tz U u => ?_; (try simp only [go_sem]); refine qU u ?_; clear u U; refine awp_cond (b := (x39 != 0)) rfl (fun h1 => ?_) (fun h1 => ?_)
 ·
  have h0 := cT h0 h1; refine awp_assoc ?_; refine awp_nw [4,6] fun tz U u => ?_; (try simp only [go_sem]); refine qU u ?_; clear u U; refine awp_ret ?_; obtain rfl := someInj h0; refine endW_i ?_; refine end_ret0 rs65 qR ?_; exact qF
 ·
  have h0 := cF h0 h1; refine awp_skip ?_; refine awp_nw [1,2,4] fun tz U u => ?_; obtain ⟨x40, bx40, h0⟩ := bnd h0; (try simp only [go_sem]); (refine xcall_p (window_Dist_p a0.Start a1 bx40) ?_; try dsimp only); (try refine xw_id ?_); (try simp only [go_sem]); refine u _ (window_Mark_S0 a0 x40) (Wk.canonD [] [] [some 0, some 1] rfl trivial rfl (tmOU 1 (tmOU 0 tmO0 rfl qM rfl (TmL.clean (e_Window_clean _))) rfl qM rfl (TmL.clean (e_Window_clean _))) (tA 7 (tA 4 (tA 2 tmAll0 tp) tp) tv)) ?_; clear u U; unfold window_Mark_S0; refine awp_assoc ?_; refine awp_nw [2,4,7] fun tz U u => ?_; (try simp only [go_sem]); refine qU u ?_; clear u U; refine awp_cond (b := (decide (64 ≤ x40))) rfl (fun h2 => ?_) (fun h2 => ?_)
  ·
   have h0 := cT h0 h2; refine awp_assoc ?_; refine awp_nw [4] fun tz U u => ?_; (try simp only [go_sem]); refine qU u ?_; clear u U; refine awp_ret ?_; obtain rfl := someInj h0; refine endW_i ?_; refine end_ret0 rs65 qR ?_; exact qF
  ·
   have h0 := cF h0 h2; refine awp_skip ?_; refine awp_nr [2,4,7] (fun _ => rfl) fun tz => ?_; refine awp_regDW fun U u all hall => ?_; refine xd_id ?_; (try simp only [List.toList_toArray, List.map_cons, List.map_nil, List.size_toArray, List.length_cons, List.length_nil, Nat.zero_add]); (try simp only [Nat.reduceAdd]); obtain ⟨x41, bx41, h0⟩ := bnd h0; have bx41 := chk_some bx41; simp only [Bool.and_eq_true, decide_eq_true_eq] at bx41; have gx41_0 := bx41; (iterate 3 ((try simp only [go_sem, -Nat.reduceAdd, gx41_0]); try simp only [Nat.reduceAdd])); refine And.intro ?_ (u _ _ (Wk.refl _ _ _) ?_)
   ·
    subst hall; clear u U; exact qP
   ·
    clear u U hall all; refine awp_nw [2,4] fun tz U u => ?_; (try simp only [go_sem]); refine qU u ?_; clear u U; refine awp_ret1 ?_; obtain rfl := someInj h0; refine endW_i ?_; refine end_ret0 rs65 qR ?_; exact qF
def reorder_note_S0 (a1 : Int) (d36 : Window) : AS :=
 { objs := (upd (upd (fun _ => .dead) 0 (.live (e_Window d36))) 1 (.live (e_Window Window.z))), next := 2, tmps := (upd (upd (upd (fun _ => .unk) 1 (vi a1)) 2 (.ptr 0 0)) 4 (.ptr 1 0)) }

theorem reorder_note_p (a0 : Window) (a1 : Int) {r : Window} (h0 : reorder_note a0 a1 = some r) : SndP K 52 [(.agg (e_Window a0)), (vi a1)] (.agg (e_Window r)) := by
 refine SndP.of_walkW hC (Clean.agg (e_Window_clean _)) (clean_cons (Clean.agg (e_Window_clean _)) (clean_cons cv clean_nil)) (show K.P.funcs[52]? = some Try.f52 from Try.func52) rfl rfl (by decide +kernel) (qB2 rfl) ?_; unfold reorder_note at h0; refine awp_nw [0,1] fun tz U u => ?_; (try simp only [go_sem]); refine qU u ?_; clear u U; refine awp_nw [1,2,4] fun tz U u => ?_; obtain ⟨x35, bx35, h0⟩ := bnd h0; (try simp only [go_sem]); (refine xcall_p (window_Dist_p a0.Start a1 bx35) ?_; try dsimp only); (try refine xw_id ?_); (try simp only [go_sem]); refine qU u ?_; clear u U; refine awp_assoc ?_; refine awp_nw [1,2,4,5] fun tz U u => ?_; (try simp only [go_sem]); refine qU u ?_; clear u U; refine awp_cond (b := (decide (2048 ≤ x35))) rfl (fun h1 => ?_) (fun h1 => ?_)
 ·
  have h0 := cT h0 h1; refine awp_assoc ?_; refine awp_nw [2,4] fun tz U u => ?_; (try simp only [go_sem]); refine qU u ?_; clear u U; refine awp_ret ?_; obtain rfl := someInj h0; refine endW_i ?_; refine end_ret0 rs52 qR ?_; exact qF
 ·
  have h0 := cF h0 h1; refine awp_skip ?_; refine awp_assoc ?_; refine awp_nw [1,2,4,5] fun tz U u => ?_; (try simp only [go_sem]); refine qU u ?_; clear u U; obtain ⟨d36, hi2, h0⟩ := bnd h0; refine awp_cut (fun z => d36 = z) (fun d36 : Window => reorder_note_S0 a1 d36) ?_ ?_
  ·
   refine awp_cond1 (b := (decide (64 ≤ x35))) rfl (fun h3 => ?_) (fun h3 => ?_)
   ·
    have hi2 := cT hi2 h3; refine awp_nr1 [1,2,4] (fun _ => rfl) fun tz => ?_; refine awp_regD1 fun U u all hall => ?_; refine xd_id ?_; (try simp only [List.toList_toArray, List.map_cons, List.map_nil, List.size_toArray, List.length_cons, List.length_nil, Nat.zero_add]); (try simp only [Nat.reduceAdd]); obtain ⟨x37, bx37, hi2⟩ := bnd hi2; (iterate 3 ((try simp only [go_sem, -Nat.reduceAdd]); try simp only [Nat.reduceAdd])); (refine xcallD_p (window_Add_p a1 (-63) bx37) ?_; try dsimp only); (try refine xd_id ?_); obtain ⟨x38, bx38, hi2⟩ := bnd hi2; (iterate 3 ((try simp only [go_sem, -Nat.reduceAdd]); try simp only [Nat.reduceAdd])); (refine xcallD_p (window_Move_p a0 x37 bx38) ?_; try dsimp only); (try refine xd_id ?_); (iterate 3 ((try simp only [go_sem, -Nat.reduceAdd]); try simp only [Nat.reduceAdd])); refine And.intro ?_ (u _ ?_)
    ·
     subst hall; clear u U; exact qP
    ·
     clear u U hall all; refine sq_n ?_; obtain rfl := someInj hi2; exact ⟨_, rfl, (Wk.canonD [] [] [some 0, some 1] rfl trivial rfl (tmOU 1 (tmOU 0 tmO0 rfl qM rfl (TmL.clean (e_Window_clean _))) rfl qM rfl (TmL.clean (e_Window_clean _))) (tA 4 (tA 2 (tA 1 tmAll0 tv) tp) tp))⟩
   ·
    have hi2 := cF hi2 h3; refine awp_skip1 ?_; refine sq_n ?_; obtain rfl := someInj hi2; exact ⟨_, rfl, (Wk.canonD [] [] [some 0, some 1] rfl trivial rfl (tmOU 1 (tmOU 0 tmO0 rfl qM rfl (TmL.clean (e_Window_clean _))) rfl qM rfl (TmL.clean (e_Window_clean _))) (tA 4 (tA 2 (tA 1 tmAll0 tv) tp) tp))⟩
  ·
   rintro _ rfl; clear hi2; unfold reorder_note_S0; refine awp_nw [1,2,4] fun tz U u => ?_; obtain ⟨x39, bx39, h0⟩ := bnd h0; (try simp only [go_sem]); (refine xcall_p (window_Mark_p d36 a1 bx39) ?_; try dsimp only); (try refine xw_id ?_); (try simp only [go_sem]); refine qU u ?_; clear u U; refine awp_nw [2,4] fun tz U u => ?_; (try simp only [go_sem]); refine qU u ?_; clear u U; refine awp_ret1 ?_; obtain rfl := someInj h0; refine endW_i ?_; refine end_ret0 rs52 qR ?_; exact qF
theorem reorder_place_1_p (a0 : HeldSeq) (a1 : Int) (a2 : Reorder) {r : Int} (h0 : reorder_place_1 a0 a1 a2 = some r) : SndP K 63 [(.agg (E_HeldSeq a0)), (vi a1), (.iptr (E_Reorder a2) 0)] (vi r) := by
 refine SndP.of_walkW hC cv (clean_cons (Clean.agg (E_HeldSeq_clean _)) (clean_cons cv (clean_cons (Clean.iptr (E_Reorder_clean _)) clean_nil))) (show K.P.funcs[63]? = some Try.f63 from Try.func63) rfl rfl (by decide +kernel) (qB2 rfl) ?_; unfold reorder_place_1 at h0; refine awp_nw [0,1,2] fun tz U u => ?_; (try simp only [go_sem]); refine qU u ?_; clear u U; refine awp_nw [1,2,3] fun tz U u => ?_; obtain ⟨x35, bx35, h0⟩ := bnd h0; (try simp only [go_sem]); (refine xcall_p (window_Dist_p a2.Start a0.Frame.Head.Seq bx35) ?_; try dsimp only); (try refine xw_id ?_); (try simp only [go_sem]); refine qU u ?_; clear u U; refine awp_ret1 ?_; obtain rfl := someInj h0; refine endW_i ?_; refine end_ret0 rs63 (rfl) ?_; exact qF
def slices_BinarySearchFunc_api_HeldSeq_api_HeldSeq_int_S0 (a0 : (List HeldSeq)) (a1 : Int) (a2 : Reorder) (d33 : Int) : AS :=
 { objs := (fun _ => .dead), next := 0, tmps := (upd (upd (upd (upd (upd (fun _ => .unk) 0 (.imm (List.flatMap E_HeldSeq a0) a0.length)) 1 (vi a1)) 2 (.clo 63 [] [(.iptr (e_Reorder a2 (.imm (List.flatMap E_HeldSeq a2.Held) a2.Held.length)) 0)])) 8 (vi (a0.length : Int))) 9 (vi d33)) }

def slices_BinarySearchFunc_api_HeldSeq_api_HeldSeq_int_S1 (a0 : (List HeldSeq)) (a1 : Int) (a2 : Reorder) (d34 : (Int × Int)) : AS :=
 { objs := (fun _ => .dead), next := 0, tmps := (upd (upd (upd (upd (upd (upd (fun _ => .unk) 0 (.imm (List.flatMap E_HeldSeq a0) a0.length)) 1 (vi a1)) 2 (.clo 63 [] [(.iptr (e_Reorder a2 (.imm (List.flatMap E_HeldSeq a2.Held) a2.Held.length)) 0)])) 8 (vi (a0.length : Int))) 9 (vi d34.1)) 10 (vi d34.2)) }

theorem slices_BinarySearchFunc_api_HeldSeq_api_HeldSeq_int_p (a0 : (List HeldSeq)) (a1 : Int) (a2 : Reorder) {r : (Int × Bool)} (h0 : slices_BinarySearchFunc_api_HeldSeq_api_HeldSeq_int a0 a1 a2 = some r) : SndP K 62 [(S_HeldSeq a0), (vi a1), (.clo 63 [] [(.iptr (E_Reorder a2) 0)])] (.tup [(vi r.1), (vb r.2)]) := by
 refine SndP.of_walkW hC (Clean.tup (clean_cons cv (clean_cons cv clean_nil))) (clean_cons (S_HeldSeq_clean _) (clean_cons cv (clean_cons (Clean.clo clean_nil (clean_cons (Clean.iptr (E_Reorder_clean _)) clean_nil)) clean_nil))) (show K.P.funcs[62]? = some Try.f62 from Try.func62) rfl rfl (by decide +kernel) (qB2 rfl) ?_; unfold slices_BinarySearchFunc_api_HeldSeq_api_HeldSeq_int at h0; refine awp_nw [0,1,2] fun tz U u => ?_; (try simp only [go_sem]); refine qU u ?_; clear u U; refine awp_nw [0,1,2] fun tz U u => ?_; (try simp only [go_sem]); refine qU u ?_; clear u U; refine awp_nw [0,1,2,8] fun tz U u => ?_; (try simp only [go_sem]); refine qU u ?_; clear u U; obtain ⟨d33, hi1, h0⟩ := bnd h0; refine awp_cut (fun z => d33 = z) (fun d33 : Int => slices_BinarySearchFunc_api_HeldSeq_api_HeldSeq_int_S0 a0 a1 a2 d33) ?_ ?_
 ·
  refine awp_block1 ?_; refine awp_loopS (fun n (d34 : (Int × Int)) => slices_BinarySearchFunc_api_HeldSeq_api_HeldSeq_int_L2 a0 a1 a2 n d34 = some d33) (fun d34 : (Int × Int) => slices_BinarySearchFunc_api_HeldSeq_api_HeldSeq_int_S1 a0 a1 a2 d34) big (0, (a0.length : Int)) (Wk.canonD [] [] [] rfl trivial rfl tmO0 (tA 10 (tA 9 (tA 8 (tA 2 (tA 1 (tA 0 tmAll0 (tI (c_HeldSeq _))) tv) (Tm.clo tn (tc (Tm.clean (Clean.iptr (E_Reorder_clean _))) tn))) tv) tv) tv)) hi1 ?_; clear hi1; rintro n d34 hl3; rcases n with _ | n2
  ·
   (rw [slices_BinarySearchFunc_api_HeldSeq_api_HeldSeq_int_L2] at hl3; cases hl3)
  ·
   rw [slices_BinarySearchFunc_api_HeldSeq_api_HeldSeq_int_L2] at hl3; unfold slices_BinarySearchFunc_api_HeldSeq_api_HeldSeq_int_S1; refine awp_assoc ?_; refine awp_nw [0,1,2,8,9,10] fun tz U u => ?_; (try simp only [go_sem]); refine qU u ?_; clear u U; refine awp_cond (b := (decide (d34.1 < d34.2))) rfl (fun h4 => ?_) (fun h4 => ?_)
   ·
    have hl3 := cT hl3 h4; refine awp_skip ?_; refine awp_block1 ?_; refine awp_nw [0,1,2,8,9,10] fun tz U u => ?_; (try simp only [go_sem]); refine qU u ?_; clear u U; refine awp_nw [0,1,2,8,9,10,11] fun tz U u => ?_; obtain ⟨x35, bx35, hl3⟩ := bnd hl3; obtain ⟨fx35_0, fx35_1, fx35_2, fx35_3⟩ := idx_some bx35; obtain ⟨x36, bx36, hl3⟩ := bnd hl3; (try simp only [go_sem, fx35_0, fx35_1, fx35_2]); (refine xcall_p (reorder_place_1_p x35 a1 a2 bx36) ?_; try dsimp only); (try refine xw_id ?_); (try simp only [go_sem, fx35_0, fx35_1, fx35_2]); refine qU u ?_; clear u U; refine awp_cond1 (b := (decide (x36 < 0))) rfl (fun h5 => ?_) (fun h5 => ?_)
    ·
     have hl3 := cT hl3 h5; refine awp_nw1 [0,1,2,8,10,11] fun tz U u => ?_; (try simp only [go_sem, fx35_0, fx35_1, fx35_2]); refine u _ ?_; clear u U; refine bq_n ?_; refine lq_n ?_; exact ⟨n2, (IntKind.wrap .i64 ((IntKind.wrap .i64 (((IntKind.wrap .u64 (IntKind.wrap .i64 (d34.1 + d34.2)))).fdiv (2 ^ (min 1 64)))) + 1), d34.2), rfl, hl3, (Wk.canonD [] [] [] rfl trivial rfl tmO0 (tA 10 (tA 9 (tA 8 (tA 2 (tA 1 (tA 0 tmAll0 (tI (c_HeldSeq _))) tv) (Tm.clo tn (tc (Tm.clean (Clean.iptr (E_Reorder_clean _))) tn))) tv) tv) tv))⟩
    ·
     have hl3 := cF hl3 h5; refine awp_nw1 [0,1,2,8,9,11] fun tz U u => ?_; (try simp only [go_sem, fx35_0, fx35_1, fx35_2]); refine u _ ?_; clear u U; refine bq_n ?_; refine lq_n ?_; exact ⟨n2, (d34.1, IntKind.wrap .i64 (((IntKind.wrap .u64 (IntKind.wrap .i64 (d34.1 + d34.2)))).fdiv (2 ^ (min 1 64)))), rfl, hl3, (Wk.canonD [] [] [] rfl trivial rfl tmO0 (tA 10 (tA 9 (tA 8 (tA 2 (tA 1 (tA 0 tmAll0 (tI (c_HeldSeq _))) tv) (Tm.clo tn (tc (Tm.clean (Clean.iptr (E_Reorder_clean _))) tn))) tv) tv) tv))⟩
   ·
    have hl3 := cF hl3 h4; refine awp_exit ?_; refine lq_e ?_; refine bq_e ?_; refine sq_n ?_; obtain rfl := someInj hl3; exact ⟨_, rfl, (Wk.canonD [] [] [] rfl trivial rfl tmO0 (tA 9 (tA 8 (tA 2 (tA 1 (tA 0 tmAll0 (tI (c_HeldSeq _))) tv) (Tm.clo tn (tc (Tm.clean (Clean.iptr (E_Reorder_clean _))) tn))) tv) tv))⟩
 ·
  rintro _ rfl; clear hi1; unfold slices_BinarySearchFunc_api_HeldSeq_api_HeldSeq_int_S0; refine awp_nw [0,1,2,8,9] fun tz U u => ?_; rcases bE (decide (d33 < (a0.length : Int))) with h6 | h6
  ·
   have h0 := cT h0 h6; obtain ⟨x37, bx37, h0⟩ := bnd h0; obtain ⟨fx37_0, fx37_1, fx37_2, fx37_3⟩ := idx_some bx37; obtain ⟨x38, bx38, h0⟩ := bnd h0; (try simp only [go_sem, h6, fx37_0, fx37_1, fx37_2]); (refine xcall_p (reorder_place_1_p x37 a1 a2 bx38) ?_; try dsimp only); (try refine xw_id ?_); (try simp only [go_sem, h6, fx37_0, fx37_1, fx37_2]); refine qU u ?_; clear u U; refine awp_ret1 ?_; obtain rfl := someInj h0; refine endW_i ?_; refine end_ret0 rs62 (rfl) ?_; exact qF
  ·
   have h0 := cF h0 h6; (try simp only [go_sem, h6]); refine qU u ?_; clear u U; refine awp_ret1 ?_; obtain rfl := someInj h0; refine endW_i ?_; refine end_ret0 rs62 (rfl) ?_; exact qF
theorem reorder_place_p (a0 : Reorder) (a1 : Int) {r : (Int × Bool)} (h0 : reorder_place a0 a1 = some r) : SndP K 51 [(.agg (E_Reorder a0)), (vi a1)] (.tup [(vi r.1), (vb r.2)]) := by
 refine SndP.of_walkW hC (Clean.tup (clean_cons cv (clean_cons cv clean_nil))) (clean_cons (Clean.agg (E_Reorder_clean _)) (clean_cons cv clean_nil)) (show K.P.funcs[51]? = some Try.f51 from Try.func51) rfl rfl (by decide +kernel) (qB2 rfl) ?_; unfold reorder_place at h0; refine awp_nw [0,1] fun tz U u => ?_; (try simp only [go_sem]); refine qU u ?_; clear u U; refine awp_nw [1,2] fun tz U u => ?_; obtain ⟨x32, bx32, h0⟩ := bnd h0; (try simp only [go_sem]); (refine xcall_p (window_Dist_p a0.Start a1 bx32) ?_; try dsimp only); (try refine xw_id ?_); obtain ⟨x33, bx33, h0⟩ := bnd h0; (try simp only [go_sem]); (refine xcall_L (by first | (simp only [go_sem, fz] <;> rfl) | (simp only [go_sem, fz, List.length_set, ble_self, take_set, cond_true, cond_false] <;> rfl)) (slices_BinarySearchFunc_api_HeldSeq_api_HeldSeq_int_p a0.Held x32 a0 bx33) (bare_ok (by rfl)) ?_; try dsimp only); (try refine xw_id ?_); (try simp only [go_sem]); refine qU u ?_; clear u U; refine awp_ret1 ?_; obtain rfl := someInj h0; refine endW_i ?_; refine end_ret0 rs51 (rfl) ?_; exact qF
end Go.AX.Z.TR

/-! (TFT) -/

set_option linter.unusedSimpArgs false
set_option linter.unusedVariables false
set_option maxHeartbeats 4000000
set_option maxRecDepth 20000
namespace Go.AX.Z.TR.F
open Go.AX Go.Proofs
set_option linter.unusedSectionVars false
variable [FN]

theorem snd_gt {f : FuncId} {args : List AV} {s : HS} {Q : AV → HS → Prop} (h : Snd TR.K f args s Q) : Snd K f args s Q :=
 ⟨trivial, fun ρ V w args' h1 h2 h3 _ => h.2 ρ V w args' h1 h2 h3 fun _ _ hg => by cases hg⟩
theorem sndP_gt {f : FuncId} {args : List AV} {r : AV} (h : SndP TR.K f args r) : SndP K f args r := ⟨h.clean, fun s => snd_gt (h.quiet s)⟩

theorem window_Dist_p (a0 : Int) (a1 : Int) {r : Int} (h0 : window_Dist a0 a1 = some r) : SndP K 38 [(vi a0), (vi a1)] (vi r) := sndP_gt (TR.window_Dist_p a0 a1 h0)
theorem window_Add_p (a0 : Int) (a1 : Int) {r : Int} (h0 : window_Add a0 a1 = some r) : SndP K 32 [(vi a0), (vi a1)] (vi r) := sndP_gt (TR.window_Add_p a0 a1 h0)
theorem reorder_Check_p (a0 : Reorder) {r : Int} (h0 : reorder_Check a0 = some r) : SndP K 14 [(.agg (TR.E_Reorder a0))] (vi r) := sndP_gt (TR.reorder_Check_p a0 h0)
theorem reorder_moment_p (a0 : Int) {r : Bool} (h0 : reorder_moment a0 = some r) : SndP K 41 [(vi a0)] (vb r) := sndP_gt (TR.reorder_moment_p a0 h0)
theorem reorder_number_p (a0 : Int) {r : Bool} (h0 : reorder_number a0 = some r) : SndP K 39 [(vi a0)] (vb r) := sndP_gt (TR.reorder_number_p a0 h0)
theorem reorder_note_p (a0 : Window) (a1 : Int) {r : Window} (h0 : reorder_note a0 a1 = some r) : SndP K 52 [(.agg (e_Window a0)), (vi a1)] (.agg (e_Window r)) := sndP_gt (TR.reorder_note_p a0 a1 h0)
theorem reorder_place_pE (a0 : Reorder) (a1 : Int) {r : (Int × Bool)} (h0 : reorder_place a0 a1 = some r) : SndP K 51 [(.agg (TR.E_Reorder a0)), (vi a1)] (.tup [(vi r.1), (vb r.2)]) := sndP_gt (TR.reorder_place_p a0 a1 h0)
end Go.AX.Z.TR.F

/-! (walks) -/

set_option linter.unusedSimpArgs false
set_option linter.unusedVariables false
set_option maxHeartbeats 4000000
set_option maxRecDepth 20000
namespace Go.AX.Z.TR
open Go.AX Go.Proofs
attribute [local irreducible] awp xw xop xcall gsp ob xd xdop xcallD seqQ loopQ blkQ endQ
attribute [local go_sem ↓] iop_and iop_or iop_xor iop_andn
attribute [local go_sem] Nat.reduceAdd
theorem header_Twin_p (a0 : Frame) {r : Frame} (h0 : header_Twin a0 = some r) : SndP K 54 [(.agg (E_Frame a0))] (.agg (E_Frame r)) := by
 refine SndP.of_walkW hC (Clean.agg (E_Frame_clean _)) (clean_cons (Clean.agg (E_Frame_clean _)) clean_nil) (show K.P.funcs[54]? = some Try.f54 from Try.func54) rfl rfl (by decide +kernel) (qB2 rfl) ?_; unfold header_Twin at h0; refine awp_nw [0] fun tz U u => ?_; (try simp only [go_sem]); refine qU u ?_; clear u U; refine awp_nw [1,2] fun tz U u => ?_; obtain ⟨x43, bx43, h0⟩ := bnd h0; have bx43 := chk_some bx43; simp only [Bool.and_eq_true, decide_eq_true_eq] at bx43; have gx43_0 := bx43; (try simp only [go_sem, gx43_0]); refine qU u ?_; clear u U; refine awp_nw [1,2] fun tz U u => ?_; (try simp only [go_sem]); refine qU u ?_; clear u U; refine awp_ret1 ?_; obtain rfl := someInj h0; refine endW_i ?_; refine end_ret0 rs54 qR ?_; exact qF
end Go.AX.Z.TR

/-! (walks) -/

set_option linter.unusedSimpArgs false
set_option linter.unusedVariables false
set_option linter.unusedSectionVars false
set_option maxHeartbeats 4000000
set_option maxRecDepth 20000
namespace Go.AX.Z.TR.F
open Go.AX Go.Proofs
variable [FN]

theorem fn_le {ρ : Rho} {V : View} {s : HS} {w : World} (hI : Inv ρ V s w) (hG : GtOk K V) : FN.n ≤ w.heap.size := by
 rcases Nat.eq_zero_or_pos (FN.n) with h | h
 ·
  omega
 ·
  obtain ⟨c, h1, _⟩ := hG (FN.n - 1) [] (if_pos (by omega))
  have := hI.view_lt h1
  omega

theorem fim_end {ρ ρ₀ ρ' : Rho} {V V' : View} {n : Nat} {s s' : HS} {w w' : World} {x : Frame} {q : Nat} {y : Value} (h3 : Inv ρ V s w) (hN : FN.n ≤ w.heap.size) (hl : s'.objs q = .live (List.map vu x.Body))
  (hrel : Rel ρ' V' (.agg (e_Frame x (.ref q 0 x.Body.length 1))) y) (hinv : Inv ρ' V' s' w') (hg : Grew ρ₀ V (deadH n) w ρ' V' s' w') :
  ∃ ρ' V', Rel ρ' V' (.agg (E_Frame x)) y ∧ Inv ρ' V' s w' ∧ Grew ρ V s w ρ' V' s w' := by
 have hgn : ∀ b c, VV ρ' V' s' w' b = some c → V b = some c ∨ w.heap.size ≤ b := by
  intro b c hv
  rcases VV_cases hv with h5 | ⟨h5, _⟩
  ·
   rcases hg.vnew b c h5 with h6 | h6 | h6
   ·
    exact .inl h6
   ·
    exact (own_dead h6).elim
   ·
    exact .inr h6
  ·
   rcases hg.own b h5 with h6 | h6
   ·
    exact (own_dead h6).elim
   ·
    exact .inr h6
 have hk : ∀ b, b < w.heap.size → w'.heap[b]? = w.heap[b]? := fun b hb => hg.keep b hb own_dead
 have hvm : ∀ b c, V b = some c → VV ρ' V' s' w' b = some c := fun b c hv => VV_mono _ _ (hg.view b c hv)
 have hview := (inv_VV hinv).view
 refine ⟨ρ, VV ρ' V' s' w', ?_, h3.keep hk hvm hgn hview, ⟨fun _ _ h => h, fun _ _ => rfl, Nat.le_refl _, hvm, hg.size, fun b hb _ => hk b hb, fun b hb => .inl hb, fun b c hv => (hgn b c hv).elim .inl fun h => .inr (.inr h), hg.mem⟩⟩
 cases hrel with
 | agg _ ys h1 H S =>
  refine .agg _ ys (by rw [h1]; rfl) (fun i a b ha hb => ?_) S
  have hlen : (e_Header x.Head).length = 40 := rfl
  by_cases hi : i < 40
  ·
   have e1 : (e_Header x.Head)[i]? = some a := by
    have : E_Frame x = e_Header x.Head ++ [T_vu x.Body] := rfl
    rw [this, List.getElem?_append_left (by omega)] at ha
    exact ha
   have e2 : (e_Frame x (.ref q 0 x.Body.length 1))[i]? = some a := by
    have : e_Frame x (.ref q 0 x.Body.length 1) = e_Header x.Head ++ [.ref q 0 x.Body.length 1] := rfl
    rw [this, List.getElem?_append_left (by omega)]
    exact e1
   have := H i a b e2 hb
   exact e_Header_clean x.Head a (List.mem_of_getElem? e1) _ _ _ _ (this.mono (fun _ _ h => h) VV_mono)
  ·
   have hi40 : i = 40 := by
    have : i < (E_Frame x).length := (List.getElem?_eq_some_iff.1 ha).1
    have e : (E_Frame x).length = 41 := rfl
    omega
   subst hi40
   have e1 : T_vu x.Body = a := by
    have : (E_Frame x)[40]? = some (T_vu x.Body) := rfl
    rw [this] at ha
    exact Option.some.inj ha
   have hb' := H 40 _ b (e_Frame_g_Body x _) hb
   subst e1
   generalize hlb : x.Body.length = lb at hb'
   cases hb' with
   | ref _ _ _ _ cap loc hρ hc hle =>
    obtain ⟨c, g1, g2⟩ := ob_VV hinv (.inl hl) hρ
    have hown : Own ρ' s' loc.b := ⟨q, _, loc, hl, hρ, rfl⟩
    have hnb : w.heap.size ≤ loc.b := by
     rcases hg.own _ hown with h6 | h6
     ·
      exact (own_dead h6).elim
     ·
      exact h6
    subst hlb
    exact .fim FN.n (List.map vu x.Body) x.Body.length loc.b (loc.base + 0) cap c g1 g2.le (fun i a b ha hb => vu_clean x.Body a (List.mem_of_getElem? ha) _ _ _ _ ((g2.rel i a b ha hb).mono (fun _ _ h => h) VV_mono)) g2.sto hle (Nat.le_trans hN hnb)
   | refE _ _ _ a => 
    have : x.Body = [] := List.eq_nil_of_length_eq_zero hlb
    rw [T_vu_eq, this]
    exact .fim0 _ _ _

attribute [local irreducible] awp xw xop xcall gsp ob xd xdop xcallD seqQ loopQ blkQ endQ
theorem header_Twin_s (a0 : Frame) {r : Frame} (h0 : header_Twin a0 = some r) : Snd TR.K 54 [(.agg (TR.E_Frame a0))] (deadH 0) fun r' s' => ∃ q, r' = .agg (e_Frame r (.ref q 0 r.Body.length 1)) ∧ s'.objs q = .live (List.map vu r.Body) := by
 refine snd_of_awpW TR.hC (show TR.K.P.funcs[54]? = some Try.f54 from Try.func54) rfl rfl (by decide +kernel) (Nat.le_of_ble_eq_true rfl) ?_
 show awp 0 TR.K _ (endW 0 TR.K _ _) { objs := fun _ => .dead, next := 0, tmps := arg [(.agg (TR.E_Frame a0))] }
 unfold header_Twin at h0
 refine awp_nr [0] (fun _ => rfl) fun tz => ?_
 refine awp_regW fun KK hKK => ?_
 refine xw_id ?_
 try simp only [go_sem, Nat.reduceAdd]
 refine hKK _ _ (Wk.refl _ _ _) ?_; clear hKK KK
 refine awp_nr [1,2] (fun _ => rfl) fun tz => ?_
 refine awp_regW fun KK hKK => ?_
 refine xw_id ?_
 obtain ⟨x43, bx43, h0⟩ := bnd h0
 have bx43 := chk_some bx43
 simp only [Bool.and_eq_true, decide_eq_true_eq] at bx43
 have gx43_0 := bx43
 try simp only [go_sem, Nat.reduceAdd, gx43_0]
 refine hKK _ _ (Wk.refl _ _ _) ?_; clear hKK KK
 refine awp_nr [1,2] (fun _ => rfl) fun tz => ?_
 refine awp_regW fun KK hKK => ?_
 refine xw_id ?_
 try simp only [go_sem, Nat.reduceAdd]
 refine hKK _ _ (Wk.refl _ _ _) ?_; clear hKK KK
 refine awp_ret1 ?_
 obtain rfl := someInj h0
 refine endW_i ?_
 refine end_ret0 rs54 (by simp only [go_sem, resV, resAll, resOf, packR, Nat.reduceAdd]; rfl) ?_
 try simp only [go_sem, Nat.reduceAdd]
 exact ⟨_, rfl, rfl⟩

theorem header_Twin_p (a0 : Frame) {r : Frame} (h0 : header_Twin a0 = some r) : SndP K 54 [(.agg (TR.E_Frame a0))] (.agg (E_Frame r)) := by
 refine ⟨Clean.agg (E_Frame_clean _), fun s => ⟨trivial, fun ρ V w args' h1 h2 h3 h4 => ?_⟩⟩
 have hN := fn_le h3 h4
 have h5 : Inv (fun _ => none) V (deadH 0) w := ⟨h3.view, fun _ _ => rfl, fun id cells loc hl => by simp [deadH] at hl, fun id cells loc hl => by simp [deadH] at hl, fun i j li lj ci cj hl => by simp [deadH] at hl⟩
 have hc : ∀ x ∈ [AV.agg (TR.E_Frame a0)], Clean x := clean_cons (Clean.agg (TR.E_Frame_clean _)) clean_nil
 refine ((header_Twin_s a0 h0).2 (fun _ => none) V w args' h1 (fun i x y hx hy => hc x (List.mem_of_getElem? hx) _ _ _ _ (h2 i x y hx hy)) h5 (fun _ _ hg => by cases hg)).mono ?_
 rintro e w' ⟨y, r', s', ρ', V', rfl, ⟨q, rfl, hl⟩, hrel, hinv, hg⟩
 obtain ⟨ρ2, V2, g1, g2, g3⟩ := fim_end h3 hN hl hrel hinv hg
 exact ⟨y, _, s, ρ2, V2, rfl, ⟨rfl, rfl⟩, g1, g2, g3⟩
end Go.AX.Z.TR.F

/-! (walks) -/

set_option linter.unusedSimpArgs false
set_option linter.unusedVariables false
set_option maxHeartbeats 4000000
set_option maxRecDepth 20000
namespace Go.AX.Z.TR.F
open Go.AX Go.Proofs
set_option linter.unusedSectionVars false
variable [FN]
attribute [local irreducible] awp xw xop xcall gsp ob xd xdop xcallD seqQ loopQ blkQ endQ
attribute [local go_sem ↓] iop_and iop_or iop_xor iop_andn
attribute [local go_sem] Nat.reduceAdd
def reorder_twin_S0 (d41 : (List HeldSeq)) : AS :=
 { objs := (upd (fun _ => .dead) 0 (.live (List.flatMap E_HeldSeq d41))), next := 1, tmps := (upd (fun _ => .unk) 2 (.ref 0 0 d41.length 42)) }

def reorder_twin_S1 (a0 : (List HeldSeq)) (d42 : (List HeldSeq × Int)) : AS :=
 { objs := (upd (fun _ => .dead) 0 (.live (List.flatMap E_HeldSeq d42.1))), next := 1, tmps := (upd (upd (upd (upd (fun _ => .unk) 2 (.ref 0 0 d42.1.length 42)) 5 (.imm (List.flatMap TR.E_HeldSeq a0) a0.length)) 6 (vi (a0.length : Int))) 7 (vi d42.2)) }

theorem reorder_twin_r (a0 : (List HeldSeq)) {r : (List HeldSeq)} (h0 : reorder_twin a0 = some r) : SndR K 43 [(TR.S_HeldSeq a0)] (fun q => (.ref (q 0) 0 r.length 42)) [(List.flatMap E_HeldSeq r)] := by
 refine SndR.of_walkW hC (show K.P.funcs[43]? = some Try.f43 from Try.func43) rfl rfl (by decide +kernel) (qB2 rfl) ?_; unfold reorder_twin at h0; refine awp_nw [0] fun tz U u => ?_; (try simp only [go_sem]); refine qU u ?_; clear u U; refine awp_assoc ?_; refine awp_nw [0,2] fun tz U u => ?_; (try simp only [go_sem]); refine qU u ?_; clear u U; obtain ⟨d41, hi1, h0⟩ := bnd h0; refine awp_cut (fun z => d41 = z) (fun d41 : (List HeldSeq) => reorder_twin_S0 d41) ?_ ?_
 ·
  refine awp_block1 ?_; refine awp_loopS (fun n (d42 : (List HeldSeq × Int)) => reorder_twin_L2 a0 n d42 = some d41) (fun d42 : (List HeldSeq × Int) => reorder_twin_S1 a0 d42) big ([], 0) (Wk.canonD [] [] [none] rfl trivial rfl (tmON 0 tmO0 rfl) (tA 7 (tA 6 (tA 5 (tA 2 tmAll0 tT) (tI (TR.c_HeldSeq _))) tv) tv)) hi1 ?_; clear hi1; rintro n d42 hl3; rcases n with _ | n2
  ·
   (rw [reorder_twin_L2] at hl3; cases hl3)
  ·
   rw [reorder_twin_L2] at hl3; unfold reorder_twin_S1; refine awp_nw [2,5,6,7] fun tz U u => ?_; (try simp only [go_sem]); refine qU u ?_; clear u U; refine awp_cond (b := (decide (d42.2 < (a0.length : Int)))) rfl (fun h4 => ?_) (fun h4 => ?_)
   ·
    have hl3 := cT hl3 h4; refine awp_skip ?_; refine awp_blockW ?_; refine awp_nw [2,5,6,7] fun tz U u => ?_; obtain ⟨x43, bx43, hl3⟩ := bnd hl3; obtain ⟨fx43_0, fx43_1, fx43_2, fx43_3⟩ := idx_some bx43; (try simp only [go_sem, fx43_0, fx43_1, fx43_2]); refine qU u ?_; clear u U; refine awp_nr1 [2,4,5,6,7] (fun _ => rfl) fun tz => ?_; refine awp_regD1 fun U u all hall => ?_; refine xd_id ?_; (try simp only [List.toList_toArray, List.map_cons, List.map_nil, List.size_toArray, List.length_cons, List.length_nil, Nat.zero_add]); (try simp only [Nat.reduceAdd]); obtain ⟨x44, bx44, hl3⟩ := bnd hl3; (iterate 3 ((try simp only [go_sem, -Nat.reduceAdd, fx43_0, fx43_1, fx43_2]); try simp only [Nat.reduceAdd])); (refine xcallD_p (header_Twin_p x43.Frame bx44) ?_; try dsimp only); (try refine xd_id ?_); obtain ⟨x45, bx45, hl3⟩ := bnd hl3; have bx45 := chk_some bx45; simp only [Bool.and_eq_true, decide_eq_true_eq] at bx45; have gx45_0 := bx45; (iterate 3 ((try simp only [go_sem, -Nat.reduceAdd, fx43_0, fx43_1, fx43_2, gx45_0]); try simp only [Nat.reduceAdd])); refine And.intro ?_ (u _ ?_)
    ·
     subst hall; clear u U; exact qP
    ·
     clear u U hall all; refine bq_n ?_; refine seqW_i ?_; refine awp_nw1 [2,5,6,7] fun tz U u => ?_; (try simp only [go_sem, fx43_0, fx43_1, fx43_2]); refine u _ ?_; clear u U; refine lq_n ?_; exact ⟨n2, ((d42.1 ++ [{ HeldSeq.z with At := x43.At, Frame := x44 }]), IntKind.wrap .i64 (d42.2 + 1)), rfl, hl3, (by refine Wk.canonD [] [] [some 14] rfl trivial rfl (tmOU 0 tmO0 rfl qM rfl (TmL.of_eq qL (c_HeldSeq _))) (tA 7 (tA 6 (tA 5 (tA 2 tmAll0 tr) (tI (TR.c_HeldSeq _))) tv) tv); all_goals exact qN)⟩
   ·
    have hl3 := cF hl3 h4; refine awp_exit ?_; refine lq_e ?_; refine bq_e ?_; refine sq_n ?_; obtain rfl := someInj hl3; exact ⟨_, rfl, (by refine Wk.canonD [] [] [some 0] rfl trivial rfl (tmOU 0 tmO0 rfl qM rfl (TmL.of_eq qL (c_HeldSeq _))) (tA 2 tmAll0 tr); all_goals exact qN)⟩
 ·
  rintro _ rfl; clear hi1; unfold reorder_twin_S0; refine awp_nw [2] fun tz U u => ?_; (try simp only [go_sem]); refine qU u ?_; clear u U; refine awp_ret1 ?_; obtain rfl := someInj h0; refine endW_i ?_; refine end_ret0 rs43 (rfl) ?_; refine Res.mk [] [some 0] rfl (resOU qM rfl (TmL.of_eq qL (c_HeldSeq _)) resO0) tr; (all_goals exact qN)


theorem reorder_twin_e (a0 : (List HeldSeq)) {r : (List HeldSeq)} (h0 : reorder_twin a0 = some r) (fr : Nat) (hs : HS) : SndE K 43 [(TR.S_HeldSeq a0)] hs fr ⟨(fun q : Nat → Nat => (.ref (q 0) 0 r.length 42)) fun _ => fr, .new (List.flatMap E_HeldSeq r)⟩ :=
 SndE.of_res (RenM.ref 0 0 _ _) (c_HeldSeq _) (clean_cons (TR.S_HeldSeq_clean _) clean_nil) (fun a b h => by simp only [h]) (reorder_twin_r a0 h0) hs fr
theorem reorder_place_1_p (a0 : HeldSeq) (a1 : Int) (a2 : Reorder) {r : Int} (h0 : reorder_place_1 a0 a1 a2 = some r) : SndP K 63 [(.agg (E_HeldSeq a0)), (vi a1), (.iptr (E_Reorder a2) 0)] (vi r) := by
 refine SndP.of_walkW hC cv (clean_cons (Clean.agg (E_HeldSeq_clean _)) (clean_cons cv (clean_cons (Clean.iptr (E_Reorder_clean _)) clean_nil))) (show K.P.funcs[63]? = some Try.f63 from Try.func63) rfl rfl (by decide +kernel) (qB2 rfl) ?_; unfold reorder_place_1 at h0; refine awp_nw [0,1,2] fun tz U u => ?_; (try simp only [go_sem]); refine qU u ?_; clear u U; refine awp_nw [1,2,3] fun tz U u => ?_; obtain ⟨x35, bx35, h0⟩ := bnd h0; (try simp only [go_sem]); (refine xcall_p (window_Dist_p a2.Start a0.Frame.Head.Seq bx35) ?_; try dsimp only); (try refine xw_id ?_); (try simp only [go_sem]); refine qU u ?_; clear u U; refine awp_ret1 ?_; obtain rfl := someInj h0; refine endW_i ?_; refine end_ret0 rs63 (rfl) ?_; exact qF
def slices_BinarySearchFunc_api_HeldSeq_api_HeldSeq_int_S0 (a0 : (List HeldSeq)) (a1 : Int) (a2 : Reorder) (d33 : Int) : AS :=
 { objs := (fun _ => .dead), next := 0, tmps := (upd (upd (upd (upd (upd (fun _ => .unk) 0 (.imm (List.flatMap E_HeldSeq a0) a0.length)) 1 (vi a1)) 2 (.clo 63 [] [(.iptr (e_Reorder a2 (.imm (List.flatMap E_HeldSeq a2.Held) a2.Held.length)) 0)])) 8 (vi (a0.length : Int))) 9 (vi d33)) }

def slices_BinarySearchFunc_api_HeldSeq_api_HeldSeq_int_S1 (a0 : (List HeldSeq)) (a1 : Int) (a2 : Reorder) (d34 : (Int × Int)) : AS :=
 { objs := (fun _ => .dead), next := 0, tmps := (upd (upd (upd (upd (upd (upd (fun _ => .unk) 0 (.imm (List.flatMap E_HeldSeq a0) a0.length)) 1 (vi a1)) 2 (.clo 63 [] [(.iptr (e_Reorder a2 (.imm (List.flatMap E_HeldSeq a2.Held) a2.Held.length)) 0)])) 8 (vi (a0.length : Int))) 9 (vi d34.1)) 10 (vi d34.2)) }

theorem slices_BinarySearchFunc_api_HeldSeq_api_HeldSeq_int_p (a0 : (List HeldSeq)) (a1 : Int) (a2 : Reorder) {r : (Int × Bool)} (h0 : slices_BinarySearchFunc_api_HeldSeq_api_HeldSeq_int a0 a1 a2 = some r) : SndP K 62 [(S_HeldSeq a0), (vi a1), (.clo 63 [] [(.iptr (E_Reorder a2) 0)])] (.tup [(vi r.1), (vb r.2)]) := by
 refine SndP.of_walkW hC (Clean.tup (clean_cons cv (clean_cons cv clean_nil))) (clean_cons (S_HeldSeq_clean _) (clean_cons cv (clean_cons (Clean.clo clean_nil (clean_cons (Clean.iptr (E_Reorder_clean _)) clean_nil)) clean_nil))) (show K.P.funcs[62]? = some Try.f62 from Try.func62) rfl rfl (by decide +kernel) (qB2 rfl) ?_; unfold slices_BinarySearchFunc_api_HeldSeq_api_HeldSeq_int at h0; refine awp_nw [0,1,2] fun tz U u => ?_; (try simp only [go_sem]); refine qU u ?_; clear u U; refine awp_nw [0,1,2] fun tz U u => ?_; (try simp only [go_sem]); refine qU u ?_; clear u U; refine awp_nw [0,1,2,8] fun tz U u => ?_; (try simp only [go_sem]); refine qU u ?_; clear u U; obtain ⟨d33, hi1, h0⟩ := bnd h0; refine awp_cut (fun z => d33 = z) (fun d33 : Int => slices_BinarySearchFunc_api_HeldSeq_api_HeldSeq_int_S0 a0 a1 a2 d33) ?_ ?_
 ·
  refine awp_block1 ?_; refine awp_loopS (fun n (d34 : (Int × Int)) => slices_BinarySearchFunc_api_HeldSeq_api_HeldSeq_int_L2 a0 a1 a2 n d34 = some d33) (fun d34 : (Int × Int) => slices_BinarySearchFunc_api_HeldSeq_api_HeldSeq_int_S1 a0 a1 a2 d34) big (0, (a0.length : Int)) (Wk.canonD [] [] [] rfl trivial rfl tmO0 (tA 10 (tA 9 (tA 8 (tA 2 (tA 1 (tA 0 tmAll0 (tI (c_HeldSeq _))) tv) (Tm.clo tn (tc (Tm.clean (Clean.iptr (E_Reorder_clean _))) tn))) tv) tv) tv)) hi1 ?_; clear hi1; rintro n d34 hl3; rcases n with _ | n2
  ·
   (rw [slices_BinarySearchFunc_api_HeldSeq_api_HeldSeq_int_L2] at hl3; cases hl3)
  ·
   rw [slices_BinarySearchFunc_api_HeldSeq_api_HeldSeq_int_L2] at hl3; unfold slices_BinarySearchFunc_api_HeldSeq_api_HeldSeq_int_S1; refine awp_assoc ?_; refine awp_nw [0,1,2,8,9,10] fun tz U u => ?_; (try simp only [go_sem]); refine qU u ?_; clear u U; refine awp_cond (b := (decide (d34.1 < d34.2))) rfl (fun h4 => ?_) (fun h4 => ?_)
   ·
    have hl3 := cT hl3 h4; refine awp_skip ?_; refine awp_block1 ?_; refine awp_nw [0,1,2,8,9,10] fun tz U u => ?_; (try simp only [go_sem]); refine qU u ?_; clear u U; refine awp_nw [0,1,2,8,9,10,11] fun tz U u => ?_; obtain ⟨x35, bx35, hl3⟩ := bnd hl3; obtain ⟨fx35_0, fx35_1, fx35_2, fx35_3⟩ := idx_some bx35; obtain ⟨x36, bx36, hl3⟩ := bnd hl3; (try simp only [go_sem, fx35_0, fx35_1, fx35_2]); (refine xcall_p (reorder_place_1_p x35 a1 a2 bx36) ?_; try dsimp only); (try refine xw_id ?_); (try simp only [go_sem, fx35_0, fx35_1, fx35_2]); refine qU u ?_; clear u U; refine awp_cond1 (b := (decide (x36 < 0))) rfl (fun h5 => ?_) (fun h5 => ?_)
    ·
     have hl3 := cT hl3 h5; refine awp_nw1 [0,1,2,8,10,11] fun tz U u => ?_; (try simp only [go_sem, fx35_0, fx35_1, fx35_2]); refine u _ ?_; clear u U; refine bq_n ?_; refine lq_n ?_; exact ⟨n2, (IntKind.wrap .i64 ((IntKind.wrap .i64 (((IntKind.wrap .u64 (IntKind.wrap .i64 (d34.1 + d34.2)))).fdiv (2 ^ (min 1 64)))) + 1), d34.2), rfl, hl3, (Wk.canonD [] [] [] rfl trivial rfl tmO0 (tA 10 (tA 9 (tA 8 (tA 2 (tA 1 (tA 0 tmAll0 (tI (c_HeldSeq _))) tv) (Tm.clo tn (tc (Tm.clean (Clean.iptr (E_Reorder_clean _))) tn))) tv) tv) tv))⟩
    ·
     have hl3 := cF hl3 h5; refine awp_nw1 [0,1,2,8,9,11] fun tz U u => ?_; (try simp only [go_sem, fx35_0, fx35_1, fx35_2]); refine u _ ?_; clear u U; refine bq_n ?_; refine lq_n ?_; exact ⟨n2, (d34.1, IntKind.wrap .i64 (((IntKind.wrap .u64 (IntKind.wrap .i64 (d34.1 + d34.2)))).fdiv (2 ^ (min 1 64)))), rfl, hl3, (Wk.canonD [] [] [] rfl trivial rfl tmO0 (tA 10 (tA 9 (tA 8 (tA 2 (tA 1 (tA 0 tmAll0 (tI (c_HeldSeq _))) tv) (Tm.clo tn (tc (Tm.clean (Clean.iptr (E_Reorder_clean _))) tn))) tv) tv) tv))⟩
   ·
    have hl3 := cF hl3 h4; refine awp_exit ?_; refine lq_e ?_; refine bq_e ?_; refine sq_n ?_; obtain rfl := someInj hl3; exact ⟨_, rfl, (Wk.canonD [] [] [] rfl trivial rfl tmO0 (tA 9 (tA 8 (tA 2 (tA 1 (tA 0 tmAll0 (tI (c_HeldSeq _))) tv) (Tm.clo tn (tc (Tm.clean (Clean.iptr (E_Reorder_clean _))) tn))) tv) tv))⟩
 ·
  rintro _ rfl; clear hi1; unfold slices_BinarySearchFunc_api_HeldSeq_api_HeldSeq_int_S0; refine awp_nw [0,1,2,8,9] fun tz U u => ?_; rcases bE (decide (d33 < (a0.length : Int))) with h6 | h6
  ·
   have h0 := cT h0 h6; obtain ⟨x37, bx37, h0⟩ := bnd h0; obtain ⟨fx37_0, fx37_1, fx37_2, fx37_3⟩ := idx_some bx37; obtain ⟨x38, bx38, h0⟩ := bnd h0; (try simp only [go_sem, h6, fx37_0, fx37_1, fx37_2]); (refine xcall_p (reorder_place_1_p x37 a1 a2 bx38) ?_; try dsimp only); (try refine xw_id ?_); (try simp only [go_sem, h6, fx37_0, fx37_1, fx37_2]); refine qU u ?_; clear u U; refine awp_ret1 ?_; obtain rfl := someInj h0; refine endW_i ?_; refine end_ret0 rs62 (rfl) ?_; exact qF
  ·
   have h0 := cF h0 h6; (try simp only [go_sem, h6]); refine qU u ?_; clear u U; refine awp_ret1 ?_; obtain rfl := someInj h0; refine endW_i ?_; refine end_ret0 rs62 (rfl) ?_; exact qF
theorem reorder_place_p (a0 : Reorder) (a1 : Int) {r : (Int × Bool)} (h0 : reorder_place a0 a1 = some r) : SndP K 51 [(.agg (E_Reorder a0)), (vi a1)] (.tup [(vi r.1), (vb r.2)]) := by
 refine SndP.of_walkW hC (Clean.tup (clean_cons cv (clean_cons cv clean_nil))) (clean_cons (Clean.agg (E_Reorder_clean _)) (clean_cons cv clean_nil)) (show K.P.funcs[51]? = some Try.f51 from Try.func51) rfl rfl (by decide +kernel) (qB2 rfl) ?_; unfold reorder_place at h0; refine awp_nw [0,1] fun tz U u => ?_; (try simp only [go_sem]); refine qU u ?_; clear u U; refine awp_nw [1,2] fun tz U u => ?_; obtain ⟨x32, bx32, h0⟩ := bnd h0; (try simp only [go_sem]); (refine xcall_p (window_Dist_p a0.Start a1 bx32) ?_; try dsimp only); (try refine xw_id ?_); obtain ⟨x33, bx33, h0⟩ := bnd h0; (try simp only [go_sem]); (refine xcall_L (by first | (simp only [go_sem, fz] <;> rfl) | (simp only [go_sem, fz, List.length_set, ble_self, take_set, cond_true, cond_false] <;> rfl)) (slices_BinarySearchFunc_api_HeldSeq_api_HeldSeq_int_p a0.Held x32 a0 bx33) (bare_ok (by rfl)) ?_; try dsimp only); (try refine xw_id ?_); (try simp only [go_sem]); refine qU u ?_; clear u U; refine awp_ret1 ?_; obtain rfl := someInj h0; refine endW_i ?_; refine end_ret0 rs51 (rfl) ?_; exact qF
def reorder_move_S0 (a0 : Reorder) (a1 : Int) (x53 : (Int × Bool)) (d55 : (List Frame)) : AS :=
 { objs := (upd (upd (upd (upd (fun _ => .dead) 0 (.live (List.flatMap E_HeldSeq a0.Held))) 1 (.live (e_Reorder a0 (.ref 0 0 a0.Held.length 42)))) 2 (.live (List.flatMap E_Frame d55))) 3 (.live (e_Reorder Reorder.z vnil))), next := 4, tmps := (upd (upd (upd (upd (upd (fun _ => .unk) 1 (vi a1)) 2 (.ptr 1 0)) 4 (.ref 2 0 d55.length 41)) 5 (.ptr 3 0)) 6 (vi x53.1)) }

def reorder_move_S1 (a0 : Reorder) (a1 : Int) (x53 : (Int × Bool)) (d56 : (List Frame × Nat × Int × Int)) : AS :=
 { objs := (upd (upd (upd (upd (fun _ => .dead) 0 (.live (List.flatMap E_HeldSeq a0.Held))) 1 (.live (e_Reorder a0 (.ref 0 0 a0.Held.length 42)))) 2 (.live (List.flatMap E_Frame d56.1))) 3 (.live (e_Reorder Reorder.z vnil))), next := 4, tmps := (upd (upd (upd (upd (upd (upd (upd (upd (fun _ => .unk) 1 (vi a1)) 2 (.ptr 1 0)) 4 (.ref 2 0 d56.1.length 41)) 5 (.ptr 3 0)) 6 (vi x53.1)) 19 (.ref 0 0 d56.2.1 42)) 20 (vi d56.2.2.1)) 21 (vi d56.2.2.2)) }

def reorder_move_S3 (d61 : (Reorder × List HeldSeq × List Frame)) : AS :=
 { objs := (upd (upd (upd (upd (fun _ => .dead) 1 (.live (e_Reorder d61.1 (.ref 2 0 d61.2.1.length 42)))) 2 (.live (List.flatMap E_HeldSeq d61.2.1))) 3 (.live (List.flatMap E_Frame d61.2.2))) 4 (.live (e_Reorder Reorder.z vnil))), next := 5, tmps := (upd (upd (upd (fun _ => .unk) 2 (.ptr 1 0)) 4 (.ref 3 0 d61.2.2.length 41)) 5 (.ptr 4 0)) }

def reorder_move_S4 (d62 : (Reorder × List HeldSeq × List Frame)) : AS :=
 { objs := (upd (upd (upd (upd (fun _ => .dead) 1 (.live (e_Reorder d62.1 (.ref 2 0 d62.2.1.length 42)))) 2 (.live (List.flatMap E_HeldSeq d62.2.1))) 3 (.live (List.flatMap E_Frame d62.2.2))) 4 (.live (e_Reorder Reorder.z vnil))), next := 5, tmps := (upd (upd (upd (fun _ => .unk) 2 (.ptr 1 0)) 4 (.ref 3 0 d62.2.2.length 41)) 5 (.ptr 4 0)) }

theorem reorder_move_io (a0 : Reorder) (a1 : Int) {r : (List Frame × Reorder × List HeldSeq)} (h0 : reorder_move a0 a1 = some r) : SndIO K 44 1 (fun q => [(.agg (e_Reorder a0 (.ref (q 0) 0 a0.Held.length 42))), (vi a1)]) [(fun q => (List.flatMap E_HeldSeq a0.Held))] (fun q => (.tup [(.ref (q 1) 0 r.1.length 41), (.agg (e_Reorder r.2.1 (.ref (q 2) 0 r.2.2.length 42)))])) [none, (some (fun q => (List.flatMap E_Frame r.1))), (some (fun q => (List.flatMap E_HeldSeq r.2.2)))] := by
 refine SndIO.of_walkW hC (RenML.cons (RenM.agg (e_Reorder_ren _ (RenM.ref 0 0 _ _))) (RenML.cons rv RenML.nil)) (tpl_cons (RenML.const (c_HeldSeq _)) tpl_nil) (otpl_none (otpl_some (RenML.const (c_Frame _)) (otpl_some (RenML.const (c_HeldSeq _)) otpl_nil))) (RenM.tup (RenML.cons (RenM.ref 1 0 _ _) (RenML.cons (RenM.agg (e_Reorder_ren _ (RenM.ref 2 0 _ _))) RenML.nil))) rfl (qB2 rfl) (show K.P.funcs[44]? = some Try.f44 from Try.func44) rfl rfl (by decide +kernel) (qB2 rfl) ?_; unfold reorder_move at h0; refine awp_nw [0,1] fun tz U u => ?_; (try simp only [go_sem]); refine qU u ?_; clear u U; refine awp_nw [1,2,4,5] fun tz U u => ?_; obtain ⟨x53, bx53, h0⟩ := bnd h0; (try simp only [go_sem]); (refine xcall_L (by first | (simp only [go_sem, fz] <;> rfl) | (simp only [go_sem, fz, List.length_set, ble_self, take_set, cond_true, cond_false] <;> rfl)) (reorder_place_p a0 a1 bx53) (bare_ok (by rfl)) ?_; try dsimp only); (try refine xw_id ?_); (try simp only [go_sem]); refine qU u ?_; clear u U; refine awp_assoc ?_; refine awp_nw [1,2,4,5,6] fun tz U u => ?_; obtain ⟨x54, bx54, h0⟩ := bnd h0; have bx54 := chk_some bx54; simp only [Bool.and_eq_true, decide_eq_true_eq] at bx54; obtain ⟨gx54_0, gx54_1⟩ := bx54; (try simp only [go_sem, gx54_0, gx54_1, Int.sub_zero]); refine qU u ?_; clear u U; obtain ⟨d55, hi1, h0⟩ := bnd h0; refine awp_cut (fun z => d55 = z) (fun d55 : (List Frame) => reorder_move_S0 a0 a1 x53 d55) ?_ ?_
 ·
  refine awp_block1 ?_; refine awp_loopS (fun n (d56 : (List Frame × Nat × Int × Int)) => reorder_move_L2 a0 n d56 = some d55) (fun d56 : (List Frame × Nat × Int × Int) => reorder_move_S1 a0 a1 x53 d56) big ([], (x53.1).toNat, (((x53.1).toNat : Nat) : Int), 0) (by refine Wk.canonD [] [] [some 0, some 1, none, some 3] rfl trivial rfl (tmOU 3 (tmON 2 (tmOU 1 (tmOU 0 tmO0 rfl qM rfl (TmL.of_eq qL (c_HeldSeq _))) rfl qM rfl (e_Reorder_tmx (by rfl) tr)) rfl) rfl qM rfl (e_Reorder_tmx (by rfl) tv)) (tA 21 (tA 20 (tA 19 (tA 6 (tA 5 (tA 4 (tA 2 (tA 1 tmAll0 tv) tp) tT) tp) tv) tr) tv) tv); all_goals exact qN) hi1 ?_; clear hi1; rintro n d56 hl3; rcases n with _ | n2
  ·
   (rw [reorder_move_L2] at hl3; cases hl3)
  ·
   rw [reorder_move_L2] at hl3; unfold reorder_move_S1; refine awp_nw [1,2,4,5,6,19,20,21] fun tz U u => ?_; (try simp only [go_sem]); refine qU u ?_; clear u U; refine awp_cond (b := (decide (d56.2.2.2 < d56.2.2.1))) rfl (fun h4 => ?_) (fun h4 => ?_)
   ·
    have hl3 := cT hl3 h4; refine awp_skip ?_; refine awp_blockW ?_; refine awp_nw [1,2,4,5,6,19,20,21] fun tz U u => ?_; obtain ⟨x57, bx57, hl3⟩ := bnd hl3; have bx57 := chk_some bx57; simp only [Bool.and_eq_true, decide_eq_true_eq] at bx57; have gx57_0 := bx57; obtain ⟨x58, bx58, hl3⟩ := bnd hl3; obtain ⟨fx58_0, fx58_1, fx58_2, fx58_3⟩ := idx_some bx58; (have fx58_5 : ((d56.2.2.2 : Int) < ((d56.2.1 : Nat) : Int)) = True := by first | exact fx58_1 | (simp [List.length_modify, List.length_set]; omega)); (try simp only [go_sem, gx57_0, fx58_0, fx58_1, fx58_2, fx58_5]); refine qU u ?_; clear u U; refine awp_nw1 [1,2,4,5,6,9,19,20,21] fun tz U u => ?_; obtain ⟨x59, bx59, hl3⟩ := bnd hl3; have bx59 := chk_some bx59; simp only [Bool.and_eq_true, decide_eq_true_eq] at bx59; have gx59_0 := bx59; (try simp only [go_sem, fx58_0, fx58_1, fx58_2, fx58_5, gx59_0]); refine u _ ?_; clear u U; refine bq_n ?_; refine seqW_i ?_; refine awp_nw1 [1,2,4,5,6,19,20,21] fun tz U u => ?_; (try simp only [go_sem, fx58_0, fx58_1, fx58_2, fx58_5]); refine u _ ?_; clear u U; refine lq_n ?_; exact ⟨n2, ((d56.1 ++ [x58.Frame]), d56.2.1, d56.2.2.1, IntKind.wrap .i64 (d56.2.2.2 + 1)), rfl, hl3, (by refine Wk.canonD [] [] [some 0, some 1, some 13, some 3] rfl trivial rfl (tmOU 3 (tmOU 2 (tmOU 1 (tmOU 0 tmO0 rfl qM rfl (TmL.of_eq qL (c_HeldSeq _))) rfl qM rfl (e_Reorder_tmx (by rfl) tr)) rfl qM rfl (TmL.of_eq qL (c_Frame _))) rfl qM rfl (e_Reorder_tmx (by rfl) tv)) (tA 21 (tA 20 (tA 19 (tA 6 (tA 5 (tA 4 (tA 2 (tA 1 tmAll0 tv) tp) tr) tp) tv) tr) tv) tv); all_goals exact qN)⟩
   ·
    have hl3 := cF hl3 h4; refine awp_exit ?_; refine lq_e ?_; refine bq_e ?_; refine sq_n ?_; obtain rfl := someInj hl3; exact ⟨_, rfl, (by refine Wk.canonD [] [] [some 0, some 1, some 2, some 3] rfl trivial rfl (tmOU 3 (tmOU 2 (tmOU 1 (tmOU 0 tmO0 rfl qM rfl (TmL.of_eq qL (c_HeldSeq _))) rfl qM rfl (e_Reorder_tmx (by rfl) tr)) rfl qM rfl (TmL.of_eq qL (c_Frame _))) rfl qM rfl (e_Reorder_tmx (by rfl) tv)) (tA 6 (tA 5 (tA 4 (tA 2 (tA 1 tmAll0 tv) tp) tr) tp) tv); all_goals exact qN)⟩
 ·
  rintro _ rfl; clear hi1; unfold reorder_move_S0; refine awp_nr [1,2,4,5,6] (fun _ => rfl) fun tz => ?_; refine awp_regDW fun U u all hall => ?_; refine xd_id ?_; (try simp only [List.toList_toArray, List.map_cons, List.map_nil, List.size_toArray, List.length_cons, List.length_nil, Nat.zero_add]); (try simp only [Nat.reduceAdd]); obtain ⟨x60, bx60, h0⟩ := bnd h0; have bx60 := chk_some bx60; simp only [Bool.and_eq_true, decide_eq_true_eq] at bx60; obtain ⟨gx60_0, gx60_1⟩ := bx60; (have g5 : (((a0.Held.length : Nat) : Int) - x53.1).toNat = a0.Held.length - (x53.1).toNat := by omega); (iterate 3 ((try simp only [go_sem, -Nat.reduceAdd, gx60_0, gx60_1, g5]); try simp only [Nat.reduceAdd])); refine And.intro ?_ (u _ _ (Wk.front 0 (((x53.1).toNat) * 42) [] [(1, (e_Reorder { a0 with Start := a1 } (.ref 13 0 (a0.Held.length - (x53.1).toNat) 42)))] (by decide) rfl (split_fm _ ((x53.1).toNat) a0.Held) (by rw [r_HeldSeq_len, List.length_take]; omega) trivial ⟨⟨by decide, by decide, _, rfl, (e_Reorder_frl _ (Fr.ref _ _ _ (by first | rfl | omega | (simp; done) | (simp; omega))))⟩, trivial⟩) ?_)
  ·
   subst hall; clear u U; exact qP
  ·
   clear u U hall all; obtain ⟨d61, hi6, h0⟩ := bnd h0; refine awp_cut (fun z => d61 = z) (fun d61 : (Reorder × List HeldSeq × List Frame) => reorder_move_S3 d61) ?_ ?_
   ·
    refine awp_block1 ?_; refine awp_loopS (fun n (d62 : (Reorder × List HeldSeq × List Frame)) => reorder_move_L5 n d62 = some d61) (fun d62 : (Reorder × List HeldSeq × List Frame) => reorder_move_S4 d62) big ({ a0 with Start := a1 }, (List.drop ((x53.1).toNat) a0.Held), d55) (by refine Wk.canonD [] [0] [some 0, some 1, some 13, some 2, some 3] rfl ⟨rfl, trivial⟩ rfl (tmOU 4 (tmOU 3 (tmOU 2 (tmOU 1 tmO0 rfl qM rfl (e_Reorder_tmx (by rfl) tr)) rfl qM rfl (TmL.of_eq qL (c_HeldSeq _))) rfl qM rfl (TmL.of_eq qL (c_Frame _))) rfl qM rfl (e_Reorder_tmx (by rfl) tv)) (tA 5 (tA 4 (tA 2 tmAll0 tp) tr) tp); all_goals exact qN) hi6 ?_; clear hi6; rintro n d62 hl8; rcases n with _ | n7
    ·
     (rw [reorder_move_L5] at hl8; cases hl8)
    ·
     rw [reorder_move_L5] at hl8; unfold reorder_move_S4; refine awp_assoc ?_; refine awp_nw [2,4,5] fun tz U u => ?_; refine xw_stop 5 qS qS (by rfl) fun V v => ?_; refine xw_id ?_; (try simp only [go_sem]); refine v _ ?_; clear v V; obtain ⟨x64, hvh9, hl8⟩ := bnd hl8; refine xw_cut 11 [(2, (.ptr 1 0)), (4, (.ref 3 0 d62.2.2.length 41)), (5, (.ptr 4 0)), (53, (vb x64))] qS qS (by rfl) (fun V v => ?_) fun tz => ?_
     ·
      refine xw_id ?_; rcases bE (decide (0 < ((d62.2.1.length : Nat) : Int))) with h9 | h9
      ·
       have hvh9 := cT hvh9 h9; obtain ⟨x63, bx63, hvh9⟩ := bnd hvh9; obtain ⟨fx63_0, fx63_1, fx63_2, fx63_3⟩ := idx_some bx63; (have fx63_5 : ((0 : Int) < ((d62.2.1.length : Nat) : Int)) = True := by first | exact fx63_1 | (simp [List.length_modify, List.length_set]; omega)); simp only [Int.reduceToNat] at fx63_2 fx63_3; (try simp only [go_sem, h9, fx63_0, fx63_1, fx63_2, r_HeldSeq_getL, r_HeldSeq_subL, Nat.reduceDiv, Nat.reduceMod, fx63_5]); obtain rfl := someInj hvh9; exact v _ ⟨rfl, rfl, rfl, rfl, (qB h9), trivial⟩
      ·
       have hvh9 := cF hvh9 h9; (try simp only [go_sem, h9]); obtain rfl := someInj hvh9; exact v _ ⟨rfl, rfl, rfl, rfl, (qB h9), trivial⟩
     ·
      refine xw_id ?_; (try simp only [go_sem]); refine qU u ?_; clear u U; refine awp_cond (b := x64) rfl (fun h10 => ?_) (fun h10 => ?_)
      ·
       have hl8 := cT hl8 h10; refine awp_skip ?_; refine awp_block1 ?_; refine awp_nw [2,4,5] fun tz U u => ?_; obtain ⟨x65, bx65, hl8⟩ := bnd hl8; obtain ⟨fx65_0, fx65_1, fx65_2, fx65_3⟩ := idx_some bx65; (have fx65_5 : ((0 : Int) < ((d62.2.1.length : Nat) : Int)) = True := by first | exact fx65_1 | (simp [List.length_modify, List.length_set]; omega)); simp only [Int.reduceToNat] at fx65_2 fx65_3; obtain ⟨x66, bx66, hl8⟩ := bnd hl8; have bx66 := chk_some bx66; simp only [Bool.and_eq_true, decide_eq_true_eq] at bx66; have gx66_0 := bx66; (try simp only [go_sem, fx65_0, fx65_1, fx65_2, r_HeldSeq_getL, r_HeldSeq_subL, Nat.reduceDiv, Nat.reduceMod, fx65_5, gx66_0]); refine qU u ?_; clear u U; refine awp_nr1 [2,4,5] (fun _ => rfl) fun tz => ?_; refine awp_regD1 fun U u all hall => ?_; refine xd_id ?_; (try simp only [List.toList_toArray, List.map_cons, List.map_nil, List.size_toArray, List.length_cons, List.length_nil, Nat.zero_add]); (try simp only [Nat.reduceAdd]); obtain ⟨x67, bx67, hl8⟩ := bnd hl8; (iterate 3 ((try simp only [go_sem, -Nat.reduceAdd, fx65_0, fx65_1, fx65_2, fx65_5]); try simp only [Nat.reduceAdd])); (refine xcallD_p (window_Add_p d62.1.Start 1 bx67) ?_; try dsimp only); (try refine xd_id ?_); obtain ⟨x68, bx68, hl8⟩ := bnd hl8; have bx68 := chk_some bx68; simp only [Bool.and_eq_true, decide_eq_true_eq] at bx68; have gx68_0 := bx68; (have g11 : (((d62.2.1.length : Nat) : Int) - 1).toNat = d62.2.1.length - 1 := by omega); (iterate 3 ((try simp only [go_sem, -Nat.reduceAdd, fx65_0, fx65_1, fx65_2, fx65_5, gx68_0, g11]); try simp only [Nat.reduceAdd])); refine And.intro ?_ (u _ ((clQ_blk clQ_loop) _ _ (Wk.front 2 (1 * 42) [] [(1, (e_Reorder { d62.1 with Start := x67 } (.ref 40 0 (d62.2.1.length - 1) 42)))] (by decide) rfl (split_fm _ 1 d62.2.1) (by rw [r_HeldSeq_len, List.length_take]; omega) trivial ⟨⟨by decide, by decide, _, rfl, (e_Reorder_frl _ (Fr.ref _ _ _ (by first | rfl | omega | (simp; done) | (simp; omega))))⟩, trivial⟩) ?_))
       ·
        subst hall; clear u U; exact qP
       ·
        clear u U hall all; refine bq_n ?_; refine lq_n ?_; exact ⟨n7, ({ d62.1 with Start := x67 }, (List.drop 1 d62.2.1), (d62.2.2 ++ [x65.Frame])), rfl, hl8, (by refine Wk.canonD [] [0] [some 0, some 1, some 40, some 28, some 4] rfl ⟨rfl, trivial⟩ rfl (tmOU 4 (tmOU 3 (tmOU 2 (tmOU 1 tmO0 rfl qM rfl (e_Reorder_tmx (by rfl) tr)) rfl qM rfl (TmL.of_eq qL (c_HeldSeq _))) rfl qM rfl (TmL.of_eq qL (c_Frame _))) rfl qM rfl (e_Reorder_tmx (by rfl) tv)) (tA 5 (tA 4 (tA 2 tmAll0 tp) tr) tp); all_goals exact qN)⟩
      ·
       have hl8 := cF hl8 h10; refine awp_exit ?_; refine lq_e ?_; refine bq_e ?_; refine sq_n ?_; obtain rfl := someInj hl8; exact ⟨_, rfl, (by refine Wk.canonD [] [0] [some 0, some 1, some 2, some 3, some 4] rfl ⟨rfl, trivial⟩ rfl (tmOU 4 (tmOU 3 (tmOU 2 (tmOU 1 tmO0 rfl qM rfl (e_Reorder_tmx (by rfl) tr)) rfl qM rfl (TmL.of_eq qL (c_HeldSeq _))) rfl qM rfl (TmL.of_eq qL (c_Frame _))) rfl qM rfl (e_Reorder_tmx (by rfl) tv)) (tA 5 (tA 4 (tA 2 tmAll0 tp) tr) tp); all_goals exact qN)⟩
   ·
    rintro _ rfl; clear hi6; unfold reorder_move_S3; refine awp_nr [2,4,5] (fun _ => rfl) fun tz => ?_; refine awp_regDW fun U u all hall => ?_; refine xd_id ?_; (try simp only [List.toList_toArray, List.map_cons, List.map_nil, List.size_toArray, List.length_cons, List.length_nil, Nat.zero_add]); (try simp only [Nat.reduceAdd]); (iterate 3 ((try simp only [go_sem, -Nat.reduceAdd]); try simp only [Nat.reduceAdd])); refine And.intro ?_ (u _ _ (Wk.refl _ _ _) ?_)
    ·
     subst hall; clear u U; exact qP
    ·
     clear u U hall all; refine awp_ret1 ?_; obtain rfl := someInj h0; refine endW_i ?_; refine end_ret0 rs44 qR ?_; refine ResIO.mk [] [some 0, some 3, some 2] rfl (resED (resEU qM rfl (TmL.of_eq qL (c_Frame _)) (resEU qM rfl (TmL.of_eq qL (c_HeldSeq _)) resE0))) (Tm.tup (tc tr (tc (Tm.agg (e_Reorder_tmx (by rfl) tr)) tn))); (all_goals exact qN)
theorem slices_Insert_api_HeldSeq_api_HeldSeq_0_io (a0 : Int) (a1 : List HeldSeq) (a2 : List HeldSeq) {r : (List HeldSeq)} (h0 : slices_Insert_api_HeldSeq_api_HeldSeq_0 a0 a1 a2 = some r) : SndIO K 53 2 (fun q => [(.ref (q 0) 0 a1.length 42), (vi a0), (.ref (q 1) 0 a2.length 42)]) [(fun q => (List.flatMap E_HeldSeq a1)), (fun q => (List.flatMap E_HeldSeq a2))] (fun q => (.ref (q 2) 0 r.length 42)) [none, (some (fun q => (List.flatMap E_HeldSeq a2))), (some (fun q => (List.flatMap E_HeldSeq r)))] := by
 refine SndIO.of_walkW hC (RenML.cons (RenM.ref 0 0 _ _) (RenML.cons rv (RenML.cons (RenM.ref 1 0 _ _) RenML.nil))) (tpl_cons (RenML.const (c_HeldSeq _)) (tpl_cons (RenML.const (c_HeldSeq _)) tpl_nil)) (otpl_none (otpl_some (RenML.const (c_HeldSeq _)) (otpl_some (RenML.const (c_HeldSeq _)) otpl_nil))) (RenM.ref 2 0 _ _) rfl (qB2 rfl) (show K.P.funcs[53]? = some Try.f53 from Try.func53) rfl rfl (by decide +kernel) (qB2 rfl) ?_; unfold slices_Insert_api_HeldSeq_api_HeldSeq_0 at h0; refine awp_nw [0,1,2] fun tz U u => ?_; (try simp only [go_sem]); refine qU u ?_; clear u U; refine awp_nw [0,1,2] fun tz U u => ?_; obtain ⟨x48, bx48, h0⟩ := bnd h0; have bx48 := chk_some bx48; simp only [Bool.and_eq_true, decide_eq_true_eq] at bx48; obtain ⟨gx48_0, gx48_1⟩ := bx48; (have g1 : (((a1.length : Nat) : Int) - a0).toNat = a1.length - (a0).toNat := by omega); (try simp only [go_sem, gx48_0, gx48_1, g1]); refine qU u ?_; clear u U; refine awp_nw [0,1,2] fun tz U u => ?_; (try simp only [go_sem]); refine qU u ?_; clear u U; refine awp_assoc ?_; refine awp_nw [0,1,2,7] fun tz U u => ?_; (try simp only [go_sem]); refine qU u ?_; clear u U; refine awp_cond (b := (((a2.length : Nat) : Int) == 0)) rfl (fun h2 => ?_) (fun h2 => ?_)
 ·
  have h0 := cT h0 h2; refine awp_assoc ?_; refine awp_nw [0] fun tz U u => ?_; (try simp only [go_sem]); refine qU u ?_; clear u U; refine awp_ret ?_; obtain rfl := someInj h0; refine endW_i ?_; refine end_ret0 rs53 (rfl) ?_; refine ResIO.mk [] [some 0, some 1, some 0] rfl (resED (resEU qM rfl (TmL.of_eq qL (c_HeldSeq _)) (resEU qM rfl (TmL.of_eq qL (c_HeldSeq _)) resE0))) tr; (all_goals exact qN)
 ·
  have h0 := cF h0 h2; refine awp_skip ?_; refine awp_nw [0,1,2,7] fun tz U u => ?_; (try simp only [go_sem]); refine qU u ?_; clear u U; refine awp_assoc ?_; refine awp_nw [0,1,2,7,8] fun tz U u => ?_; (try simp only [go_sem]); refine qU u ?_; clear u U; refine awp_cond (b := (a0 == ((a1.length : Nat) : Int))) rfl (fun h3 => ?_) (fun h3 => ?_)
  ·
   have h0 := cT h0 h3; refine awp_assoc ?_; refine awp_nw [0,2] fun tz U u => ?_; obtain ⟨x49, bx49, h0⟩ := bnd h0; have bx49 := chk_some bx49; simp only [Bool.and_eq_true, decide_eq_true_eq] at bx49; have gx49_0 := bx49; (try simp only [go_sem, gx49_0]); refine qU u ?_; clear u U; refine awp_ret ?_; obtain rfl := someInj h0; refine endW_i ?_; refine end_ret0 rs53 (rfl) ?_; refine ResIO.mk [] [some 0, some 1, some 19] rfl (resED (resEU qM rfl (TmL.of_eq qL (c_HeldSeq _)) (resEU qM rfl (TmL.of_eq qL (c_HeldSeq _)) resE0))) tr; (all_goals exact qN)
  ·
   have h0 := cF h0 h3; refine awp_skip ?_; refine awp_assoc ?_; refine awp_nw [0,1,2,7,8] fun tz U u => ?_; cases h0

theorem slices_Insert_api_HeldSeq_api_HeldSeq_io (a0 : Int) (a1 : List HeldSeq) (a2 : List HeldSeq) {r : (List HeldSeq)} (h0 : slices_Insert_api_HeldSeq_api_HeldSeq a0 a1 a2 = some r) : SndIO K 53 2 (fun q => [(.ref (q 0) 0 a1.length 42), (vi a0), (.ref (q 1) 0 a2.length 42)]) [(fun q => (List.flatMap E_HeldSeq a1)), (fun q => (List.flatMap E_HeldSeq a2))] (fun q => (.ref (q 2) 0 ((r).length) 42)) [none, (some (fun q => (List.flatMap E_HeldSeq a2))), (some (fun q => (List.flatMap E_HeldSeq r)))] := by
 unfold slices_Insert_api_HeldSeq_api_HeldSeq at h0; obtain ⟨x13, bx13, h0⟩ := bnd h0; have bx13' := bx13; have bx13 := chk_some bx13; simp only [Bool.and_eq_true, decide_eq_true_eq] at bx13; obtain ⟨gx13_0, gx13_1⟩ := bx13; have bx13' := bx13'; obtain ⟨i, rfl⟩ : ∃ i : Nat, a0 = (i : Int) := ⟨a0.toNat, by omega⟩; rcases bE (((a2.length : Nat) : Int) == 0) with h2 | h2
 ·
  exact slices_Insert_api_HeldSeq_api_HeldSeq_0_io _ _ _ (by unfold slices_Insert_api_HeldSeq_api_HeldSeq_0; simp only [bx13', Option.bind_some, h2, cond_true]; exact cT h0 h2)
 have h0 := cF h0 h2; rcases bE (((i : Nat) : Int) == ((a1.length : Nat) : Int)) with h3 | h3
 ·
  exact slices_Insert_api_HeldSeq_api_HeldSeq_0_io _ _ _ (by unfold slices_Insert_api_HeldSeq_api_HeldSeq_0; simp only [bx13', Option.bind_some, h2, cond_false, h3, cond_true]; exact cT h0 h3)
 have h0 := cF h0 h3; obtain ⟨x15, bx15, h0⟩ := bnd h0; have bx15 := chk_some bx15; simp only [Bool.and_eq_true, decide_eq_true_eq] at bx15; obtain ⟨hm, hb⟩ := bx15; obtain rfl := someInj h0; (have hne : (i : Int) ≠ (a1.length : Int) := by simpa using h3); (have hlt : i < a1.length := by omega); simp only [Int.toNat_natCast]; refine SndIO.of_walkC hC (RenML.cons (RenM.ref 0 0 _ _) (RenML.cons rv (RenML.cons (RenM.ref 1 0 _ _) RenML.nil))) (tpl_cons (RenML.const (c_HeldSeq _)) (tpl_cons (RenML.const (c_HeldSeq _)) tpl_nil)) (otpl_none (otpl_some (RenML.const (c_HeldSeq _)) (otpl_some (RenML.const (c_HeldSeq _)) otpl_nil))) (RenM.ref 2 0 _ _) rfl (qB2 rfl) (show K.P.funcs[53]? = some Try.f53 from Try.func53) rfl rfl (by decide +kernel) (qB2 rfl) rfl (by omega) fun cap hcap => ?_; have g0 : (0 ≤ (i : Int)) = True := eq_true (by omega); have g1 : ((i : Int) ≤ (a1.length : Int)) = True := eq_true (by omega); have g2 : ((a1.length : Int) ≤ (cap : Int)) = True := eq_true (by omega); have g3 : ((i : Int) < (cap : Int)) = True := eq_true (by omega); (have hw1 : IntKind.wrap .i64 ((a1.length : Int) + 1) = (a1.length : Int) + 1 := by rw [IntKind.wrap_i64]; omega); (have hw2 : IntKind.wrap .i64 ((a1.length : Int) + 1 - (i : Int)) = (a1.length : Int) + 1 - (i : Int) := by rw [IntKind.wrap_i64]; omega); have hLr : ∀ l : List HeldSeq, (List.flatMap E_HeldSeq l).length = l.length * 42 := fun l => r_HeldSeq_len l; (repeat refine awp_assoc ?_); refine awp_nw [0,1,2] fun tz U u => ?_; (try simp only [go_sem, Nat.reduceEqDiff, reduceIte, Nat.reduceMul, Nat.reduceSub, Nat.reduceLT, Nat.reduceLeDiff, Int.reduceToNat, Int.reduceBEq, Int.reduceBNe, Int.reduceLT, Int.reduceLE, Int.reduceAdd, Int.reduceSub, Int.reduceMul, Int.reduceNeg, Int.reduceEq, Int.reduceNe, g0, g1, g2, g3, hm, hLr, Int.sub_zero, Int.toNat_natCast, Nat.sub_zero]); refine qU u ?_; clear u U; (repeat refine awp_assoc ?_); refine awp_nw [0,1,2] fun tz U u => ?_; (try simp only [go_sem, Nat.reduceEqDiff, reduceIte, Nat.reduceMul, Nat.reduceSub, Nat.reduceLT, Nat.reduceLeDiff, Int.reduceToNat, Int.reduceBEq, Int.reduceBNe, Int.reduceLT, Int.reduceLE, Int.reduceAdd, Int.reduceSub, Int.reduceMul, Int.reduceNeg, Int.reduceEq, Int.reduceNe, g0, g1, g2, g3, hm, hLr, Int.sub_zero, Int.toNat_natCast, Nat.sub_zero]); refine qU u ?_; clear u U; (repeat refine awp_assoc ?_); refine awp_nw [0,1,2] fun tz U u => ?_; (try simp only [go_sem, Nat.reduceEqDiff, reduceIte, Nat.reduceMul, Nat.reduceSub, Nat.reduceLT, Nat.reduceLeDiff, Int.reduceToNat, Int.reduceBEq, Int.reduceBNe, Int.reduceLT, Int.reduceLE, Int.reduceAdd, Int.reduceSub, Int.reduceMul, Int.reduceNeg, Int.reduceEq, Int.reduceNe, g0, g1, g2, g3, hm, hLr, Int.sub_zero, Int.toNat_natCast, Nat.sub_zero]); refine qU u ?_; clear u U; refine awp_assoc ?_; (repeat refine awp_assoc ?_); refine awp_nw [0,1,2,7] fun tz U u => ?_; (try simp only [go_sem, Nat.reduceEqDiff, reduceIte, Nat.reduceMul, Nat.reduceSub, Nat.reduceLT, Nat.reduceLeDiff, Int.reduceToNat, Int.reduceBEq, Int.reduceBNe, Int.reduceLT, Int.reduceLE, Int.reduceAdd, Int.reduceSub, Int.reduceMul, Int.reduceNeg, Int.reduceEq, Int.reduceNe, g0, g1, g2, g3, hm, hLr, Int.sub_zero, Int.toNat_natCast, Nat.sub_zero]); refine qU u ?_; clear u U; refine awp_cond (b := false) rfl (fun h => by cases h) (fun _ => ?_); refine awp_skip ?_; (repeat refine awp_assoc ?_); refine awp_nw [0,1,2,7] fun tz U u => ?_; (try simp only [go_sem, Nat.reduceEqDiff, reduceIte, Nat.reduceMul, Nat.reduceSub, Nat.reduceLT, Nat.reduceLeDiff, Int.reduceToNat, Int.reduceBEq, Int.reduceBNe, Int.reduceLT, Int.reduceLE, Int.reduceAdd, Int.reduceSub, Int.reduceMul, Int.reduceNeg, Int.reduceEq, Int.reduceNe, g0, g1, g2, g3, hm, hLr, Int.sub_zero, Int.toNat_natCast, Nat.sub_zero]); refine qU u ?_; clear u U; refine awp_assoc ?_; (repeat refine awp_assoc ?_); refine awp_nw [0,1,2,7,8] fun tz U u => ?_; (try simp only [go_sem, Nat.reduceEqDiff, reduceIte, Nat.reduceMul, Nat.reduceSub, Nat.reduceLT, Nat.reduceLeDiff, Int.reduceToNat, Int.reduceBEq, Int.reduceBNe, Int.reduceLT, Int.reduceLE, Int.reduceAdd, Int.reduceSub, Int.reduceMul, Int.reduceNeg, Int.reduceEq, Int.reduceNe, g0, g1, g2, g3, hm, hLr, Int.sub_zero, Int.toNat_natCast, Nat.sub_zero]); refine qU u ?_; clear u U; refine awp_cond (b := (((i : Nat) : Int) == ((a1.length : Nat) : Int))) rfl (fun h => absurd h (by simp only [beq_iff_eq]; omega)) (fun _ => ?_); refine awp_skip ?_; refine awp_assoc ?_; (repeat refine awp_assoc ?_); refine awp_nw [0,1,2,7,8] fun tz U u => ?_; (try simp only [go_sem, Nat.reduceEqDiff, reduceIte, Nat.reduceMul, Nat.reduceSub, Nat.reduceLT, Nat.reduceLeDiff, Int.reduceToNat, Int.reduceBEq, Int.reduceBNe, Int.reduceLT, Int.reduceLE, Int.reduceAdd, Int.reduceSub, Int.reduceMul, Int.reduceNeg, Int.reduceEq, Int.reduceNe, g0, g1, g2, g3, hm, hLr, Int.sub_zero, Int.toNat_natCast, Nat.sub_zero, hw1]); refine qU u ?_; clear u U; refine awp_cond (b := decide ((cap : Int) < (a1.length : Int) + 1)) rfl (fun h3 => ?_) (fun h3 => ?_)
 ·
  have h3 := of_decide_eq_true h3; refine awp_assoc ?_; (have elI : elS K.P 3 = none := by kernel_rfl); (have e1 : ((i : Int) + ((a1.length : Int) + 1 - (i : Int))) = (a1.length : Int) + 1 := by omega); (have e2 : ((a1.length : Int) + 1 - (i : Int)).toNat = a1.length + 1 - i := by omega); (have e3 : (i + (a1.length + 1 - i)) = a1.length + 1 := by omega); have e4 : (0 < (a1.length : Int) + 1 - (i : Int)) = True := eq_true (by omega); have e5 : ((a1.length : Int) + 1 - (i : Int) < 9223372036854775808) = True := eq_true (by omega); have e6 : ((cap : Int) < (a1.length : Int) + 1) = True := eq_true h3; have e7 : (((a1.length : Int) + 1) * 112 ≤ 140737488355328) = True := eq_true (by omega); have e8 : (i * 42 ≤ a1.length * 42) = True := eq_true (by omega); have e9 : ((i : Int) ≤ (cap : Int)) = True := eq_true (by omega); have e10 : ((0 : Int) < (cap : Int)) = True := eq_true (by omega); obtain ⟨c0, hc0⟩ : ∃ c, c = (List.flatMap E_HeldSeq (List.take i a1)) ++ rep (a1.length + 1 - i) (e_HeldSeq HeldSeq.z vnil) := ⟨_, rfl⟩; (have hl0 : c0.length = (a1.length + 1) * 42 := by rw [hc0, List.length_append, hLr, List.length_take, rep_length]; rw [e_HeldSeq_len]; omega); (repeat refine awp_assoc ?_); refine awp_nw [0,1,2,7,8] fun tz U u => ?_; (try simp only [go_sem, Nat.reduceEqDiff, reduceIte, Nat.reduceMul, Nat.reduceSub, Nat.reduceLT, Nat.reduceLeDiff, Int.reduceToNat, Int.reduceBEq, Int.reduceBNe, Int.reduceLT, Int.reduceLE, Int.reduceAdd, Int.reduceSub, Int.reduceMul, Int.reduceNeg, Int.reduceEq, Int.reduceNe, g0, g1, g2, g3, hm, hLr, Int.sub_zero, Int.toNat_natCast, Nat.sub_zero, hw1, hw2, e1, e2, e3, e4, e5, e6, e7, e8, e9, e10, elI, ← hc0]); refine qU u ?_; clear u U; have f1 : ((i : Int) ≤ ((a1.length + 1 : Nat) : Int)) = True := eq_true (by omega); (have f2 : (((a1.length + 1 : Nat) : Int) - (i : Int)).toNat = a1.length + 1 - i := by omega); (have s2 : sub? (List.flatMap E_HeldSeq a2) 0 42 = some (List.flatMap E_HeldSeq a2) := by unfold sub?; rw [if_pos (by rw [hLr, hm]; omega), List.drop_zero, List.take_of_length_le (by rw [hLr, hm]; omega)]); have t2 : List.take 42 (List.flatMap E_HeldSeq a2) = (List.flatMap E_HeldSeq a2) := List.take_of_length_le (by rw [hLr, hm]; omega); (have m1 : min 1 (a1.length + 1 - i) = 1 := by omega); have q1 : (i * 42 + 42 ≤ c0.length) = True := eq_true (by rw [hl0]; omega); obtain ⟨c1, hc1⟩ : ∃ c, c = putAt c0 (i * 42) (List.flatMap E_HeldSeq a2) := ⟨_, rfl⟩; (have hl1 : c1.length = (a1.length + 1) * 42 := by rw [hc1, putAt_length, hl0]); (repeat refine awp_assoc ?_); refine awp_nw [0,1,2,7,8,9] fun tz U u => ?_; (try simp only [go_sem, Nat.reduceEqDiff, reduceIte, Nat.reduceMul, Nat.reduceSub, Nat.reduceLT, Nat.reduceLeDiff, Int.reduceToNat, Int.reduceBEq, Int.reduceBNe, Int.reduceLT, Int.reduceLE, Int.reduceAdd, Int.reduceSub, Int.reduceMul, Int.reduceNeg, Int.reduceEq, Int.reduceNe, g0, g1, g2, g3, hm, hLr, Int.sub_zero, Int.toNat_natCast, Nat.sub_zero, f1, f2, s2, t2, m1, q1, ← hc1]); refine qU u ?_; clear u U; have f3 : ((i : Int) + 1 ≤ ((a1.length + 1 : Nat) : Int)) = True := eq_true (by omega); (have f4 : (((a1.length + 1 : Nat) : Int) - ((i : Int) + 1)).toNat = a1.length - i := by omega); (have f5 : ((i : Int) + 1).toNat = i + 1 := by omega); (have f6 : ((a1.length : Int) - (i : Int)).toNat = a1.length - i := by omega); have f7 : (0 ≤ (i : Int) + 1) = True := eq_true (by omega); (have hw3 : IntKind.wrap .i64 ((i : Int) + 1) = (i : Int) + 1 := by rw [IntKind.wrap_i64]; omega); have s3 : sub? (List.flatMap E_HeldSeq a1) (i * 42) ((a1.length - i) * 42) = some (List.flatMap E_HeldSeq (List.drop i a1)) := rows_subD l_HeldSeq a1 i (by omega); have t3 : List.take ((a1.length - i) * 42) (List.flatMap E_HeldSeq (List.drop i a1)) = (List.flatMap E_HeldSeq (List.drop i a1)) := List.take_of_length_le (by rw [hLr, List.length_drop]; exact Nat.le_refl _); have q2 : ((i + 1) * 42 + (a1.length - i) * 42 ≤ c1.length) = True := eq_true (by rw [hl1]; omega); have m2 : min (a1.length - i) (a1.length - i) = a1.length - i := Nat.min_self _
  have hfin : putAt c1 ((i + 1) * 42) (List.flatMap E_HeldSeq (List.drop i a1)) = (List.flatMap E_HeldSeq (List.take i a1 ++ a2 ++ List.drop i a1)) := by
   have := ins_grow (fun l => (List.flatMap E_HeldSeq l)) 42 (fun l => r_HeldSeq_len l) (fun x y => List.flatMap_append) a1 a2 i hm hlt (e_HeldSeq HeldSeq.z vnil) (by rw [e_HeldSeq_len]); rw [hc1, hc0]; simpa using this
  (repeat refine awp_assoc ?_); refine awp_nr [0,1,2,7,8,9] (fun _ => rfl) fun tz => ?_; refine awp_regDW fun U u all hall => ?_; refine xd_id ?_; (try simp only [go_sem, Nat.reduceEqDiff, reduceIte, Nat.reduceMul, Nat.reduceSub, Nat.reduceLT, Nat.reduceLeDiff, Int.reduceToNat, Int.reduceBEq, Int.reduceBNe, Int.reduceLT, Int.reduceLE, Int.reduceAdd, Int.reduceSub, Int.reduceMul, Int.reduceNeg, Int.reduceEq, Int.reduceNe, g0, g1, g2, g3, hm, hLr, Int.sub_zero, Int.toNat_natCast, Nat.sub_zero, f3, f4, f5, f6, f7, hw3, s3, t3, q2, m2, hfin]); refine And.intro ?_ (u _ _ (Wk.refl _ _ _) ?_)
  ·
   subst hall; clear u U; (first | (simp [printsOk, apartP, clash, meet]; done) | (simp [printsOk, apartP, clash, meet]; decide +kernel) | decide +kernel)
  ·
   clear u U hall all; (repeat refine awp_assoc ?_); refine awp_nw [0,1,2,7,8,9] fun tz U u => ?_; (try simp only [go_sem, Nat.reduceEqDiff, reduceIte, Nat.reduceMul, Nat.reduceSub, Nat.reduceLT, Nat.reduceLeDiff, Int.reduceToNat, Int.reduceBEq, Int.reduceBNe, Int.reduceLT, Int.reduceLE, Int.reduceAdd, Int.reduceSub, Int.reduceMul, Int.reduceNeg, Int.reduceEq, Int.reduceNe, g0, g1, g2, g3, hm, hLr, Int.sub_zero, Int.toNat_natCast, Nat.sub_zero]); refine qU u ?_; clear u U; (repeat refine awp_assoc ?_); refine awp_ret ?_; refine endW_i ?_; refine end_ret0 rs53 (rfl) ?_; refine ResIO.mk [] [some 0, some 1, some 31] rfl (resED (resEU qM (by simp only [upd_get, Nat.reduceEqDiff, reduceIte, Nat.reduceMul, Nat.reduceSub, Nat.reduceLT, Nat.reduceLeDiff, Int.reduceToNat, Int.reduceBEq, Int.reduceBNe, Int.reduceLT, Int.reduceLE, Int.reduceAdd, Int.reduceSub, Int.reduceMul, Int.reduceNeg, Int.reduceEq, Int.reduceNe, Nat.reduceAdd, if_true, if_false] <;> rfl) (TmL.of_eq rfl (c_HeldSeq _)) (resEU qM (by simp only [upd_get, Nat.reduceEqDiff, reduceIte, Nat.reduceMul, Nat.reduceSub, Nat.reduceLT, Nat.reduceLeDiff, Int.reduceToNat, Int.reduceBEq, Int.reduceBNe, Int.reduceLT, Int.reduceLE, Int.reduceAdd, Int.reduceSub, Int.reduceMul, Int.reduceNeg, Int.reduceEq, Int.reduceNe, Nat.reduceAdd, if_true, if_false] <;> rfl) (TmL.of_eq rfl (c_HeldSeq _)) resE0))) tr; (all_goals (first | rfl | (simp only [List.length_append, List.length_take, List.length_drop, hm]; omega)))
 ·
  have h3 := of_decide_eq_false h3; refine awp_skip ?_; have k0 : (0 ≤ (a1.length : Int) + 1) = True := eq_true (by omega); have k1 : ((a1.length : Int) + 1 ≤ (cap : Int)) = True := eq_true (by omega); have k2 : ((0 : Int) < (cap : Int)) = True := eq_true (by omega); (have k3 : ((a1.length : Int) + 1).toNat = a1.length + 1 := by omega); (repeat refine awp_assoc ?_); refine awp_nw [0,1,2,7,8] fun tz U u => ?_; (try simp only [go_sem, Nat.reduceEqDiff, reduceIte, Nat.reduceMul, Nat.reduceSub, Nat.reduceLT, Nat.reduceLeDiff, Int.reduceToNat, Int.reduceBEq, Int.reduceBNe, Int.reduceLT, Int.reduceLE, Int.reduceAdd, Int.reduceSub, Int.reduceMul, Int.reduceNeg, Int.reduceEq, Int.reduceNe, g0, g1, g2, g3, hm, hLr, Int.sub_zero, Int.toNat_natCast, Nat.sub_zero, hw1, k0, k1, k2, k3]); refine qU u ?_; clear u U; have f3 : ((i : Int) + 1 ≤ ((a1.length + 1 : Nat) : Int)) = True := eq_true (by omega); (have f4 : (((a1.length + 1 : Nat) : Int) - ((i : Int) + 1)).toNat = a1.length - i := by omega); (have f5 : ((i : Int) + 1).toNat = i + 1 := by omega); (have f6 : (((a1.length + 1 : Nat) : Int) - (i : Int)).toNat = a1.length + 1 - i := by omega); have f7 : (0 ≤ (i : Int) + 1) = True := eq_true (by omega); have f8 : ((i : Int) + 1 < (cap : Int)) = True := eq_true (by omega); have f9 : (((a1.length + 1 : Nat) : Int) ≤ (cap : Int)) = True := eq_true (by omega); have f1 : ((i : Int) ≤ ((a1.length + 1 : Nat) : Int)) = True := eq_true (by omega); (have hw3 : IntKind.wrap .i64 ((i : Int) + 1) = (i : Int) + 1 := by rw [IntKind.wrap_i64]; omega); (repeat refine awp_assoc ?_); refine awp_nw [0,1,2,7,8] fun tz U u => ?_; (try simp only [go_sem, Nat.reduceEqDiff, reduceIte, Nat.reduceMul, Nat.reduceSub, Nat.reduceLT, Nat.reduceLeDiff, Int.reduceToNat, Int.reduceBEq, Int.reduceBNe, Int.reduceLT, Int.reduceLE, Int.reduceAdd, Int.reduceSub, Int.reduceMul, Int.reduceNeg, Int.reduceEq, Int.reduceNe, g0, g1, g2, g3, hm, hLr, Int.sub_zero, Int.toNat_natCast, Nat.sub_zero, f3, f4, f5, f6, f7, f8, f9, hw3]); refine xcall_g (overlaps_apart (tS := 22) (tR := 4) (show K.P.funcs[66]? = some Try.f66 from Try.func66) rfl rfl rfl (by kernel_rfl) (elS_eq el22) sz58 (by omega) (by simp only [upd_get, Nat.reduceEqDiff, reduceIte]; rfl) (by simp only [upd_get, Nat.reduceEqDiff, reduceIte]; rfl) (by decide) (by omega) (by omega)) ?_; rintro r hs ⟨rfl, rfl⟩; refine xw_id ?_; (try simp only [go_sem, Nat.reduceEqDiff, reduceIte, Nat.reduceMul, Nat.reduceSub, Nat.reduceLT, Nat.reduceLeDiff, Int.reduceToNat, Int.reduceBEq, Int.reduceBNe, Int.reduceLT, Int.reduceLE, Int.reduceAdd, Int.reduceSub, Int.reduceMul, Int.reduceNeg, Int.reduceEq, Int.reduceNe, g0, g1, g2, g3, hm, hLr, Int.sub_zero, Int.toNat_natCast, Nat.sub_zero]); refine qU u ?_; clear u U; (repeat refine awp_assoc ?_); refine awp_cond (b := true) rfl (fun _ => ?_) (fun h => by cases h); obtain ⟨c1, hc1⟩ : ∃ c, c = (List.flatMap E_HeldSeq (List.take (i + 1) a1 ++ List.drop i a1)) ++ List.drop ((i + 1) * 42 + (a1.length - i) * 42) (List.flatMap E_HeldSeq a1) := ⟨_, rfl⟩; obtain ⟨hl1, hfin⟩ := ins_room (fun l => (List.flatMap E_HeldSeq l)) 42 (fun l => r_HeldSeq_len l) (fun x y => List.flatMap_append) (fun x n => rows_take l_HeldSeq x n) a1 a2 i hlt (c1 := c1) (by rw [hc1, List.flatMap_append, rows_take l_HeldSeq]); (try simp only [Nat.mul_one] at hfin hl1); have s3 : sub? (List.flatMap E_HeldSeq a1) (i * 42) ((a1.length - i) * 42) = some (List.flatMap E_HeldSeq (List.drop i a1)) := rows_subD l_HeldSeq a1 i (by omega); (have m2 : min (a1.length + 1 - i) (a1.length - i) = a1.length - i := by omega); have q2 : ((i + 1) * 42 ≤ a1.length * 42) = True := eq_true (by omega); (have s9 : sub? (List.flatMap E_HeldSeq a1) (i * 42) ((a1.length + 1 - i) * 42) = none := by unfold sub?; rw [if_neg]; rw [hLr]; omega); (repeat refine awp_assoc ?_); refine awp_nr [0,1,2,7,8] (fun _ => rfl) fun tz => ?_; refine awp_regDW fun U u all hall => ?_; refine xd_id ?_; (try simp only [go_sem, Nat.reduceEqDiff, reduceIte, Nat.reduceMul, Nat.reduceSub, Nat.reduceLT, Nat.reduceLeDiff, Int.reduceToNat, Int.reduceBEq, Int.reduceBNe, Int.reduceLT, Int.reduceLE, Int.reduceAdd, Int.reduceSub, Int.reduceMul, Int.reduceNeg, Int.reduceEq, Int.reduceNe, g0, g1, g2, g3, hm, hLr, Int.sub_zero, Int.toNat_natCast, Nat.sub_zero, f1, f3, f4, f5, f6, f7, f8, f9, hw3, s3, s9, m2, q2, ← hc1]); refine And.intro ?_ (u _ _ (Wk.refl _ _ _) ?_)
  ·
   subst hall; clear u U; (first | (simp [printsOk, apartP, clash, meet]; done) | (simp [printsOk, apartP, clash, meet]; decide +kernel) | decide +kernel)
  ·
   clear u U hall all; (have s2 : sub? (List.flatMap E_HeldSeq a2) 0 42 = some (List.flatMap E_HeldSeq a2) := by unfold sub?; rw [if_pos (by rw [hLr, hm]; omega), List.drop_zero, List.take_of_length_le (by rw [hLr, hm]; omega)]); have t2 : List.take 42 (List.flatMap E_HeldSeq a2) = (List.flatMap E_HeldSeq a2) := List.take_of_length_le (by rw [hLr, hm]; omega); (have m1 : min 1 (a1.length + 1 - i) = 1 := by omega); have q1 : (i * 42 ≤ c1.length) = True := eq_true (by rw [hl1]; omega); (repeat refine awp_assoc ?_); refine awp_nw [0,1,2,7,8] fun tz U u => ?_; (try simp only [go_sem, Nat.reduceEqDiff, reduceIte, Nat.reduceMul, Nat.reduceSub, Nat.reduceLT, Nat.reduceLeDiff, Int.reduceToNat, Int.reduceBEq, Int.reduceBNe, Int.reduceLT, Int.reduceLE, Int.reduceAdd, Int.reduceSub, Int.reduceMul, Int.reduceNeg, Int.reduceEq, Int.reduceNe, g0, g1, g2, g3, hm, hLr, Int.sub_zero, Int.toNat_natCast, Nat.sub_zero, f1, f6, f7, f9, s2, t2, m1, q1, hfin]); refine qU u ?_; clear u U; (repeat refine awp_assoc ?_); refine awp_nw [0,1,2,7,8] fun tz U u => ?_; (try simp only [go_sem, Nat.reduceEqDiff, reduceIte, Nat.reduceMul, Nat.reduceSub, Nat.reduceLT, Nat.reduceLeDiff, Int.reduceToNat, Int.reduceBEq, Int.reduceBNe, Int.reduceLT, Int.reduceLE, Int.reduceAdd, Int.reduceSub, Int.reduceMul, Int.reduceNeg, Int.reduceEq, Int.reduceNe, g0, g1, g2, g3, hm, hLr, Int.sub_zero, Int.toNat_natCast, Nat.sub_zero]); refine u _ _ (Wk.cap 6 (by simp only [upd_get, Nat.reduceEqDiff, reduceIte]; rfl)) ?_; clear u U; (repeat refine awp_assoc ?_); refine awp_ret ?_; refine endW_i ?_; refine end_ret0 rs53 (rfl) ?_; refine ResIO.mk [] [some 0, some 1, some 0] rfl (resED (resEU qM (by simp only [upd_get, Nat.reduceEqDiff, reduceIte, Nat.reduceMul, Nat.reduceSub, Nat.reduceLT, Nat.reduceLeDiff, Int.reduceToNat, Int.reduceBEq, Int.reduceBNe, Int.reduceLT, Int.reduceLE, Int.reduceAdd, Int.reduceSub, Int.reduceMul, Int.reduceNeg, Int.reduceEq, Int.reduceNe, Nat.reduceAdd, if_true, if_false] <;> rfl) (TmL.of_eq rfl (c_HeldSeq _)) (resEU qM (by simp only [upd_get, Nat.reduceEqDiff, reduceIte, Nat.reduceMul, Nat.reduceSub, Nat.reduceLT, Nat.reduceLeDiff, Int.reduceToNat, Int.reduceBEq, Int.reduceBNe, Int.reduceLT, Int.reduceLE, Int.reduceAdd, Int.reduceSub, Int.reduceMul, Int.reduceNeg, Int.reduceEq, Int.reduceNe, Nat.reduceAdd, if_true, if_false] <;> rfl) (TmL.of_eq rfl (c_HeldSeq _)) resE0))) tr; (all_goals (first | rfl | (simp only [List.length_append, List.length_take, List.length_drop, hm]; omega)))
def reorder_Put_S0 (a0 : Reorder) (a1 : Frame) (a2 : Int) (x16 : Int) : AS :=
 { objs := (upd (upd (upd (fun _ => .dead) 0 (.live (e_Reorder a0 (.imm (List.flatMap TR.E_HeldSeq a0.Held) a0.Held.length)))) 1 (.live (e_Frame a1 (.imm (List.map vu a1.Body) a1.Body.length)))) 2 (.live (e_Reorder Reorder.z vnil))), next := 3, tmps := (upd (upd (upd (upd (upd (upd (fun _ => .unk) 2 (vi a2)) 3 (.ptr 0 0)) 4 (.ptr 1 0)) 7 (.ptr 2 0)) 9 (vi a1.Head.Seq)) 10 (vi x16)) }

def reorder_Put_S1 (a0 : Reorder) (a1 : Frame) (a2 : Int) (x20 : Int) (x21 : (Int × Bool)) : AS :=
 { objs := (upd (upd (upd (fun _ => .dead) 0 (.live (e_Reorder a0 (.imm (List.flatMap TR.E_HeldSeq a0.Held) a0.Held.length)))) 1 (.live (e_Frame a1 (.imm (List.map vu a1.Body) a1.Body.length)))) 2 (.live (e_Reorder Reorder.z vnil))), next := 3, tmps := (upd (upd (upd (upd (upd (upd (upd (upd (fun _ => .unk) 2 (vi a2)) 3 (.ptr 0 0)) 4 (.ptr 1 0)) 7 (.ptr 2 0)) 9 (vi a1.Head.Seq)) 11 (vi x20)) 12 (vi x21.1)) 13 (vb x21.2)) }

def reorder_Put_S2 (a0 : Reorder) (x22 : Window) (x25 : (List HeldSeq)) (a1 : Frame) (x20 : Int) : AS :=
 { objs := (upd (upd (upd (fun _ => .dead) 0 (.live (e_Reorder { a0 with Seen := x22 } (.ref 1 0 x25.length 42)))) 1 (.live (List.flatMap E_HeldSeq x25))) 2 (.live (e_Reorder Reorder.z vnil))), next := 3, tmps := (upd (upd (upd (upd (fun _ => .unk) 3 (.ptr 0 0)) 7 (.ptr 2 0)) 9 (vi a1.Head.Seq)) 11 (vi x20)) }

def reorder_Put_S3 (a0 : Reorder) (x22 : Window) (x25 : (List HeldSeq)) (d26 : Int) : AS :=
 { objs := (upd (upd (upd (fun _ => .dead) 0 (.live (e_Reorder { a0 with Seen := x22 } (.ref 1 0 x25.length 42)))) 1 (.live (List.flatMap E_HeldSeq x25))) 2 (.live (e_Reorder Reorder.z vnil))), next := 3, tmps := (upd (upd (upd (fun _ => .unk) 3 (.ptr 0 0)) 7 (.ptr 2 0)) 14 (vi d26)) }

theorem reorder_Put_r (a0 : Reorder) (a1 : Frame) (a2 : Int) {r : ((List Frame) × Reorder × Int)} (h0 : reorder_Put a0 a1 a2 = some r) : SndR K 28 [(.agg (TR.E_Reorder a0)), (.agg (TR.E_Frame a1)), (vi a2)] (fun q => (.tup [(.ref (q 0) 0 r.1.length 41), (.agg (e_Reorder r.2.1 (.ref (q 1) 0 r.2.1.Held.length 42))), (vi r.2.2)])) [(List.flatMap E_Frame r.1), (List.flatMap E_HeldSeq r.2.1.Held)] := by
 refine SndR.of_walkW hC (show K.P.funcs[28]? = some Try.f28 from Try.func28) rfl rfl (by decide +kernel) (qB2 rfl) ?_; unfold reorder_Put at h0; refine awp_nw [0,1,2] fun tz U u => ?_; (try simp only [go_sem]); refine qU u ?_; clear u U; refine awp_nw [2,3,4,7] fun tz U u => ?_; (try simp only [go_sem]); refine qU u ?_; clear u U; refine awp_assoc ?_; refine awp_nw [2,3,4,7,9] fun tz U u => ?_; obtain ⟨x16, bx16, h0⟩ := bnd h0; (try simp only [go_sem]); (refine xcall_p (reorder_Check_p a0 bx16) ?_; try dsimp only); (try refine xw_id ?_); (try simp only [go_sem]); refine u _ (reorder_Put_S0 a0 a1 a2 x16) (Wk.canonD [] [] [some 0, some 1, some 3] rfl trivial rfl (tmOU 2 (tmOU 1 (tmOU 0 tmO0 rfl qM rfl (e_Reorder_tmx (by rfl) (tI (TR.c_HeldSeq _)))) rfl qM rfl (e_Frame_tmx (by rfl) (tI (vu_clean _)))) rfl qM rfl (e_Reorder_tmx (by rfl) tv)) (tA 10 (tA 9 (tA 7 (tA 4 (tA 3 (tA 2 tmAll0 tv) tp) tp) tp) tv) tv)) ?_; clear u U; unfold reorder_Put_S0; refine awp_assoc ?_; refine awp_nw [2,3,4,7,9,10] fun tz U u => ?_; (try simp only [go_sem]); refine qU u ?_; clear u U; refine awp_cond (b := (x16 != 0)) rfl (fun h1 => ?_) (fun h1 => ?_)
 ·
  have h0 := cT h0 h1; refine awp_assoc ?_; refine awp_nw [7,10] fun tz U u => ?_; (try simp only [go_sem]); refine qU u ?_; clear u U; refine awp_ret ?_; obtain rfl := someInj h0; refine endW_i ?_; refine end_ret0 rs28 qR ?_; refine Res.mk [] [none, none] rfl (resON (resON resO0)) (Tm.tup (tc tT (tc (Tm.agg (e_Reorder_tmx (by rfl) tT)) (tc tv tn))))
 ·
  have h0 := cF h0 h1; refine awp_skip ?_; refine awp_assoc ?_; refine awp_nw [2,3,4,7,9] fun tz U u => ?_; obtain ⟨x17, bx17, h0⟩ := bnd h0; (try simp only [go_sem]); (refine xcall_p (reorder_moment_p a2 bx17) ?_; try dsimp only); (try refine xw_id ?_); refine xw_stop 2 qS qS (by rfl) fun V v => ?_; refine xw_id ?_; (try simp only [go_sem]); refine v _ ?_; clear v V; obtain ⟨x19, hvh2, h0⟩ := bnd h0; refine xw_cut 4 [(2, (vi a2)), (3, (.ptr 0 0)), (4, (.ptr 1 0)), (7, (.ptr 2 0)), (9, (vi a1.Head.Seq)), (31, (vb x19))] qS qS (by rfl) (fun V v => ?_) fun tz => ?_
  ·
   refine xw_id ?_; rcases bE (!x17) with h2 | h2
   ·
    have hvh2 := cT hvh2 h2; (try simp only [go_sem, h2]); obtain rfl := someInj hvh2; exact v _ ⟨rfl, rfl, rfl, rfl, rfl, rfl, (qB h2), trivial⟩
   ·
    have hvh2 := cF hvh2 h2; obtain ⟨x18, bx18, hvh2⟩ := bnd hvh2; (try simp only [go_sem, h2]); (refine xcall_p (reorder_number_p a1.Head.Seq bx18) ?_; try dsimp only); (try refine xw_id ?_); (try simp only [go_sem, h2]); obtain rfl := someInj hvh2; exact v _ ⟨rfl, rfl, rfl, rfl, rfl, rfl, (qB h2), trivial⟩
  ·
   refine xw_id ?_; (try simp only [go_sem]); refine qU u ?_; clear u U; refine awp_cond (b := x19) rfl (fun h3 => ?_) (fun h3 => ?_)
   ·
    have h0 := cT h0 h3; refine awp_assoc ?_; refine awp_nw [7] fun tz U u => ?_; (try simp only [go_sem]); refine qU u ?_; clear u U; refine awp_ret ?_; obtain rfl := someInj h0; refine endW_i ?_; refine end_ret0 rs28 qR ?_; refine Res.mk [] [none, none] rfl (resON (resON resO0)) (Tm.tup (tc tT (tc (Tm.agg (e_Reorder_tmx (by rfl) tT)) (tc tv tn))))
   ·
    have h0 := cF h0 h3; refine awp_skip ?_; refine awp_nw [2,3,4,7,9] fun tz U u => ?_; obtain ⟨x20, bx20, h0⟩ := bnd h0; (try simp only [go_sem]); (refine xcall_p (window_Dist_p a0.Start a1.Head.Seq bx20) ?_; try dsimp only); (try refine xw_id ?_); (try simp only [go_sem]); refine qU u ?_; clear u U; refine awp_nw [2,3,4,7,9,11] fun tz U u => ?_; obtain ⟨x21, bx21, h0⟩ := bnd h0; (try simp only [go_sem]); (refine xcall_p (reorder_place_pE a0 a1.Head.Seq bx21) ?_; try dsimp only); (try refine xw_id ?_); (try simp only [go_sem]); refine u _ (reorder_Put_S1 a0 a1 a2 x20 x21) (Wk.canonD [] [] [some 0, some 1, some 2] rfl trivial rfl (tmOU 2 (tmOU 1 (tmOU 0 tmO0 rfl qM rfl (e_Reorder_tmx (by rfl) (tI (TR.c_HeldSeq _)))) rfl qM rfl (e_Frame_tmx (by rfl) (tI (vu_clean _)))) rfl qM rfl (e_Reorder_tmx (by rfl) tv)) (tA 13 (tA 12 (tA 11 (tA 9 (tA 7 (tA 4 (tA 3 (tA 2 tmAll0 tv) tp) tp) tp) tv) tv) tv) tv)) ?_; clear u U; unfold reorder_Put_S1; refine awp_assoc ?_; refine awp_nw [2,3,4,7,9,11,12,13] fun tz U u => ?_; refine xw_stop 3 qS qS (by rfl) fun V v => ?_; refine xw_id ?_; (try simp only [go_sem]); refine v _ ?_; clear v V; refine xw_cut 2 [(2, (vi a2)), (3, (.ptr 0 0)), (4, (.ptr 1 0)), (7, (.ptr 2 0)), (9, (vi a1.Head.Seq)), (11, (vi x20)), (12, (vi x21.1)), (47, (vb ((decide (2048 ≤ x20)) || x21.2)))] qS qS (by rfl) (fun V v => ?_) fun tz => ?_
    ·
     refine xw_id ?_; rcases bE (decide (2048 ≤ x20)) with h4 | h4
     ·
      (try simp only [go_sem, h4]); exact v _ ⟨rfl, rfl, rfl, rfl, rfl, rfl, rfl, rfl, (qB h4), trivial⟩
     ·
      (try simp only [go_sem, h4]); exact v _ ⟨rfl, rfl, rfl, rfl, rfl, rfl, rfl, rfl, (qB h4), trivial⟩
    ·
     refine xw_id ?_; (try simp only [go_sem]); refine qU u ?_; clear u U; refine awp_cond (b := ((decide (2048 ≤ x20)) || x21.2)) rfl (fun h5 => ?_) (fun h5 => ?_)
     ·
      have h0 := cT h0 h5; refine awp_assoc ?_; refine awp_nw [7] fun tz U u => ?_; (try simp only [go_sem]); refine qU u ?_; clear u U; refine awp_ret ?_; obtain rfl := someInj h0; refine endW_i ?_; refine end_ret0 rs28 qR ?_; refine Res.mk [] [none, none] rfl (resON (resON resO0)) (Tm.tup (tc tT (tc (Tm.agg (e_Reorder_tmx (by rfl) tT)) (tc tv tn))))
     ·
      have h0 := cF h0 h5; refine awp_skip ?_; refine awp_nw [2,3,4,7,9,11,12] fun tz U u => ?_; obtain ⟨x22, bx22, h0⟩ := bnd h0; (try simp only [go_sem]); (refine xcall_p (reorder_note_p a0.Seen a1.Head.Seq bx22) ?_; try dsimp only); (try refine xw_id ?_); (try simp only [go_sem]); refine qU u ?_; clear u U; refine awp_nr [2,3,4,7,9,11,12] (fun _ => rfl) fun tz => ?_; refine awp_regDW fun U u all hall => ?_; refine xd_id ?_; (try simp only [List.toList_toArray, List.map_cons, List.map_nil, List.size_toArray, List.length_cons, List.length_nil, Nat.zero_add]); (try simp only [Nat.reduceAdd]); obtain ⟨x23, bx23, h0⟩ := bnd h0; (iterate 3 ((try simp only [go_sem, -Nat.reduceAdd]); try simp only [Nat.reduceAdd])); (refine xcallD_E (reorder_twin_e a0.Held bx23 _) ?_; try dsimp only); (try refine xd_id ?_); obtain ⟨x24, bx24, h0⟩ := bnd h0; (iterate 3 ((try simp only [go_sem, -Nat.reduceAdd]); try simp only [Nat.reduceAdd])); (refine xcallD_p (header_Twin_p a1 bx24) ?_; try dsimp only); (try refine xd_id ?_); obtain ⟨x25, bx25, h0⟩ := bnd h0; (iterate 3 ((try simp only [go_sem, -Nat.reduceAdd]); try simp only [Nat.reduceAdd])); (refine xcallD_O [16, 22] (slices_Insert_api_HeldSeq_api_HeldSeq_io x21.1 x23 [{ HeldSeq.z with At := a2, Frame := x24 }] bx25) (by decide) (by decide) ⟨qG, qG, trivial⟩ qG (by subst hall; decide +kernel) (by subst hall; first | decide +kernel | (simp [printsOk, apartP, clash, meet]; done) | (simp [printsOk, apartP, clash, meet]; decide +kernel)) ?_; try dsimp only); (try refine xd_id ?_); (iterate 3 ((try simp only [go_sem, -Nat.reduceAdd, lc, ln]); try simp only [Nat.reduceAdd])); refine And.intro ?_ (u _ (reorder_Put_S2 a0 x22 x25 a1 x20) (by refine Wk.canonD [] [] [some 0, some 26, some 2] rfl trivial rfl (tmOU 2 (tmOU 1 (tmOU 0 tmO0 rfl qM rfl (e_Reorder_tmx (by rfl) tr)) rfl qM rfl (TmL.of_eq qL (c_HeldSeq _))) rfl qM rfl (e_Reorder_tmx (by rfl) tv)) (tA 11 (tA 9 (tA 7 (tA 3 tmAll0 tp) tp) tv) tv); all_goals exact qN) ?_)
      ·
       subst hall; clear u U; exact qP
      ·
       clear u U hall all; unfold reorder_Put_S2; refine awp_nw [3,7,9,11] fun tz U u => ?_; (try simp only [go_sem]); refine qU u ?_; clear u U; refine awp_assoc ?_; refine awp_nw [3,7,9,11,14] fun tz U u => ?_; (try simp only [go_sem]); refine qU u ?_; clear u U; obtain ⟨d26, hi6, h0⟩ := bnd h0; refine awp_cut (fun z => d26 = z) (fun d26 : Int => reorder_Put_S3 a0 x22 x25 d26) ?_ ?_
       ·
        refine awp_cond1 (b := (decide (a0.Size ≤ x20))) rfl (fun h7 => ?_) (fun h7 => ?_)
        ·
         have hi6 := cT hi6 h7; refine awp_nw1 [3,7,9] fun tz U u => ?_; obtain ⟨x27, bx27, hi6⟩ := bnd hi6; (try simp only [go_sem]); (refine xcall_p (window_Add_p a1.Head.Seq (IntKind.wrap .i64 (1 - a0.Size)) bx27) ?_; try dsimp only); (try refine xw_id ?_); (try simp only [go_sem]); refine u _ ?_; clear u U; refine sq_n ?_; obtain rfl := someInj hi6; exact ⟨_, rfl, (by refine Wk.canonD [] [] [some 0, some 1, some 2] rfl trivial rfl (tmOU 2 (tmOU 1 (tmOU 0 tmO0 rfl qM rfl (e_Reorder_tmx (by rfl) tr)) rfl qM rfl (TmL.of_eq qL (c_HeldSeq _))) rfl qM rfl (e_Reorder_tmx (by rfl) tv)) (tA 14 (tA 7 (tA 3 tmAll0 tp) tp) tv); all_goals exact qN)⟩
        ·
         have hi6 := cF hi6 h7; refine awp_skip1 ?_; refine sq_n ?_; obtain rfl := someInj hi6; exact ⟨_, rfl, (by refine Wk.canonD [] [] [some 0, some 1, some 2] rfl trivial rfl (tmOU 2 (tmOU 1 (tmOU 0 tmO0 rfl qM rfl (e_Reorder_tmx (by rfl) tr)) rfl qM rfl (TmL.of_eq qL (c_HeldSeq _))) rfl qM rfl (e_Reorder_tmx (by rfl) tv)) (tA 14 (tA 7 (tA 3 tmAll0 tp) tp) tv); all_goals exact qN)⟩
       ·
        rintro _ rfl; clear hi6; unfold reorder_Put_S3; refine awp_nw [3,7,14] fun tz U u => ?_; obtain ⟨x28, bx28, h0⟩ := bnd h0; (try simp only [go_sem]); (refine xcall_O [1] (reorder_move_io { a0 with Held := x25, Seen := x22 } d26 bx28) (by decide) (by decide) ⟨qG, trivial⟩ qG ?_; try dsimp only); (try refine xw_id ?_); (try simp only [go_sem, lc, ln]); refine qU u ?_; clear u U; refine awp_nr [6,7] (fun _ => rfl) fun tz => ?_; refine awp_regDW fun U u all hall => ?_; refine xd_id ?_; (try simp only [List.toList_toArray, List.map_cons, List.map_nil, List.size_toArray, List.length_cons, List.length_nil, Nat.zero_add]); (try simp only [Nat.reduceAdd]); (iterate 3 ((try simp only [go_sem, -Nat.reduceAdd]); try simp only [Nat.reduceAdd])); refine And.intro ?_ (u _ _ (Wk.refl _ _ _) ?_)
        ·
         subst hall; clear u U; exact qP
        ·
         clear u U hall all; refine awp_ret1 ?_; obtain rfl := someInj h0; refine endW_i ?_; refine end_ret0 rs28 qR ?_; refine Res.mk [] [some 11, some 12] rfl (resOU qM rfl (TmL.of_eq qL (c_Frame _)) (resOU qM rfl (TmL.of_eq qL (c_HeldSeq _)) resO0)) (Tm.tup (tc tr (tc (Tm.agg (e_Reorder_tmx (by rfl) tr)) (tc tv tn)))); (all_goals exact qN)

theorem reorder_Put_m (a0 : Reorder) (a1 : Frame) (a2 : Int) {r : ((List Frame) × Reorder × Int)} (h0 : reorder_Put a0 a1 a2 = some r) : SndM K 28 [(.agg (TR.E_Reorder a0)), (.agg (TR.E_Frame a1)), (vi a2)] (fun q => (.tup [(.ref (q 0) 0 r.1.length 41), (.agg (e_Reorder r.2.1 (.ref (q 1) 0 r.2.1.Held.length 42))), (vi r.2.2)])) [(List.flatMap E_Frame r.1), (List.flatMap E_HeldSeq r.2.1.Held)] :=
 fun hs => Snd.of_newM (RenM.tup (RenML.cons (RenM.ref 0 0 _ _) (RenML.cons (RenM.agg (e_Reorder_ren _ (RenM.ref 1 0 _ _))) (RenML.cons rv RenML.nil)))) (rows_all_cons (c_Frame _) (rows_all_cons (c_HeldSeq _) rows_all_nil)) (clean_cons (Clean.agg (TR.E_Reorder_clean _)) (clean_cons (Clean.agg (TR.E_Frame_clean _)) (clean_cons cv clean_nil))) (reorder_Put_r a0 a1 a2 h0) hs
end Go.AX.Z.TR.F

/-! (walks) -/

set_option linter.unusedSimpArgs false
set_option linter.unusedVariables false
set_option maxHeartbeats 4000000
set_option maxRecDepth 20000
namespace Go.AX.Z.TR
open Go.AX Go.Proofs
attribute [local irreducible] awp xw xop xcall gsp ob xd xdop xcallD seqQ loopQ blkQ endQ
attribute [local go_sem ↓] iop_and iop_or iop_xor iop_andn
attribute [local go_sem] Nat.reduceAdd
theorem hotspotref17_Number_p (a0 : Int) {r : Bool} (h0 : hotspotref17_Number a0 = some r) : SndP K 15 [(vi a0)] (vb r) := by
 refine SndP.of_walkW hC cv (clean_cons cv clean_nil) (show K.P.funcs[15]? = some Try.f15 from Try.func15) rfl rfl (by decide +kernel) (qB2 rfl) ?_; unfold hotspotref17_Number at h0; refine awp_nw [0] fun tz U u => ?_; (try simp only [go_sem]); refine qU u ?_; clear u U; refine awp_nw [0] fun tz U u => ?_; refine xw_stop 3 qS qS (by rfl) fun V v => ?_; refine xw_id ?_; (try simp only [go_sem]); refine v _ ?_; clear v V; refine xw_cut 3 [(8, (vb ((decide (0 ≤ a0)) && (decide (a0 ≤ 4095)))))] qS qS (by rfl) (fun V v => ?_) fun tz => ?_
 ·
  refine xw_id ?_; rcases bE (decide (0 ≤ a0)) with h1 | h1
  ·
   (try simp only [go_sem, h1]); exact v _ ⟨rfl, (qB h1), trivial⟩
  ·
   (try simp only [go_sem, h1]); exact v _ ⟨rfl, (qB h1), trivial⟩
 ·
  refine xw_id ?_; (try simp only [go_sem]); refine qU u ?_; clear u U; refine awp_ret1 ?_; obtain rfl := someInj h0; refine endW_i ?_; refine end_ret0 rs15 (rfl) ?_; exact qF
theorem hotspotref18_Moment_p (a0 : Int) {r : Bool} (h0 : hotspotref18_Moment a0 = some r) : SndP K 48 [(vi a0)] (vb r) := by
 refine SndP.of_walkW hC cv (clean_cons cv clean_nil) (show K.P.funcs[48]? = some Try.f48 from Try.func48) rfl rfl (by decide +kernel) (qB2 rfl) ?_; unfold hotspotref18_Moment at h0; refine awp_nw [0] fun tz U u => ?_; (try simp only [go_sem]); refine qU u ?_; clear u U; refine awp_nw [0] fun tz U u => ?_; refine xw_stop 3 qS qS (by rfl) fun V v => ?_; refine xw_id ?_; (try simp only [go_sem]); refine v _ ?_; clear v V; refine xw_cut 3 [(8, (vb ((decide (0 ≤ a0)) && (decide (a0 ≤ 1099511627776)))))] qS qS (by rfl) (fun V v => ?_) fun tz => ?_
 ·
  refine xw_id ?_; rcases bE (decide (0 ≤ a0)) with h1 | h1
  ·
   (try simp only [go_sem, h1]); exact v _ ⟨rfl, (qB h1), trivial⟩
  ·
   (try simp only [go_sem, h1]); exact v _ ⟨rfl, (qB h1), trivial⟩
 ·
  refine xw_id ?_; (try simp only [go_sem]); refine qU u ?_; clear u U; refine awp_ret1 ?_; obtain rfl := someInj h0; refine endW_i ?_; refine end_ret0 rs48 (rfl) ?_; exact qF
theorem hotspotref17_Rest_p (a0 : Int) {r : Int} (h0 : hotspotref17_Rest a0 = some r) : SndP K 59 [(vi a0)] (vi r) := by
 refine SndP.of_walkW hC cv (clean_cons cv clean_nil) (show K.P.funcs[59]? = some Try.f59 from Try.func59) rfl rfl (by decide +kernel) (qB2 rfl) ?_; unfold hotspotref17_Rest at h0; refine awp_nw [0] fun tz U u => ?_; (try simp only [go_sem]); refine qU u ?_; clear u U; refine awp_nw [0] fun tz U u => ?_; (try simp only [go_sem, Int.reduceEq]); refine qU u ?_; clear u U; refine awp_assoc ?_; refine awp_nw [3] fun tz U u => ?_; (try simp only [go_sem]); refine qU u ?_; clear u U; refine awp_cond (b := (decide (((a0).tmod 4096) < 0))) rfl (fun h1 => ?_) (fun h1 => ?_)
 ·
  have h0 := cT h0 h1; refine awp_nw [3] fun tz U u => ?_; (try simp only [go_sem]); refine qU u ?_; clear u U; refine awp_nw [3] fun tz U u => ?_; (try simp only [go_sem]); refine qU u ?_; clear u U; refine awp_ret1 ?_; obtain rfl := someInj h0; refine endW_i ?_; refine end_ret0 rs59 (rfl) ?_; exact qF
 ·
  have h0 := cF h0 h1; refine awp_skip ?_; refine awp_nw [3] fun tz U u => ?_; (try simp only [go_sem]); refine qU u ?_; clear u U; refine awp_ret1 ?_; obtain rfl := someInj h0; refine endW_i ?_; refine end_ret0 rs59 (rfl) ?_; exact qF
def hotspotref17_Dist_S0 (d40 : Int) : AS :=
 { objs := (fun _ => .dead), next := 0, tmps := (upd (fun _ => .unk) 5 (vi d40)) }

def hotspotref17_Dist_S1 (x39 : Int) (d41 : (Int × Int)) : AS :=
 { objs := (fun _ => .dead), next := 0, tmps := (upd (upd (upd (fun _ => .unk) 0 (vi d41.1)) 1 (vi x39)) 5 (vi d41.2)) }

theorem hotspotref17_Dist_p (a0 : Int) (a1 : Int) {r : Int} (h0 : hotspotref17_Dist a0 a1 = some r) : SndP K 45 [(vi a0), (vi a1)] (vi r) := by
 refine SndP.of_walkW hC cv (clean_cons cv (clean_cons cv clean_nil)) (show K.P.funcs[45]? = some Try.f45 from Try.func45) rfl rfl (by decide +kernel) (qB2 rfl) ?_; unfold hotspotref17_Dist at h0; refine awp_nw [0,1] fun tz U u => ?_; (try simp only [go_sem]); refine qU u ?_; clear u U; refine awp_nw [0,1] fun tz U u => ?_; obtain ⟨x38, bx38, h0⟩ := bnd h0; (try simp only [go_sem]); (refine xcall_p (hotspotref17_Rest_p a0 bx38) ?_; try dsimp only); (try refine xw_id ?_); obtain ⟨x39, bx39, h0⟩ := bnd h0; (try simp only [go_sem]); (refine xcall_p (hotspotref17_Rest_p a1 bx39) ?_; try dsimp only); (try refine xw_id ?_); (try simp only [go_sem]); refine qU u ?_; clear u U; refine awp_nw [0,1] fun tz U u => ?_; (try simp only [go_sem]); refine qU u ?_; clear u U; obtain ⟨d40, hi1, h0⟩ := bnd h0; refine awp_cut (fun z => d40 = z) (fun d40 : Int => hotspotref17_Dist_S0 d40) ?_ ?_
 ·
  refine awp_block1 ?_; refine awp_loopS (fun n (d41 : (Int × Int)) => hotspotref17_Dist_L2 x39 n d41 = some d40) (fun d41 : (Int × Int) => hotspotref17_Dist_S1 x39 d41) big (x38, 0) (Wk.canonD [] [] [] rfl trivial rfl tmO0 (tA 5 (tA 1 (tA 0 tmAll0 tv) tv) tv)) hi1 ?_; clear hi1; rintro n d41 hl3; rcases n with _ | n2
  ·
   (rw [hotspotref17_Dist_L2] at hl3; cases hl3)
  ·
   rw [hotspotref17_Dist_L2] at hl3; unfold hotspotref17_Dist_S1; refine awp_assoc ?_; refine awp_nw [0,1,5] fun tz U u => ?_; (try simp only [go_sem]); refine qU u ?_; clear u U; refine awp_cond (b := (d41.1 != x39)) rfl (fun h4 => ?_) (fun h4 => ?_)
   ·
    have hl3 := cT hl3 h4; refine awp_skip ?_; refine awp_block1 ?_; refine awp_nw [0,1,5] fun tz U u => ?_; (try simp only [go_sem, Int.reduceEq]); refine qU u ?_; clear u U; refine awp_nw1 [0,1,5] fun tz U u => ?_; (try simp only [go_sem]); refine u _ ?_; clear u U; refine bq_n ?_; refine lq_n ?_; exact ⟨n2, (((IntKind.wrap .i64 (d41.1 + 1))).tmod 4096, IntKind.wrap .i64 (d41.2 + 1)), rfl, hl3, (Wk.canonD [] [] [] rfl trivial rfl tmO0 (tA 5 (tA 1 (tA 0 tmAll0 tv) tv) tv))⟩
   ·
    have hl3 := cF hl3 h4; refine awp_exit ?_; refine lq_e ?_; refine bq_e ?_; refine sq_n ?_; obtain rfl := someInj hl3; exact ⟨_, rfl, (Wk.canonD [] [] [] rfl trivial rfl tmO0 (tA 5 tmAll0 tv))⟩
 ·
  rintro _ rfl; clear hi1; unfold hotspotref17_Dist_S0; refine awp_nw [5] fun tz U u => ?_; (try simp only [go_sem]); refine qU u ?_; clear u U; refine awp_ret1 ?_; obtain rfl := someInj h0; refine endW_i ?_; refine end_ret0 rs45 (rfl) ?_; exact qF
def hotspotref18_Valid_S0 (d33 : Unit) : AS :=
 { objs := (fun _ => .dead), next := 0, tmps := (fun _ => .unk) }

def hotspotref18_Valid_S1 (a0 : Reorder) (d35 : Int) : AS :=
 { objs := (upd (fun _ => .dead) 0 (.live (e_Reorder a0 (.imm (List.flatMap E_HeldSeq a0.Held) a0.Held.length)))), next := 1, tmps := (upd (upd (fun _ => .unk) 1 (.ptr 0 0)) 3 (vi d35)) }

def hotspotref18_Valid_S3 (a0 : Reorder) (d35 : Int) (x44 : Bool) : AS :=
 { objs := (upd (fun _ => .dead) 0 (.live (e_Reorder a0 (.imm (List.flatMap E_HeldSeq a0.Held) a0.Held.length)))), next := 1, tmps := (upd (upd (upd (fun _ => .unk) 1 (.ptr 0 0)) 3 (vi d35)) 96 (vb x44)) }

theorem hotspotref18_Valid_p (a0 : Reorder) {r : Bool} (h0 : hotspotref18_Valid a0 = some r) : SndP K 26 [(.agg (E_Reorder a0))] (vb r) := by
 refine SndP.of_walkW hC cv (clean_cons (Clean.agg (E_Reorder_clean _)) clean_nil) (show K.P.funcs[26]? = some Try.f26 from Try.func26) rfl rfl (by decide +kernel) (qB2 rfl) ?_; unfold hotspotref18_Valid at h0; refine awp_nw [0] fun tz U u => ?_; (try simp only [go_sem]); refine qU u ?_; clear u U; refine awp_assoc ?_; refine awp_nw [1] fun tz U u => ?_; (try simp only [List.append_eq, Array.toList_append, List.append_toArray, List.toList_toArray, List.cons_append, List.nil_append]); obtain ⟨x30, bx30, h0⟩ := bnd h0; (try simp only [go_sem]); (refine xcall_p (hotspotref17_Number_p a0.Start bx30) ?_; try dsimp only); (try refine xw_id ?_); refine xw_stop 2 qS qS (by rfl) fun V v => ?_; refine xw_id ?_; (try simp only [go_sem]); refine v _ ?_; clear v V; refine xw_cut 4 [(1, (.ptr 0 0)), (14, (vb ((!x30) || (decide (a0.Size < 1)))))] qS qS (by rfl) (fun V v => ?_) fun tz => ?_
 ·
  refine xw_id ?_; rcases bE (!x30) with h1 | h1
  ·
   (try simp only [go_sem, h1]); exact v _ ⟨rfl, rfl, (qB h1), trivial⟩
  ·
   (try simp only [go_sem, h1]); exact v _ ⟨rfl, rfl, (qB h1), trivial⟩
 ·
  refine xw_id ?_; refine xw_stop 1 qS qS (by rfl) fun V v => ?_; refine xw_id ?_; (try simp only [go_sem]); refine v _ ?_; clear v V; refine xw_cut 4 [(1, (.ptr 0 0)), (19, (vb (((!x30) || (decide (a0.Size < 1))) || (decide (64 < a0.Size)))))] qS qS (by rfl) (fun V v => ?_) fun tz => ?_
  ·
   refine xw_id ?_; rcases bE ((!x30) || (decide (a0.Size < 1))) with h2 | h2
   ·
    (try simp only [go_sem, h2]); exact v _ ⟨rfl, rfl, (qB h2), trivial⟩
   ·
    (try simp only [go_sem, h2]); exact v _ ⟨rfl, rfl, (qB h2), trivial⟩
  ·
   refine xw_id ?_; refine xw_stop 1 qS qS (by rfl) fun V v => ?_; refine xw_id ?_; (try simp only [go_sem]); refine v _ ?_; clear v V; refine xw_cut 4 [(1, (.ptr 0 0)), (24, (vb ((((!x30) || (decide (a0.Size < 1))) || (decide (64 < a0.Size))) || (decide (a0.Hold < 0)))))] qS qS (by rfl) (fun V v => ?_) fun tz => ?_
   ·
    refine xw_id ?_; rcases bE (((!x30) || (decide (a0.Size < 1))) || (decide (64 < a0.Size))) with h3 | h3
    ·
     (try simp only [go_sem, h3]); exact v _ ⟨rfl, rfl, (qB h3), trivial⟩
    ·
     (try simp only [go_sem, h3]); exact v _ ⟨rfl, rfl, (qB h3), trivial⟩
   ·
    refine xw_id ?_; refine xw_stop 1 qS qS (by rfl) fun V v => ?_; refine xw_id ?_; (try simp only [go_sem]); refine v _ ?_; clear v V; refine xw_cut 4 [(1, (.ptr 0 0)), (29, (vb (((((!x30) || (decide (a0.Size < 1))) || (decide (64 < a0.Size))) || (decide (a0.Hold < 0))) || (decide (16777216 < a0.Hold)))))] qS qS (by rfl) (fun V v => ?_) fun tz => ?_
    ·
     refine xw_id ?_; rcases bE ((((!x30) || (decide (a0.Size < 1))) || (decide (64 < a0.Size))) || (decide (a0.Hold < 0))) with h4 | h4
     ·
      (try simp only [go_sem, h4]); exact v _ ⟨rfl, rfl, (qB h4), trivial⟩
     ·
      (try simp only [go_sem, h4]); exact v _ ⟨rfl, rfl, (qB h4), trivial⟩
    ·
     refine xw_id ?_; refine xw_stop 1 qS qS (by rfl) fun V v => ?_; refine xw_id ?_; (try simp only [go_sem]); refine v _ ?_; clear v V; obtain ⟨x32, hvh5, h0⟩ := bnd h0; refine xw_cut 6 [(1, (.ptr 0 0)), (36, (vb x32))] qS qS (by rfl) (fun V v => ?_) fun tz => ?_
     ·
      refine xw_id ?_; rcases bE (((((!x30) || (decide (a0.Size < 1))) || (decide (64 < a0.Size))) || (decide (a0.Hold < 0))) || (decide (16777216 < a0.Hold))) with h5 | h5
      ·
       have hvh5 := cT hvh5 h5; (try simp only [go_sem, h5]); obtain rfl := someInj hvh5; exact v _ ⟨rfl, rfl, (qB h5), trivial⟩
      ·
       have hvh5 := cF hvh5 h5; obtain ⟨x31, bx31, hvh5⟩ := bnd hvh5; (try simp only [go_sem, h5]); (refine xcall_p (hotspotref17_Number_p a0.Seen.Start bx31) ?_; try dsimp only); (try refine xw_id ?_); (try simp only [go_sem, h5]); obtain rfl := someInj hvh5; exact v _ ⟨rfl, rfl, (qB h5), trivial⟩
     ·
      refine xw_id ?_; (try simp only [go_sem]); refine qU u ?_; clear u U; refine awp_cond (b := x32) rfl (fun h6 => ?_) (fun h6 => ?_)
      ·
       have h0 := cT h0 h6; refine awp_assoc ?_; refine awp_nw [] fun tz U u => ?_; (try simp only [go_sem]); refine qU u ?_; clear u U; refine awp_ret ?_; obtain rfl := someInj h0; refine endW_i ?_; refine end_ret0 rs26 (rfl) ?_; exact qF
      ·
       have h0 := cF h0 h6; refine awp_skip ?_; refine awp_assoc ?_; refine awp_nw [1] fun tz U u => ?_; (try simp only [go_sem]); refine qU u ?_; clear u U; obtain ⟨o34, hi7, h0⟩ := bnd h0; refine awp_cut (fun d33 : Unit => o34 = Ex.go d33) (fun d33 : Unit => hotspotref18_Valid_S0 d33) ?_ ?_
       ·
        refine awp_block1 ?_; refine awp_loopS (fun n (d35 : Int) => hotspotref18_Valid_L2 a0 n d35 = some o34) (fun d35 : Int => hotspotref18_Valid_S1 a0 d35) big 0 (Wk.canonD [] [] [some 0] rfl trivial rfl (tmOU 0 tmO0 rfl qM rfl (e_Reorder_tmx (by rfl) (tI (c_HeldSeq _)))) (tA 3 (tA 1 tmAll0 tp) tv)) hi7 ?_; clear hi7; rintro n d35 hl9; rcases n with _ | n8
        ·
         (rw [hotspotref18_Valid_L2] at hl9; cases hl9)
        ·
         rw [hotspotref18_Valid_L2] at hl9; unfold hotspotref18_Valid_S1; refine awp_assoc ?_; refine awp_nw [1,3] fun tz U u => ?_; (try simp only [go_sem]); refine qU u ?_; clear u U; refine awp_cond (b := (decide (d35 < (a0.Held.length : Int)))) rfl (fun h10 => ?_) (fun h10 => ?_)
         ·
          have hl9 := cT hl9 h10; refine awp_skip ?_; refine awp_blockW ?_; refine awp_nw [1,3] fun tz U u => ?_; obtain ⟨x36, bx36, hl9⟩ := bnd hl9; obtain ⟨fx36_0, fx36_1, fx36_2, fx36_3⟩ := idx_some bx36; (try simp only [go_sem, fx36_0, fx36_1, fx36_2]); refine qU u ?_; clear u U; refine awp_assoc ?_; refine awp_nw [1,3,4] fun tz U u => ?_; obtain ⟨x37, bx37, hl9⟩ := bnd hl9; (try simp only [go_sem, fx36_0, fx36_1, fx36_2]); (refine xcall_p (hotspotref17_Number_p x36.Frame.Head.Seq bx37) ?_; try dsimp only); (try refine xw_id ?_); refine xw_stop 2 qS qS (by rfl) fun V v => ?_; refine xw_id ?_; (try simp only [go_sem, fx36_0, fx36_1, fx36_2]); refine v _ ?_; clear v V; obtain ⟨x39, hvh11, hl9⟩ := bnd hl9; refine xw_cut 9 [(1, (.ptr 0 0)), (3, (vi d35)), (4, (vi x36.Frame.Head.Seq)), (64, (vb x39))] qS qS (by rfl) (fun V v => ?_) fun tz => ?_
          ·
           refine xw_id ?_; rcases bE (!x37) with h11 | h11
           ·
            have hvh11 := cT hvh11 h11; (try simp only [go_sem, fx36_0, fx36_1, fx36_2, h11]); obtain rfl := someInj hvh11; exact v _ ⟨rfl, rfl, rfl, rfl, (qB h11), trivial⟩
           ·
            have hvh11 := cF hvh11 h11; obtain ⟨x38, bx38, hvh11⟩ := bnd hvh11; (try simp only [go_sem, fx36_0, fx36_1, fx36_2, h11]); (refine xcall_p (hotspotref18_Moment_p x36.At bx38) ?_; try dsimp only); (try refine xw_id ?_); (try simp only [go_sem, fx36_0, fx36_1, fx36_2, h11]); obtain rfl := someInj hvh11; exact v _ ⟨rfl, rfl, rfl, rfl, (qB h11), trivial⟩
          ·
           refine xw_id ?_; (try simp only [go_sem, fx36_0, fx36_1, fx36_2]); refine qU u ?_; clear u U; refine awp_cond (b := x39) rfl (fun h12 => ?_) (fun h12 => ?_)
           ·
            have hl9 := cT hl9 h12; refine awp_assoc ?_; refine awp_nw [] fun tz U u => ?_; (try simp only [go_sem, fx36_0, fx36_1, fx36_2]); refine qU u ?_; clear u U; refine awp_ret ?_; refine bq_r ?_; refine sq_r ?_; refine lq_r ?_; refine bq_r ?_; refine sq_r ?_; obtain rfl := someInj hl9; obtain rfl := Ex.k_ret h0; refine endW_i ?_; refine end_ret0 rs26 (rfl) ?_; exact qF
           ·
            have hl9 := cF hl9 h12; refine awp_skip ?_; refine awp_nw [1,3,4] fun tz U u => ?_; obtain ⟨x40, bx40, hl9⟩ := bnd hl9; (try simp only [go_sem, fx36_0, fx36_1, fx36_2]); (refine xcall_p (hotspotref17_Dist_p a0.Start x36.Frame.Head.Seq bx40) ?_; try dsimp only); (try refine xw_id ?_); (try simp only [go_sem, fx36_0, fx36_1, fx36_2]); refine qU u ?_; clear u U; refine awp_nw [1,3,5] fun tz U u => ?_; refine xw_stop 3 qS qS (by rfl) fun V v => ?_; refine xw_id ?_; (try simp only [go_sem, fx36_0, fx36_1, fx36_2]); refine v _ ?_; clear v V; refine xw_cut 5 [(1, (.ptr 0 0)), (3, (vi d35)), (5, (vi x40)), (76, (vb ((decide (x40 < 1)) || (decide (a0.Size ≤ x40)))))] qS qS (by rfl) (fun V v => ?_) fun tz => ?_
            ·
             refine xw_id ?_; rcases bE (decide (x40 < 1)) with h13 | h13
             ·
              (try simp only [go_sem, fx36_0, fx36_1, fx36_2, h13]); exact v _ ⟨rfl, rfl, rfl, rfl, (qB h13), trivial⟩
             ·
              (try simp only [go_sem, fx36_0, fx36_1, fx36_2, h13]); exact v _ ⟨rfl, rfl, rfl, rfl, (qB h13), trivial⟩
            ·
             refine xw_id ?_; refine xw_stop 1 qS qS (by rfl) fun V v => ?_; refine xw_id ?_; (try simp only [go_sem, fx36_0, fx36_1, fx36_2]); refine v _ ?_; clear v V; obtain ⟨x44, hvh14, hl9⟩ := bnd hl9; refine xw_cut 19 [(1, (.ptr 0 0)), (3, (vi d35)), (96, (vb x44))] qS qS (by rfl) (fun V v => ?_) fun tz => ?_
             ·
              refine xw_id ?_; rcases bE ((decide (x40 < 1)) || (decide (a0.Size ≤ x40))) with h14 | h14
              ·
               have hvh14 := cT hvh14 h14; (try simp only [go_sem, fx36_0, fx36_1, fx36_2, h14]); obtain rfl := someInj hvh14; exact v _ ⟨rfl, rfl, rfl, (qB h14), trivial⟩
              ·
               have hvh14 := cF hvh14 h14; refine xw_stop 3 qS qS (by rfl) fun V v => ?_; refine xw_id ?_; (try simp only [go_sem, fx36_0, fx36_1, fx36_2, h14]); refine v _ ?_; clear v V; obtain ⟨x43, hvh15, hvh14⟩ := bnd hvh14; refine xw_cut 15 [(1, (.ptr 0 0)), (3, (vi d35)), (77, (vb false)), (95, (vb x43))] qS qS (by rfl) (fun V v => ?_) fun tz => ?_
               ·
                refine xw_id ?_; rcases bE (decide (0 < d35)) with h15 | h15
                ·
                 have hvh15 := cT hvh15 h15; obtain ⟨x41, bx41, hvh15⟩ := bnd hvh15; obtain ⟨fx41_0, fx41_1, fx41_2, fx41_3⟩ := idx_some bx41; obtain ⟨x42, bx42, hvh15⟩ := bnd hvh15; (try simp only [go_sem, fx36_0, fx36_1, fx36_2, h14, h15, fx41_0, fx41_1, fx41_2]); (refine xcall_p (hotspotref17_Dist_p a0.Start x41.Frame.Head.Seq bx42) ?_; try dsimp only); (try refine xw_id ?_); (try simp only [go_sem, fx36_0, fx36_1, fx36_2, h14, h15, fx41_0, fx41_1, fx41_2]); obtain rfl := someInj hvh15; exact v _ ⟨rfl, rfl, rfl, rfl, (qB h15), trivial⟩
                ·
                 have hvh15 := cF hvh15 h15; (try simp only [go_sem, fx36_0, fx36_1, fx36_2, h14, h15]); obtain rfl := someInj hvh15; exact v _ ⟨rfl, rfl, rfl, rfl, (qB h15), trivial⟩
               ·
                refine xw_id ?_; (try simp only [go_sem, fx36_0, fx36_1, fx36_2, h14]); obtain rfl := someInj hvh14; exact v _ ⟨rfl, rfl, rfl, (qB h14), trivial⟩
             ·
              refine xw_id ?_; (try simp only [go_sem, fx36_0, fx36_1, fx36_2]); refine u _ (hotspotref18_Valid_S3 a0 d35 x44) (Wk.canonD [] [] [some 0] rfl trivial rfl (tmOU 0 tmO0 rfl qM rfl (e_Reorder_tmx (by rfl) (tI (c_HeldSeq _)))) (tA 96 (tA 3 (tA 1 tmAll0 tp) tv) tv)) ?_; clear u U; unfold hotspotref18_Valid_S3; refine awp_cond1 (b := x44) rfl (fun h16 => ?_) (fun h16 => ?_)
              ·
               have hl9 := cT hl9 h16; refine awp_nw [] fun tz U u => ?_; (try simp only [go_sem, fx36_0, fx36_1, fx36_2]); refine qU u ?_; clear u U; refine awp_ret1 ?_; refine bq_r ?_; refine sq_r ?_; refine lq_r ?_; refine bq_r ?_; refine sq_r ?_; obtain rfl := someInj hl9; obtain rfl := Ex.k_ret h0; refine endW_i ?_; refine end_ret0 rs26 (rfl) ?_; exact qF
              ·
               have hl9 := cF hl9 h16; refine awp_skip1 ?_; refine bq_n ?_; refine seqW_i ?_; refine awp_nw1 [1,3] fun tz U u => ?_; (try simp only [go_sem, fx36_0, fx36_1, fx36_2]); refine u _ ?_; clear u U; refine lq_n ?_; exact ⟨n8, IntKind.wrap .i64 (d35 + 1), rfl, hl9, (Wk.canonD [] [] [some 0] rfl trivial rfl (tmOU 0 tmO0 rfl qM rfl (e_Reorder_tmx (by rfl) (tI (c_HeldSeq _)))) (tA 3 (tA 1 tmAll0 tp) tv))⟩
         ·
          have hl9 := cF hl9 h10; refine awp_exit ?_; refine lq_e ?_; refine bq_e ?_; refine sq_n ?_; obtain rfl := someInj hl9; exact ⟨_, rfl, (Wk.canonD [] [] [] rfl trivial rfl tmO0 tmAll0)⟩
       ·
        rintro d33 rfl; have h0 := Ex.k_go h0; clear hi7; unfold hotspotref18_Valid_S0; refine awp_nw [] fun tz U u => ?_; (try simp only [go_sem]); refine qU u ?_; clear u U; refine awp_ret1 ?_; obtain rfl := someInj h0; refine endW_i ?_; refine end_ret0 rs26 (rfl) ?_; exact qF
def hotspotref18_take_S0 (d50 : (List Frame × List HeldSeq)) : AS :=
 { objs := (upd (upd (fun _ => .dead) 0 (.live (List.flatMap E_Frame d50.1))) 1 (.live (List.flatMap E_HeldSeq d50.2))), next := 2, tmps := (upd (upd (fun _ => .unk) 6 (.ref 0 0 d50.1.length 41)) 7 (.ref 1 0 d50.2.length 42)) }

def hotspotref18_take_S1 (a0 : (List HeldSeq)) (a1 : Int) (d51 : (List Frame × List HeldSeq × Int)) : AS :=
 { objs := (upd (upd (fun _ => .dead) 0 (.live (List.flatMap E_Frame d51.1))) 1 (.live (List.flatMap E_HeldSeq d51.2.1))), next := 2, tmps := (upd (upd (upd (upd (upd (fun _ => .unk) 0 (.imm (List.flatMap E_HeldSeq a0) a0.length)) 1 (vi a1)) 6 (.ref 0 0 d51.1.length 41)) 7 (.ref 1 0 d51.2.1.length 42)) 8 (vi d51.2.2)) }

theorem hotspotref18_take_r (a0 : (List HeldSeq)) (a1 : Int) {r : ((List Frame) × (List HeldSeq))} (h0 : hotspotref18_take a0 a1 = some r) : SndR K 55 [(S_HeldSeq a0), (vi a1)] (fun q => (.tup [(.ref (q 0) 0 r.1.length 41), (.ref (q 1) 0 r.2.length 42)])) [(List.flatMap E_Frame r.1), (List.flatMap E_HeldSeq r.2)] := by
 refine SndR.of_walkW hC (show K.P.funcs[55]? = some Try.f55 from Try.func55) rfl rfl (by decide +kernel) (qB2 rfl) ?_; unfold hotspotref18_take at h0; refine awp_nw [0,1] fun tz U u => ?_; (try simp only [go_sem]); refine qU u ?_; clear u U; refine awp_nw [0,1] fun tz U u => ?_; (try simp only [go_sem]); refine qU u ?_; clear u U; refine awp_nw [0,1,6] fun tz U u => ?_; (try simp only [go_sem]); refine qU u ?_; clear u U; refine awp_assoc ?_; refine awp_nw [0,1,6,7] fun tz U u => ?_; (try simp only [go_sem]); refine qU u ?_; clear u U; obtain ⟨d50, hi1, h0⟩ := bnd h0; refine awp_cut (fun z => d50 = z) (fun d50 : (List Frame × List HeldSeq) => hotspotref18_take_S0 d50) ?_ ?_
 ·
  refine awp_block1 ?_; refine awp_loopS (fun n (d51 : (List Frame × List HeldSeq × Int)) => hotspotref18_take_L2 a0 a1 n d51 = some d50) (fun d51 : (List Frame × List HeldSeq × Int) => hotspotref18_take_S1 a0 a1 d51) big ([], [], 0) (Wk.canonD [] [] [none, none] rfl trivial rfl (tmON 1 (tmON 0 tmO0 rfl) rfl) (tA 8 (tA 7 (tA 6 (tA 1 (tA 0 tmAll0 (tI (c_HeldSeq _))) tv) tT) tT) tv)) hi1 ?_; clear hi1; rintro n d51 hl3; rcases n with _ | n2
  ·
   (rw [hotspotref18_take_L2] at hl3; cases hl3)
  ·
   rw [hotspotref18_take_L2] at hl3; unfold hotspotref18_take_S1; refine awp_assoc ?_; refine awp_nw [0,1,6,7,8] fun tz U u => ?_; (try simp only [go_sem]); refine qU u ?_; clear u U; refine awp_cond (b := (decide (d51.2.2 < (a0.length : Int)))) rfl (fun h4 => ?_) (fun h4 => ?_)
   ·
    have hl3 := cT hl3 h4; refine awp_skip ?_; refine awp_blockW ?_; refine awp_nw [0,1,6,7,8] fun tz U u => ?_; obtain ⟨x52, bx52, hl3⟩ := bnd hl3; obtain ⟨fx52_0, fx52_1, fx52_2, fx52_3⟩ := idx_some bx52; (try simp only [go_sem, fx52_0, fx52_1, fx52_2]); refine qU u ?_; clear u U; refine awp_cond1 (b := (x52.Frame.Head.Seq == a1)) rfl (fun h5 => ?_) (fun h5 => ?_)
    ·
     have hl3 := cT hl3 h5; refine awp_nw1 [0,1,6,7,8] fun tz U u => ?_; obtain ⟨x53, bx53, hl3⟩ := bnd hl3; have bx53 := chk_some bx53; simp only [Bool.and_eq_true, decide_eq_true_eq] at bx53; have gx53_0 := bx53; (try simp only [go_sem, fx52_0, fx52_1, fx52_2, gx53_0]); refine u _ ?_; clear u U; refine bq_n ?_; refine seqW_i ?_; refine awp_nw1 [0,1,6,7,8] fun tz U u => ?_; (try simp only [go_sem, fx52_0, fx52_1, fx52_2]); refine u _ ?_; clear u U; refine lq_n ?_; exact ⟨n2, ((d51.1 ++ [x52.Frame]), d51.2.1, IntKind.wrap .i64 (d51.2.2 + 1)), rfl, hl3, (by refine Wk.canonD [] [] [some 22, some 1] rfl trivial rfl (tmOU 1 (tmOU 0 tmO0 rfl qM rfl (TmL.of_eq qL (c_Frame _))) rfl qM rfl (TmL.of_eq qL (c_HeldSeq _))) (tA 8 (tA 7 (tA 6 (tA 1 (tA 0 tmAll0 (tI (c_HeldSeq _))) tv) tr) tr) tv); all_goals exact qN)⟩
    ·
     have hl3 := cF hl3 h5; refine awp_nw1 [0,1,6,7,8] fun tz U u => ?_; obtain ⟨x54, bx54, hl3⟩ := bnd hl3; have bx54 := chk_some bx54; simp only [Bool.and_eq_true, decide_eq_true_eq] at bx54; have gx54_0 := bx54; (try simp only [go_sem, fx52_0, fx52_1, fx52_2, gx54_0]); refine u _ ?_; clear u U; refine bq_n ?_; refine seqW_i ?_; refine awp_nw1 [0,1,6,7,8] fun tz U u => ?_; (try simp only [go_sem, fx52_0, fx52_1, fx52_2]); refine u _ ?_; clear u U; refine lq_n ?_; exact ⟨n2, (d51.1, (d51.2.1 ++ [x52]), IntKind.wrap .i64 (d51.2.2 + 1)), rfl, hl3, (by refine Wk.canonD [] [] [some 0, some 21] rfl trivial rfl (tmOU 1 (tmOU 0 tmO0 rfl qM rfl (TmL.of_eq qL (c_Frame _))) rfl qM rfl (TmL.of_eq qL (c_HeldSeq _))) (tA 8 (tA 7 (tA 6 (tA 1 (tA 0 tmAll0 (tI (c_HeldSeq _))) tv) tr) tr) tv); all_goals exact qN)⟩
   ·
    have hl3 := cF hl3 h4; refine awp_exit ?_; refine lq_e ?_; refine bq_e ?_; refine sq_n ?_; obtain rfl := someInj hl3; exact ⟨_, rfl, (by refine Wk.canonD [] [] [some 0, some 1] rfl trivial rfl (tmOU 1 (tmOU 0 tmO0 rfl qM rfl (TmL.of_eq qL (c_Frame _))) rfl qM rfl (TmL.of_eq qL (c_HeldSeq _))) (tA 7 (tA 6 tmAll0 tr) tr); all_goals exact qN)⟩
 ·
  rintro _ rfl; clear hi1; unfold hotspotref18_take_S0; refine awp_nw [6,7] fun tz U u => ?_; (try simp only [go_sem]); refine qU u ?_; clear u U; refine awp_ret1 ?_; obtain rfl := someInj h0; refine endW_i ?_; refine end_ret0 rs55 (rfl) ?_; refine Res.mk [] [some 0, some 1] rfl (resOU qM rfl (TmL.of_eq qL (c_Frame _)) (resOU qM rfl (TmL.of_eq qL (c_HeldSeq _)) resO0)) (Tm.tup (tc tr (tc tr tn))); (all_goals exact qN)

theorem hotspotref18_take_m (a0 : (List HeldSeq)) (a1 : Int) {r : ((List Frame) × (List HeldSeq))} (h0 : hotspotref18_take a0 a1 = some r) : SndM K 55 [(S_HeldSeq a0), (vi a1)] (fun q => (.tup [(.ref (q 0) 0 r.1.length 41), (.ref (q 1) 0 r.2.length 42)])) [(List.flatMap E_Frame r.1), (List.flatMap E_HeldSeq r.2)] :=
 fun hs => Snd.of_newM (RenM.tup (RenML.cons (RenM.ref 0 0 _ _) (RenML.cons (RenM.ref 1 0 _ _) RenML.nil))) (rows_all_cons (c_Frame _) (rows_all_cons (c_HeldSeq _) rows_all_nil)) (clean_cons (S_HeldSeq_clean _) (clean_cons cv clean_nil)) (hotspotref18_take_r a0 a1 h0) hs
theorem hotspotref17_Add_p (a0 : Int) (a1 : Int) {r : Int} (h0 : hotspotref17_Add a0 a1 = some r) : SndP K 60 [(vi a0), (vi a1)] (vi r) := by
 refine SndP.of_walkW hC cv (clean_cons cv (clean_cons cv clean_nil)) (show K.P.funcs[60]? = some Try.f60 from Try.func60) rfl rfl (by decide +kernel) (qB2 rfl) ?_; unfold hotspotref17_Add at h0; refine awp_nw [0,1] fun tz U u => ?_; (try simp only [go_sem]); refine qU u ?_; clear u U; refine awp_nw [0,1] fun tz U u => ?_; obtain ⟨x57, bx57, h0⟩ := bnd h0; (try simp only [go_sem]); (refine xcall_p (hotspotref17_Rest_p a0 bx57) ?_; try dsimp only); (try refine xw_id ?_); obtain ⟨x58, bx58, h0⟩ := bnd h0; (try simp only [go_sem]); (refine xcall_p (hotspotref17_Rest_p a1 bx58) ?_; try dsimp only); (try refine xw_id ?_); (try simp only [go_sem, Int.reduceEq]); refine qU u ?_; clear u U; refine awp_ret1 ?_; obtain rfl := someInj h0; refine endW_i ?_; refine end_ret0 rs60 (rfl) ?_; exact qF
def hotspotref17_Numbers_S0 (d63 : (List Int)) : AS :=
 { objs := (upd (fun _ => .dead) 0 (.live (List.map vi d63))), next := 1, tmps := (upd (fun _ => .unk) 3 (.ref 0 0 d63.length 1)) }

def hotspotref17_Numbers_S1 (a0 : Int) (d64 : (List Int × Int)) : AS :=
 { objs := (upd (fun _ => .dead) 0 (.live (List.map vi d64.1))), next := 1, tmps := (upd (upd (upd (fun _ => .unk) 0 (vi a0)) 3 (.ref 0 0 d64.1.length 1)) 4 (vi d64.2)) }

theorem hotspotref17_Numbers_r (a0 : Int) {r : (List Int)} (h0 : hotspotref17_Numbers a0 = some r) : SndR K 74 [(vi a0)] (fun q => (.ref (q 0) 0 r.length 1)) [(List.map vi r)] := by
 refine SndR.of_walkW hC (show K.P.funcs[74]? = some Try.f74 from Try.func74) rfl rfl (by decide +kernel) (qB2 rfl) ?_; unfold hotspotref17_Numbers at h0; refine awp_nw [0] fun tz U u => ?_; (try simp only [go_sem]); refine qU u ?_; clear u U; refine awp_nw [0] fun tz U u => ?_; (try simp only [go_sem]); refine qU u ?_; clear u U; refine awp_assoc ?_; refine awp_nw [0,3] fun tz U u => ?_; (try simp only [go_sem]); refine qU u ?_; clear u U; obtain ⟨d63, hi1, h0⟩ := bnd h0; refine awp_cut (fun z => d63 = z) (fun d63 : (List Int) => hotspotref17_Numbers_S0 d63) ?_ ?_
 ·
  refine awp_block1 ?_; refine awp_loopS (fun n (d64 : (List Int × Int)) => hotspotref17_Numbers_L2 a0 n d64 = some d63) (fun d64 : (List Int × Int) => hotspotref17_Numbers_S1 a0 d64) big ([], 0) (Wk.canonD [] [] [none] rfl trivial rfl (tmON 0 tmO0 rfl) (tA 4 (tA 3 (tA 0 tmAll0 tv) tT) tv)) hi1 ?_; clear hi1; rintro n d64 hl3; rcases n with _ | n2
  ·
   (rw [hotspotref17_Numbers_L2] at hl3; cases hl3)
  ·
   rw [hotspotref17_Numbers_L2] at hl3; unfold hotspotref17_Numbers_S1; refine awp_assoc ?_; refine awp_nw [0,3,4] fun tz U u => ?_; (try simp only [go_sem]); refine qU u ?_; clear u U; refine awp_cond (b := (decide (d64.2 < 64))) rfl (fun h4 => ?_) (fun h4 => ?_)
   ·
    have hl3 := cT hl3 h4; refine awp_skip ?_; refine awp_blockW ?_; refine awp_nw1 [0,3,4] fun tz U u => ?_; obtain ⟨x65, bx65, hl3⟩ := bnd hl3; have bx65 := chk_some bx65; simp only [Bool.and_eq_true, decide_eq_true_eq] at bx65; have gx65_0 := bx65; (try simp only [go_sem, Int.reduceEq, gx65_0]); refine u _ ?_; clear u U; refine bq_n ?_; refine seqW_i ?_; refine awp_nw1 [0,3,4] fun tz U u => ?_; (try simp only [go_sem]); refine u _ ?_; clear u U; refine lq_n ?_; exact ⟨n2, ((d64.1 ++ [((IntKind.wrap .i64 (a0 + d64.2))).tmod 4096]), IntKind.wrap .i64 (d64.2 + 1)), rfl, hl3, (by refine Wk.canonD [] [] [some 9] rfl trivial rfl (tmOU 0 tmO0 rfl qM rfl (TmL.of_eq qL (vi_clean _))) (tA 4 (tA 3 (tA 0 tmAll0 tv) tr) tv); all_goals exact qN)⟩
   ·
    have hl3 := cF hl3 h4; refine awp_exit ?_; refine lq_e ?_; refine bq_e ?_; refine sq_n ?_; obtain rfl := someInj hl3; exact ⟨_, rfl, (by refine Wk.canonD [] [] [some 0] rfl trivial rfl (tmOU 0 tmO0 rfl qM rfl (TmL.of_eq qL (vi_clean _))) (tA 3 tmAll0 tr); all_goals exact qN)⟩
 ·
  rintro _ rfl; clear hi1; unfold hotspotref17_Numbers_S0; refine awp_nw [3] fun tz U u => ?_; (try simp only [go_sem]); refine qU u ?_; clear u U; refine awp_ret1 ?_; obtain rfl := someInj h0; refine endW_i ?_; refine end_ret0 rs74 (rfl) ?_; refine Res.mk [] [some 0] rfl (resOU qM rfl (TmL.of_eq qL (vi_clean _)) resO0) tr; (all_goals exact qN)

theorem hotspotref17_Numbers_m (a0 : Int) {r : (List Int)} (h0 : hotspotref17_Numbers a0 = some r) : SndM K 74 [(vi a0)] (fun q => (.ref (q 0) 0 r.length 1)) [(List.map vi r)] :=
 fun hs => Snd.of_newM (RenM.ref 0 0 _ _) (rows_all_cons (vi_clean _) rows_all_nil) (clean_cons cv clean_nil) (hotspotref17_Numbers_r a0 h0) hs
def hotspotref17_bit_S0 (d68 : Int) : AS :=
 { objs := (fun _ => .dead), next := 0, tmps := (upd (fun _ => .unk) 0 (vq d68)) }

def hotspotref17_bit_S1 (a1 : Int) (d69 : (Int × Int)) : AS :=
 { objs := (fun _ => .dead), next := 0, tmps := (upd (upd (upd (fun _ => .unk) 0 (vq d69.1)) 1 (vi a1)) 5 (vi d69.2)) }

theorem hotspotref17_bit_p (a0 : Int) (a1 : Int) {r : Bool} (h0 : hotspotref17_bit a0 a1 = some r) : SndP K 75 [(vq a0), (vi a1)] (vb r) := by
 refine SndP.of_walkW hC cv (clean_cons cv (clean_cons cv clean_nil)) (show K.P.funcs[75]? = some Try.f75 from Try.func75) rfl rfl (by decide +kernel) (qB2 rfl) ?_; unfold hotspotref17_bit at h0; refine awp_nw [0,1] fun tz U u => ?_; (try simp only [go_sem]); refine qU u ?_; clear u U; refine awp_assoc ?_; refine awp_nw [0,1] fun tz U u => ?_; (try simp only [go_sem]); refine qU u ?_; clear u U; obtain ⟨d68, hi1, h0⟩ := bnd h0; refine awp_cut (fun z => d68 = z) (fun d68 : Int => hotspotref17_bit_S0 d68) ?_ ?_
 ·
  refine awp_block1 ?_; refine awp_loopS (fun n (d69 : (Int × Int)) => hotspotref17_bit_L2 a1 n d69 = some d68) (fun d69 : (Int × Int) => hotspotref17_bit_S1 a1 d69) big (a0, 0) (Wk.canonD [] [] [] rfl trivial rfl tmO0 (tA 5 (tA 1 (tA 0 tmAll0 tv) tv) tv)) hi1 ?_; clear hi1; rintro n d69 hl3; rcases n with _ | n2
  ·
   (rw [hotspotref17_bit_L2] at hl3; cases hl3)
  ·
   rw [hotspotref17_bit_L2] at hl3; unfold hotspotref17_bit_S1; refine awp_assoc ?_; refine awp_nw [0,1,5] fun tz U u => ?_; (try simp only [go_sem]); refine qU u ?_; clear u U; refine awp_cond (b := (decide (d69.2 < a1))) rfl (fun h4 => ?_) (fun h4 => ?_)
   ·
    have hl3 := cT hl3 h4; refine awp_skip ?_; refine awp_blockW ?_; refine awp_nw1 [0,1,5] fun tz U u => ?_; (try simp only [go_sem, Int.reduceEq]); refine u _ ?_; clear u U; refine bq_n ?_; refine seqW_i ?_; refine awp_nw1 [0,1,5] fun tz U u => ?_; (try simp only [go_sem]); refine u _ ?_; clear u U; refine lq_n ?_; exact ⟨n2, (IntKind.wrap .u64 ((d69.1).tdiv 2), IntKind.wrap .i64 (d69.2 + 1)), rfl, hl3, (Wk.canonD [] [] [] rfl trivial rfl tmO0 (tA 5 (tA 1 (tA 0 tmAll0 tv) tv) tv))⟩
   ·
    have hl3 := cF hl3 h4; refine awp_exit ?_; refine lq_e ?_; refine bq_e ?_; refine sq_n ?_; obtain rfl := someInj hl3; exact ⟨_, rfl, (Wk.canonD [] [] [] rfl trivial rfl tmO0 (tA 0 tmAll0 tv))⟩
 ·
  rintro _ rfl; clear hi1; unfold hotspotref17_bit_S0; refine awp_nw [0] fun tz U u => ?_; (try simp only [go_sem, Int.reduceEq]); refine qU u ?_; clear u U; refine awp_ret1 ?_; obtain rfl := someInj h0; refine endW_i ?_; refine end_ret0 rs75 (rfl) ?_; exact qF
def hotspotref17_Marked_S0 (d64 : (List Int)) : AS :=
 { objs := (upd (fun _ => .dead) 0 (.live (List.map vi d64))), next := 1, tmps := (upd (fun _ => .unk) 3 (.ref 0 0 d64.length 1)) }

def hotspotref17_Marked_S1 (a0 : Window) (x63 : (List Int)) (d65 : (List Int × Int)) : AS :=
 { objs := (upd (upd (upd (fun _ => .dead) 0 (.live (e_Window a0))) 1 (.live (List.map vi d65.1))) 2 (.live (List.map vi x63))), next := 3, tmps := (upd (upd (upd (upd (fun _ => .unk) 1 (.ptr 0 0)) 3 (.ref 1 0 d65.1.length 1)) 4 (.ref 2 0 x63.length 1)) 5 (vi d65.2)) }

theorem hotspotref17_Marked_r (a0 : Window) {r : (List Int)} (h0 : hotspotref17_Marked a0 = some r) : SndR K 72 [(.agg (e_Window a0))] (fun q => (.ref (q 0) 0 r.length 1)) [(List.map vi r)] := by
 refine SndR.of_walkW hC (show K.P.funcs[72]? = some Try.f72 from Try.func72) rfl rfl (by decide +kernel) (qB2 rfl) ?_; unfold hotspotref17_Marked at h0; refine awp_nw [0] fun tz U u => ?_; (try simp only [go_sem]); refine qU u ?_; clear u U; refine awp_nw [1] fun tz U u => ?_; (try simp only [go_sem]); refine qU u ?_; clear u U; refine awp_assoc ?_; refine awp_nw [1,3] fun tz U u => ?_; obtain ⟨x62, bx62, h0⟩ := bnd h0; (try simp only [go_sem]); (refine xcall_p (hotspotref17_Number_p a0.Start bx62) ?_; try dsimp only); (try refine xw_id ?_); (try simp only [go_sem]); refine qU u ?_; clear u U; refine awp_cond (b := (!x62)) rfl (fun h1 => ?_) (fun h1 => ?_)
 ·
  have h0 := cT h0 h1; refine awp_assoc ?_; refine awp_nw [] fun tz U u => ?_; (try simp only [go_sem]); refine qU u ?_; clear u U; refine awp_ret ?_; obtain rfl := someInj h0; refine endW_i ?_; refine end_ret0 rs72 (rfl) ?_; refine Res.mk [] [none] rfl (resON resO0) tT
 ·
  have h0 := cF h0 h1; refine awp_skip ?_; refine awp_nw [1,3] fun tz U u => ?_; obtain ⟨x63, bx63, h0⟩ := bnd h0; (try simp only [go_sem]); (refine xcall_M (hotspotref17_Numbers_m a0.Start bx63) ?_; try dsimp only); (try refine xw_id ?_); (try simp only [go_sem]); refine qU u ?_; clear u U; refine awp_assoc ?_; refine awp_nw [1,3,4] fun tz U u => ?_; (try simp only [go_sem]); refine qU u ?_; clear u U; obtain ⟨d64, hi2, h0⟩ := bnd h0; refine awp_cut (fun z => d64 = z) (fun d64 : (List Int) => hotspotref17_Marked_S0 d64) ?_ ?_
  ·
   refine awp_block1 ?_; refine awp_loopS (fun n (d65 : (List Int × Int)) => hotspotref17_Marked_L2 a0 x63 n d65 = some d64) (fun d65 : (List Int × Int) => hotspotref17_Marked_S1 a0 x63 d65) big ([], 0) (by refine Wk.canonD [] [] [some 0, none, some 11] rfl trivial rfl (tmOU 2 (tmON 1 (tmOU 0 tmO0 rfl qM rfl (TmL.clean (e_Window_clean _))) rfl) rfl qM rfl (TmL.of_eq qL (vi_clean _))) (tA 5 (tA 4 (tA 3 (tA 1 tmAll0 tp) tT) tr) tv); all_goals exact qN) hi2 ?_; clear hi2; rintro n d65 hl4; rcases n with _ | n3
   ·
    (rw [hotspotref17_Marked_L2] at hl4; cases hl4)
   ·
    rw [hotspotref17_Marked_L2] at hl4; unfold hotspotref17_Marked_S1; refine awp_assoc ?_; refine awp_nw [1,3,4,5] fun tz U u => ?_; (try simp only [go_sem]); refine qU u ?_; clear u U; refine awp_cond (b := (decide (d65.2 < 64))) rfl (fun h5 => ?_) (fun h5 => ?_)
    ·
     have hl4 := cT hl4 h5; refine awp_skip ?_; refine awp_blockW ?_; refine awp_nw [1,3,4,5] fun tz U u => ?_; obtain ⟨x66, bx66, hl4⟩ := bnd hl4; (try simp only [go_sem]); (refine xcall_p (hotspotref17_bit_p a0.Bits d65.2 bx66) ?_; try dsimp only); (try refine xw_id ?_); (try simp only [go_sem]); refine qU u ?_; clear u U; refine awp_cond1 (b := x66) rfl (fun h6 => ?_) (fun h6 => ?_)
     ·
      have hl4 := cT hl4 h6; refine awp_nw1 [1,3,4,5] fun tz U u => ?_; obtain ⟨x67, bx67, hl4⟩ := bnd hl4; obtain ⟨fx67_0, fx67_1, fx67_2, fx67_3⟩ := idx_some bx67; (have fx67_5 : ((d65.2 : Int) < ((x63.length : Nat) : Int)) = True := by first | exact fx67_1 | (simp [List.length_modify, List.length_set]; omega)); obtain ⟨x68, bx68, hl4⟩ := bnd hl4; have bx68 := chk_some bx68; simp only [Bool.and_eq_true, decide_eq_true_eq] at bx68; have gx68_0 := bx68; (try simp only [go_sem, fx67_0, fx67_1, fx67_2, fx67_5, gx68_0]); refine u _ ?_; clear u U; refine bq_n ?_; refine seqW_i ?_; refine awp_nw1 [1,3,4,5] fun tz U u => ?_; (try simp only [go_sem, fx67_0, fx67_1, fx67_2, fx67_5]); refine u _ ?_; clear u U; refine lq_n ?_; exact ⟨n3, ((d65.1 ++ [x67]), IntKind.wrap .i64 (d65.2 + 1)), rfl, hl4, (by refine Wk.canonD [] [] [some 0, some 15, some 2] rfl trivial rfl (tmOU 2 (tmOU 1 (tmOU 0 tmO0 rfl qM rfl (TmL.clean (e_Window_clean _))) rfl qM rfl (TmL.of_eq qL (vi_clean _))) rfl qM rfl (TmL.of_eq qL (vi_clean _))) (tA 5 (tA 4 (tA 3 (tA 1 tmAll0 tp) tr) tr) tv); all_goals exact qN)⟩
     ·
      have hl4 := cF hl4 h6; refine awp_skip1 ?_; refine bq_n ?_; refine seqW_i ?_; refine awp_nw1 [1,3,4,5] fun tz U u => ?_; (try simp only [go_sem]); refine u _ ?_; clear u U; refine lq_n ?_; exact ⟨n3, (d65.1, IntKind.wrap .i64 (d65.2 + 1)), rfl, hl4, (by refine Wk.canonD [] [] [some 0, some 1, some 2] rfl trivial rfl (tmOU 2 (tmOU 1 (tmOU 0 tmO0 rfl qM rfl (TmL.clean (e_Window_clean _))) rfl qM rfl (TmL.of_eq qL (vi_clean _))) rfl qM rfl (TmL.of_eq qL (vi_clean _))) (tA 5 (tA 4 (tA 3 (tA 1 tmAll0 tp) tr) tr) tv); all_goals exact qN)⟩
    ·
     have hl4 := cF hl4 h5; refine awp_exit ?_; refine lq_e ?_; refine bq_e ?_; refine sq_n ?_; obtain rfl := someInj hl4; exact ⟨_, rfl, (by refine Wk.canonD [] [] [some 1] rfl trivial rfl (tmOU 0 tmO0 rfl qM rfl (TmL.of_eq qL (vi_clean _))) (tA 3 tmAll0 tr); all_goals exact qN)⟩
  ·
   rintro _ rfl; clear hi2; unfold hotspotref17_Marked_S0; refine awp_nw [3] fun tz U u => ?_; (try simp only [go_sem]); refine qU u ?_; clear u U; refine awp_ret1 ?_; obtain rfl := someInj h0; refine endW_i ?_; refine end_ret0 rs72 (rfl) ?_; refine Res.mk [] [some 0] rfl (resOU qM rfl (TmL.of_eq qL (vi_clean _)) resO0) tr; (all_goals exact qN)

theorem hotspotref17_Marked_m (a0 : Window) {r : (List Int)} (h0 : hotspotref17_Marked a0 = some r) : SndM K 72 [(.agg (e_Window a0))] (fun q => (.ref (q 0) 0 r.length 1)) [(List.map vi r)] :=
 fun hs => Snd.of_newM (RenM.ref 0 0 _ _) (rows_all_cons (vi_clean _) rows_all_nil) (clean_cons (Clean.agg (e_Window_clean _)) clean_nil) (hotspotref17_Marked_r a0 h0) hs

theorem hotspotref17_Marked_e (a0 : Window) {r : (List Int)} (h0 : hotspotref17_Marked a0 = some r) (fr : Nat) (hs : HS) : SndE K 72 [(.agg (e_Window a0))] hs fr ⟨(fun q : Nat → Nat => (.ref (q 0) 0 r.length 1)) fun _ => fr, .new (List.map vi r)⟩ :=
 SndE.of_res (RenM.ref 0 0 _ _) (vi_clean _) (clean_cons (Clean.agg (e_Window_clean _)) clean_nil) (fun a b h => by simp only [h]) (hotspotref17_Marked_r a0 h0) hs fr
def hotspotref17_Of_S0 (a0 : Int) (x70 : (List Int)) (a1 : (List Int)) : AS :=
 { objs := (upd (upd (upd (fun _ => .dead) 0 (.live (e_Window Window.z))) 1 (.live (e_Window { Window.z with Start := a0 }))) 2 (.live (List.map vi x70))), next := 3, tmps := (upd (upd (upd (upd (fun _ => .unk) 1 (.imm (List.map vi a1) a1.length)) 4 (.ptr 0 0)) 5 (.ptr 1 0)) 6 (.ref 2 0 x70.length 1)) }

def hotspotref17_Of_S1 (d71 : Window) : AS :=
 { objs := (upd (upd (fun _ => .dead) 0 (.live (e_Window Window.z))) 1 (.live (e_Window d71))), next := 2, tmps := (upd (upd (fun _ => .unk) 4 (.ptr 0 0)) 5 (.ptr 1 0)) }

def hotspotref17_Of_S2 (x70 : (List Int)) (a1 : (List Int)) (d72 : (Window × Int)) : AS :=
 { objs := (upd (upd (upd (fun _ => .dead) 0 (.live (e_Window Window.z))) 1 (.live (e_Window d72.1))) 2 (.live (List.map vi x70))), next := 3, tmps := (upd (upd (upd (upd (upd (fun _ => .unk) 1 (.imm (List.map vi a1) a1.length)) 4 (.ptr 0 0)) 5 (.ptr 1 0)) 6 (.ref 2 0 x70.length 1)) 7 (vi d72.2)) }

def hotspotref17_Of_S4 (x70 : (List Int)) (a1 : (List Int)) (d72 : (Window × Int)) (d73 : Window) : AS :=
 { objs := (upd (upd (upd (fun _ => .dead) 0 (.live (e_Window Window.z))) 1 (.live (e_Window d73))) 2 (.live (List.map vi x70))), next := 3, tmps := (upd (upd (upd (upd (upd (fun _ => .unk) 1 (.imm (List.map vi a1) a1.length)) 4 (.ptr 0 0)) 5 (.ptr 1 0)) 6 (.ref 2 0 x70.length 1)) 7 (vi d72.2)) }

def hotspotref17_Of_S5 (x70 : (List Int)) (a1 : (List Int)) (d72 : (Window × Int)) (d74 : Window) : AS :=
 { objs := (upd (upd (upd (fun _ => .dead) 0 (.live (e_Window Window.z))) 1 (.live (e_Window d74))) 2 (.live (List.map vi x70))), next := 3, tmps := (upd (upd (upd (upd (upd (fun _ => .unk) 1 (.imm (List.map vi a1) a1.length)) 4 (.ptr 0 0)) 5 (.ptr 1 0)) 6 (.ref 2 0 x70.length 1)) 7 (vi d72.2)) }

def hotspotref17_Of_S6 (d72 : (Window × Int)) (x70 : (List Int)) (a1 : (List Int)) (d75 : Int) : AS :=
 { objs := (upd (upd (upd (fun _ => .dead) 0 (.live (e_Window Window.z))) 1 (.live (e_Window { d72.1 with Bits := IntKind.wrap .u64 (d72.1.Bits * 2) }))) 2 (.live (List.map vi x70))), next := 3, tmps := (upd (upd (upd (upd (upd (upd (fun _ => .unk) 1 (.imm (List.map vi a1) a1.length)) 4 (.ptr 0 0)) 5 (.ptr 1 0)) 6 (.ref 2 0 x70.length 1)) 7 (vi d72.2)) 8 (vi d75)) }

theorem hotspotref17_Of_p (a0 : Int) (a1 : (List Int)) {r : Window} (h0 : hotspotref17_Of a0 a1 = some r) : SndP K 71 [(vi a0), (S_vi a1)] (.agg (e_Window r)) := by
 refine SndP.of_walkW hC (Clean.agg (e_Window_clean _)) (clean_cons cv (clean_cons (S_vi_clean _) clean_nil)) (show K.P.funcs[71]? = some Try.f71 from Try.func71) rfl rfl (by decide +kernel) (qB2 rfl) ?_; unfold hotspotref17_Of at h0; refine awp_nw [0,1] fun tz U u => ?_; (try simp only [go_sem]); refine qU u ?_; clear u U; refine awp_nw [0,1,4] fun tz U u => ?_; (try simp only [go_sem]); refine qU u ?_; clear u U; refine awp_nw [0,1,4,5] fun tz U u => ?_; obtain ⟨x70, bx70, h0⟩ := bnd h0; (try simp only [go_sem]); (refine xcall_M (hotspotref17_Numbers_m a0 bx70) ?_; try dsimp only); (try refine xw_id ?_); (try simp only [go_sem]); refine u _ (hotspotref17_Of_S0 a0 x70 a1) (by refine Wk.canonD [] [] [some 0, some 3, some 8] rfl trivial rfl (tmOU 2 (tmOU 1 (tmOU 0 tmO0 rfl qM rfl (TmL.clean (e_Window_clean _))) rfl qM rfl (TmL.clean (e_Window_clean _))) rfl qM rfl (TmL.of_eq qL (vi_clean _))) (tA 6 (tA 5 (tA 4 (tA 1 tmAll0 (tI (vi_clean _))) tp) tp) tr); all_goals exact qN) ?_; clear u U; unfold hotspotref17_Of_S0; refine awp_assoc ?_; refine awp_nw [1,4,5,6] fun tz U u => ?_; (try simp only [go_sem]); refine qU u ?_; clear u U; obtain ⟨d71, hi1, h0⟩ := bnd h0; refine awp_cut (fun z => d71 = z) (fun d71 : Window => hotspotref17_Of_S1 d71) ?_ ?_
 ·
  refine awp_block1 ?_; refine awp_loopS (fun n (d72 : (Window × Int)) => hotspotref17_Of_L3 a1 x70 n d72 = some d71) (fun d72 : (Window × Int) => hotspotref17_Of_S2 x70 a1 d72) big ({ Window.z with Start := a0 }, 63) (by refine Wk.canonD [] [] [some 0, some 1, some 2] rfl trivial rfl (tmOU 2 (tmOU 1 (tmOU 0 tmO0 rfl qM rfl (TmL.clean (e_Window_clean _))) rfl qM rfl (TmL.clean (e_Window_clean _))) rfl qM rfl (TmL.of_eq qL (vi_clean _))) (tA 7 (tA 6 (tA 5 (tA 4 (tA 1 tmAll0 (tI (vi_clean _))) tp) tp) tr) tv); all_goals exact qN) hi1 ?_; clear hi1; rintro n d72 hl3; rcases n with _ | n2
  ·
   (rw [hotspotref17_Of_L3] at hl3; cases hl3)
  ·
   rw [hotspotref17_Of_L3] at hl3; unfold hotspotref17_Of_S2; refine awp_assoc ?_; refine awp_nw [1,4,5,6,7] fun tz U u => ?_; (try simp only [go_sem]); refine qU u ?_; clear u U; refine awp_cond (b := (decide (0 ≤ d72.2))) rfl (fun h4 => ?_) (fun h4 => ?_)
   ·
    have hl3 := cT hl3 h4; refine awp_skip ?_; obtain ⟨d73, hi5, hl3⟩ := bnd hl3; refine awp_cut (fun z => d73 = z) (fun d73 : Window => hotspotref17_Of_S4 x70 a1 d72 d73) ?_ ?_
    ·
     refine awp_block1 ?_; refine awp_nw [1,4,5,6,7] fun tz U u => ?_; (try simp only [go_sem]); refine qU u ?_; clear u U; refine awp_nw [1,4,5,6,7] fun tz U u => ?_; (try simp only [go_sem]); refine qU u ?_; clear u U; obtain ⟨d74, hi6, hi5⟩ := bnd hi5; refine awp_cutQ (fun z => d74 = z) (fun d74 : Window => hotspotref17_Of_S5 x70 a1 d72 d74) (clQ_blk clQ_cut) ?_ ?_
     ·
      refine awp_block1 ?_; refine awp_loopS (fun n (d75 : Int) => hotspotref17_Of_L7 a1 x70 d72 n d75 = some d74) (fun d75 : Int => hotspotref17_Of_S6 d72 x70 a1 d75) big 0 (by refine Wk.canonD [] [] [some 0, some 1, some 2] rfl trivial rfl (tmOU 2 (tmOU 1 (tmOU 0 tmO0 rfl qM rfl (TmL.clean (e_Window_clean _))) rfl qM rfl (TmL.clean (e_Window_clean _))) rfl qM rfl (TmL.of_eq qL (vi_clean _))) (tA 8 (tA 7 (tA 6 (tA 5 (tA 4 (tA 1 tmAll0 (tI (vi_clean _))) tp) tp) tr) tv) tv); all_goals exact qN) hi6 ?_; clear hi6; rintro n d75 hl8; rcases n with _ | n7
      ·
       (rw [hotspotref17_Of_L7] at hl8; cases hl8)
      ·
       rw [hotspotref17_Of_L7] at hl8; unfold hotspotref17_Of_S6; refine awp_assoc ?_; refine awp_nw [1,4,5,6,7,8] fun tz U u => ?_; (try simp only [go_sem]); refine qU u ?_; clear u U; refine awp_cond (b := (decide (d75 < (a1.length : Int)))) rfl (fun h9 => ?_) (fun h9 => ?_)
       ·
        have hl8 := cT hl8 h9; refine awp_skip ?_; refine awp_blockW ?_; refine awp_nw [1,4,5,6,7,8] fun tz U u => ?_; obtain ⟨x76, bx76, hl8⟩ := bnd hl8; obtain ⟨fx76_0, fx76_1, fx76_2, fx76_3⟩ := idx_some bx76; obtain ⟨x77, bx77, hl8⟩ := bnd hl8; obtain ⟨fx77_0, fx77_1, fx77_2, fx77_3⟩ := idx_some bx77; (have fx77_5 : ((d72.2 : Int) < ((x70.length : Nat) : Int)) = True := by first | exact fx77_1 | (simp [List.length_modify, List.length_set]; omega)); (try simp only [go_sem, fx76_0, fx76_1, fx76_2, fx77_0, fx77_1, fx77_2, fx77_5]); refine qU u ?_; clear u U; refine awp_cond1 (b := (x76 == x77)) rfl (fun h10 => ?_) (fun h10 => ?_)
        ·
         have hl8 := cT hl8 h10; refine awp_nw [1,4,5,6,7] fun tz U u => ?_; (try simp only [go_sem, fx76_0, fx76_1, fx76_2, fx77_0, fx77_1, fx77_2, fx77_5]); refine qU u ?_; clear u U; refine awp_exit1 ?_; refine bq_o rfl ?_; refine sq_e ?_; refine lq_e ?_; refine bq_e ?_; refine sq_n ?_; obtain rfl := someInj hl8; exact ⟨_, rfl, (by refine Wk.canonD [] [] [some 0, some 1, some 2] rfl trivial rfl (tmOU 2 (tmOU 1 (tmOU 0 tmO0 rfl qM rfl (TmL.clean (e_Window_clean _))) rfl qM rfl (TmL.clean (e_Window_clean _))) rfl qM rfl (TmL.of_eq qL (vi_clean _))) (tA 7 (tA 6 (tA 5 (tA 4 (tA 1 tmAll0 (tI (vi_clean _))) tp) tp) tr) tv); all_goals exact qN)⟩
        ·
         have hl8 := cF hl8 h10; refine awp_skip1 ?_; refine bq_n ?_; refine seqW_i ?_; refine awp_nw1 [1,4,5,6,7,8] fun tz U u => ?_; (try simp only [go_sem, fx76_0, fx76_1, fx76_2, fx77_0, fx77_1, fx77_2, fx77_5]); refine u _ ?_; clear u U; refine lq_n ?_; exact ⟨n7, IntKind.wrap .i64 (d75 + 1), rfl, hl8, (by refine Wk.canonD [] [] [some 0, some 1, some 2] rfl trivial rfl (tmOU 2 (tmOU 1 (tmOU 0 tmO0 rfl qM rfl (TmL.clean (e_Window_clean _))) rfl qM rfl (TmL.clean (e_Window_clean _))) rfl qM rfl (TmL.of_eq qL (vi_clean _))) (tA 8 (tA 7 (tA 6 (tA 5 (tA 4 (tA 1 tmAll0 (tI (vi_clean _))) tp) tp) tr) tv) tv); all_goals exact qN)⟩
       ·
        have hl8 := cF hl8 h9; refine awp_exit ?_; refine lq_e ?_; refine bq_e ?_; refine sq_n ?_; obtain rfl := someInj hl8; exact ⟨_, rfl, (by refine Wk.canonD [] [] [some 0, some 1, some 2] rfl trivial rfl (tmOU 2 (tmOU 1 (tmOU 0 tmO0 rfl qM rfl (TmL.clean (e_Window_clean _))) rfl qM rfl (TmL.clean (e_Window_clean _))) rfl qM rfl (TmL.of_eq qL (vi_clean _))) (tA 7 (tA 6 (tA 5 (tA 4 (tA 1 tmAll0 (tI (vi_clean _))) tp) tp) tr) tv); all_goals exact qN)⟩
     ·
      rintro _ rfl; clear hi6; unfold hotspotref17_Of_S5; refine bq_n ?_; refine sq_n ?_; obtain rfl := someInj hi5; exact ⟨_, rfl, (by refine Wk.canonD [] [] [some 0, some 1, some 2] rfl trivial rfl (tmOU 2 (tmOU 1 (tmOU 0 tmO0 rfl qM rfl (TmL.clean (e_Window_clean _))) rfl qM rfl (TmL.clean (e_Window_clean _))) rfl qM rfl (TmL.of_eq qL (vi_clean _))) (tA 7 (tA 6 (tA 5 (tA 4 (tA 1 tmAll0 (tI (vi_clean _))) tp) tp) tr) tv); all_goals exact qN)⟩
    ·
     rintro _ rfl; clear hi5; unfold hotspotref17_Of_S4; refine awp_nw1 [1,4,5,6,7] fun tz U u => ?_; (try simp only [go_sem]); refine u _ ?_; clear u U; refine lq_n ?_; exact ⟨n2, (d73, IntKind.wrap .i64 (d72.2 - 1)), rfl, hl3, (by refine Wk.canonD [] [] [some 0, some 1, some 2] rfl trivial rfl (tmOU 2 (tmOU 1 (tmOU 0 tmO0 rfl qM rfl (TmL.clean (e_Window_clean _))) rfl qM rfl (TmL.clean (e_Window_clean _))) rfl qM rfl (TmL.of_eq qL (vi_clean _))) (tA 7 (tA 6 (tA 5 (tA 4 (tA 1 tmAll0 (tI (vi_clean _))) tp) tp) tr) tv); all_goals exact qN)⟩
   ·
    have hl3 := cF hl3 h4; refine awp_exit ?_; refine lq_e ?_; refine bq_e ?_; refine sq_n ?_; obtain rfl := someInj hl3; exact ⟨_, rfl, (Wk.canonD [] [] [some 0, some 1] rfl trivial rfl (tmOU 1 (tmOU 0 tmO0 rfl qM rfl (TmL.clean (e_Window_clean _))) rfl qM rfl (TmL.clean (e_Window_clean _))) (tA 5 (tA 4 tmAll0 tp) tp))⟩
 ·
  rintro _ rfl; clear hi1; unfold hotspotref17_Of_S1; refine awp_nw [4,5] fun tz U u => ?_; (try simp only [go_sem]); refine qU u ?_; clear u U; refine awp_ret1 ?_; obtain rfl := someInj h0; refine endW_i ?_; refine end_ret0 rs71 qR ?_; exact qF
def hotspotref17_Move_S0 (a0 : Window) (a1 : Int) (x61 : Bool) : AS :=
 { objs := (upd (upd (fun _ => .dead) 0 (.live (e_Window a0))) 1 (.live (e_Window Window.z))), next := 2, tmps := (upd (upd (upd (upd (fun _ => .unk) 1 (vi a1)) 2 (.ptr 0 0)) 4 (.ptr 1 0)) 13 (vb (!x61))) }

theorem hotspotref17_Move_p (a0 : Window) (a1 : Int) {r : (Window × Int)} (h0 : hotspotref17_Move a0 a1 = some r) : SndP K 68 [(.agg (e_Window a0)), (vi a1)] (.tup [(.agg (e_Window r.1)), (vi r.2)]) := by
 refine SndP.of_walkW hC (Clean.tup (clean_cons (Clean.agg (e_Window_clean _)) (clean_cons cv clean_nil))) (clean_cons (Clean.agg (e_Window_clean _)) (clean_cons cv clean_nil)) (show K.P.funcs[68]? = some Try.f68 from Try.func68) rfl rfl (by decide +kernel) (qB2 rfl) ?_; unfold hotspotref17_Move at h0; refine awp_nw [0,1] fun tz U u => ?_; (try simp only [go_sem]); refine qU u ?_; clear u U; refine awp_assoc ?_; refine awp_nw [1,2,4] fun tz U u => ?_; obtain ⟨x60, bx60, h0⟩ := bnd h0; (try simp only [go_sem]); (refine xcall_p (hotspotref17_Number_p a0.Start bx60) ?_; try dsimp only); (try refine xw_id ?_); (try simp only [go_sem]); refine qU u ?_; clear u U; refine awp_cond (b := (!x60)) rfl (fun h1 => ?_) (fun h1 => ?_)
 ·
  have h0 := cT h0 h1; refine awp_assoc ?_; refine awp_nw [4] fun tz U u => ?_; (try simp only [go_sem]); refine qU u ?_; clear u U; refine awp_ret ?_; obtain rfl := someInj h0; refine endW_i ?_; refine end_ret0 rs68 qR ?_; exact qF
 ·
  have h0 := cF h0 h1; refine awp_skip ?_; refine awp_assoc ?_; refine awp_nw [1,2,4] fun tz U u => ?_; obtain ⟨x61, bx61, h0⟩ := bnd h0; (try simp only [go_sem]); (refine xcall_p (hotspotref17_Number_p a1 bx61) ?_; try dsimp only); (try refine xw_id ?_); (try simp only [go_sem]); refine u _ (hotspotref17_Move_S0 a0 a1 x61) (Wk.canonD [] [] [some 0, some 1] rfl trivial rfl (tmOU 1 (tmOU 0 tmO0 rfl qM rfl (TmL.clean (e_Window_clean _))) rfl qM rfl (TmL.clean (e_Window_clean _))) (tA 13 (tA 4 (tA 2 (tA 1 tmAll0 tv) tp) tp) tv)) ?_; clear u U; unfold hotspotref17_Move_S0; refine awp_cond (b := (!x61)) rfl (fun h2 => ?_) (fun h2 => ?_)
  ·
   have h0 := cT h0 h2; refine awp_assoc ?_; refine awp_nw [4] fun tz U u => ?_; (try simp only [go_sem]); refine qU u ?_; clear u U; refine awp_ret ?_; obtain rfl := someInj h0; refine endW_i ?_; refine end_ret0 rs68 qR ?_; exact qF
  ·
   have h0 := cF h0 h2; refine awp_skip ?_; refine awp_nw [1,2,4] fun tz U u => ?_; obtain ⟨x62, bx62, h0⟩ := bnd h0; (try simp only [go_sem]); (refine xcall_M (hotspotref17_Marked_m a0 bx62) ?_; try dsimp only); (try refine xw_id ?_); obtain ⟨x63, bx63, h0⟩ := bnd h0; (try simp only [go_sem]); (refine xcall_L (by first | (simp only [go_sem, fz] <;> rfl) | (simp only [go_sem, fz, List.length_set, ble_self, take_set, cond_true, cond_false] <;> rfl)) (hotspotref17_Of_p a1 x62 bx63) (bare_ok (by rfl)) ?_; try dsimp only); (try refine xw_id ?_); (try simp only [go_sem]); refine qU u ?_; clear u U; refine awp_ret1 ?_; obtain rfl := someInj h0; refine endW_i ?_; refine end_ret0 rs68 qR ?_; exact qF
def hotspotref17_Mark_S0 (a0 : Window) (a1 : Int) (x61 : Bool) : AS :=
 { objs := (upd (upd (fun _ => .dead) 0 (.live (e_Window a0))) 1 (.live (e_Window Window.z))), next := 2, tmps := (upd (upd (upd (upd (fun _ => .unk) 1 (vi a1)) 2 (.ptr 0 0)) 4 (.ptr 1 0)) 13 (vb (!x61))) }

theorem hotspotref17_Mark_p (a0 : Window) (a1 : Int) {r : (Window × Int)} (h0 : hotspotref17_Mark a0 a1 = some r) : SndP K 69 [(.agg (e_Window a0)), (vi a1)] (.tup [(.agg (e_Window r.1)), (vi r.2)]) := by
 refine SndP.of_walkW hC (Clean.tup (clean_cons (Clean.agg (e_Window_clean _)) (clean_cons cv clean_nil))) (clean_cons (Clean.agg (e_Window_clean _)) (clean_cons cv clean_nil)) (show K.P.funcs[69]? = some Try.f69 from Try.func69) rfl rfl (by decide +kernel) (qB2 rfl) ?_; unfold hotspotref17_Mark at h0; refine awp_nw [0,1] fun tz U u => ?_; (try simp only [go_sem]); refine qU u ?_; clear u U; refine awp_assoc ?_; refine awp_nw [1,2,4] fun tz U u => ?_; obtain ⟨x60, bx60, h0⟩ := bnd h0; (try simp only [go_sem]); (refine xcall_p (hotspotref17_Number_p a0.Start bx60) ?_; try dsimp only); (try refine xw_id ?_); (try simp only [go_sem]); refine qU u ?_; clear u U; refine awp_cond (b := (!x60)) rfl (fun h1 => ?_) (fun h1 => ?_)
 ·
  have h0 := cT h0 h1; refine awp_assoc ?_; refine awp_nw [4] fun tz U u => ?_; (try simp only [go_sem]); refine qU u ?_; clear u U; refine awp_ret ?_; obtain rfl := someInj h0; refine endW_i ?_; refine end_ret0 rs69 qR ?_; exact qF
 ·
  have h0 := cF h0 h1; refine awp_skip ?_; refine awp_assoc ?_; refine awp_nw [1,2,4] fun tz U u => ?_; obtain ⟨x61, bx61, h0⟩ := bnd h0; (try simp only [go_sem]); (refine xcall_p (hotspotref17_Number_p a1 bx61) ?_; try dsimp only); (try refine xw_id ?_); (try simp only [go_sem]); refine u _ (hotspotref17_Mark_S0 a0 a1 x61) (Wk.canonD [] [] [some 0, some 1] rfl trivial rfl (tmOU 1 (tmOU 0 tmO0 rfl qM rfl (TmL.clean (e_Window_clean _))) rfl qM rfl (TmL.clean (e_Window_clean _))) (tA 13 (tA 4 (tA 2 (tA 1 tmAll0 tv) tp) tp) tv)) ?_; clear u U; unfold hotspotref17_Mark_S0; refine awp_cond (b := (!x61)) rfl (fun h2 => ?_) (fun h2 => ?_)
  ·
   have h0 := cT h0 h2; refine awp_assoc ?_; refine awp_nw [4] fun tz U u => ?_; (try simp only [go_sem]); refine qU u ?_; clear u U; refine awp_ret ?_; obtain rfl := someInj h0; refine endW_i ?_; refine end_ret0 rs69 qR ?_; exact qF
  ·
   have h0 := cF h0 h2; refine awp_skip ?_; refine awp_assoc ?_; refine awp_nw [1,2,4] fun tz U u => ?_; obtain ⟨x62, bx62, h0⟩ := bnd h0; (try simp only [go_sem]); (refine xcall_p (hotspotref17_Dist_p a0.Start a1 bx62) ?_; try dsimp only); (try refine xw_id ?_); (try simp only [go_sem]); refine qU u ?_; clear u U; refine awp_cond (b := (decide (64 ≤ x62))) rfl (fun h3 => ?_) (fun h3 => ?_)
   ·
    have h0 := cT h0 h3; refine awp_assoc ?_; refine awp_nw [4] fun tz U u => ?_; (try simp only [go_sem]); refine qU u ?_; clear u U; refine awp_ret ?_; obtain rfl := someInj h0; refine endW_i ?_; refine end_ret0 rs69 qR ?_; exact qF
   ·
    have h0 := cF h0 h3; refine awp_skip ?_; refine awp_nr [1,2,4] (fun _ => rfl) fun tz => ?_; refine awp_regDW fun U u all hall => ?_; refine xd_id ?_; (try simp only [List.toList_toArray, List.map_cons, List.map_nil, List.size_toArray, List.length_cons, List.length_nil, Nat.zero_add]); (try simp only [Nat.reduceAdd]); obtain ⟨x63, bx63, h0⟩ := bnd h0; (iterate 3 ((try simp only [go_sem, -Nat.reduceAdd]); try simp only [Nat.reduceAdd])); (refine xcallD_E (hotspotref17_Marked_e a0 bx63 _) ?_; try dsimp only); (try refine xd_id ?_); obtain ⟨x64, bx64, h0⟩ := bnd h0; have bx64 := chk_some bx64; simp only [Bool.and_eq_true, decide_eq_true_eq] at bx64; have gx64_0 := bx64; obtain ⟨x65, bx65, h0⟩ := bnd h0; (iterate 3 ((try simp only [go_sem, -Nat.reduceAdd, gx64_0]); try simp only [Nat.reduceAdd])); (have gl4 : x63.length + 1 = (x63 ++ [a1]).length := by first | rfl | (simp only [List.length_append, List.length_take, List.length_drop, List.length_cons, List.length_nil, List.length_modify, List.length_set, Nat.zero_add]; done) | (simp only [List.length_append, List.length_take, List.length_drop, List.length_cons, List.length_nil, List.length_modify, List.length_set, Nat.zero_add]; omega)); (refine xcallD_L (by first | (simp only [go_sem, fz, gx64_0, gl4] <;> rfl) | (simp only [go_sem, fz, List.length_set, ble_self, take_set, cond_true, cond_false, gx64_0, gl4] <;> rfl)) (by first | (simp only [go_sem, reach, gx64_0] <;> rfl)) (hotspotref17_Of_p a0.Start (x63 ++ [a1]) bx65) (bare_ok (by rfl)) ?_; try dsimp only); (try refine xd_id ?_); (iterate 3 ((try simp only [go_sem, -Nat.reduceAdd, gx64_0]); try simp only [Nat.reduceAdd])); refine And.intro ?_ (u _ _ (Wk.refl _ _ _) ?_)
    ·
     subst hall; clear u U; exact qP
    ·
     clear u U hall all; refine awp_ret1 ?_; obtain rfl := someInj h0; refine endW_i ?_; refine end_ret0 rs69 qR ?_; exact qF
def hotspotref18_Note_S0 (a1 : Int) (d57 : Window) : AS :=
 { objs := (upd (upd (fun _ => .dead) 0 (.live (e_Window d57))) 1 (.live (e_Window Window.z))), next := 2, tmps := (upd (upd (upd (fun _ => .unk) 1 (vi a1)) 2 (.ptr 0 0)) 4 (.ptr 1 0)) }

theorem hotspotref18_Note_p (a0 : Window) (a1 : Int) {r : Window} (h0 : hotspotref18_Note a0 a1 = some r) : SndP K 56 [(.agg (e_Window a0)), (vi a1)] (.agg (e_Window r)) := by
 refine SndP.of_walkW hC (Clean.agg (e_Window_clean _)) (clean_cons (Clean.agg (e_Window_clean _)) (clean_cons cv clean_nil)) (show K.P.funcs[56]? = some Try.f56 from Try.func56) rfl rfl (by decide +kernel) (qB2 rfl) ?_; unfold hotspotref18_Note at h0; refine awp_nw [0,1] fun tz U u => ?_; (try simp only [go_sem]); refine qU u ?_; clear u U; refine awp_nw [1,2,4] fun tz U u => ?_; obtain ⟨x56, bx56, h0⟩ := bnd h0; (try simp only [go_sem]); (refine xcall_p (hotspotref17_Dist_p a0.Start a1 bx56) ?_; try dsimp only); (try refine xw_id ?_); (try simp only [go_sem]); refine qU u ?_; clear u U; refine awp_assoc ?_; refine awp_nw [1,2,4,5] fun tz U u => ?_; (try simp only [go_sem]); refine qU u ?_; clear u U; refine awp_cond (b := (decide (2048 ≤ x56))) rfl (fun h1 => ?_) (fun h1 => ?_)
 ·
  have h0 := cT h0 h1; refine awp_assoc ?_; refine awp_nw [2,4] fun tz U u => ?_; (try simp only [go_sem]); refine qU u ?_; clear u U; refine awp_ret ?_; obtain rfl := someInj h0; refine endW_i ?_; refine end_ret0 rs56 qR ?_; exact qF
 ·
  have h0 := cF h0 h1; refine awp_skip ?_; refine awp_assoc ?_; refine awp_nw [1,2,4,5] fun tz U u => ?_; (try simp only [go_sem]); refine qU u ?_; clear u U; obtain ⟨d57, hi2, h0⟩ := bnd h0; refine awp_cut (fun z => d57 = z) (fun d57 : Window => hotspotref18_Note_S0 a1 d57) ?_ ?_
  ·
   refine awp_cond1 (b := (decide (64 ≤ x56))) rfl (fun h3 => ?_) (fun h3 => ?_)
   ·
    have hi2 := cT hi2 h3; refine awp_nr1 [1,2,4] (fun _ => rfl) fun tz => ?_; refine awp_regD1 fun U u all hall => ?_; refine xd_id ?_; (try simp only [List.toList_toArray, List.map_cons, List.map_nil, List.size_toArray, List.length_cons, List.length_nil, Nat.zero_add]); (try simp only [Nat.reduceAdd]); obtain ⟨x58, bx58, hi2⟩ := bnd hi2; (iterate 3 ((try simp only [go_sem, -Nat.reduceAdd]); try simp only [Nat.reduceAdd])); (refine xcallD_p (hotspotref17_Add_p a1 (-63) bx58) ?_; try dsimp only); (try refine xd_id ?_); obtain ⟨x59, bx59, hi2⟩ := bnd hi2; (iterate 3 ((try simp only [go_sem, -Nat.reduceAdd]); try simp only [Nat.reduceAdd])); (refine xcallD_p (hotspotref17_Move_p a0 x58 bx59) ?_; try dsimp only); (try refine xd_id ?_); (iterate 3 ((try simp only [go_sem, -Nat.reduceAdd]); try simp only [Nat.reduceAdd])); refine And.intro ?_ (u _ ?_)
    ·
     subst hall; clear u U; exact qP
    ·
     clear u U hall all; refine sq_n ?_; obtain rfl := someInj hi2; exact ⟨_, rfl, (Wk.canonD [] [] [some 0, some 1] rfl trivial rfl (tmOU 1 (tmOU 0 tmO0 rfl qM rfl (TmL.clean (e_Window_clean _))) rfl qM rfl (TmL.clean (e_Window_clean _))) (tA 4 (tA 2 (tA 1 tmAll0 tv) tp) tp))⟩
   ·
    have hi2 := cF hi2 h3; refine awp_skip1 ?_; refine sq_n ?_; obtain rfl := someInj hi2; exact ⟨_, rfl, (Wk.canonD [] [] [some 0, some 1] rfl trivial rfl (tmOU 1 (tmOU 0 tmO0 rfl qM rfl (TmL.clean (e_Window_clean _))) rfl qM rfl (TmL.clean (e_Window_clean _))) (tA 4 (tA 2 (tA 1 tmAll0 tv) tp) tp))⟩
  ·
   rintro _ rfl; clear hi2; unfold hotspotref18_Note_S0; refine awp_nw [1,2,4] fun tz U u => ?_; obtain ⟨x60, bx60, h0⟩ := bnd h0; (try simp only [go_sem]); (refine xcall_p (hotspotref17_Mark_p d57 a1 bx60) ?_; try dsimp only); (try refine xw_id ?_); (try simp only [go_sem]); refine qU u ?_; clear u U; refine awp_nw [2,4] fun tz U u => ?_; (try simp only [go_sem]); refine qU u ?_; clear u U; refine awp_ret1 ?_; obtain rfl := someInj h0; refine endW_i ?_; refine end_ret0 rs56 qR ?_; exact qF
def hotspotref18_move_S0 (d64 : (Reorder × List Frame)) : AS :=
 { objs := (upd (upd (upd (fun _ => .dead) 0 (.live (e_Reorder d64.1 (.imm (List.flatMap E_HeldSeq d64.1.Held) d64.1.Held.length)))) 1 (.live (e_Reorder Reorder.z vnil))) 2 (.live (List.flatMap E_Frame d64.2))), next := 3, tmps := (upd (upd (upd (fun _ => .unk) 2 (.ptr 0 0)) 5 (.ptr 1 0)) 6 (.ref 2 0 d64.2.length 41)) }

def hotspotref18_move_S1 (d65 : (Int × Reorder × List HeldSeq × List Frame)) : AS :=
 { objs := (upd (upd (upd (fun _ => .dead) 0 (.live (e_Reorder d65.2.1 (.imm (List.flatMap E_HeldSeq d65.2.2.1) d65.2.2.1.length)))) 1 (.live (e_Reorder Reorder.z vnil))) 2 (.live (List.flatMap E_Frame d65.2.2.2))), next := 3, tmps := (upd (upd (upd (upd (fun _ => .unk) 1 (vi d65.1)) 2 (.ptr 0 0)) 5 (.ptr 1 0)) 6 (.ref 2 0 d65.2.2.2.length 41)) }

def hotspotref18_move_S3 (d64 : (Reorder × List Frame)) (d69 : (List HeldSeq)) : AS :=
 { objs := (upd (upd (upd (upd (fun _ => .dead) 0 (.live (e_Reorder d64.1 (.imm (List.flatMap E_HeldSeq d64.1.Held) d64.1.Held.length)))) 1 (.live (e_Reorder Reorder.z vnil))) 2 (.live (List.flatMap E_Frame d64.2))) 3 (.live (List.flatMap E_HeldSeq d69))), next := 4, tmps := (upd (upd (upd (upd (fun _ => .unk) 2 (.ptr 0 0)) 5 (.ptr 1 0)) 6 (.ref 2 0 d64.2.length 41)) 9 (.ref 3 0 d69.length 42)) }

def hotspotref18_move_S4 (d64 : (Reorder × List Frame)) (d70 : (List HeldSeq × Int)) : AS :=
 { objs := (upd (upd (upd (upd (fun _ => .dead) 0 (.live (e_Reorder d64.1 (.imm (List.flatMap E_HeldSeq d64.1.Held) d64.1.Held.length)))) 1 (.live (e_Reorder Reorder.z vnil))) 2 (.live (List.flatMap E_Frame d64.2))) 3 (.live (List.flatMap E_HeldSeq d70.1))), next := 4, tmps := (upd (upd (upd (upd (upd (fun _ => .unk) 2 (.ptr 0 0)) 5 (.ptr 1 0)) 6 (.ref 2 0 d64.2.length 41)) 9 (.ref 3 0 d70.1.length 42)) 10 (vi d70.2)) }

def hotspotref18_move_S6 (d64 : (Reorder × List Frame)) (d70 : (List HeldSeq × Int)) (d71 : (List HeldSeq)) : AS :=
 { objs := (upd (upd (upd (upd (fun _ => .dead) 0 (.live (e_Reorder d64.1 (.imm (List.flatMap E_HeldSeq d64.1.Held) d64.1.Held.length)))) 1 (.live (e_Reorder Reorder.z vnil))) 2 (.live (List.flatMap E_Frame d64.2))) 3 (.live (List.flatMap E_HeldSeq d71))), next := 4, tmps := (upd (upd (upd (upd (upd (fun _ => .unk) 2 (.ptr 0 0)) 5 (.ptr 1 0)) 6 (.ref 2 0 d64.2.length 41)) 9 (.ref 3 0 d71.length 42)) 10 (vi d70.2)) }

def hotspotref18_move_S7 (d64 : (Reorder × List Frame)) (d70 : (List HeldSeq × Int)) (d73 : (List HeldSeq)) : AS :=
 { objs := (upd (upd (upd (upd (fun _ => .dead) 0 (.live (e_Reorder d64.1 (.imm (List.flatMap E_HeldSeq d64.1.Held) d64.1.Held.length)))) 1 (.live (e_Reorder Reorder.z vnil))) 2 (.live (List.flatMap E_Frame d64.2))) 3 (.live (List.flatMap E_HeldSeq d73))), next := 4, tmps := (upd (upd (upd (upd (upd (fun _ => .unk) 2 (.ptr 0 0)) 5 (.ptr 1 0)) 6 (.ref 2 0 d64.2.length 41)) 9 (.ref 3 0 d73.length 42)) 10 (vi d70.2)) }

def hotspotref18_move_S8 (d64 : (Reorder × List Frame)) (d70 : (List HeldSeq × Int)) (x72 : Int) (d74 : (List HeldSeq × Int)) : AS :=
 { objs := (upd (upd (upd (upd (fun _ => .dead) 0 (.live (e_Reorder d64.1 (.imm (List.flatMap E_HeldSeq d64.1.Held) d64.1.Held.length)))) 1 (.live (e_Reorder Reorder.z vnil))) 2 (.live (List.flatMap E_Frame d64.2))) 3 (.live (List.flatMap E_HeldSeq d74.1))), next := 4, tmps := (upd (upd (upd (upd (upd (upd (upd (fun _ => .unk) 2 (.ptr 0 0)) 5 (.ptr 1 0)) 6 (.ref 2 0 d64.2.length 41)) 9 (.ref 3 0 d74.1.length 42)) 10 (vi d70.2)) 11 (vi x72)) 12 (vi d74.2)) }

theorem hotspotref18_move_r (a0 : Reorder) (a1 : Int) {r : ((List Frame) × Reorder)} (h0 : hotspotref18_move a0 a1 = some r) : SndR K 46 [(.agg (E_Reorder a0)), (vi a1)] (fun q => (.tup [(.ref (q 0) 0 r.1.length 41), (.agg (e_Reorder r.2 (.ref (q 1) 0 r.2.Held.length 42)))])) [(List.flatMap E_Frame r.1), (List.flatMap E_HeldSeq r.2.Held)] := by
 refine SndR.of_walkW hC (show K.P.funcs[46]? = some Try.f46 from Try.func46) rfl rfl (by decide +kernel) (qB2 rfl) ?_; unfold hotspotref18_move at h0; refine awp_nw [0,1] fun tz U u => ?_; (try simp only [go_sem]); refine qU u ?_; clear u U; refine awp_nw [1,2,5] fun tz U u => ?_; (try simp only [go_sem]); refine qU u ?_; clear u U; obtain ⟨d64, hi1, h0⟩ := bnd h0; refine awp_cut (fun z => d64 = z) (fun d64 : (Reorder × List Frame) => hotspotref18_move_S0 d64) ?_ ?_
 ·
  refine awp_block1 ?_; refine awp_loopS (fun n (d65 : (Int × Reorder × List HeldSeq × List Frame)) => hotspotref18_move_L2 n d65 = some d64) (fun d65 : (Int × Reorder × List HeldSeq × List Frame) => hotspotref18_move_S1 d65) big (a1, a0, a0.Held, []) (Wk.canonD [] [] [some 0, some 2, none] rfl trivial rfl (tmON 2 (tmOU 1 (tmOU 0 tmO0 rfl qM rfl (e_Reorder_tmx (by rfl) (tI (c_HeldSeq _)))) rfl qM rfl (e_Reorder_tmx (by rfl) tv)) rfl) (tA 6 (tA 5 (tA 2 (tA 1 tmAll0 tv) tp) tp) tT)) hi1 ?_; clear hi1; rintro n d65 hl3; rcases n with _ | n2
  ·
   (rw [hotspotref18_move_L2] at hl3; cases hl3)
  ·
   rw [hotspotref18_move_L2] at hl3; unfold hotspotref18_move_S1; refine awp_block1 ?_; refine awp_nw [1,2,5,6] fun tz U u => ?_; obtain ⟨x66, bx66, hl3⟩ := bnd hl3; (try simp only [go_sem]); (refine xcall_M (hotspotref18_take_m d65.2.2.1 d65.2.1.Start bx66) ?_; try dsimp only); (try refine xw_id ?_); (try simp only [go_sem]); refine qU u ?_; clear u U; refine awp_assoc ?_; refine awp_nw [1,2,5,6,7,8] fun tz U u => ?_; refine xw_stop 3 qS qS (by rfl) fun V v => ?_; refine xw_id ?_; (try simp only [go_sem]); refine v _ ?_; clear v V; refine xw_cut 4 [(1, (vi d65.1)), (2, (.ptr 0 0)), (5, (.ptr 1 0)), (6, (.ref 2 0 d65.2.2.2.length 41)), (7, (.ref 13 0 x66.1.length 41)), (8, (.ref 14 0 x66.2.length 42)), (27, (vb ((decide (d65.1 ≤ 0)) && (((x66.1.length : Nat) : Int) == 0))))] qS qS (by rfl) (fun V v => ?_) fun tz => ?_
   ·
    refine xw_id ?_; rcases bE (decide (d65.1 ≤ 0)) with h4 | h4
    ·
     (try simp only [go_sem, h4]); exact v _ ⟨rfl, rfl, rfl, rfl, rfl, rfl, rfl, (qB h4), trivial⟩
    ·
     (try simp only [go_sem, h4]); exact v _ ⟨rfl, rfl, rfl, rfl, rfl, rfl, rfl, (qB h4), trivial⟩
   ·
    refine xw_id ?_; (try simp only [go_sem]); refine qU u ?_; clear u U; refine awp_cond (b := ((decide (d65.1 ≤ 0)) && (((x66.1.length : Nat) : Int) == 0))) rfl (fun h5 => ?_) (fun h5 => ?_)
    ·
     have hl3 := cT hl3 h5; refine awp_exit ?_; refine bq_o rfl ?_; refine lq_e ?_; refine bq_e ?_; refine sq_n ?_; obtain rfl := someInj hl3; exact ⟨_, rfl, (by refine Wk.canonD [] [] [some 0, some 1, some 2] rfl trivial rfl (tmOU 2 (tmOU 1 (tmOU 0 tmO0 rfl qM rfl (e_Reorder_tmx (by rfl) (tI (c_HeldSeq _)))) rfl qM rfl (e_Reorder_tmx (by rfl) tv)) rfl qM rfl (TmL.of_eq qL (c_Frame _))) (tA 6 (tA 5 (tA 2 tmAll0 tp) tp) tr); all_goals exact qN)⟩
    ·
     have hl3 := cF hl3 h5; refine awp_skip ?_; refine awp_nw [1,2,5,6,7,8] fun tz U u => ?_; obtain ⟨x67, bx67, hl3⟩ := bnd hl3; have bx67 := chk_some bx67; simp only [Bool.and_eq_true, decide_eq_true_eq] at bx67; have gx67_0 := bx67; (try simp only [go_sem, gx67_0]); refine qU u ?_; clear u U; refine awp_nw [1,2,5,6,8] fun tz U u => ?_; (try simp only [go_sem]); refine qU u ?_; clear u U; refine awp_nw [1,2,5,6] fun tz U u => ?_; obtain ⟨x68, bx68, hl3⟩ := bnd hl3; (try simp only [go_sem]); (refine xcall_p (hotspotref17_Add_p d65.2.1.Start 1 bx68) ?_; try dsimp only); (try refine xw_id ?_); (try simp only [go_sem]); refine qU u ?_; clear u U; refine awp_nw1 [1,2,5,6] fun tz U u => ?_; (try simp only [go_sem]); refine u _ ?_; clear u U; refine bq_n ?_; refine lq_n ?_; exact ⟨n2, (IntKind.wrap .i64 (d65.1 - 1), { d65.2.1 with Start := x68 }, x66.2, (d65.2.2.2 ++ x66.1)), rfl, hl3, (by refine Wk.canonD [14] [] [some 0, some 1, some 24] rfl trivial rfl (tmOE 2 (tmOU 1 (tmOU 0 tmO0 rfl (by decide) rfl (e_Reorder_tmx (by rfl) (Tm.frz0 (by simp) rfl (by simp only [r_HeldSeq_len, e_HeldSeq_len, List.length_append, List.length_cons, List.length_nil, List.length_modify, List.length_set, Nat.zero_add, Nat.mul_one] <;> omega) (TmL.of_eq qL (c_HeldSeq _))))) rfl (by decide) rfl (e_Reorder_tmx (by rfl) tv)) (c_Frame _)) (tA 6 (tA 5 (tA 2 (tA 1 tmAll0 tv) tp) tp) tr); all_goals exact qN)⟩
 ·
  rintro _ rfl; clear hi1; unfold hotspotref18_move_S0; refine awp_nw [2,5,6] fun tz U u => ?_; (try simp only [go_sem]); refine qU u ?_; clear u U; refine awp_assoc ?_; refine awp_nw [2,5,6,9] fun tz U u => ?_; (try simp only [go_sem]); refine qU u ?_; clear u U; obtain ⟨d69, hi6, h0⟩ := bnd h0; refine awp_cut (fun z => d69 = z) (fun d69 : (List HeldSeq) => hotspotref18_move_S3 d64 d69) ?_ ?_
  ·
   refine awp_block1 ?_; refine awp_loopS (fun n (d70 : (List HeldSeq × Int)) => hotspotref18_move_L5 d64 n d70 = some d69) (fun d70 : (List HeldSeq × Int) => hotspotref18_move_S4 d64 d70) big ([], 0) (by refine Wk.canonD [] [] [some 0, some 1, some 2, none] rfl trivial rfl (tmON 3 (tmOU 2 (tmOU 1 (tmOU 0 tmO0 rfl qM rfl (e_Reorder_tmx (by rfl) (tI (c_HeldSeq _)))) rfl qM rfl (e_Reorder_tmx (by rfl) tv)) rfl qM rfl (TmL.of_eq qL (c_Frame _))) rfl) (tA 10 (tA 9 (tA 6 (tA 5 (tA 2 tmAll0 tp) tp) tr) tT) tv); all_goals exact qN) hi6 ?_; clear hi6; rintro n d70 hl8; rcases n with _ | n7
   ·
    (rw [hotspotref18_move_L5] at hl8; cases hl8)
   ·
    rw [hotspotref18_move_L5] at hl8; unfold hotspotref18_move_S4; refine awp_assoc ?_; refine awp_nw [2,5,6,9,10] fun tz U u => ?_; (try simp only [go_sem]); refine qU u ?_; clear u U; refine awp_cond (b := (decide (d70.2 < 64))) rfl (fun h9 => ?_) (fun h9 => ?_)
    ·
     have hl8 := cT hl8 h9; refine awp_skip ?_; obtain ⟨d71, hi10, hl8⟩ := bnd hl8; refine awp_cut (fun z => d71 = z) (fun d71 : (List HeldSeq) => hotspotref18_move_S6 d64 d70 d71) ?_ ?_
     ·
      refine awp_block1 ?_; refine awp_nw [2,5,6,9,10] fun tz U u => ?_; obtain ⟨x72, bx72, hi10⟩ := bnd hi10; (try simp only [go_sem]); (refine xcall_p (hotspotref17_Add_p d64.1.Start d70.2 bx72) ?_; try dsimp only); (try refine xw_id ?_); (try simp only [go_sem]); refine qU u ?_; clear u U; refine awp_nw [2,5,6,9,10,11] fun tz U u => ?_; (try simp only [go_sem]); refine qU u ?_; clear u U; obtain ⟨d73, hi11, hi10⟩ := bnd hi10; refine awp_cutQ (fun z => d73 = z) (fun d73 : (List HeldSeq) => hotspotref18_move_S7 d64 d70 d73) (clQ_blk clQ_cut) ?_ ?_
      ·
       refine awp_block1 ?_; refine awp_loopS (fun n (d74 : (List HeldSeq × Int)) => hotspotref18_move_L9 d64 x72 n d74 = some d73) (fun d74 : (List HeldSeq × Int) => hotspotref18_move_S8 d64 d70 x72 d74) big (d70.1, 0) (by refine Wk.canonD [] [] [some 0, some 1, some 2, some 3] rfl trivial rfl (tmOU 3 (tmOU 2 (tmOU 1 (tmOU 0 tmO0 rfl qM rfl (e_Reorder_tmx (by rfl) (tI (c_HeldSeq _)))) rfl qM rfl (e_Reorder_tmx (by rfl) tv)) rfl qM rfl (TmL.of_eq qL (c_Frame _))) rfl qM rfl (TmL.of_eq qL (c_HeldSeq _))) (tA 12 (tA 11 (tA 10 (tA 9 (tA 6 (tA 5 (tA 2 tmAll0 tp) tp) tr) tr) tv) tv) tv); all_goals exact qN) hi11 ?_; clear hi11; rintro n d74 hl13; rcases n with _ | n12
       ·
        (rw [hotspotref18_move_L9] at hl13; cases hl13)
       ·
        rw [hotspotref18_move_L9] at hl13; unfold hotspotref18_move_S8; refine awp_assoc ?_; refine awp_nw [2,5,6,9,10,11,12] fun tz U u => ?_; (try simp only [go_sem]); refine qU u ?_; clear u U; refine awp_cond (b := (decide (d74.2 < (d64.1.Held.length : Int)))) rfl (fun h14 => ?_) (fun h14 => ?_)
        ·
         have hl13 := cT hl13 h14; refine awp_skip ?_; refine awp_blockW ?_; refine awp_nw [2,5,6,9,10,11,12] fun tz U u => ?_; obtain ⟨x75, bx75, hl13⟩ := bnd hl13; obtain ⟨fx75_0, fx75_1, fx75_2, fx75_3⟩ := idx_some bx75; (try simp only [go_sem, fx75_0, fx75_1, fx75_2]); refine qU u ?_; clear u U; refine awp_cond1 (b := (x75.Frame.Head.Seq == x72)) rfl (fun h15 => ?_) (fun h15 => ?_)
         ·
          have hl13 := cT hl13 h15; refine awp_nw1 [2,5,6,9,10,11,12] fun tz U u => ?_; obtain ⟨x76, bx76, hl13⟩ := bnd hl13; have bx76 := chk_some bx76; simp only [Bool.and_eq_true, decide_eq_true_eq] at bx76; have gx76_0 := bx76; (try simp only [go_sem, fx75_0, fx75_1, fx75_2, gx76_0]); refine u _ ?_; clear u U; refine bq_n ?_; refine seqW_i ?_; refine awp_nw1 [2,5,6,9,10,11,12] fun tz U u => ?_; (try simp only [go_sem, fx75_0, fx75_1, fx75_2]); refine u _ ?_; clear u U; refine lq_n ?_; exact ⟨n12, ((d74.1 ++ [x75]), IntKind.wrap .i64 (d74.2 + 1)), rfl, hl13, (by refine Wk.canonD [] [] [some 0, some 1, some 2, some 26] rfl trivial rfl (tmOU 3 (tmOU 2 (tmOU 1 (tmOU 0 tmO0 rfl qM rfl (e_Reorder_tmx (by rfl) (tI (c_HeldSeq _)))) rfl qM rfl (e_Reorder_tmx (by rfl) tv)) rfl qM rfl (TmL.of_eq qL (c_Frame _))) rfl qM rfl (TmL.of_eq qL (c_HeldSeq _))) (tA 12 (tA 11 (tA 10 (tA 9 (tA 6 (tA 5 (tA 2 tmAll0 tp) tp) tr) tr) tv) tv) tv); all_goals exact qN)⟩
         ·
          have hl13 := cF hl13 h15; refine awp_skip1 ?_; refine bq_n ?_; refine seqW_i ?_; refine awp_nw1 [2,5,6,9,10,11,12] fun tz U u => ?_; (try simp only [go_sem, fx75_0, fx75_1, fx75_2]); refine u _ ?_; clear u U; refine lq_n ?_; exact ⟨n12, (d74.1, IntKind.wrap .i64 (d74.2 + 1)), rfl, hl13, (by refine Wk.canonD [] [] [some 0, some 1, some 2, some 3] rfl trivial rfl (tmOU 3 (tmOU 2 (tmOU 1 (tmOU 0 tmO0 rfl qM rfl (e_Reorder_tmx (by rfl) (tI (c_HeldSeq _)))) rfl qM rfl (e_Reorder_tmx (by rfl) tv)) rfl qM rfl (TmL.of_eq qL (c_Frame _))) rfl qM rfl (TmL.of_eq qL (c_HeldSeq _))) (tA 12 (tA 11 (tA 10 (tA 9 (tA 6 (tA 5 (tA 2 tmAll0 tp) tp) tr) tr) tv) tv) tv); all_goals exact qN)⟩
        ·
         have hl13 := cF hl13 h14; refine awp_exit ?_; refine lq_e ?_; refine bq_e ?_; refine sq_n ?_; obtain rfl := someInj hl13; exact ⟨_, rfl, (by refine Wk.canonD [] [] [some 0, some 1, some 2, some 3] rfl trivial rfl (tmOU 3 (tmOU 2 (tmOU 1 (tmOU 0 tmO0 rfl qM rfl (e_Reorder_tmx (by rfl) (tI (c_HeldSeq _)))) rfl qM rfl (e_Reorder_tmx (by rfl) tv)) rfl qM rfl (TmL.of_eq qL (c_Frame _))) rfl qM rfl (TmL.of_eq qL (c_HeldSeq _))) (tA 10 (tA 9 (tA 6 (tA 5 (tA 2 tmAll0 tp) tp) tr) tr) tv); all_goals exact qN)⟩
      ·
       rintro _ rfl; clear hi11; unfold hotspotref18_move_S7; refine bq_n ?_; refine sq_n ?_; obtain rfl := someInj hi10; exact ⟨_, rfl, (by refine Wk.canonD [] [] [some 0, some 1, some 2, some 3] rfl trivial rfl (tmOU 3 (tmOU 2 (tmOU 1 (tmOU 0 tmO0 rfl qM rfl (e_Reorder_tmx (by rfl) (tI (c_HeldSeq _)))) rfl qM rfl (e_Reorder_tmx (by rfl) tv)) rfl qM rfl (TmL.of_eq qL (c_Frame _))) rfl qM rfl (TmL.of_eq qL (c_HeldSeq _))) (tA 10 (tA 9 (tA 6 (tA 5 (tA 2 tmAll0 tp) tp) tr) tr) tv); all_goals exact qN)⟩
     ·
      rintro _ rfl; clear hi10; unfold hotspotref18_move_S6; refine awp_nw1 [2,5,6,9,10] fun tz U u => ?_; (try simp only [go_sem]); refine u _ ?_; clear u U; refine lq_n ?_; exact ⟨n7, (d71, IntKind.wrap .i64 (d70.2 + 1)), rfl, hl8, (by refine Wk.canonD [] [] [some 0, some 1, some 2, some 3] rfl trivial rfl (tmOU 3 (tmOU 2 (tmOU 1 (tmOU 0 tmO0 rfl qM rfl (e_Reorder_tmx (by rfl) (tI (c_HeldSeq _)))) rfl qM rfl (e_Reorder_tmx (by rfl) tv)) rfl qM rfl (TmL.of_eq qL (c_Frame _))) rfl qM rfl (TmL.of_eq qL (c_HeldSeq _))) (tA 10 (tA 9 (tA 6 (tA 5 (tA 2 tmAll0 tp) tp) tr) tr) tv); all_goals exact qN)⟩
    ·
     have hl8 := cF hl8 h9; refine awp_exit ?_; refine lq_e ?_; refine bq_e ?_; refine sq_n ?_; obtain rfl := someInj hl8; exact ⟨_, rfl, (by refine Wk.canonD [] [] [some 0, some 1, some 2, some 3] rfl trivial rfl (tmOU 3 (tmOU 2 (tmOU 1 (tmOU 0 tmO0 rfl qM rfl (e_Reorder_tmx (by rfl) (tI (c_HeldSeq _)))) rfl qM rfl (e_Reorder_tmx (by rfl) tv)) rfl qM rfl (TmL.of_eq qL (c_Frame _))) rfl qM rfl (TmL.of_eq qL (c_HeldSeq _))) (tA 9 (tA 6 (tA 5 (tA 2 tmAll0 tp) tp) tr) tr); all_goals exact qN)⟩
  ·
   rintro _ rfl; clear hi6; unfold hotspotref18_move_S3; refine awp_nw [2,5,6,9] fun tz U u => ?_; (try simp only [go_sem]); refine qU u ?_; clear u U; refine awp_nr [2,5,6] (fun _ => rfl) fun tz => ?_; refine awp_regDW fun U u all hall => ?_; refine xd_id ?_; (try simp only [List.toList_toArray, List.map_cons, List.map_nil, List.size_toArray, List.length_cons, List.length_nil, Nat.zero_add]); (try simp only [Nat.reduceAdd]); (iterate 3 ((try simp only [go_sem, -Nat.reduceAdd]); try simp only [Nat.reduceAdd])); refine And.intro ?_ (u _ _ (Wk.refl _ _ _) ?_)
   ·
    subst hall; clear u U; exact qP
   ·
    clear u U hall all; refine awp_ret1 ?_; obtain rfl := someInj h0; refine endW_i ?_; refine end_ret0 rs46 qR ?_; refine Res.mk [] [some 2, some 3] rfl (resOU qM rfl (TmL.of_eq qL (c_Frame _)) (resOU qM rfl (TmL.of_eq qL (c_HeldSeq _)) resO0)) (Tm.tup (tc tr (tc (Tm.agg (e_Reorder_tmx (by rfl) tr)) tn))); (all_goals exact qN)

theorem hotspotref18_move_m (a0 : Reorder) (a1 : Int) {r : ((List Frame) × Reorder)} (h0 : hotspotref18_move a0 a1 = some r) : SndM K 46 [(.agg (E_Reorder a0)), (vi a1)] (fun q => (.tup [(.ref (q 0) 0 r.1.length 41), (.agg (e_Reorder r.2 (.ref (q 1) 0 r.2.Held.length 42)))])) [(List.flatMap E_Frame r.1), (List.flatMap E_HeldSeq r.2.Held)] :=
 fun hs => Snd.of_newM (RenM.tup (RenML.cons (RenM.ref 0 0 _ _) (RenML.cons (RenM.agg (e_Reorder_ren _ (RenM.ref 1 0 _ _))) RenML.nil))) (rows_all_cons (c_Frame _) (rows_all_cons (c_HeldSeq _) rows_all_nil)) (clean_cons (Clean.agg (E_Reorder_clean _)) (clean_cons cv clean_nil)) (hotspotref18_move_r a0 a1 h0) hs
def hotspotref18_Put_S0 (a0 : Reorder) (a1 : Frame) (a2 : Int) (x30 : Bool) : AS :=
 { objs := (upd (upd (upd (fun _ => .dead) 0 (.live (e_Reorder a0 (.imm (List.flatMap E_HeldSeq a0.Held) a0.Held.length)))) 1 (.live (e_Frame a1 (.imm (List.map vu a1.Body) a1.Body.length)))) 2 (.live (e_Reorder Reorder.z vnil))), next := 3, tmps := (upd (upd (upd (upd (upd (fun _ => .unk) 2 (vi a2)) 3 (.ptr 0 0)) 4 (.ptr 1 0)) 7 (.ptr 2 0)) 17 (vb (!x30))) }

def hotspotref18_Put_S1 (a0 : Reorder) (a1 : Frame) (x35 : ((List Frame) × (List HeldSeq))) (a2 : Int) (x34 : Int) : AS :=
 { objs := (upd (upd (upd (upd (fun _ => .dead) 0 (.live (e_Reorder a0 (.imm (List.flatMap E_HeldSeq a0.Held) a0.Held.length)))) 1 (.live (e_Frame a1 (.imm (List.map vu a1.Body) a1.Body.length)))) 2 (.live (e_Reorder Reorder.z vnil))) 3 (.live (List.flatMap E_Frame x35.1))), next := 4, tmps := (upd (upd (upd (upd (upd (upd (upd (fun _ => .unk) 2 (vi a2)) 3 (.ptr 0 0)) 4 (.ptr 1 0)) 7 (.ptr 2 0)) 9 (vi a1.Head.Seq)) 10 (vi x34)) 11 (.ref 3 0 x35.1.length 41)) }

def hotspotref18_Put_S2 (a0 : Reorder) (x36 : Window) (a2 : Int) (a1 : Frame) (x34 : Int) : AS :=
 { objs := (upd (upd (fun _ => .dead) 0 (.live (e_Reorder { a0 with Seen := x36 } (.imm (List.flatMap E_HeldSeq (a0.Held ++ [{ HeldSeq.z with At := a2, Frame := a1 }])) (a0.Held ++ [{ HeldSeq.z with At := a2, Frame := a1 }]).length)))) 1 (.live (e_Reorder Reorder.z vnil))), next := 2, tmps := (upd (upd (upd (fun _ => .unk) 3 (.ptr 0 0)) 7 (.ptr 1 0)) 10 (vi x34)) }

theorem hotspotref18_Put_r (a0 : Reorder) (a1 : Frame) (a2 : Int) {r : ((List Frame) × Reorder × Int)} (h0 : hotspotref18_Put a0 a1 a2 = some r) : SndR K 29 [(.agg (E_Reorder a0)), (.agg (E_Frame a1)), (vi a2)] (fun q => (.tup [(.ref (q 0) 0 r.1.length 41), (.agg (e_Reorder r.2.1 (.ref (q 1) 0 r.2.1.Held.length 42))), (vi r.2.2)])) [(List.flatMap E_Frame r.1), (List.flatMap E_HeldSeq r.2.1.Held)] := by
 refine SndR.of_walkW hC (show K.P.funcs[29]? = some Try.f29 from Try.func29) rfl rfl (by decide +kernel) (qB2 rfl) ?_; unfold hotspotref18_Put at h0; refine awp_nw [0,1,2] fun tz U u => ?_; (try simp only [go_sem]); refine qU u ?_; clear u U; refine awp_assoc ?_; refine awp_nw [2,3,4,7] fun tz U u => ?_; obtain ⟨x30, bx30, h0⟩ := bnd h0; (try simp only [go_sem]); (refine xcall_p (hotspotref18_Valid_p a0 bx30) ?_; try dsimp only); (try refine xw_id ?_); (try simp only [go_sem]); refine u _ (hotspotref18_Put_S0 a0 a1 a2 x30) (Wk.canonD [] [] [some 0, some 1, some 3] rfl trivial rfl (tmOU 2 (tmOU 1 (tmOU 0 tmO0 rfl qM rfl (e_Reorder_tmx (by rfl) (tI (c_HeldSeq _)))) rfl qM rfl (e_Frame_tmx (by rfl) (tI (vu_clean _)))) rfl qM rfl (e_Reorder_tmx (by rfl) tv)) (tA 17 (tA 7 (tA 4 (tA 3 (tA 2 tmAll0 tv) tp) tp) tp) tv)) ?_; clear u U; unfold hotspotref18_Put_S0; refine awp_cond (b := (!x30)) rfl (fun h1 => ?_) (fun h1 => ?_)
 ·
  have h0 := cT h0 h1; refine awp_assoc ?_; refine awp_nw [7] fun tz U u => ?_; (try simp only [go_sem]); refine qU u ?_; clear u U; refine awp_ret ?_; obtain rfl := someInj h0; refine endW_i ?_; refine end_ret0 rs29 qR ?_; refine Res.mk [] [none, none] rfl (resON (resON resO0)) (Tm.tup (tc tT (tc (Tm.agg (e_Reorder_tmx (by rfl) tT)) (tc tv tn))))
 ·
  have h0 := cF h0 h1; refine awp_skip ?_; refine awp_nw [2,3,4,7] fun tz U u => ?_; (try simp only [go_sem]); refine qU u ?_; clear u U; refine awp_assoc ?_; refine awp_nw [2,3,4,7,9] fun tz U u => ?_; obtain ⟨x31, bx31, h0⟩ := bnd h0; (try simp only [go_sem]); (refine xcall_p (hotspotref18_Moment_p a2 bx31) ?_; try dsimp only); (try refine xw_id ?_); refine xw_stop 2 qS qS (by rfl) fun V v => ?_; refine xw_id ?_; (try simp only [go_sem]); refine v _ ?_; clear v V; obtain ⟨x33, hvh2, h0⟩ := bnd h0; refine xw_cut 4 [(2, (vi a2)), (3, (.ptr 0 0)), (4, (.ptr 1 0)), (7, (.ptr 2 0)), (9, (vi a1.Head.Seq)), (29, (vb x33))] qS qS (by rfl) (fun V v => ?_) fun tz => ?_
  ·
   refine xw_id ?_; rcases bE (!x31) with h2 | h2
   ·
    have hvh2 := cT hvh2 h2; (try simp only [go_sem, h2]); obtain rfl := someInj hvh2; exact v _ ⟨rfl, rfl, rfl, rfl, rfl, rfl, (qB h2), trivial⟩
   ·
    have hvh2 := cF hvh2 h2; obtain ⟨x32, bx32, hvh2⟩ := bnd hvh2; (try simp only [go_sem, h2]); (refine xcall_p (hotspotref17_Number_p a1.Head.Seq bx32) ?_; try dsimp only); (try refine xw_id ?_); (try simp only [go_sem, h2]); obtain rfl := someInj hvh2; exact v _ ⟨rfl, rfl, rfl, rfl, rfl, rfl, (qB h2), trivial⟩
  ·
   refine xw_id ?_; (try simp only [go_sem]); refine qU u ?_; clear u U; refine awp_cond (b := x33) rfl (fun h3 => ?_) (fun h3 => ?_)
   ·
    have h0 := cT h0 h3; refine awp_assoc ?_; refine awp_nw [7] fun tz U u => ?_; (try simp only [go_sem]); refine qU u ?_; clear u U; refine awp_ret ?_; obtain rfl := someInj h0; refine endW_i ?_; refine end_ret0 rs29 qR ?_; refine Res.mk [] [none, none] rfl (resON (resON resO0)) (Tm.tup (tc tT (tc (Tm.agg (e_Reorder_tmx (by rfl) tT)) (tc tv tn))))
   ·
    have h0 := cF h0 h3; refine awp_skip ?_; refine awp_nw [2,3,4,7,9] fun tz U u => ?_; obtain ⟨x34, bx34, h0⟩ := bnd h0; (try simp only [go_sem]); (refine xcall_p (hotspotref17_Dist_p a0.Start a1.Head.Seq bx34) ?_; try dsimp only); (try refine xw_id ?_); (try simp only [go_sem]); refine qU u ?_; clear u U; refine awp_nw [2,3,4,7,9,10] fun tz U u => ?_; obtain ⟨x35, bx35, h0⟩ := bnd h0; (try simp only [go_sem]); (refine xcall_M (hotspotref18_take_m a0.Held a1.Head.Seq bx35) ?_; try dsimp only); (try refine xw_id ?_); (try simp only [go_sem]); refine u _ (hotspotref18_Put_S1 a0 a1 x35 a2 x34) (by refine Wk.canonD [] [] [some 0, some 1, some 2, some 29] rfl trivial rfl (tmOU 3 (tmOU 2 (tmOU 1 (tmOU 0 tmO0 rfl qM rfl (e_Reorder_tmx (by rfl) (tI (c_HeldSeq _)))) rfl qM rfl (e_Frame_tmx (by rfl) (tI (vu_clean _)))) rfl qM rfl (e_Reorder_tmx (by rfl) tv)) rfl qM rfl (TmL.of_eq qL (c_Frame _))) (tA 11 (tA 10 (tA 9 (tA 7 (tA 4 (tA 3 (tA 2 tmAll0 tv) tp) tp) tp) tv) tv) tr); all_goals exact qN) ?_; clear u U; unfold hotspotref18_Put_S1; refine awp_assoc ?_; refine awp_nw [2,3,4,7,9,10,11] fun tz U u => ?_; refine xw_stop 3 qS qS (by rfl) fun V v => ?_; refine xw_id ?_; (try simp only [go_sem]); refine v _ ?_; clear v V; refine xw_cut 4 [(2, (vi a2)), (3, (.ptr 0 0)), (4, (.ptr 1 0)), (7, (.ptr 2 0)), (9, (vi a1.Head.Seq)), (10, (vi x34)), (48, (vb ((decide (2048 ≤ x34)) || (decide (0 < ((x35.1.length : Nat) : Int))))))] qS qS (by rfl) (fun V v => ?_) fun tz => ?_
    ·
     refine xw_id ?_; rcases bE (decide (2048 ≤ x34)) with h4 | h4
     ·
      (try simp only [go_sem, h4]); exact v _ ⟨rfl, rfl, rfl, rfl, rfl, rfl, rfl, (qB h4), trivial⟩
     ·
      (try simp only [go_sem, h4]); exact v _ ⟨rfl, rfl, rfl, rfl, rfl, rfl, rfl, (qB h4), trivial⟩
    ·
     refine xw_id ?_; (try simp only [go_sem]); refine qU u ?_; clear u U; refine awp_cond (b := ((decide (2048 ≤ x34)) || (decide (0 < ((x35.1.length : Nat) : Int))))) rfl (fun h5 => ?_) (fun h5 => ?_)
     ·
      have h0 := cT h0 h5; refine awp_assoc ?_; refine awp_nw [7] fun tz U u => ?_; (try simp only [go_sem]); refine qU u ?_; clear u U; refine awp_ret ?_; obtain rfl := someInj h0; refine endW_i ?_; refine end_ret0 rs29 qR ?_; refine Res.mk [] [none, none] rfl (resON (resON resO0)) (Tm.tup (tc tT (tc (Tm.agg (e_Reorder_tmx (by rfl) tT)) (tc tv tn))))
     ·
      have h0 := cF h0 h5; refine awp_skip ?_; refine awp_nw [2,3,4,7,9,10] fun tz U u => ?_; obtain ⟨x36, bx36, h0⟩ := bnd h0; (try simp only [go_sem]); (refine xcall_p (hotspotref18_Note_p a0.Seen a1.Head.Seq bx36) ?_; try dsimp only); (try refine xw_id ?_); (try simp only [go_sem]); refine qU u ?_; clear u U; refine awp_nr [2,3,4,7,10] (fun _ => rfl) fun tz => ?_; refine awp_regDW fun U u all hall => ?_; refine xd_id ?_; (try simp only [List.toList_toArray, List.map_cons, List.map_nil, List.size_toArray, List.length_cons, List.length_nil, Nat.zero_add]); (try simp only [Nat.reduceAdd]); obtain ⟨x37, bx37, h0⟩ := bnd h0; have bx37 := chk_some bx37; simp only [Bool.and_eq_true, decide_eq_true_eq] at bx37; have gx37_0 := bx37; obtain ⟨x38, bx38, h0⟩ := bnd h0; have bx38 := chk_some bx38; simp only [Bool.and_eq_true, decide_eq_true_eq] at bx38; have gx38_0 := bx38; (iterate 3 ((try simp only [go_sem, -Nat.reduceAdd, gx37_0, gx38_0]); try simp only [Nat.reduceAdd])); refine And.intro ?_ (u _ (hotspotref18_Put_S2 a0 x36 a2 a1 x34) (by refine Wk.canonD [25] [] [some 0, some 2] rfl trivial rfl (tmOU 1 (tmOU 0 tmO0 rfl (by decide) rfl (e_Reorder_tmx (by rfl) (Tm.frzK ?_ (by simp) rfl (by simp only [r_HeldSeq_len, e_HeldSeq_len, List.length_append, List.length_cons, List.length_nil, List.length_modify, List.length_set, Nat.zero_add, Nat.mul_one] <;> omega) (TmL.of_eq qL (c_HeldSeq _))))) rfl (by decide) rfl (e_Reorder_tmx (by rfl) tv)) (tA 10 (tA 7 (tA 3 tmAll0 tp) tp) tv); all_goals exact qN) ?_)
      ·
       subst hall; clear u U; exact qP
      ·
       clear u U hall all; unfold hotspotref18_Put_S2; refine awp_nw [3,7,10] fun tz U u => ?_; obtain ⟨x39, bx39, h0⟩ := bnd h0; (try simp only [go_sem]); (refine xcall_M (hotspotref18_move_m { a0 with Held := (a0.Held ++ [{ HeldSeq.z with At := a2, Frame := a1 }]), Seen := x36 } (if IntKind.wrap .i64 ((IntKind.wrap .i64 (x34 - a0.Size)) + 1) < 0 then 0 else IntKind.wrap .i64 ((IntKind.wrap .i64 (x34 - a0.Size)) + 1)) bx39) ?_; try dsimp only); (try refine xw_id ?_); (try simp only [go_sem]); refine qU u ?_; clear u U; refine awp_nr [7,13,14] (fun _ => rfl) fun tz => ?_; refine awp_regDW fun U u all hall => ?_; refine xd_id ?_; (try simp only [List.toList_toArray, List.map_cons, List.map_nil, List.size_toArray, List.length_cons, List.length_nil, Nat.zero_add]); (try simp only [Nat.reduceAdd]); (iterate 3 ((try simp only [go_sem, -Nat.reduceAdd]); try simp only [Nat.reduceAdd])); refine And.intro ?_ (u _ _ (Wk.refl _ _ _) ?_)
       ·
        subst hall; clear u U; exact qP
       ·
        clear u U hall all; refine awp_ret1 ?_; obtain rfl := someInj h0; refine endW_i ?_; refine end_ret0 rs29 qR ?_; refine Res.mk [] [some 16, some 17] rfl (resOU qM rfl (TmL.of_eq qL (c_Frame _)) (resOU qM rfl (TmL.of_eq qL (c_HeldSeq _)) resO0)) (Tm.tup (tc tr (tc (Tm.agg (e_Reorder_tmx (by rfl) tr)) (tc tv tn)))); (all_goals exact qN)

theorem hotspotref18_Put_m (a0 : Reorder) (a1 : Frame) (a2 : Int) {r : ((List Frame) × Reorder × Int)} (h0 : hotspotref18_Put a0 a1 a2 = some r) : SndM K 29 [(.agg (E_Reorder a0)), (.agg (E_Frame a1)), (vi a2)] (fun q => (.tup [(.ref (q 0) 0 r.1.length 41), (.agg (e_Reorder r.2.1 (.ref (q 1) 0 r.2.1.Held.length 42))), (vi r.2.2)])) [(List.flatMap E_Frame r.1), (List.flatMap E_HeldSeq r.2.1.Held)] :=
 fun hs => Snd.of_newM (RenM.tup (RenML.cons (RenM.ref 0 0 _ _) (RenML.cons (RenM.agg (e_Reorder_ren _ (RenM.ref 1 0 _ _))) (RenML.cons rv RenML.nil)))) (rows_all_cons (c_Frame _) (rows_all_cons (c_HeldSeq _) rows_all_nil)) (clean_cons (Clean.agg (E_Reorder_clean _)) (clean_cons (Clean.agg (E_Frame_clean _)) (clean_cons cv clean_nil))) (hotspotref18_Put_r a0 a1 a2 h0) hs
theorem hotspotref05_Same_p (a0 : Frame) (a1 : Frame) {r : Bool} (h0 : hotspotref05_Same a0 a1 = some r) : SndP K 30 [(.agg (E_Frame a0)), (.agg (E_Frame a1))] (vb r) := by
 refine SndP.of_walkW hC cv (clean_cons (Clean.agg (E_Frame_clean _)) (clean_cons (Clean.agg (E_Frame_clean _)) clean_nil)) (show K.P.funcs[30]? = some Try.f30 from Try.func30) rfl rfl (by decide +kernel) (qB2 rfl) ?_; unfold hotspotref05_Same at h0; refine awp_nw [0,1] fun tz U u => ?_; (try simp only [go_sem]); refine qU u ?_; clear u U; refine awp_nw [2,3] fun tz U u => ?_; refine xw_stop 6 qS qS (by rfl) fun V v => ?_; refine xw_id ?_; (try simp only [go_sem]); refine v _ ?_; clear v V; refine xw_cut 8 [(18, (vb ((decide (a0.Head = a1.Head)) && (sEq a0.Body a1.Body))))] qS qS (by rfl) (fun V v => ?_) fun tz => ?_
 ·
  refine xw_id ?_; rcases bE (decide (a0.Head = a1.Head)) with h1 | h1
  ·
   (try simp only [go_sem, h1, vu_len, Nat.mul_one, vu_len, Nat.mul_one]); exact v _ ⟨rfl, (qB h1), trivial⟩
  ·
   (try simp only [go_sem, h1]); exact v _ ⟨rfl, (qB h1), trivial⟩
 ·
  refine xw_id ?_; (try simp only [go_sem]); refine qU u ?_; clear u U; refine awp_ret1 ?_; obtain rfl := someInj h0; refine endW_i ?_; refine end_ret0 rs30 (rfl) ?_; exact qF
def hotspotref05_SameAll_S0 (d41 : Unit) : AS :=
 { objs := (fun _ => .dead), next := 0, tmps := (fun _ => .unk) }

def hotspotref05_SameAll_S1 (a0 : (List Frame)) (a1 : (List Frame)) (d43 : Int) : AS :=
 { objs := (fun _ => .dead), next := 0, tmps := (upd (upd (upd (fun _ => .unk) 0 (.imm (List.flatMap E_Frame a0) a0.length)) 1 (.imm (List.flatMap E_Frame a1) a1.length)) 5 (vi d43)) }

theorem hotspotref05_SameAll_p (a0 : (List Frame)) (a1 : (List Frame)) {r : Bool} (h0 : hotspotref05_SameAll a0 a1 = some r) : SndP K 22 [(S_Frame a0), (S_Frame a1)] (vb r) := by
 refine SndP.of_walkW hC cv (clean_cons (S_Frame_clean _) (clean_cons (S_Frame_clean _) clean_nil)) (show K.P.funcs[22]? = some Try.f22 from Try.func22) rfl rfl (by decide +kernel) (qB2 rfl) ?_; unfold hotspotref05_SameAll at h0; refine awp_nw [0,1] fun tz U u => ?_; (try simp only [go_sem]); refine qU u ?_; clear u U; refine awp_assoc ?_; refine awp_nw [0,1] fun tz U u => ?_; (try simp only [go_sem]); refine qU u ?_; clear u U; refine awp_cond (b := ((a0.length : Int) != (a1.length : Int))) rfl (fun h1 => ?_) (fun h1 => ?_)
 ·
  have h0 := cT h0 h1; refine awp_assoc ?_; refine awp_nw [] fun tz U u => ?_; (try simp only [go_sem]); refine qU u ?_; clear u U; refine awp_ret ?_; obtain rfl := someInj h0; refine endW_i ?_; refine end_ret0 rs22 (rfl) ?_; exact qF
 ·
  have h0 := cF h0 h1; refine awp_skip ?_; refine awp_assoc ?_; refine awp_nw [0,1] fun tz U u => ?_; (try simp only [go_sem]); refine qU u ?_; clear u U; obtain ⟨o42, hi2, h0⟩ := bnd h0; refine awp_cut (fun d41 : Unit => o42 = Ex.go d41) (fun d41 : Unit => hotspotref05_SameAll_S0 d41) ?_ ?_
  ·
   refine awp_block1 ?_; refine awp_loopS (fun n (d43 : Int) => hotspotref05_SameAll_L2 a0 a1 n d43 = some o42) (fun d43 : Int => hotspotref05_SameAll_S1 a0 a1 d43) big 0 (Wk.canonD [] [] [] rfl trivial rfl tmO0 (tA 5 (tA 1 (tA 0 tmAll0 (tI (c_Frame _))) (tI (c_Frame _))) tv)) hi2 ?_; clear hi2; rintro n d43 hl4; rcases n with _ | n3
   ·
    (rw [hotspotref05_SameAll_L2] at hl4; cases hl4)
   ·
    rw [hotspotref05_SameAll_L2] at hl4; unfold hotspotref05_SameAll_S1; refine awp_assoc ?_; refine awp_nw [0,1,5] fun tz U u => ?_; (try simp only [go_sem]); refine qU u ?_; clear u U; refine awp_cond (b := (decide (d43 < (a0.length : Int)))) rfl (fun h5 => ?_) (fun h5 => ?_)
    ·
     have hl4 := cT hl4 h5; refine awp_skip ?_; refine awp_blockW ?_; refine awp_nw [0,1,5] fun tz U u => ?_; obtain ⟨x44, bx44, hl4⟩ := bnd hl4; obtain ⟨fx44_0, fx44_1, fx44_2, fx44_3⟩ := idx_some bx44; obtain ⟨x45, bx45, hl4⟩ := bnd hl4; obtain ⟨fx45_0, fx45_1, fx45_2, fx45_3⟩ := idx_some bx45; obtain ⟨x46, bx46, hl4⟩ := bnd hl4; (try simp only [go_sem, fx44_0, fx44_1, fx44_2, fx45_0, fx45_1, fx45_2]); (refine xcall_p (hotspotref05_Same_p x44 x45 bx46) ?_; try dsimp only); (try refine xw_id ?_); (try simp only [go_sem, fx44_0, fx44_1, fx44_2, fx45_0, fx45_1, fx45_2]); refine qU u ?_; clear u U; refine awp_cond1 (b := (!x46)) rfl (fun h6 => ?_) (fun h6 => ?_)
     ·
      have hl4 := cT hl4 h6; refine awp_nw [] fun tz U u => ?_; (try simp only [go_sem, fx44_0, fx44_1, fx44_2, fx45_0, fx45_1, fx45_2]); refine qU u ?_; clear u U; refine awp_ret1 ?_; refine bq_r ?_; refine sq_r ?_; refine lq_r ?_; refine bq_r ?_; refine sq_r ?_; obtain rfl := someInj hl4; obtain rfl := Ex.k_ret h0; refine endW_i ?_; refine end_ret0 rs22 (rfl) ?_; exact qF
     ·
      have hl4 := cF hl4 h6; refine awp_skip1 ?_; refine bq_n ?_; refine seqW_i ?_; refine awp_nw1 [0,1,5] fun tz U u => ?_; (try simp only [go_sem, fx44_0, fx44_1, fx44_2, fx45_0, fx45_1, fx45_2]); refine u _ ?_; clear u U; refine lq_n ?_; exact ⟨n3, IntKind.wrap .i64 (d43 + 1), rfl, hl4, (Wk.canonD [] [] [] rfl trivial rfl tmO0 (tA 5 (tA 1 (tA 0 tmAll0 (tI (c_Frame _))) (tI (c_Frame _))) tv))⟩
    ·
     have hl4 := cF hl4 h5; refine awp_exit ?_; refine lq_e ?_; refine bq_e ?_; refine sq_n ?_; obtain rfl := someInj hl4; exact ⟨_, rfl, (Wk.canonD [] [] [] rfl trivial rfl tmO0 tmAll0)⟩
  ·
   rintro d41 rfl; have h0 := Ex.k_go h0; clear hi2; unfold hotspotref05_SameAll_S0; refine awp_nw [] fun tz U u => ?_; (try simp only [go_sem]); refine qU u ?_; clear u U; refine awp_ret1 ?_; obtain rfl := someInj h0; refine endW_i ?_; refine end_ret0 rs22 (rfl) ?_; exact qF
def hotspotref18_Same_S0 (d48 : Unit) : AS :=
 { objs := (fun _ => .dead), next := 0, tmps := (fun _ => .unk) }

def hotspotref18_Same_S1 (a0 : Reorder) (a1 : Reorder) (d50 : Int) : AS :=
 { objs := (upd (upd (fun _ => .dead) 0 (.live (e_Reorder a0 (.imm (List.flatMap E_HeldSeq a0.Held) a0.Held.length)))) 1 (.live (e_Reorder a1 (.imm (List.flatMap E_HeldSeq a1.Held) a1.Held.length)))), next := 2, tmps := (upd (upd (upd (fun _ => .unk) 2 (.ptr 0 0)) 3 (.ptr 1 0)) 5 (vi d50)) }

theorem hotspotref18_Same_p (a0 : Reorder) (a1 : Reorder) {r : Bool} (h0 : hotspotref18_Same a0 a1 = some r) : SndP K 13 [(.agg (E_Reorder a0)), (.agg (E_Reorder a1))] (vb r) := by
 refine SndP.of_walkW hC cv (clean_cons (Clean.agg (E_Reorder_clean _)) (clean_cons (Clean.agg (E_Reorder_clean _)) clean_nil)) (show K.P.funcs[13]? = some Try.f13 from Try.func13) rfl rfl (by decide +kernel) (qB2 rfl) ?_; unfold hotspotref18_Same at h0; refine awp_nw [0,1] fun tz U u => ?_; (try simp only [go_sem]); refine qU u ?_; clear u U; refine awp_assoc ?_; refine awp_nw [2,3] fun tz U u => ?_; (try simp only [List.append_eq, Array.toList_append, List.append_toArray, List.toList_toArray, List.cons_append, List.nil_append]); refine xw_stop 6 qS qS (by rfl) fun V v => ?_; refine xw_id ?_; (try simp only [go_sem]); refine v _ ?_; clear v V; refine xw_cut 6 [(2, (.ptr 0 0)), (3, (.ptr 1 0)), (17, (vb ((a0.Start != a1.Start) || (a0.Size != a1.Size))))] qS qS (by rfl) (fun V v => ?_) fun tz => ?_
 ·
  refine xw_id ?_; rcases bE (a0.Start != a1.Start) with h1 | h1
  ·
   (try simp only [go_sem, h1]); exact v _ ⟨rfl, rfl, rfl, (qB h1), trivial⟩
  ·
   (try simp only [go_sem, h1]); exact v _ ⟨rfl, rfl, rfl, (qB h1), trivial⟩
 ·
  refine xw_id ?_; refine xw_stop 1 qS qS (by rfl) fun V v => ?_; refine xw_id ?_; (try simp only [go_sem]); refine v _ ?_; clear v V; refine xw_cut 6 [(2, (.ptr 0 0)), (3, (.ptr 1 0)), (24, (vb (((a0.Start != a1.Start) || (a0.Size != a1.Size)) || (a0.Hold != a1.Hold))))] qS qS (by rfl) (fun V v => ?_) fun tz => ?_
  ·
   refine xw_id ?_; rcases bE ((a0.Start != a1.Start) || (a0.Size != a1.Size)) with h2 | h2
   ·
    (try simp only [go_sem, h2]); exact v _ ⟨rfl, rfl, rfl, (qB h2), trivial⟩
   ·
    (try simp only [go_sem, h2]); exact v _ ⟨rfl, rfl, rfl, (qB h2), trivial⟩
  ·
   refine xw_id ?_; refine xw_stop 1 qS qS (by rfl) fun V v => ?_; refine xw_id ?_; (try simp only [go_sem]); refine v _ ?_; clear v V; refine xw_cut 6 [(2, (.ptr 0 0)), (3, (.ptr 1 0)), (31, (vb ((((a0.Start != a1.Start) || (a0.Size != a1.Size)) || (a0.Hold != a1.Hold)) || (!decide (a0.Seen = a1.Seen)))))] qS qS (by rfl) (fun V v => ?_) fun tz => ?_
   ·
    refine xw_id ?_; rcases bE (((a0.Start != a1.Start) || (a0.Size != a1.Size)) || (a0.Hold != a1.Hold)) with h3 | h3
    ·
     (try simp only [go_sem, h3]); exact v _ ⟨rfl, rfl, rfl, (qB h3), trivial⟩
    ·
     (try simp only [go_sem, h3]); exact v _ ⟨rfl, rfl, rfl, (qB h3), trivial⟩
   ·
    refine xw_id ?_; refine xw_stop 1 qS qS (by rfl) fun V v => ?_; refine xw_id ?_; (try simp only [go_sem]); refine v _ ?_; clear v V; refine xw_cut 8 [(2, (.ptr 0 0)), (3, (.ptr 1 0)), (40, (vb (((((a0.Start != a1.Start) || (a0.Size != a1.Size)) || (a0.Hold != a1.Hold)) || (!decide (a0.Seen = a1.Seen))) || ((a0.Held.length : Int) != (a1.Held.length : Int)))))] qS qS (by rfl) (fun V v => ?_) fun tz => ?_
    ·
     refine xw_id ?_; rcases bE ((((a0.Start != a1.Start) || (a0.Size != a1.Size)) || (a0.Hold != a1.Hold)) || (!decide (a0.Seen = a1.Seen))) with h4 | h4
     ·
      (try simp only [go_sem, h4]); exact v _ ⟨rfl, rfl, rfl, (qB h4), trivial⟩
     ·
      (try simp only [go_sem, h4]); exact v _ ⟨rfl, rfl, rfl, (qB h4), trivial⟩
    ·
     refine xw_id ?_; (try simp only [go_sem]); refine qU u ?_; clear u U; refine awp_cond (b := (((((a0.Start != a1.Start) || (a0.Size != a1.Size)) || (a0.Hold != a1.Hold)) || (!decide (a0.Seen = a1.Seen))) || ((a0.Held.length : Int) != (a1.Held.length : Int)))) rfl (fun h5 => ?_) (fun h5 => ?_)
     ·
      have h0 := cT h0 h5; refine awp_assoc ?_; refine awp_nw [] fun tz U u => ?_; (try simp only [go_sem]); refine qU u ?_; clear u U; refine awp_ret ?_; obtain rfl := someInj h0; refine endW_i ?_; refine end_ret0 rs13 (rfl) ?_; exact qF
     ·
      have h0 := cF h0 h5; refine awp_skip ?_; refine awp_assoc ?_; refine awp_nw [2,3] fun tz U u => ?_; (try simp only [go_sem]); refine qU u ?_; clear u U; obtain ⟨o49, hi6, h0⟩ := bnd h0; refine awp_cut (fun d48 : Unit => o49 = Ex.go d48) (fun d48 : Unit => hotspotref18_Same_S0 d48) ?_ ?_
      ·
       refine awp_block1 ?_; refine awp_loopS (fun n (d50 : Int) => hotspotref18_Same_L2 a0 a1 n d50 = some o49) (fun d50 : Int => hotspotref18_Same_S1 a0 a1 d50) big 0 (Wk.canonD [] [] [some 0, some 1] rfl trivial rfl (tmOU 1 (tmOU 0 tmO0 rfl qM rfl (e_Reorder_tmx (by rfl) (tI (c_HeldSeq _)))) rfl qM rfl (e_Reorder_tmx (by rfl) (tI (c_HeldSeq _)))) (tA 5 (tA 3 (tA 2 tmAll0 tp) tp) tv)) hi6 ?_; clear hi6; rintro n d50 hl8; rcases n with _ | n7
       ·
        (rw [hotspotref18_Same_L2] at hl8; cases hl8)
       ·
        rw [hotspotref18_Same_L2] at hl8; unfold hotspotref18_Same_S1; refine awp_assoc ?_; refine awp_nw [2,3,5] fun tz U u => ?_; (try simp only [go_sem]); refine qU u ?_; clear u U; refine awp_cond (b := (decide (d50 < (a0.Held.length : Int)))) rfl (fun h9 => ?_) (fun h9 => ?_)
        ·
         have hl8 := cT hl8 h9; refine awp_skip ?_; refine awp_blockW ?_; refine awp_nw [2,3,5] fun tz U u => ?_; obtain ⟨x51, bx51, hl8⟩ := bnd hl8; obtain ⟨fx51_0, fx51_1, fx51_2, fx51_3⟩ := idx_some bx51; obtain ⟨x52, bx52, hl8⟩ := bnd hl8; obtain ⟨fx52_0, fx52_1, fx52_2, fx52_3⟩ := idx_some bx52; refine xw_stop 14 qS qS (by rfl) fun V v => ?_; refine xw_id ?_; (try simp only [go_sem, fx51_0, fx51_1, fx51_2, fx52_0, fx52_1, fx52_2]); refine v _ ?_; clear v V; obtain ⟨x54, hvh10, hl8⟩ := bnd hl8; refine xw_cut 15 [(2, (.ptr 0 0)), (3, (.ptr 1 0)), (5, (vi d50)), (76, (vb x54))] qS qS (by rfl) (fun V v => ?_) fun tz => ?_
         ·
          refine xw_id ?_; rcases bE (x51.At != x52.At) with h10 | h10
          ·
           have hvh10 := cT hvh10 h10; (try simp only [go_sem, fx51_0, fx51_1, fx51_2, fx52_0, fx52_1, fx52_2, h10]); obtain rfl := someInj hvh10; exact v _ ⟨rfl, rfl, rfl, rfl, (qB h10), trivial⟩
          ·
           have hvh10 := cF hvh10 h10; obtain ⟨x53, bx53, hvh10⟩ := bnd hvh10; (try simp only [go_sem, fx51_0, fx51_1, fx51_2, fx52_0, fx52_1, fx52_2, h10]); (refine xcall_p (hotspotref05_Same_p x51.Frame x52.Frame bx53) ?_; try dsimp only); (try refine xw_id ?_); (try simp only [go_sem, fx51_0, fx51_1, fx51_2, fx52_0, fx52_1, fx52_2, h10]); obtain rfl := someInj hvh10; exact v _ ⟨rfl, rfl, rfl, rfl, (qB h10), trivial⟩
         ·
          refine xw_id ?_; (try simp only [go_sem, fx51_0, fx51_1, fx51_2, fx52_0, fx52_1, fx52_2]); refine qU u ?_; clear u U; refine awp_cond1 (b := x54) rfl (fun h11 => ?_) (fun h11 => ?_)
          ·
           have hl8 := cT hl8 h11; refine awp_nw [] fun tz U u => ?_; (try simp only [go_sem, fx51_0, fx51_1, fx51_2, fx52_0, fx52_1, fx52_2]); refine qU u ?_; clear u U; refine awp_ret1 ?_; refine bq_r ?_; refine sq_r ?_; refine lq_r ?_; refine bq_r ?_; refine sq_r ?_; obtain rfl := someInj hl8; obtain rfl := Ex.k_ret h0; refine endW_i ?_; refine end_ret0 rs13 (rfl) ?_; exact qF
          ·
           have hl8 := cF hl8 h11; refine awp_skip1 ?_; refine bq_n ?_; refine seqW_i ?_; refine awp_nw1 [2,3,5] fun tz U u => ?_; (try simp only [go_sem, fx51_0, fx51_1, fx51_2, fx52_0, fx52_1, fx52_2]); refine u _ ?_; clear u U; refine lq_n ?_; exact ⟨n7, IntKind.wrap .i64 (d50 + 1), rfl, hl8, (Wk.canonD [] [] [some 0, some 1] rfl trivial rfl (tmOU 1 (tmOU 0 tmO0 rfl qM rfl (e_Reorder_tmx (by rfl) (tI (c_HeldSeq _)))) rfl qM rfl (e_Reorder_tmx (by rfl) (tI (c_HeldSeq _)))) (tA 5 (tA 3 (tA 2 tmAll0 tp) tp) tv))⟩
        ·
         have hl8 := cF hl8 h9; refine awp_exit ?_; refine lq_e ?_; refine bq_e ?_; refine sq_n ?_; obtain rfl := someInj hl8; exact ⟨_, rfl, (Wk.canonD [] [] [] rfl trivial rfl tmO0 tmAll0)⟩
      ·
       rintro d48 rfl; have h0 := Ex.k_go h0; clear hi6; unfold hotspotref18_Same_S0; refine awp_nw [] fun tz U u => ?_; (try simp only [go_sem]); refine qU u ?_; clear u U; refine awp_ret1 ?_; obtain rfl := someInj h0; refine endW_i ?_; refine end_ret0 rs13 (rfl) ?_; exact qF
end Go.AX.Z.TR
