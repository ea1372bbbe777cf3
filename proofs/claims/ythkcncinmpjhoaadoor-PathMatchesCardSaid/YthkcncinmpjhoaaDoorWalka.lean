/- A part of the proof: walks through the functions that the statement reaches. -/
import Derived.Test.YthkcncinmpjhoaaDoorPrea
set_option linter.unusedVariables false
set_option linter.unusedSimpArgs false

/-! (walks) -/

set_option linter.unusedSimpArgs false
set_option linter.unusedVariables false
set_option maxHeartbeats 4000000
set_option maxRecDepth 20000
namespace Go.AX.Z.TO
open Go.AX Go.Proofs
attribute [local irreducible] awp xw xop xcall gsp ob xd xdop xcallD seqQ loopQ blkQ endQ
attribute [local go_sem ↓] iop_and iop_or iop_xor iop_andn
attribute [local go_sem] Nat.reduceAdd
theorem hotspotref39_Great_p (a0 : Paths) {r : Bool} (h0 : hotspotref39_Great a0 = some r) : SndP K 4 [(.agg (E_Paths a0))] (vb r) := by
 refine SndP.of_walkW hC cv (clean_cons (Clean.agg (E_Paths_clean _)) clean_nil) (show K.P.funcs[4]? = some Tryd.f4 from Tryd.func4) rfl rfl (by decide +kernel) (qB2 rfl) ?_; unfold hotspotref39_Great at h0; refine awp_nw [0] fun tz U u => ?_; (try simp only [go_sem]); refine qU u ?_; clear u U; refine awp_nw [1] fun tz U u => ?_; refine xw_stop 5 qS qS (by rfl) fun V v => ?_; refine xw_id ?_; (try simp only [go_sem]); refine v _ ?_; clear v V; refine xw_cut 5 [(12, (vb ((decide (40 < (a0.Routes.length : Int))) || (decide (40 < (a0.Wanted.length : Int))))))] qS qS (by rfl) (fun V v => ?_) fun tz => ?_
 ·
  refine xw_id ?_; rcases bE (decide (40 < (a0.Routes.length : Int))) with h1 | h1
  ·
   (try simp only [go_sem, h1]); exact v _ ⟨rfl, (qB h1), trivial⟩
  ·
   (try simp only [go_sem, h1]); exact v _ ⟨rfl, (qB h1), trivial⟩
 ·
  refine xw_id ?_; (try simp only [go_sem]); refine qU u ?_; clear u U; refine awp_ret1 ?_; obtain rfl := someInj h0; refine endW_i ?_; refine end_ret0 rs4 (rfl) ?_; exact qF
def hotspotref39_Twin_S0 (a0 : Paths) : AS :=
 { objs := (upd (upd (upd (fun _ => .dead) 0 (.live (e_Paths a0 (.ref 1 0 a0.Routes.length 17) (.imm (List.flatMap e_PathWanted a0.Wanted) a0.Wanted.length)))) 1 (.live (List.flatMap e_PathRoute a0.Routes))) 2 (.live (e_Paths Paths.z vnil vnil))), next := 3, tmps := (upd (upd (fun _ => .unk) 1 (.ptr 0 0)) 2 (.ptr 2 0)) }

theorem hotspotref39_Twin_r (a0 : Paths) {r : Paths} (h0 : hotspotref39_Twin a0 = some r) : SndR K 5 [(.agg (E_Paths a0))] (fun q => (.agg (e_Paths r (.ref (q 0) 0 r.Routes.length 17) (.ref (q 1) 0 r.Wanted.length 8)))) [(List.flatMap e_PathRoute r.Routes), (List.flatMap e_PathWanted r.Wanted)] := by
 refine SndR.of_walkW hC (show K.P.funcs[5]? = some Tryd.f5 from Tryd.func5) rfl rfl (by decide +kernel) (qB2 rfl) ?_; unfold hotspotref39_Twin at h0; refine awp_nw [0] fun tz U u => ?_; (try simp only [go_sem]); refine qU u ?_; clear u U; refine awp_nw [1,2] fun tz U u => ?_; obtain ⟨x2, bx2, h0⟩ := bnd h0; have bx2 := chk_some bx2; simp only [Bool.and_eq_true, decide_eq_true_eq] at bx2; have gx2_0 := bx2; (try simp only [go_sem, gx2_0]); (try (rw [if_pos (by (try simp only [List.length_append, lc, ln]); omega)]; try simp only [go_sem, gx2_0])); refine u _ (hotspotref39_Twin_S0 a0) (by refine Wk.canonD [] [] [some 0, some 5, some 1] rfl trivial rfl (tmOU 2 (tmOU 1 (tmOU 0 tmO0 rfl qM rfl (e_Paths_tmx (by rfl) tr (tI (c_PathWanted _)))) rfl qM rfl (TmL.of_eq qL (c_PathRoute _))) rfl qM rfl (e_Paths_tmx (by rfl) tv tv)) (tA 2 (tA 1 tmAll0 tp) tp); all_goals exact qN) ?_; clear u U; unfold hotspotref39_Twin_S0; refine awp_nw [1,2] fun tz U u => ?_; obtain ⟨x3, bx3, h0⟩ := bnd h0; have bx3 := chk_some bx3; simp only [Bool.and_eq_true, decide_eq_true_eq] at bx3; have gx3_0 := bx3; (try simp only [go_sem, gx3_0]); (try (rw [if_pos (by (try simp only [List.length_append, lc, ln]); omega)]; try simp only [go_sem, gx3_0])); refine qU u ?_; clear u U; refine awp_nw [1,2] fun tz U u => ?_; (try simp only [go_sem]); refine qU u ?_; clear u U; refine awp_ret1 ?_; obtain rfl := someInj h0; refine endW_i ?_; refine end_ret0 rs5 qR ?_; refine Res.mk [] [some 1, some 6] rfl (resOU qM rfl (TmL.of_eq qL (c_PathRoute _)) (resOU qM rfl (TmL.of_eq qL (c_PathWanted _)) resO0)) (Tm.agg (e_Paths_tmx (by rfl) tr tr)); (all_goals exact qN)

theorem hotspotref39_Twin_m (a0 : Paths) {r : Paths} (h0 : hotspotref39_Twin a0 = some r) : SndM K 5 [(.agg (E_Paths a0))] (fun q => (.agg (e_Paths r (.ref (q 0) 0 r.Routes.length 17) (.ref (q 1) 0 r.Wanted.length 8)))) [(List.flatMap e_PathRoute r.Routes), (List.flatMap e_PathWanted r.Wanted)] :=
 fun hs => Snd.of_newM (RenM.agg (e_Paths_ren _ (RenM.ref 0 0 _ _) (RenM.ref 1 0 _ _))) (rows_all_cons (c_PathRoute _) (rows_all_cons (c_PathWanted _) rows_all_nil)) (clean_cons (Clean.agg (E_Paths_clean _)) clean_nil) (hotspotref39_Twin_r a0 h0) hs

theorem hotspotref39_Twin_p (a0 : Paths) {r : Paths} (h0 : hotspotref39_Twin a0 = some r) : SndP K 5 [(.agg (E_Paths a0))] (.agg (E_Paths r)) :=
 SndM.pure (hotspotref39_Twin_m a0 h0) (Clean.agg (E_Paths_clean _)) (clean_cons (Clean.agg (E_Paths_clean _)) clean_nil) qV
theorem path_between_p (a0 : Int) (a1 : Int) (a2 : Int) {r : Bool} (h0 : path_between a0 a1 a2 = some r) : SndP K 38 [(vi a0), (vi a1), (vi a2)] (vb r) := by
 refine SndP.of_walkW hC cv (clean_cons cv (clean_cons cv (clean_cons cv clean_nil))) (show K.P.funcs[38]? = some Tryd.f38 from Tryd.func38) rfl rfl (by decide +kernel) (qB2 rfl) ?_; unfold path_between at h0; refine awp_nw [0,1,2] fun tz U u => ?_; (try simp only [go_sem]); refine qU u ?_; clear u U; refine awp_nw [0,1,2] fun tz U u => ?_; refine xw_stop 4 qS qS (by rfl) fun V v => ?_; refine xw_id ?_; (try simp only [go_sem]); refine v _ ?_; clear v V; refine xw_cut 4 [(14, (vb ((decide (a1 ≤ a0)) && (decide (a0 ≤ a2)))))] qS qS (by rfl) (fun V v => ?_) fun tz => ?_
 ·
  refine xw_id ?_; rcases bE (decide (a1 ≤ a0)) with h1 | h1
  ·
   (try simp only [go_sem, h1]); exact v _ ⟨rfl, (qB h1), trivial⟩
  ·
   (try simp only [go_sem, h1]); exact v _ ⟨rfl, (qB h1), trivial⟩
 ·
  refine xw_id ?_; (try simp only [go_sem]); refine qU u ?_; clear u U; refine awp_ret1 ?_; obtain rfl := someInj h0; refine endW_i ?_; refine end_ret0 rs38 (rfl) ?_; exact qF
theorem path_validRoute_p (a0 : PathRoute) (a1 : A6vu) {r : Bool} (h0 : path_validRoute a0 a1 = some r) : SndP K 39 [(.agg (e_PathRoute a0)), (.agg (e_A6vu a1))] (vb r) := by
 refine SndP.of_walkW hC cv (clean_cons (Clean.agg (e_PathRoute_clean _)) (clean_cons (Clean.agg (e_A6vu_clean _)) clean_nil)) (show K.P.funcs[39]? = some Tryd.f39 from Tryd.func39) rfl rfl (by decide +kernel) (qB2 rfl) ?_; unfold path_validRoute at h0; refine awp_nw [0,1] fun tz U u => ?_; (try simp only [go_sem]); refine qU u ?_; clear u U; refine awp_assoc ?_; refine awp_nw [2,3] fun tz U u => ?_; refine xw_stop 5 qS qS (by rfl) fun V v => ?_; refine xw_id ?_; (try simp only [go_sem]); refine v _ ?_; clear v V; obtain ⟨x9, hvh1, h0⟩ := bnd h0; refine xw_cut 5 [(2, (.ptr 0 0)), (3, (.ptr 1 0)), (14, (vb x9))] qS qS (by rfl) (fun V v => ?_) fun tz => ?_
 ·
  refine xw_id ?_; rcases bE (decide (a0.Dest = a1)) with h1 | h1
  ·
   have hvh1 := cT hvh1 h1; (try simp only [go_sem, h1]); obtain rfl := someInj hvh1; exact v _ ⟨rfl, rfl, rfl, (qB h1), trivial⟩
  ·
   have hvh1 := cF hvh1 h1; obtain ⟨x8, bx8, hvh1⟩ := bnd hvh1; (try simp only [go_sem, h1]); (refine xcall_p (path_between_p a0.Seq 1 2147483647 bx8) ?_; try dsimp only); (try refine xw_id ?_); (try simp only [go_sem, h1]); obtain rfl := someInj hvh1; exact v _ ⟨rfl, rfl, rfl, (qB h1), trivial⟩
 ·
  refine xw_id ?_; (try simp only [go_sem]); refine qU u ?_; clear u U; refine awp_cond (b := x9) rfl (fun h2 => ?_) (fun h2 => ?_)
  ·
   have h0 := cT h0 h2; refine awp_assoc ?_; refine awp_nw [] fun tz U u => ?_; (try simp only [go_sem]); refine qU u ?_; clear u U; refine awp_ret ?_; obtain rfl := someInj h0; refine endW_i ?_; refine end_ret0 rs39 (rfl) ?_; exact qF
  ·
   have h0 := cF h0 h2; refine awp_skip ?_; refine awp_assoc ?_; refine awp_nw [2,3] fun tz U u => ?_; (try simp only [go_sem]); refine qU u ?_; clear u U; refine awp_cond (b := (!a0.Valid)) rfl (fun h3 => ?_) (fun h3 => ?_)
   ·
    have h0 := cT h0 h3; refine awp_assoc ?_; refine awp_nw [2] fun tz U u => ?_; (try simp only [go_sem]); refine qU u ?_; clear u U; refine awp_ret ?_; obtain rfl := someInj h0; refine endW_i ?_; refine end_ret0 rs39 (rfl) ?_; exact qF
   ·
    have h0 := cF h0 h3; refine awp_skip ?_; refine awp_nw [2,3] fun tz U u => ?_; refine xw_stop 5 qS qS (by rfl) fun V v => ?_; refine xw_id ?_; (try simp only [go_sem]); refine v _ ?_; clear v V; obtain ⟨x11, hvh4, h0⟩ := bnd h0; refine xw_cut 4 [(2, (.ptr 0 0)), (33, (vb x11))] qS qS (by rfl) (fun V v => ?_) fun tz => ?_
    ·
     refine xw_id ?_; rcases bE (!decide (a0.Next = a1)) with h4 | h4
     ·
      have hvh4 := cT hvh4 h4; obtain ⟨x10, bx10, hvh4⟩ := bnd hvh4; (try simp only [go_sem, h4]); (refine xcall_p (path_between_p a0.Hops 1 16 bx10) ?_; try dsimp only); (try refine xw_id ?_); (try simp only [go_sem, h4]); obtain rfl := someInj hvh4; exact v _ ⟨rfl, rfl, (qB h4), trivial⟩
     ·
      have hvh4 := cF hvh4 h4; (try simp only [go_sem, h4]); obtain rfl := someInj hvh4; exact v _ ⟨rfl, rfl, (qB h4), trivial⟩
    ·
     refine xw_id ?_; refine xw_stop 1 qS qS (by rfl) fun V v => ?_; refine xw_id ?_; (try simp only [go_sem]); refine v _ ?_; clear v V; obtain ⟨x13, hvh5, h0⟩ := bnd h0; refine xw_cut 4 [(2, (.ptr 0 0)), (38, (vb x13))] qS qS (by rfl) (fun V v => ?_) fun tz => ?_
     ·
      refine xw_id ?_; rcases bE x11 with h5 | h5
      ·
       have hvh5 := cT hvh5 h5; obtain ⟨x12, bx12, hvh5⟩ := bnd hvh5; (try simp only [go_sem, h5]); (refine xcall_p (path_between_p a0.Cost 1 1099511627776 bx12) ?_; try dsimp only); (try refine xw_id ?_); (try simp only [go_sem, h5]); obtain rfl := someInj hvh5; exact v _ ⟨rfl, rfl, (qB h5), trivial⟩
      ·
       have hvh5 := cF hvh5 h5; (try simp only [go_sem, h5]); obtain rfl := someInj hvh5; exact v _ ⟨rfl, rfl, (qB h5), trivial⟩
     ·
      refine xw_id ?_; refine xw_stop 1 qS qS (by rfl) fun V v => ?_; refine xw_id ?_; (try simp only [go_sem]); refine v _ ?_; clear v V; obtain ⟨x15, hvh6, h0⟩ := bnd h0; refine xw_cut 4 [(43, (vb x15))] qS qS (by rfl) (fun V v => ?_) fun tz => ?_
      ·
       refine xw_id ?_; rcases bE x13 with h6 | h6
       ·
        have hvh6 := cT hvh6 h6; obtain ⟨x14, bx14, hvh6⟩ := bnd hvh6; (try simp only [go_sem, h6]); (refine xcall_p (path_between_p a0.Until 1 1099516627776 bx14) ?_; try dsimp only); (try refine xw_id ?_); (try simp only [go_sem, h6]); obtain rfl := someInj hvh6; exact v _ ⟨rfl, (qB h6), trivial⟩
       ·
        have hvh6 := cF hvh6 h6; (try simp only [go_sem, h6]); obtain rfl := someInj hvh6; exact v _ ⟨rfl, (qB h6), trivial⟩
      ·
       refine xw_id ?_; (try simp only [go_sem]); refine qU u ?_; clear u U; refine awp_ret1 ?_; obtain rfl := someInj h0; refine endW_i ?_; refine end_ret0 rs39 (rfl) ?_; exact qF
theorem bytealg_Compare_p (a0 : List Int) (a1 : List Int) {r : Int} (h0 : bytealg_Compare a0 a1 = some r) : SndP K 60 [(S_vu a0), (S_vu a1)] (vi r) := by
 cases h0; exact cmp_p (show K.P.funcs[60]? = some Tryd.f60 from Tryd.func60) rfl rfl rfl rfl a0 a1
theorem bytes_Compare_p (a0 : (List Int)) (a1 : (List Int)) {r : Int} (h0 : bytes_Compare a0 a1 = some r) : SndP K 57 [(S_vu a0), (S_vu a1)] (vi r) := by
 refine SndP.of_walkW hC cv (clean_cons (S_vu_clean _) (clean_cons (S_vu_clean _) clean_nil)) (show K.P.funcs[57]? = some Tryd.f57 from Tryd.func57) rfl rfl (by decide +kernel) (qB2 rfl) ?_; unfold bytes_Compare at h0; refine awp_nw [0,1] fun tz U u => ?_; (try simp only [go_sem]); refine qU u ?_; clear u U; refine awp_nw [0,1] fun tz U u => ?_; obtain ⟨x10, bx10, h0⟩ := bnd h0; (try simp only [go_sem]); (refine xcall_p (bytealg_Compare_p a0 a1 bx10) ?_; try dsimp only); (try refine xw_id ?_); (try simp only [go_sem]); refine qU u ?_; clear u U; refine awp_ret1 ?_; obtain rfl := someInj h0; refine endW_i ?_; refine end_ret0 rs57 (rfl) ?_; exact qF
theorem address_Compare_p (a0 : A6vu) (a1 : A6vu) {r : Int} (h0 : address_Compare a0 a1 = some r) : SndP K 40 [(.agg (e_A6vu a0)), (.agg (e_A6vu a1))] (vi r) := by
 refine SndP.of_walkW hC cv (clean_cons (Clean.agg (e_A6vu_clean _)) (clean_cons (Clean.agg (e_A6vu_clean _)) clean_nil)) (show K.P.funcs[40]? = some Tryd.f40 from Tryd.func40) rfl rfl (by decide +kernel) (qB2 rfl) ?_; unfold address_Compare at h0; refine awp_nw [0,1] fun tz U u => ?_; (try simp only [go_sem]); refine qU u ?_; clear u U; refine awp_nw [2,3] fun tz U u => ?_; obtain ⟨x10, bx10, h0⟩ := bnd h0; (try simp only [go_sem, Int.sub_zero, Int.sub_zero]); (refine xcall_L (by first | (simp only [go_sem, fz, Int.sub_zero, Int.sub_zero] <;> rfl) | (simp only [go_sem, fz, List.length_set, ble_self, take_set, cond_true, cond_false, Int.sub_zero, Int.sub_zero] <;> rfl)) (bytes_Compare_p [a0.a0, a0.a1, a0.a2, a0.a3, a0.a4, a0.a5] [a1.a0, a1.a1, a1.a2, a1.a3, a1.a4, a1.a5] bx10) (Bare.v _) ?_; try dsimp only); (try refine xw_id ?_); (try simp only [go_sem, Int.sub_zero, Int.sub_zero]); refine qU u ?_; clear u U; refine awp_ret1 ?_; obtain rfl := someInj h0; refine endW_i ?_; refine end_ret0 rs40 (rfl) ?_; exact qF
def path_Check_S0 (a0 : Paths) (d6 : Unit) : AS :=
 { objs := (upd (fun _ => .dead) 0 (.live (e_Paths a0 (.imm (List.flatMap e_PathRoute a0.Routes) a0.Routes.length) (.imm (List.flatMap e_PathWanted a0.Wanted) a0.Wanted.length)))), next := 1, tmps := (upd (fun _ => .unk) 1 (.ptr 0 0)) }

def path_Check_S1 (a0 : Paths) (d8 : Int) : AS :=
 { objs := (upd (fun _ => .dead) 0 (.live (e_Paths a0 (.imm (List.flatMap e_PathRoute a0.Routes) a0.Routes.length) (.imm (List.flatMap e_PathWanted a0.Wanted) a0.Wanted.length)))), next := 1, tmps := (upd (upd (upd (upd (fun _ => .unk) 1 (.ptr 0 0)) 24 (.imm (List.flatMap e_PathRoute a0.Routes) a0.Routes.length)) 25 (vi (a0.Routes.length : Int))) 26 (vi d8)) }

def path_Check_S3 (a0 : Paths) (d8 : Int) (x14 : Bool) : AS :=
 { objs := (upd (fun _ => .dead) 0 (.live (e_Paths a0 (.imm (List.flatMap e_PathRoute a0.Routes) a0.Routes.length) (.imm (List.flatMap e_PathWanted a0.Wanted) a0.Wanted.length)))), next := 1, tmps := (upd (upd (upd (upd (upd (fun _ => .unk) 1 (.ptr 0 0)) 24 (.imm (List.flatMap e_PathRoute a0.Routes) a0.Routes.length)) 25 (vi (a0.Routes.length : Int))) 26 (vi d8)) 52 (vb x14)) }

def path_Check_S4 (d15 : Unit) : AS :=
 { objs := (fun _ => .dead), next := 0, tmps := (fun _ => .unk) }

def path_Check_S5 (a0 : Paths) (d17 : Int) : AS :=
 { objs := (upd (fun _ => .dead) 0 (.live (e_Paths a0 (.imm (List.flatMap e_PathRoute a0.Routes) a0.Routes.length) (.imm (List.flatMap e_PathWanted a0.Wanted) a0.Wanted.length)))), next := 1, tmps := (upd (upd (upd (upd (fun _ => .unk) 1 (.ptr 0 0)) 55 (.imm (List.flatMap e_PathWanted a0.Wanted) a0.Wanted.length)) 56 (vi (a0.Wanted.length : Int))) 57 (vi d17)) }

def path_Check_S7 (a0 : Paths) (d17 : Int) (x26 : Bool) : AS :=
 { objs := (upd (fun _ => .dead) 0 (.live (e_Paths a0 (.imm (List.flatMap e_PathRoute a0.Routes) a0.Routes.length) (.imm (List.flatMap e_PathWanted a0.Wanted) a0.Wanted.length)))), next := 1, tmps := (upd (upd (upd (upd (upd (fun _ => .unk) 1 (.ptr 0 0)) 55 (.imm (List.flatMap e_PathWanted a0.Wanted) a0.Wanted.length)) 56 (vi (a0.Wanted.length : Int))) 57 (vi d17)) 95 (vb x26)) }

theorem path_Check_p (a0 : Paths) {r : Int} (h0 : path_Check a0 = some r) : SndP K 17 [(.agg (E_Paths a0))] (vi r) := by
 refine SndP.of_walkW hC cv (clean_cons (Clean.agg (E_Paths_clean _)) clean_nil) (show K.P.funcs[17]? = some Tryd.f17 from Tryd.func17) rfl rfl (by decide +kernel) (qB2 rfl) ?_; unfold path_Check at h0; refine awp_nw [0] fun tz U u => ?_; (try simp only [go_sem]); refine qU u ?_; clear u U; refine awp_assoc ?_; refine awp_nw [1] fun tz U u => ?_; obtain ⟨x5, bx5, h0⟩ := bnd h0; (try simp only [go_sem]); (refine xcall_p (path_between_p a0.Seq 0 2147483647 bx5) ?_; try dsimp only); (try refine xw_id ?_); refine xw_stop 2 qS qS (by rfl) fun V v => ?_; refine xw_id ?_; (try simp only [go_sem]); refine v _ ?_; clear v V; refine xw_cut 5 [(1, (.ptr 0 0)), (16, (vb ((!x5) || (decide (32 < (a0.Routes.length : Int))))))] qS qS (by rfl) (fun V v => ?_) fun tz => ?_
 ·
  refine xw_id ?_; rcases bE (!x5) with h1 | h1
  ·
   (try simp only [go_sem, h1]); exact v _ ⟨rfl, rfl, (qB h1), trivial⟩
  ·
   (try simp only [go_sem, h1]); exact v _ ⟨rfl, rfl, (qB h1), trivial⟩
 ·
  refine xw_id ?_; refine xw_stop 1 qS qS (by rfl) fun V v => ?_; refine xw_id ?_; (try simp only [go_sem]); refine v _ ?_; clear v V; refine xw_cut 5 [(1, (.ptr 0 0)), (22, (vb (((!x5) || (decide (32 < (a0.Routes.length : Int)))) || (decide (32 < (a0.Wanted.length : Int))))))] qS qS (by rfl) (fun V v => ?_) fun tz => ?_
  ·
   refine xw_id ?_; rcases bE ((!x5) || (decide (32 < (a0.Routes.length : Int)))) with h2 | h2
   ·
    (try simp only [go_sem, h2]); exact v _ ⟨rfl, rfl, (qB h2), trivial⟩
   ·
    (try simp only [go_sem, h2]); exact v _ ⟨rfl, rfl, (qB h2), trivial⟩
  ·
   refine xw_id ?_; (try simp only [go_sem]); refine qU u ?_; clear u U; refine awp_cond (b := (((!x5) || (decide (32 < (a0.Routes.length : Int)))) || (decide (32 < (a0.Wanted.length : Int))))) rfl (fun h3 => ?_) (fun h3 => ?_)
   ·
    have h0 := cT h0 h3; refine awp_assoc ?_; refine awp_nw [] fun tz U u => ?_; (try simp only [go_sem]); refine qU u ?_; clear u U; refine awp_ret ?_; obtain rfl := someInj h0; refine endW_i ?_; refine end_ret0 rs17 (rfl) ?_; exact qF
   ·
    have h0 := cF h0 h3; refine awp_skip ?_; refine awp_assoc ?_; refine awp_nw [1] fun tz U u => ?_; (try simp only [go_sem]); refine qU u ?_; clear u U; obtain ⟨o7, hi4, h0⟩ := bnd h0; refine awp_cut (fun d6 : Unit => o7 = Ex.go d6) (fun d6 : Unit => path_Check_S0 a0 d6) ?_ ?_
    ·
     refine awp_block1 ?_; refine awp_loopS (fun n (d8 : Int) => path_Check_L2 a0 n d8 = some o7) (fun d8 : Int => path_Check_S1 a0 d8) big 0 (Wk.canonD [] [] [some 0] rfl trivial rfl (tmOU 0 tmO0 rfl qM rfl (e_Paths_tmx (by rfl) (tI (c_PathRoute _)) (tI (c_PathWanted _)))) (tA 26 (tA 25 (tA 24 (tA 1 tmAll0 tp) (tI (c_PathRoute _))) tv) tv)) hi4 ?_; clear hi4; rintro n d8 hl6; rcases n with _ | n5
     ·
      (rw [path_Check_L2] at hl6; cases hl6)
     ·
      rw [path_Check_L2] at hl6; unfold path_Check_S1; refine awp_nw [1,24,25,26] fun tz U u => ?_; (try simp only [go_sem]); refine qU u ?_; clear u U; refine awp_cond (b := (decide (d8 < (a0.Routes.length : Int)))) rfl (fun h7 => ?_) (fun h7 => ?_)
      ·
       have hl6 := cT hl6 h7; refine awp_skip ?_; refine awp_blockW ?_; refine awp_nw [1,24,25,26] fun tz U u => ?_; obtain ⟨x9, bx9, hl6⟩ := bnd hl6; obtain ⟨fx9_0, fx9_1, fx9_2, fx9_3⟩ := idx_some bx9; (try simp only [go_sem, fx9_0, fx9_1, fx9_2]); refine qU u ?_; clear u U; refine awp_nw [1,3,4,24,25,26] fun tz U u => ?_; obtain ⟨x10, bx10, hl6⟩ := bnd hl6; (try simp only [go_sem, fx9_0, fx9_1, fx9_2]); (refine xcall_p (path_validRoute_p x9 a0.Own bx10) ?_; try dsimp only); (try refine xw_id ?_); refine xw_stop 2 qS qS (by rfl) fun V v => ?_; refine xw_id ?_; (try simp only [go_sem, fx9_0, fx9_1, fx9_2]); refine v _ ?_; clear v V; obtain ⟨x14, hvh8, hl6⟩ := bnd hl6; refine xw_cut 16 [(1, (.ptr 0 0)), (24, (.imm (List.flatMap e_PathRoute a0.Routes) a0.Routes.length)), (25, (vi (a0.Routes.length : Int))), (26, (vi d8)), (52, (vb x14))] qS qS (by rfl) (fun V v => ?_) fun tz => ?_
       ·
        refine xw_id ?_; rcases bE (!x10) with h8 | h8
        ·
         have hvh8 := cT hvh8 h8; (try simp only [go_sem, fx9_0, fx9_1, fx9_2, h8]); obtain rfl := someInj hvh8; exact v _ ⟨rfl, rfl, rfl, rfl, rfl, (qB h8), trivial⟩
        ·
         have hvh8 := cF hvh8 h8; refine xw_stop 3 qS qS (by rfl) fun V v => ?_; refine xw_id ?_; (try simp only [go_sem, fx9_0, fx9_1, fx9_2, h8]); refine v _ ?_; clear v V; obtain ⟨x13, hvh9, hvh8⟩ := bnd hvh8; refine xw_cut 12 [(1, (.ptr 0 0)), (24, (.imm (List.flatMap e_PathRoute a0.Routes) a0.Routes.length)), (25, (vi (a0.Routes.length : Int))), (26, (vi d8)), (36, (vb false)), (51, (vb x13))] qS qS (by rfl) (fun V v => ?_) fun tz => ?_
         ·
          refine xw_id ?_; rcases bE (decide (0 < d8)) with h9 | h9
          ·
           have hvh9 := cT hvh9 h9; obtain ⟨x11, bx11, hvh9⟩ := bnd hvh9; obtain ⟨fx11_0, fx11_1, fx11_2, fx11_3⟩ := idx_some bx11; obtain ⟨x12, bx12, hvh9⟩ := bnd hvh9; (try simp only [go_sem, fx9_0, fx9_1, fx9_2, h8, h9, fx11_0, fx11_1, fx11_2]); (refine xcall_p (address_Compare_p x11.Dest x9.Dest bx12) ?_; try dsimp only); (try refine xw_id ?_); (try simp only [go_sem, fx9_0, fx9_1, fx9_2, h8, h9, fx11_0, fx11_1, fx11_2]); obtain rfl := someInj hvh9; exact v _ ⟨rfl, rfl, rfl, rfl, rfl, rfl, (qB h9), trivial⟩
          ·
           have hvh9 := cF hvh9 h9; (try simp only [go_sem, fx9_0, fx9_1, fx9_2, h8, h9]); obtain rfl := someInj hvh9; exact v _ ⟨rfl, rfl, rfl, rfl, rfl, rfl, (qB h9), trivial⟩
         ·
          refine xw_id ?_; (try simp only [go_sem, fx9_0, fx9_1, fx9_2, h8]); obtain rfl := someInj hvh8; exact v _ ⟨rfl, rfl, rfl, rfl, rfl, (qB h8), trivial⟩
       ·
        refine xw_id ?_; (try simp only [go_sem, fx9_0, fx9_1, fx9_2]); refine u _ (path_Check_S3 a0 d8 x14) (Wk.canonD [] [] [some 0] rfl trivial rfl (tmOU 0 tmO0 rfl qM rfl (e_Paths_tmx (by rfl) (tI (c_PathRoute _)) (tI (c_PathWanted _)))) (tA 52 (tA 26 (tA 25 (tA 24 (tA 1 tmAll0 tp) (tI (c_PathRoute _))) tv) tv) tv)) ?_; clear u U; unfold path_Check_S3; refine awp_cond1 (b := x14) rfl (fun h10 => ?_) (fun h10 => ?_)
        ·
         have hl6 := cT hl6 h10; refine awp_nw [] fun tz U u => ?_; (try simp only [go_sem, fx9_0, fx9_1, fx9_2]); refine qU u ?_; clear u U; refine awp_ret1 ?_; refine bq_r ?_; refine sq_r ?_; refine lq_r ?_; refine bq_r ?_; refine sq_r ?_; obtain rfl := someInj hl6; obtain rfl := Ex.k_ret h0; refine endW_i ?_; refine end_ret0 rs17 (rfl) ?_; exact qF
        ·
         have hl6 := cF hl6 h10; refine awp_skip1 ?_; refine bq_n ?_; refine seqW_i ?_; refine awp_nw1 [1,24,25,26] fun tz U u => ?_; (try simp only [go_sem, fx9_0, fx9_1, fx9_2]); refine u _ ?_; clear u U; refine lq_n ?_; exact ⟨n5, IntKind.wrap .i64 (d8 + 1), rfl, hl6, (Wk.canonD [] [] [some 0] rfl trivial rfl (tmOU 0 tmO0 rfl qM rfl (e_Paths_tmx (by rfl) (tI (c_PathRoute _)) (tI (c_PathWanted _)))) (tA 26 (tA 25 (tA 24 (tA 1 tmAll0 tp) (tI (c_PathRoute _))) tv) tv))⟩
      ·
       have hl6 := cF hl6 h7; refine awp_exit ?_; refine lq_e ?_; refine bq_e ?_; refine sq_n ?_; obtain rfl := someInj hl6; exact ⟨_, rfl, (Wk.canonD [] [] [some 0] rfl trivial rfl (tmOU 0 tmO0 rfl qM rfl (e_Paths_tmx (by rfl) (tI (c_PathRoute _)) (tI (c_PathWanted _)))) (tA 1 tmAll0 tp))⟩
    ·
     rintro d6 rfl; have h0 := Ex.k_go h0; clear hi4; unfold path_Check_S0; refine awp_assoc ?_; refine awp_nw [1] fun tz U u => ?_; (try simp only [go_sem]); refine qU u ?_; clear u U; obtain ⟨o16, hi11, h0⟩ := bnd h0; refine awp_cut (fun d15 : Unit => o16 = Ex.go d15) (fun d15 : Unit => path_Check_S4 d15) ?_ ?_
     ·
      refine awp_block1 ?_; refine awp_loopS (fun n (d17 : Int) => path_Check_L6 a0 n d17 = some o16) (fun d17 : Int => path_Check_S5 a0 d17) big 0 (Wk.canonD [] [] [some 0] rfl trivial rfl (tmOU 0 tmO0 rfl qM rfl (e_Paths_tmx (by rfl) (tI (c_PathRoute _)) (tI (c_PathWanted _)))) (tA 57 (tA 56 (tA 55 (tA 1 tmAll0 tp) (tI (c_PathWanted _))) tv) tv)) hi11 ?_; clear hi11; rintro n d17 hl13; rcases n with _ | n12
      ·
       (rw [path_Check_L6] at hl13; cases hl13)
      ·
       rw [path_Check_L6] at hl13; unfold path_Check_S5; refine awp_nw [1,55,56,57] fun tz U u => ?_; (try simp only [go_sem]); refine qU u ?_; clear u U; refine awp_cond (b := (decide (d17 < (a0.Wanted.length : Int)))) rfl (fun h14 => ?_) (fun h14 => ?_)
       ·
        have hl13 := cT hl13 h14; refine awp_skip ?_; refine awp_blockW ?_; refine awp_nw [1,55,56,57] fun tz U u => ?_; obtain ⟨x18, bx18, hl13⟩ := bnd hl13; obtain ⟨fx18_0, fx18_1, fx18_2, fx18_3⟩ := idx_some bx18; (try simp only [go_sem, fx18_0, fx18_1, fx18_2]); refine qU u ?_; clear u U; refine awp_nw [1,5,6,55,56,57] fun tz U u => ?_; (try simp only [List.append_eq, Array.toList_append, List.append_toArray, List.toList_toArray, List.cons_append, List.nil_append]); refine xw_stop 6 qS qS (by rfl) fun V v => ?_; refine xw_id ?_; (try simp only [go_sem, fx18_0, fx18_1, fx18_2]); refine v _ ?_; clear v V; obtain ⟨x20, hvh15, hl13⟩ := bnd hl13; refine xw_cut 5 [(1, (.ptr 0 0)), (5, (vi d17)), (6, (.ptr 5 0)), (55, (.imm (List.flatMap e_PathWanted a0.Wanted) a0.Wanted.length)), (56, (vi (a0.Wanted.length : Int))), (57, (vi d17)), (72, (vb x20))] qS qS (by rfl) (fun V v => ?_) fun tz => ?_
        ·
         refine xw_id ?_; rcases bE (decide (x18.Dest = a0.Own)) with h15 | h15
         ·
          have hvh15 := cT hvh15 h15; (try simp only [go_sem, fx18_0, fx18_1, fx18_2, h15]); obtain rfl := someInj hvh15; exact v _ ⟨rfl, rfl, rfl, rfl, rfl, rfl, rfl, (qB h15), trivial⟩
         ·
          have hvh15 := cF hvh15 h15; obtain ⟨x19, bx19, hvh15⟩ := bnd hvh15; (try simp only [go_sem, fx18_0, fx18_1, fx18_2, h15]); (refine xcall_p (path_between_p x18.Tries 1 3 bx19) ?_; try dsimp only); (try refine xw_id ?_); (try simp only [go_sem, fx18_0, fx18_1, fx18_2, h15]); obtain rfl := someInj hvh15; exact v _ ⟨rfl, rfl, rfl, rfl, rfl, rfl, rfl, (qB h15), trivial⟩
        ·
         refine xw_id ?_; refine xw_stop 1 qS qS (by rfl) fun V v => ?_; refine xw_id ?_; (try simp only [go_sem, fx18_0, fx18_1, fx18_2]); refine v _ ?_; clear v V; obtain ⟨x22, hvh16, hl13⟩ := bnd hl13; refine xw_cut 5 [(1, (.ptr 0 0)), (5, (vi d17)), (6, (.ptr 5 0)), (55, (.imm (List.flatMap e_PathWanted a0.Wanted) a0.Wanted.length)), (56, (vi (a0.Wanted.length : Int))), (57, (vi d17)), (78, (vb x22))] qS qS (by rfl) (fun V v => ?_) fun tz => ?_
         ·
          refine xw_id ?_; rcases bE x20 with h16 | h16
          ·
           have hvh16 := cT hvh16 h16; (try simp only [go_sem, fx18_0, fx18_1, fx18_2, h16]); obtain rfl := someInj hvh16; exact v _ ⟨rfl, rfl, rfl, rfl, rfl, rfl, rfl, (qB h16), trivial⟩
          ·
           have hvh16 := cF hvh16 h16; obtain ⟨x21, bx21, hvh16⟩ := bnd hvh16; (try simp only [go_sem, fx18_0, fx18_1, fx18_2, h16]); (refine xcall_p (path_between_p x18.Due 1 1099511727776 bx21) ?_; try dsimp only); (try refine xw_id ?_); (try simp only [go_sem, fx18_0, fx18_1, fx18_2, h16]); obtain rfl := someInj hvh16; exact v _ ⟨rfl, rfl, rfl, rfl, rfl, rfl, rfl, (qB h16), trivial⟩
         ·
          refine xw_id ?_; refine xw_stop 1 qS qS (by rfl) fun V v => ?_; refine xw_id ?_; (try simp only [go_sem, fx18_0, fx18_1, fx18_2]); refine v _ ?_; clear v V; obtain ⟨x26, hvh17, hl13⟩ := bnd hl13; refine xw_cut 16 [(1, (.ptr 0 0)), (55, (.imm (List.flatMap e_PathWanted a0.Wanted) a0.Wanted.length)), (56, (vi (a0.Wanted.length : Int))), (57, (vi d17)), (95, (vb x26))] qS qS (by rfl) (fun V v => ?_) fun tz => ?_
          ·
           refine xw_id ?_; rcases bE x22 with h17 | h17
           ·
            have hvh17 := cT hvh17 h17; (try simp only [go_sem, fx18_0, fx18_1, fx18_2, h17]); obtain rfl := someInj hvh17; exact v _ ⟨rfl, rfl, rfl, rfl, rfl, (qB h17), trivial⟩
           ·
            have hvh17 := cF hvh17 h17; refine xw_stop 3 qS qS (by rfl) fun V v => ?_; refine xw_id ?_; (try simp only [go_sem, fx18_0, fx18_1, fx18_2, h17]); refine v _ ?_; clear v V; obtain ⟨x25, hvh18, hvh17⟩ := bnd hvh17; refine xw_cut 12 [(1, (.ptr 0 0)), (55, (.imm (List.flatMap e_PathWanted a0.Wanted) a0.Wanted.length)), (56, (vi (a0.Wanted.length : Int))), (57, (vi d17)), (79, (vb false)), (94, (vb x25))] qS qS (by rfl) (fun V v => ?_) fun tz => ?_
            ·
             refine xw_id ?_; rcases bE (decide (0 < d17)) with h18 | h18
             ·
              have hvh18 := cT hvh18 h18; obtain ⟨x23, bx23, hvh18⟩ := bnd hvh18; obtain ⟨fx23_0, fx23_1, fx23_2, fx23_3⟩ := idx_some bx23; obtain ⟨x24, bx24, hvh18⟩ := bnd hvh18; (try simp only [go_sem, fx18_0, fx18_1, fx18_2, h17, h18, fx23_0, fx23_1, fx23_2]); (refine xcall_p (address_Compare_p x23.Dest x18.Dest bx24) ?_; try dsimp only); (try refine xw_id ?_); (try simp only [go_sem, fx18_0, fx18_1, fx18_2, h17, h18, fx23_0, fx23_1, fx23_2]); obtain rfl := someInj hvh18; exact v _ ⟨rfl, rfl, rfl, rfl, rfl, rfl, (qB h18), trivial⟩
             ·
              have hvh18 := cF hvh18 h18; (try simp only [go_sem, fx18_0, fx18_1, fx18_2, h17, h18]); obtain rfl := someInj hvh18; exact v _ ⟨rfl, rfl, rfl, rfl, rfl, rfl, (qB h18), trivial⟩
            ·
             refine xw_id ?_; (try simp only [go_sem, fx18_0, fx18_1, fx18_2, h17]); obtain rfl := someInj hvh17; exact v _ ⟨rfl, rfl, rfl, rfl, rfl, (qB h17), trivial⟩
          ·
           refine xw_id ?_; (try simp only [go_sem, fx18_0, fx18_1, fx18_2]); refine u _ (path_Check_S7 a0 d17 x26) (Wk.canonD [] [] [some 0] rfl trivial rfl (tmOU 0 tmO0 rfl qM rfl (e_Paths_tmx (by rfl) (tI (c_PathRoute _)) (tI (c_PathWanted _)))) (tA 95 (tA 57 (tA 56 (tA 55 (tA 1 tmAll0 tp) (tI (c_PathWanted _))) tv) tv) tv)) ?_; clear u U; unfold path_Check_S7; refine awp_cond1 (b := x26) rfl (fun h19 => ?_) (fun h19 => ?_)
           ·
            have hl13 := cT hl13 h19; refine awp_nw [] fun tz U u => ?_; (try simp only [go_sem, fx18_0, fx18_1, fx18_2]); refine qU u ?_; clear u U; refine awp_ret1 ?_; refine bq_r ?_; refine sq_r ?_; refine lq_r ?_; refine bq_r ?_; refine sq_r ?_; obtain rfl := someInj hl13; obtain rfl := Ex.k_ret h0; refine endW_i ?_; refine end_ret0 rs17 (rfl) ?_; exact qF
           ·
            have hl13 := cF hl13 h19; refine awp_skip1 ?_; refine bq_n ?_; refine seqW_i ?_; refine awp_nw1 [1,55,56,57] fun tz U u => ?_; (try simp only [go_sem, fx18_0, fx18_1, fx18_2]); refine u _ ?_; clear u U; refine lq_n ?_; exact ⟨n12, IntKind.wrap .i64 (d17 + 1), rfl, hl13, (Wk.canonD [] [] [some 0] rfl trivial rfl (tmOU 0 tmO0 rfl qM rfl (e_Paths_tmx (by rfl) (tI (c_PathRoute _)) (tI (c_PathWanted _)))) (tA 57 (tA 56 (tA 55 (tA 1 tmAll0 tp) (tI (c_PathWanted _))) tv) tv))⟩
       ·
        have hl13 := cF hl13 h14; refine awp_exit ?_; refine lq_e ?_; refine bq_e ?_; refine sq_n ?_; obtain rfl := someInj hl13; exact ⟨_, rfl, (Wk.canonD [] [] [] rfl trivial rfl tmO0 tmAll0)⟩
     ·
      rintro d15 rfl; have h0 := Ex.k_go h0; clear hi11; unfold path_Check_S4; refine awp_nw [] fun tz U u => ?_; (try simp only [go_sem]); refine qU u ?_; clear u U; refine awp_ret1 ?_; obtain rfl := someInj h0; refine endW_i ?_; refine end_ret0 rs17 (rfl) ?_; exact qF
theorem slices_Clone_api_PathRoute_api_PathRoute_r (a0 : (List PathRoute)) {r : (List PathRoute)} (h0 : slices_Clone_api_PathRoute_api_PathRoute a0 = some r) : SndR K 43 [(S_PathRoute a0)] (fun q => (.ref (q 0) 0 r.length 17)) [(List.flatMap e_PathRoute r)] := by
 cases a0 with
 | nil =>
  refine SndR.split_nil (fun cap => ?_) (fun a cap => ?_)
  ·
   unfold slices_Clone_api_PathRoute_api_PathRoute at h0; obtain ⟨x1, bx1, h0⟩ := bnd h0; obtain rfl := someInj h0; refine SndR.of_walkW hC (show K.P.funcs[43]? = some Tryd.f43 from Tryd.func43) rfl rfl (by decide +kernel) (qB2 rfl) ?_; refine awp_nw [0] fun tz U u => ?_; (try simp only [go_sem, Option.isSome_some, if_true, eq_self]); refine qU u ?_; clear u U; refine awp_assoc ?_; refine awp_nw [0] fun tz U u => ?_; (try simp only [go_sem, Option.isSome_some, if_true, eq_self]); refine qU u ?_; clear u U; refine awp_condT rfl ?_; refine awp_assoc ?_; refine awp_nw [] fun tz U u => ?_; (try simp only [go_sem, Option.isSome_some, if_true, eq_self]); refine qU u ?_; clear u U; refine awp_ret ?_; refine endW_i ?_; refine end_ret0 rs43 (rfl) ?_; exact Res.mk [] [none] rfl (resON resO0) tT
  ·
   revert h0; intro h0; refine SndR.of_walkW hC (show K.P.funcs[43]? = some Tryd.f43 from Tryd.func43) rfl rfl (by decide +kernel) (qB2 rfl) ?_; unfold slices_Clone_api_PathRoute_api_PathRoute at h0; refine awp_nw [0] fun tz U u => ?_; (try simp only [go_sem, Option.isSome_some, if_true, eq_self]); refine qU u ?_; clear u U; refine awp_assoc ?_; refine awp_nw [0] fun tz U u => ?_; (try simp only [go_sem, Option.isSome_some, if_true, eq_self]); refine qU u ?_; clear u U; refine awp_condF rfl ?_; refine awp_skip ?_; refine awp_nw [0] fun tz U u => ?_; obtain ⟨x29, bx29, h0⟩ := bnd h0; have bx29 := chk_some bx29; simp only [Bool.and_eq_true, decide_eq_true_eq] at bx29; have gx29_0 := bx29; (try simp only [go_sem, Option.isSome_some, if_true, eq_self, gx29_0]); refine qU u ?_; clear u U; refine awp_ret1 ?_; obtain rfl := someInj h0; refine endW_i ?_; refine end_ret0 rs43 (rfl) ?_; refine Res.mk [] [some 5] rfl (resOU qM rfl (TmL.of_eq qL (c_PathRoute _)) resO0) tr; (all_goals exact qN)
 | cons x l =>
  generalize ha : x :: l = a0 at *; (have nb : nilB (.imm (List.flatMap e_PathRoute a0) a0.length) = some false := by subst ha; rfl); refine SndR.of_walkW hC (show K.P.funcs[43]? = some Tryd.f43 from Tryd.func43) rfl rfl (by decide +kernel) (qB2 rfl) ?_; unfold slices_Clone_api_PathRoute_api_PathRoute at h0; refine awp_nw [0] fun tz U u => ?_; (try simp only [go_sem, ↓nb, Option.isSome_some, if_true, eq_self]); refine qU u ?_; clear u U; refine awp_assoc ?_; refine awp_nw [0] fun tz U u => ?_; (try simp only [go_sem, ↓nb, Option.isSome_some, if_true, eq_self]); refine qU u ?_; clear u U; refine awp_condF rfl ?_; refine awp_skip ?_; refine awp_nw [0] fun tz U u => ?_; obtain ⟨x29, bx29, h0⟩ := bnd h0; have bx29 := chk_some bx29; simp only [Bool.and_eq_true, decide_eq_true_eq] at bx29; have gx29_0 := bx29; (try simp only [go_sem, ↓nb, Option.isSome_some, if_true, eq_self, gx29_0]); refine qU u ?_; clear u U; refine awp_ret1 ?_; obtain rfl := someInj h0; refine endW_i ?_; refine end_ret0 rs43 (rfl) ?_; refine Res.mk [] [some 5] rfl (resOU qM rfl (TmL.of_eq qL (c_PathRoute _)) resO0) tr; (all_goals exact qN)


theorem slices_Clone_api_PathRoute_api_PathRoute_e (a0 : (List PathRoute)) {r : (List PathRoute)} (h0 : slices_Clone_api_PathRoute_api_PathRoute a0 = some r) (fr : Nat) (hs : HS) : SndE K 43 [(S_PathRoute a0)] hs fr ⟨(fun q : Nat → Nat => (.ref (q 0) 0 r.length 17)) fun _ => fr, .new (List.flatMap e_PathRoute r)⟩ :=
 SndE.of_res (RenM.ref 0 0 _ _) (c_PathRoute _) (clean_cons (S_PathRoute_clean _) clean_nil) (fun a b h => by simp only [h]) (slices_Clone_api_PathRoute_api_PathRoute_r a0 h0) hs fr
theorem slices_Clone_api_PathWanted_api_PathWanted_r (a0 : (List PathWanted)) {r : (List PathWanted)} (h0 : slices_Clone_api_PathWanted_api_PathWanted a0 = some r) : SndR K 44 [(S_PathWanted a0)] (fun q => (.ref (q 0) 0 r.length 8)) [(List.flatMap e_PathWanted r)] := by
 cases a0 with
 | nil =>
  refine SndR.split_nil (fun cap => ?_) (fun a cap => ?_)
  ·
   unfold slices_Clone_api_PathWanted_api_PathWanted at h0; obtain ⟨x1, bx1, h0⟩ := bnd h0; obtain rfl := someInj h0; refine SndR.of_walkW hC (show K.P.funcs[44]? = some Tryd.f44 from Tryd.func44) rfl rfl (by decide +kernel) (qB2 rfl) ?_; refine awp_nw [0] fun tz U u => ?_; (try simp only [go_sem, Option.isSome_some, if_true, eq_self]); refine qU u ?_; clear u U; refine awp_assoc ?_; refine awp_nw [0] fun tz U u => ?_; (try simp only [go_sem, Option.isSome_some, if_true, eq_self]); refine qU u ?_; clear u U; refine awp_condT rfl ?_; refine awp_assoc ?_; refine awp_nw [] fun tz U u => ?_; (try simp only [go_sem, Option.isSome_some, if_true, eq_self]); refine qU u ?_; clear u U; refine awp_ret ?_; refine endW_i ?_; refine end_ret0 rs44 (rfl) ?_; exact Res.mk [] [none] rfl (resON resO0) tT
  ·
   revert h0; intro h0; refine SndR.of_walkW hC (show K.P.funcs[44]? = some Tryd.f44 from Tryd.func44) rfl rfl (by decide +kernel) (qB2 rfl) ?_; unfold slices_Clone_api_PathWanted_api_PathWanted at h0; refine awp_nw [0] fun tz U u => ?_; (try simp only [go_sem, Option.isSome_some, if_true, eq_self]); refine qU u ?_; clear u U; refine awp_assoc ?_; refine awp_nw [0] fun tz U u => ?_; (try simp only [go_sem, Option.isSome_some, if_true, eq_self]); refine qU u ?_; clear u U; refine awp_condF rfl ?_; refine awp_skip ?_; refine awp_nw [0] fun tz U u => ?_; obtain ⟨x31, bx31, h0⟩ := bnd h0; have bx31 := chk_some bx31; simp only [Bool.and_eq_true, decide_eq_true_eq] at bx31; have gx31_0 := bx31; (try simp only [go_sem, Option.isSome_some, if_true, eq_self, gx31_0]); refine qU u ?_; clear u U; refine awp_ret1 ?_; obtain rfl := someInj h0; refine endW_i ?_; refine end_ret0 rs44 (rfl) ?_; refine Res.mk [] [some 5] rfl (resOU qM rfl (TmL.of_eq qL (c_PathWanted _)) resO0) tr; (all_goals exact qN)
 | cons x l =>
  generalize ha : x :: l = a0 at *; (have nb : nilB (.imm (List.flatMap e_PathWanted a0) a0.length) = some false := by subst ha; rfl); refine SndR.of_walkW hC (show K.P.funcs[44]? = some Tryd.f44 from Tryd.func44) rfl rfl (by decide +kernel) (qB2 rfl) ?_; unfold slices_Clone_api_PathWanted_api_PathWanted at h0; refine awp_nw [0] fun tz U u => ?_; (try simp only [go_sem, ↓nb, Option.isSome_some, if_true, eq_self]); refine qU u ?_; clear u U; refine awp_assoc ?_; refine awp_nw [0] fun tz U u => ?_; (try simp only [go_sem, ↓nb, Option.isSome_some, if_true, eq_self]); refine qU u ?_; clear u U; refine awp_condF rfl ?_; refine awp_skip ?_; refine awp_nw [0] fun tz U u => ?_; obtain ⟨x31, bx31, h0⟩ := bnd h0; have bx31 := chk_some bx31; simp only [Bool.and_eq_true, decide_eq_true_eq] at bx31; have gx31_0 := bx31; (try simp only [go_sem, ↓nb, Option.isSome_some, if_true, eq_self, gx31_0]); refine qU u ?_; clear u U; refine awp_ret1 ?_; obtain rfl := someInj h0; refine endW_i ?_; refine end_ret0 rs44 (rfl) ?_; refine Res.mk [] [some 5] rfl (resOU qM rfl (TmL.of_eq qL (c_PathWanted _)) resO0) tr; (all_goals exact qN)


theorem slices_Clone_api_PathWanted_api_PathWanted_e (a0 : (List PathWanted)) {r : (List PathWanted)} (h0 : slices_Clone_api_PathWanted_api_PathWanted a0 = some r) (fr : Nat) (hs : HS) : SndE K 44 [(S_PathWanted a0)] hs fr ⟨(fun q : Nat → Nat => (.ref (q 0) 0 r.length 8)) fun _ => fr, .new (List.flatMap e_PathWanted r)⟩ :=
 SndE.of_res (RenM.ref 0 0 _ _) (c_PathWanted _) (clean_cons (S_PathWanted_clean _) clean_nil) (fun a b h => by simp only [h]) (slices_Clone_api_PathWanted_api_PathWanted_r a0 h0) hs fr
theorem path_spoil_io (a0 : Int) (a1 : List PathRoute) {r : (List PathRoute)} (h0 : path_spoil a0 a1 = some r) : SndIO K 34 1 (fun q => [(.ptr (q 0) ((a0).toNat * 17))]) [(fun q => (List.flatMap e_PathRoute a1))] (fun q => (.tup [])) [(some (fun q => (List.flatMap e_PathRoute r)))] := by
 refine SndIO.of_walkW hC (RenML.cons (RenM.ptr 0 _) RenML.nil) (tpl_cons (RenML.const (c_PathRoute _)) tpl_nil) (otpl_some (RenML.const (c_PathRoute _)) otpl_nil) (RenM.tup RenML.nil) rfl (qB2 rfl) (show K.P.funcs[34]? = some Tryd.f34 from Tryd.func34) rfl rfl (by decide +kernel) (qB2 rfl) ?_; unfold path_spoil at h0; obtain ⟨x35, bx35, h0⟩ := bnd h0; obtain ⟨fx35_0, fx35_1, fx35_2, fx35_3⟩ := idx_some bx35; have fx35_5 : ((a0 : Int) < ((a1.length : Nat) : Int)) = True := fx35_1; refine awp_nr1 [0] (fun _ => rfl) fun tz => ?_; refine awp_regD1 fun U u all hall => ?_; refine xd_id ?_; (try simp only [List.toList_toArray, List.map_cons, List.map_nil, List.size_toArray, List.length_cons, List.length_nil, Nat.zero_add]); (try simp only [Nat.reduceAdd]); have gs1 : ((a0).toNat * 17 + 17 ≤ a1.length * 17) = True := eq_true (by (try simp only [List.length_modify, List.length_set]); omega); have gm2 : (a1.set ((a0).toNat) { PathRoute.z with Dest := x35.Dest, Seq := (if 2147483647 < IntKind.wrap .i64 (x35.Seq + 1) then 2147483647 else IntKind.wrap .i64 (x35.Seq + 1)) })[(a0).toNat]? = some { PathRoute.z with Dest := x35.Dest, Seq := (if 2147483647 < IntKind.wrap .i64 (x35.Seq + 1) then 2147483647 else IntKind.wrap .i64 (x35.Seq + 1)) } := getSet _ fx35_2; (iterate 3 ((try simp only [go_sem, -Nat.reduceAdd, fx35_0, fx35_1, fx35_2, fx35_5, fx35_0, fx35_1, fx35_2, fx35_5, gs1, gm2]); try simp only [Nat.reduceAdd])); refine And.intro ?_ (u _ ?_)
 ·
  subst hall; clear u U; (simp [printsOk, apartP, clash, meet]; repeat (first | exact Or.inr (by decide +kernel) | decide +kernel | exact Or.inr (by decide +kernel) | (refine And.intro (by decide +kernel) ?_) | (refine And.intro (Or.inr (by decide +kernel)) ?_)))
 ·
  clear u U hall all; obtain rfl := someInj h0; refine endW_i ?_; refine end_normal0 rs34 (rfl) ?_; refine ResIO.mk [] [some 0] rfl (resEU qM rfl (TmL.of_eq qL (c_PathRoute _)) resE0) (Tm.tup tn)
def path_begun_S0 (a0 : Paths) (a1 : Int) : AS :=
 { objs := (upd (upd (fun _ => .dead) 0 (.live (e_Paths a0 (.imm (List.flatMap e_PathRoute a0.Routes) a0.Routes.length) (.imm (List.flatMap e_PathWanted a0.Wanted) a0.Wanted.length)))) 1 (.live (e_Path_node { Path_node.z with Paths := a0, now := a1 } (.imm (List.flatMap e_PathRoute a0.Routes) a0.Routes.length) (.imm (List.flatMap e_PathWanted a0.Wanted) a0.Wanted.length) vnil))), next := 2, tmps := (upd (upd (upd (fun _ => .unk) 1 (vi a1)) 2 (.ptr 0 0)) 7 (.ptr 1 0)) }

def path_begun_S1 (a0 : Paths) (a1 : Int) (x7 : (List PathRoute)) (x8 : (List PathWanted)) : AS :=
 { objs := (upd (upd (upd (fun _ => .dead) 0 (.live (e_Path_node { Path_node.z with Paths := a0, now := a1 } (.ref 1 0 x7.length 17) (.ref 2 0 x8.length 8) vnil))) 1 (.live (List.flatMap e_PathRoute x7))) 2 (.live (List.flatMap e_PathWanted x8))), next := 3, tmps := (upd (upd (fun _ => .unk) 1 (vi a1)) 7 (.ptr 0 0)) }

def path_begun_S2 (a0 : Paths) (a1 : Int) (x8 : (List PathWanted)) (d9 : (List PathRoute)) : AS :=
 { objs := (upd (upd (upd (fun _ => .dead) 0 (.live (e_Path_node { Path_node.z with Paths := a0, now := a1, out := [] } (.ref 1 0 d9.length 17) (.ref 2 0 x8.length 8) vnil))) 1 (.live (List.flatMap e_PathRoute d9))) 2 (.live (List.flatMap e_PathWanted x8))), next := 3, tmps := (upd (fun _ => .unk) 7 (.ptr 0 0)) }

def path_begun_S3 (a0 : Paths) (a1 : Int) (x8 : (List PathWanted)) (x7 : (List PathRoute)) (d10 : (List PathRoute × Int)) : AS :=
 { objs := (upd (upd (upd (fun _ => .dead) 0 (.live (e_Path_node { Path_node.z with Paths := a0, now := a1, out := [] } (.ref 1 0 d10.1.length 17) (.ref 2 0 x8.length 8) vnil))) 1 (.live (List.flatMap e_PathRoute d10.1))) 2 (.live (List.flatMap e_PathWanted x8))), next := 3, tmps := (upd (upd (upd (upd (fun _ => .unk) 1 (vi a1)) 7 (.ptr 0 0)) 41 (vi ((x7.length : Nat) : Int))) 42 (vi d10.2)) }

theorem path_begun_io (a0 : Paths) (a1 : Int) {r : (List PathRoute × List PathWanted)} (h0 : path_begun a0 a1 = some r) : SndIO K 20 0 (fun q => [(.agg (e_Paths a0 (.imm (List.flatMap e_PathRoute a0.Routes) a0.Routes.length) (.imm (List.flatMap e_PathWanted a0.Wanted) a0.Wanted.length))), (vi a1)]) [] (fun q => (.tup [(.ptr (q 0) 0), (vi 0)])) [(some (fun q => (e_Path_node { Path_node.z with Paths := a0, now := a1, out := [] } (.ref (q 1) 0 r.1.length 17) (.ref (q 2) 0 r.2.length 8) vnil))), (some (fun q => (List.flatMap e_PathRoute r.1))), (some (fun q => (List.flatMap e_PathWanted r.2)))] := by
 refine SndIO.of_walkW hC (RenML.cons (RenM.agg (e_Paths_ren _ (rI (c_PathRoute _)) (rI (c_PathWanted _)))) (RenML.cons rv RenML.nil)) tpl_nil (otpl_some (e_Path_node_ren _ (RenM.ref 1 0 _ _) (RenM.ref 2 0 _ _) rv) (otpl_some (RenML.const (c_PathRoute _)) (otpl_some (RenML.const (c_PathWanted _)) otpl_nil))) (RenM.tup (RenML.cons (RenM.ptr 0 0) (RenML.cons rv RenML.nil))) rfl (qB2 rfl) (show K.P.funcs[20]? = some Tryd.f20 from Tryd.func20) rfl rfl (by decide +kernel) (qB2 rfl) ?_; unfold path_begun at h0; refine awp_nw [0,1] fun tz U u => ?_; (try simp only [go_sem]); refine qU u ?_; clear u U; refine awp_assoc ?_; refine awp_nw [1,2] fun tz U u => ?_; obtain ⟨x5, bx5, h0⟩ := bnd h0; (try simp only [go_sem]); (refine xcall_p (path_Check_p a0 bx5) ?_; try dsimp only); (try refine xw_id ?_); (try simp only [go_sem]); refine qU u ?_; clear u U; refine awp_assoc ?_; refine awp_nw [1,2,6] fun tz U u => ?_; (try simp only [go_sem]); refine qU u ?_; clear u U; refine awp_cond (b := (x5 != 0)) rfl (fun h1 => ?_) (fun h1 => ?_)
 ·
  have h0 := cT h0 h1; refine awp_assoc ?_; refine awp_nw [6] fun tz U u => ?_; (try simp only [go_sem]); refine qU u ?_; clear u U; refine awp_ret ?_; cases h0
 ·
  have h0 := cF h0 h1; refine awp_skip ?_; refine awp_assoc ?_; refine awp_nw [1,2] fun tz U u => ?_; obtain ⟨x6, bx6, h0⟩ := bnd h0; (try simp only [go_sem]); (refine xcall_p (path_between_p a1 0 1099511627776 bx6) ?_; try dsimp only); (try refine xw_id ?_); (try simp only [go_sem]); refine qU u ?_; clear u U; refine awp_cond (b := (!x6)) rfl (fun h2 => ?_) (fun h2 => ?_)
  ·
   have h0 := cT h0 h2; refine awp_assoc ?_; refine awp_nw [] fun tz U u => ?_; (try simp only [go_sem]); refine qU u ?_; clear u U; refine awp_ret ?_; cases h0
  ·
   have h0 := cF h0 h2; refine awp_skip ?_; refine awp_nw [1,2] fun tz U u => ?_; (try simp only [go_sem]); refine u _ (path_begun_S0 a0 a1) (Wk.canonD [] [] [some 0, some 14] rfl trivial rfl (tmOU 1 (tmOU 0 tmO0 rfl qM rfl (e_Paths_tmx (by rfl) (tI (c_PathRoute _)) (tI (c_PathWanted _)))) rfl qM rfl (e_Path_node_tmx (by rfl) (tI (c_PathRoute _)) (tI (c_PathWanted _)) tv)) (tA 7 (tA 2 (tA 1 tmAll0 tv) tp) tp)) ?_; clear u U; unfold path_begun_S0; refine awp_nr [1,2,7] (fun _ => rfl) fun tz => ?_; refine awp_regDW fun U u all hall => ?_; refine xd_id ?_; (try simp only [List.toList_toArray, List.map_cons, List.map_nil, List.size_toArray, List.length_cons, List.length_nil, Nat.zero_add]); (try simp only [Nat.reduceAdd]); obtain ⟨x7, bx7, h0⟩ := bnd h0; (iterate 3 ((try simp only [go_sem, -Nat.reduceAdd]); try simp only [Nat.reduceAdd])); (refine xcallD_E (slices_Clone_api_PathRoute_api_PathRoute_e a0.Routes bx7 _) ?_; try dsimp only); (try refine xd_id ?_); obtain ⟨x8, bx8, h0⟩ := bnd h0; (iterate 3 ((try simp only [go_sem, -Nat.reduceAdd]); try simp only [Nat.reduceAdd])); (refine xcallD_E (slices_Clone_api_PathWanted_api_PathWanted_e a0.Wanted bx8 _) ?_; try dsimp only); (try refine xd_id ?_); (iterate 3 ((try simp only [go_sem, -Nat.reduceAdd]); try simp only [Nat.reduceAdd])); refine And.intro ?_ (u _ (path_begun_S1 a0 a1 x7 x8) (by refine Wk.canonD [] [] [some 1, some 6, some 9] rfl trivial rfl (tmOU 2 (tmOU 1 (tmOU 0 tmO0 rfl qM rfl (e_Path_node_tmx (by rfl) tr tr tv)) rfl qM rfl (TmL.of_eq qL (c_PathRoute _))) rfl qM rfl (TmL.of_eq qL (c_PathWanted _))) (tA 7 (tA 1 tmAll0 tv) tp); all_goals exact qN) ?_)
   ·
    subst hall; clear u U; exact qP
   ·
    clear u U hall all; unfold path_begun_S1; refine awp_assoc ?_; refine awp_nw [1,7] fun tz U u => ?_; (try simp only [go_sem]); refine qU u ?_; clear u U; obtain ⟨d9, hi3, h0⟩ := bnd h0; refine awp_cut (fun z => d9 = z) (fun d9 : (List PathRoute) => path_begun_S2 a0 a1 x8 d9) ?_ ?_
    ·
     refine awp_block1 ?_; refine awp_loopS (fun n (d10 : (List PathRoute × Int)) => path_begun_L4 x7 a1 n d10 = some d9) (fun d10 : (List PathRoute × Int) => path_begun_S3 a0 a1 x8 x7 d10) big (x7, 0) (by refine Wk.canonD [] [] [some 0, some 1, some 2] rfl trivial rfl (tmOU 2 (tmOU 1 (tmOU 0 tmO0 rfl qM rfl (e_Path_node_tmx (by rfl) tr tr tv)) rfl qM rfl (TmL.of_eq qL (c_PathRoute _))) rfl qM rfl (TmL.of_eq qL (c_PathWanted _))) (tA 42 (tA 41 (tA 7 (tA 1 tmAll0 tv) tp) tv) tv); all_goals exact qN) hi3 ?_; clear hi3; rintro n d10 hl5; rcases n with _ | n4
     ·
      (rw [path_begun_L4] at hl5; cases hl5)
     ·
      rw [path_begun_L4] at hl5; unfold path_begun_S3; refine awp_nw [1,7,41,42] fun tz U u => ?_; (try simp only [go_sem]); refine qU u ?_; clear u U; refine awp_cond (b := (decide (d10.2 < ((x7.length : Nat) : Int)))) rfl (fun h6 => ?_) (fun h6 => ?_)
      ·
       have hl5 := cT hl5 h6; refine awp_skip ?_; refine awp_blockW ?_; refine awp_nw [1,7,41,42] fun tz U u => ?_; (try simp only [go_sem]); refine qU u ?_; clear u U; refine awp_nw [1,7,8,41,42] fun tz U u => ?_; obtain ⟨x11, bx11, hl5⟩ := bnd hl5; obtain ⟨fx11_0, fx11_1, fx11_2, fx11_3⟩ := idx_some bx11; (have fx11_5 : ((d10.2 : Int) < ((d10.1.length : Nat) : Int)) = True := by first | exact fx11_1 | (simp [List.length_modify, List.length_set]; omega)); (try simp only [go_sem, fx11_0, fx11_1, fx11_2, fx11_5]); refine qU u ?_; clear u U; refine awp_nw [1,7,9,41,42] fun tz U u => ?_; refine xw_stop 5 qS qS (by rfl) fun V v => ?_; refine xw_id ?_; (try simp only [go_sem, fx11_0, fx11_1, fx11_2, fx11_5]); refine v _ ?_; clear v V; refine xw_cut 7 [(1, (vi a1)), (7, (.ptr 0 0)), (9, (.ptr 1 ((d10.2).toNat * 17))), (41, (vi ((x7.length : Nat) : Int))), (42, (vi d10.2)), (63, (vb (x11.Valid && (decide (x11.Until ≤ a1)))))] qS qS (by rfl) (fun V v => ?_) fun tz => ?_
       ·
        refine xw_id ?_; rcases bE x11.Valid with h7 | h7
        ·
         (try simp only [go_sem, fx11_0, fx11_1, fx11_2, fx11_5, h7]); exact v _ ⟨(by first | rfl | (simp only [h7]; done)), rfl, rfl, rfl, rfl, rfl, (qB h7), trivial⟩
        ·
         (try simp only [go_sem, fx11_0, fx11_1, fx11_2, fx11_5, h7]); exact v _ ⟨(by first | rfl | (simp only [h7]; done)), rfl, rfl, rfl, rfl, rfl, (qB h7), trivial⟩
       ·
        refine xw_id ?_; (try simp only [go_sem, fx11_0, fx11_1, fx11_2, fx11_5]); refine qU u ?_; clear u U; refine awp_cond1 (b := (x11.Valid && (decide (x11.Until ≤ a1)))) rfl (fun h8 => ?_) (fun h8 => ?_)
        ·
         have hl5 := cT hl5 h8; refine awp_nw1 [1,7,9,41,42] fun tz U u => ?_; obtain ⟨x12, bx12, hl5⟩ := bnd hl5; (try simp only [go_sem, fx11_0, fx11_1, fx11_2, fx11_5]); (refine xcall_O [1] (path_spoil_io d10.2 d10.1 bx12) (by decide) (by decide) ⟨(by first | rfl | (simp only [go_sem, fx11_0, fx11_1, fx11_2, fx11_5] <;> rfl) | (simp only [go_sem, List.length_append, fx11_0, fx11_1, fx11_2, fx11_5] <;> rfl)), trivial⟩ (by first | rfl | (simp only [go_sem, fx11_0, fx11_1, fx11_2, fx11_5] <;> rfl) | (simp only [go_sem, List.length_append, fx11_0, fx11_1, fx11_2, fx11_5] <;> rfl)) ?_; try dsimp only); (try refine xw_id ?_); obtain ⟨x13, bx13, hl5⟩ := bnd hl5; have bx13 := chk_some bx13; simp only [decide_eq_true_eq] at bx13; (try simp only [go_sem, fx11_0, fx11_1, fx11_2, fx11_5, lc, ln]); refine u _ ?_; clear u U; refine bq_n ?_; refine seqW_i ?_; refine awp_nw1 [1,7,41,42] fun tz U u => ?_; (try simp only [go_sem, fx11_0, fx11_1, fx11_2, fx11_5]); refine u _ ?_; clear u U; refine lq_n ?_; exact ⟨n4, (x12, IntKind.wrap .i64 (d10.2 + 1)), rfl, hl5, (by refine Wk.canonD [] [] [some 0, some 1, some 2] rfl trivial rfl (tmOU 2 (tmOU 1 (tmOU 0 tmO0 rfl qM rfl (e_Path_node_tmx (by rfl) tr tr tv)) rfl qM rfl (TmL.of_eq qL (c_PathRoute _))) rfl qM rfl (TmL.of_eq qL (c_PathWanted _))) (tA 42 (tA 41 (tA 7 (tA 1 tmAll0 tv) tp) tv) tv); all_goals exact qN)⟩
        ·
         have hl5 := cF hl5 h8; refine awp_skip1 ?_; refine bq_n ?_; refine seqW_i ?_; refine awp_nw1 [1,7,41,42] fun tz U u => ?_; (try simp only [go_sem, fx11_0, fx11_1, fx11_2, fx11_5]); refine u _ ?_; clear u U; refine lq_n ?_; exact ⟨n4, (d10.1, IntKind.wrap .i64 (d10.2 + 1)), rfl, hl5, (by refine Wk.canonD [] [] [some 0, some 1, some 2] rfl trivial rfl (tmOU 2 (tmOU 1 (tmOU 0 tmO0 rfl qM rfl (e_Path_node_tmx (by rfl) tr tr tv)) rfl qM rfl (TmL.of_eq qL (c_PathRoute _))) rfl qM rfl (TmL.of_eq qL (c_PathWanted _))) (tA 42 (tA 41 (tA 7 (tA 1 tmAll0 tv) tp) tv) tv); all_goals exact qN)⟩
      ·
       have hl5 := cF hl5 h6; refine awp_exit ?_; refine lq_e ?_; refine bq_e ?_; refine sq_n ?_; obtain rfl := someInj hl5; exact ⟨_, rfl, (by refine Wk.canonD [] [] [some 0, some 1, some 2] rfl trivial rfl (tmOU 2 (tmOU 1 (tmOU 0 tmO0 rfl qM rfl (e_Path_node_tmx (by rfl) tr tr tv)) rfl qM rfl (TmL.of_eq qL (c_PathRoute _))) rfl qM rfl (TmL.of_eq qL (c_PathWanted _))) (tA 7 tmAll0 tp); all_goals exact qN)⟩
    ·
     rintro _ rfl; clear hi3; unfold path_begun_S2; refine awp_nw [7] fun tz U u => ?_; (try simp only [go_sem]); refine qU u ?_; clear u U; refine awp_ret1 ?_; obtain rfl := someInj h0; refine endW_i ?_; refine end_ret0 rs20 (rfl) ?_; refine ResIO.mk [] [some 0, some 1, some 2] rfl (resEU qM rfl (e_Path_node_tmx (by rfl) tr tr tv) (resEU qM rfl (TmL.of_eq qL (c_PathRoute _)) (resEU qM rfl (TmL.of_eq qL (c_PathWanted _)) resE0))) (Tm.tup (tc tp (tc tv tn))); (all_goals exact qN)
theorem path_group_p (a0 : A6vu) {r : Bool} (h0 : path_group a0 = some r) : SndP K 21 [(.agg (e_A6vu a0))] (vb r) := by
 refine SndP.of_walkW hC cv (clean_cons (Clean.agg (e_A6vu_clean _)) clean_nil) (show K.P.funcs[21]? = some Tryd.f21 from Tryd.func21) rfl rfl (by decide +kernel) (qB2 rfl) ?_; unfold path_group at h0; refine awp_nw [0] fun tz U u => ?_; (try simp only [go_sem]); refine qU u ?_; clear u U; refine awp_nw [1] fun tz U u => ?_; (try simp only [go_sem]); refine qU u ?_; clear u U; refine awp_ret1 ?_; obtain rfl := someInj h0; refine endW_i ?_; refine end_ret0 rs21 (rfl) ?_; exact qF
theorem path_node_wanted_1_p (a0 : PathWanted) (a1 : A6vu) {r : Int} (h0 : path_node_wanted_1 a0 a1 = some r) : SndP K 46 [(.agg (e_PathWanted a0)), (.agg (e_A6vu a1))] (vi r) := by
 refine SndP.of_walkW hC cv (clean_cons (Clean.agg (e_PathWanted_clean _)) (clean_cons (Clean.agg (e_A6vu_clean _)) clean_nil)) (show K.P.funcs[46]? = some Tryd.f46 from Tryd.func46) rfl rfl (by decide +kernel) (qB2 rfl) ?_; unfold path_node_wanted_1 at h0; refine awp_nw [0,1] fun tz U u => ?_; (try simp only [go_sem]); refine qU u ?_; clear u U; refine awp_nw [2,3] fun tz U u => ?_; obtain ⟨x19, bx19, h0⟩ := bnd h0; (try simp only [go_sem]); (refine xcall_p (address_Compare_p a0.Dest a1 bx19) ?_; try dsimp only); (try refine xw_id ?_); (try simp only [go_sem]); refine qU u ?_; clear u U; refine awp_ret1 ?_; obtain rfl := someInj h0; refine endW_i ?_; refine end_ret0 rs46 (rfl) ?_; exact qF
def slices_BinarySearchFunc_api_PathWanted_api_PathWanted_api_Addr_S0 (a1 : A6vu) (a0 : (List PathWanted)) (d17 : Int) : AS :=
 { objs := (upd (fun _ => .dead) 0 (.live (e_A6vu a1))), next := 1, tmps := (upd (upd (upd (upd (upd (fun _ => .unk) 0 (.imm (List.flatMap e_PathWanted a0) a0.length)) 2 (.clo 46 [] [])) 4 (.ptr 0 0)) 8 (vi (a0.length : Int))) 9 (vi d17)) }

def slices_BinarySearchFunc_api_PathWanted_api_PathWanted_api_Addr_S1 (a1 : A6vu) (a0 : (List PathWanted)) (d18 : (Int × Int)) : AS :=
 { objs := (upd (fun _ => .dead) 0 (.live (e_A6vu a1))), next := 1, tmps := (upd (upd (upd (upd (upd (upd (fun _ => .unk) 0 (.imm (List.flatMap e_PathWanted a0) a0.length)) 2 (.clo 46 [] [])) 4 (.ptr 0 0)) 8 (vi (a0.length : Int))) 9 (vi d18.1)) 10 (vi d18.2)) }

theorem slices_BinarySearchFunc_api_PathWanted_api_PathWanted_api_Addr_p (a0 : (List PathWanted)) (a1 : A6vu) {r : (Int × Bool)} (h0 : slices_BinarySearchFunc_api_PathWanted_api_PathWanted_api_Addr a0 a1 = some r) : SndP K 45 [(S_PathWanted a0), (.agg (e_A6vu a1)), (.clo 46 [] [])] (.tup [(vi r.1), (vb r.2)]) := by
 refine SndP.of_walkW hC (Clean.tup (clean_cons cv (clean_cons cv clean_nil))) (clean_cons (S_PathWanted_clean _) (clean_cons (Clean.agg (e_A6vu_clean _)) (clean_cons (Clean.clo clean_nil clean_nil) clean_nil))) (show K.P.funcs[45]? = some Tryd.f45 from Tryd.func45) rfl rfl (by decide +kernel) (qB2 rfl) ?_; unfold slices_BinarySearchFunc_api_PathWanted_api_PathWanted_api_Addr at h0; refine awp_nw [0,1,2] fun tz U u => ?_; (try simp only [go_sem]); refine qU u ?_; clear u U; refine awp_nw [0,2,4] fun tz U u => ?_; (try simp only [go_sem]); refine qU u ?_; clear u U; refine awp_nw [0,2,4,8] fun tz U u => ?_; (try simp only [go_sem]); refine qU u ?_; clear u U; obtain ⟨d17, hi1, h0⟩ := bnd h0; refine awp_cut (fun z => d17 = z) (fun d17 : Int => slices_BinarySearchFunc_api_PathWanted_api_PathWanted_api_Addr_S0 a1 a0 d17) ?_ ?_
 ·
  refine awp_block1 ?_; refine awp_loopS (fun n (d18 : (Int × Int)) => slices_BinarySearchFunc_api_PathWanted_api_PathWanted_api_Addr_L2 a0 a1 n d18 = some d17) (fun d18 : (Int × Int) => slices_BinarySearchFunc_api_PathWanted_api_PathWanted_api_Addr_S1 a1 a0 d18) big (0, (a0.length : Int)) (Wk.canonD [] [] [some 0] rfl trivial rfl (tmOU 0 tmO0 rfl qM rfl (TmL.clean (e_A6vu_clean _))) (tA 10 (tA 9 (tA 8 (tA 4 (tA 2 (tA 0 tmAll0 (tI (c_PathWanted _))) (Tm.clo tn tn)) tp) tv) tv) tv)) hi1 ?_; clear hi1; rintro n d18 hl3; rcases n with _ | n2
  ·
   (rw [slices_BinarySearchFunc_api_PathWanted_api_PathWanted_api_Addr_L2] at hl3; cases hl3)
  ·
   rw [slices_BinarySearchFunc_api_PathWanted_api_PathWanted_api_Addr_L2] at hl3; unfold slices_BinarySearchFunc_api_PathWanted_api_PathWanted_api_Addr_S1; refine awp_assoc ?_; refine awp_nw [0,2,4,8,9,10] fun tz U u => ?_; (try simp only [go_sem]); refine qU u ?_; clear u U; refine awp_cond (b := (decide (d18.1 < d18.2))) rfl (fun h4 => ?_) (fun h4 => ?_)
   ·
    have hl3 := cT hl3 h4; refine awp_skip ?_; refine awp_block1 ?_; refine awp_nw [0,2,4,8,9,10] fun tz U u => ?_; (try simp only [go_sem]); refine qU u ?_; clear u U; refine awp_nw [0,2,4,8,9,10,11] fun tz U u => ?_; obtain ⟨x19, bx19, hl3⟩ := bnd hl3; obtain ⟨fx19_0, fx19_1, fx19_2, fx19_3⟩ := idx_some bx19; obtain ⟨x20, bx20, hl3⟩ := bnd hl3; (try simp only [go_sem, fx19_0, fx19_1, fx19_2]); (refine xcall_p (path_node_wanted_1_p x19 a1 bx20) ?_; try dsimp only); (try refine xw_id ?_); (try simp only [go_sem, fx19_0, fx19_1, fx19_2]); refine qU u ?_; clear u U; refine awp_cond1 (b := (decide (x20 < 0))) rfl (fun h5 => ?_) (fun h5 => ?_)
    ·
     have hl3 := cT hl3 h5; refine awp_nw1 [0,2,4,8,10,11] fun tz U u => ?_; (try simp only [go_sem, fx19_0, fx19_1, fx19_2]); refine u _ ?_; clear u U; refine bq_n ?_; refine lq_n ?_; exact ⟨n2, (IntKind.wrap .i64 ((IntKind.wrap .i64 (((IntKind.wrap .u64 (IntKind.wrap .i64 (d18.1 + d18.2)))).fdiv (2 ^ (min 1 64)))) + 1), d18.2), rfl, hl3, (Wk.canonD [] [] [some 0] rfl trivial rfl (tmOU 0 tmO0 rfl qM rfl (TmL.clean (e_A6vu_clean _))) (tA 10 (tA 9 (tA 8 (tA 4 (tA 2 (tA 0 tmAll0 (tI (c_PathWanted _))) (Tm.clo tn tn)) tp) tv) tv) tv))⟩
    ·
     have hl3 := cF hl3 h5; refine awp_nw1 [0,2,4,8,9,11] fun tz U u => ?_; (try simp only [go_sem, fx19_0, fx19_1, fx19_2]); refine u _ ?_; clear u U; refine bq_n ?_; refine lq_n ?_; exact ⟨n2, (d18.1, IntKind.wrap .i64 (((IntKind.wrap .u64 (IntKind.wrap .i64 (d18.1 + d18.2)))).fdiv (2 ^ (min 1 64)))), rfl, hl3, (Wk.canonD [] [] [some 0] rfl trivial rfl (tmOU 0 tmO0 rfl qM rfl (TmL.clean (e_A6vu_clean _))) (tA 10 (tA 9 (tA 8 (tA 4 (tA 2 (tA 0 tmAll0 (tI (c_PathWanted _))) (Tm.clo tn tn)) tp) tv) tv) tv))⟩
   ·
    have hl3 := cF hl3 h4; refine awp_exit ?_; refine lq_e ?_; refine bq_e ?_; refine sq_n ?_; obtain rfl := someInj hl3; exact ⟨_, rfl, (Wk.canonD [] [] [some 0] rfl trivial rfl (tmOU 0 tmO0 rfl qM rfl (TmL.clean (e_A6vu_clean _))) (tA 9 (tA 8 (tA 4 (tA 2 (tA 0 tmAll0 (tI (c_PathWanted _))) (Tm.clo tn tn)) tp) tv) tv))⟩
 ·
  rintro _ rfl; clear hi1; unfold slices_BinarySearchFunc_api_PathWanted_api_PathWanted_api_Addr_S0; refine awp_nw [0,2,4,8,9] fun tz U u => ?_; rcases bE (decide (d17 < (a0.length : Int))) with h6 | h6
  ·
   have h0 := cT h0 h6; obtain ⟨x21, bx21, h0⟩ := bnd h0; obtain ⟨fx21_0, fx21_1, fx21_2, fx21_3⟩ := idx_some bx21; obtain ⟨x22, bx22, h0⟩ := bnd h0; (try simp only [go_sem, h6, fx21_0, fx21_1, fx21_2]); (refine xcall_p (path_node_wanted_1_p x21 a1 bx22) ?_; try dsimp only); (try refine xw_id ?_); (try simp only [go_sem, h6, fx21_0, fx21_1, fx21_2]); refine qU u ?_; clear u U; refine awp_ret1 ?_; obtain rfl := someInj h0; refine endW_i ?_; refine end_ret0 rs45 (rfl) ?_; exact qF
  ·
   have h0 := cF h0 h6; (try simp only [go_sem, h6]); refine qU u ?_; clear u U; refine awp_ret1 ?_; obtain rfl := someInj h0; refine endW_i ?_; refine end_ret0 rs45 (rfl) ?_; exact qF
theorem path_node_wanted_p (a0 : Path_node) (a1 : A6vu) {r : (Int × Bool)} (h0 : path_node_wanted a0 a1 = some r) : SndP K 22 [(.iptr (E_Path_node a0) 0), (.agg (e_A6vu a1))] (.tup [(vi r.1), (vb r.2)]) := by
 refine SndP.of_walkW hC (Clean.tup (clean_cons cv (clean_cons cv clean_nil))) (clean_cons (Clean.iptr (E_Path_node_clean _)) (clean_cons (Clean.agg (e_A6vu_clean _)) clean_nil)) (show K.P.funcs[22]? = some Tryd.f22 from Tryd.func22) rfl rfl (by decide +kernel) (qB2 rfl) ?_; unfold path_node_wanted at h0; refine awp_nw [0,1] fun tz U u => ?_; (try simp only [go_sem]); refine qU u ?_; clear u U; refine awp_nw [0,3] fun tz U u => ?_; obtain ⟨x17, bx17, h0⟩ := bnd h0; (try simp only [go_sem]); (refine xcall_p (slices_BinarySearchFunc_api_PathWanted_api_PathWanted_api_Addr_p a0.Paths.Wanted a1 bx17) ?_; try dsimp only); (try refine xw_id ?_); (try simp only [go_sem]); refine qU u ?_; clear u U; refine awp_ret1 ?_; obtain rfl := someInj h0; refine endW_i ?_; refine end_ret0 rs22 (rfl) ?_; exact qF
theorem path_node_route_1_p (a0 : PathRoute) (a1 : A6vu) {r : Int} (h0 : path_node_route_1 a0 a1 = some r) : SndP K 48 [(.agg (e_PathRoute a0)), (.agg (e_A6vu a1))] (vi r) := by
 refine SndP.of_walkW hC cv (clean_cons (Clean.agg (e_PathRoute_clean _)) (clean_cons (Clean.agg (e_A6vu_clean _)) clean_nil)) (show K.P.funcs[48]? = some Tryd.f48 from Tryd.func48) rfl rfl (by decide +kernel) (qB2 rfl) ?_; unfold path_node_route_1 at h0; refine awp_nw [0,1] fun tz U u => ?_; (try simp only [go_sem]); refine qU u ?_; clear u U; refine awp_nw [2,3] fun tz U u => ?_; obtain ⟨x21, bx21, h0⟩ := bnd h0; (try simp only [go_sem]); (refine xcall_p (address_Compare_p a0.Dest a1 bx21) ?_; try dsimp only); (try refine xw_id ?_); (try simp only [go_sem]); refine qU u ?_; clear u U; refine awp_ret1 ?_; obtain rfl := someInj h0; refine endW_i ?_; refine end_ret0 rs48 (rfl) ?_; exact qF
def slices_BinarySearchFunc_api_PathRoute_api_PathRoute_api_Addr_S0 (a1 : A6vu) (a0 : (List PathRoute)) (d19 : Int) : AS :=
 { objs := (upd (fun _ => .dead) 0 (.live (e_A6vu a1))), next := 1, tmps := (upd (upd (upd (upd (upd (fun _ => .unk) 0 (.imm (List.flatMap e_PathRoute a0) a0.length)) 2 (.clo 48 [] [])) 4 (.ptr 0 0)) 8 (vi (a0.length : Int))) 9 (vi d19)) }

def slices_BinarySearchFunc_api_PathRoute_api_PathRoute_api_Addr_S1 (a1 : A6vu) (a0 : (List PathRoute)) (d20 : (Int × Int)) : AS :=
 { objs := (upd (fun _ => .dead) 0 (.live (e_A6vu a1))), next := 1, tmps := (upd (upd (upd (upd (upd (upd (fun _ => .unk) 0 (.imm (List.flatMap e_PathRoute a0) a0.length)) 2 (.clo 48 [] [])) 4 (.ptr 0 0)) 8 (vi (a0.length : Int))) 9 (vi d20.1)) 10 (vi d20.2)) }

theorem slices_BinarySearchFunc_api_PathRoute_api_PathRoute_api_Addr_p (a0 : (List PathRoute)) (a1 : A6vu) {r : (Int × Bool)} (h0 : slices_BinarySearchFunc_api_PathRoute_api_PathRoute_api_Addr a0 a1 = some r) : SndP K 47 [(S_PathRoute a0), (.agg (e_A6vu a1)), (.clo 48 [] [])] (.tup [(vi r.1), (vb r.2)]) := by
 refine SndP.of_walkW hC (Clean.tup (clean_cons cv (clean_cons cv clean_nil))) (clean_cons (S_PathRoute_clean _) (clean_cons (Clean.agg (e_A6vu_clean _)) (clean_cons (Clean.clo clean_nil clean_nil) clean_nil))) (show K.P.funcs[47]? = some Tryd.f47 from Tryd.func47) rfl rfl (by decide +kernel) (qB2 rfl) ?_; unfold slices_BinarySearchFunc_api_PathRoute_api_PathRoute_api_Addr at h0; refine awp_nw [0,1,2] fun tz U u => ?_; (try simp only [go_sem]); refine qU u ?_; clear u U; refine awp_nw [0,2,4] fun tz U u => ?_; (try simp only [go_sem]); refine qU u ?_; clear u U; refine awp_nw [0,2,4,8] fun tz U u => ?_; (try simp only [go_sem]); refine qU u ?_; clear u U; obtain ⟨d19, hi1, h0⟩ := bnd h0; refine awp_cut (fun z => d19 = z) (fun d19 : Int => slices_BinarySearchFunc_api_PathRoute_api_PathRoute_api_Addr_S0 a1 a0 d19) ?_ ?_
 ·
  refine awp_block1 ?_; refine awp_loopS (fun n (d20 : (Int × Int)) => slices_BinarySearchFunc_api_PathRoute_api_PathRoute_api_Addr_L2 a0 a1 n d20 = some d19) (fun d20 : (Int × Int) => slices_BinarySearchFunc_api_PathRoute_api_PathRoute_api_Addr_S1 a1 a0 d20) big (0, (a0.length : Int)) (Wk.canonD [] [] [some 0] rfl trivial rfl (tmOU 0 tmO0 rfl qM rfl (TmL.clean (e_A6vu_clean _))) (tA 10 (tA 9 (tA 8 (tA 4 (tA 2 (tA 0 tmAll0 (tI (c_PathRoute _))) (Tm.clo tn tn)) tp) tv) tv) tv)) hi1 ?_; clear hi1; rintro n d20 hl3; rcases n with _ | n2
  ·
   (rw [slices_BinarySearchFunc_api_PathRoute_api_PathRoute_api_Addr_L2] at hl3; cases hl3)
  ·
   rw [slices_BinarySearchFunc_api_PathRoute_api_PathRoute_api_Addr_L2] at hl3; unfold slices_BinarySearchFunc_api_PathRoute_api_PathRoute_api_Addr_S1; refine awp_assoc ?_; refine awp_nw [0,2,4,8,9,10] fun tz U u => ?_; (try simp only [go_sem]); refine qU u ?_; clear u U; refine awp_cond (b := (decide (d20.1 < d20.2))) rfl (fun h4 => ?_) (fun h4 => ?_)
   ·
    have hl3 := cT hl3 h4; refine awp_skip ?_; refine awp_block1 ?_; refine awp_nw [0,2,4,8,9,10] fun tz U u => ?_; (try simp only [go_sem]); refine qU u ?_; clear u U; refine awp_nw [0,2,4,8,9,10,11] fun tz U u => ?_; obtain ⟨x21, bx21, hl3⟩ := bnd hl3; obtain ⟨fx21_0, fx21_1, fx21_2, fx21_3⟩ := idx_some bx21; obtain ⟨x22, bx22, hl3⟩ := bnd hl3; (try simp only [go_sem, fx21_0, fx21_1, fx21_2]); (refine xcall_p (path_node_route_1_p x21 a1 bx22) ?_; try dsimp only); (try refine xw_id ?_); (try simp only [go_sem, fx21_0, fx21_1, fx21_2]); refine qU u ?_; clear u U; refine awp_cond1 (b := (decide (x22 < 0))) rfl (fun h5 => ?_) (fun h5 => ?_)
    ·
     have hl3 := cT hl3 h5; refine awp_nw1 [0,2,4,8,10,11] fun tz U u => ?_; (try simp only [go_sem, fx21_0, fx21_1, fx21_2]); refine u _ ?_; clear u U; refine bq_n ?_; refine lq_n ?_; exact ⟨n2, (IntKind.wrap .i64 ((IntKind.wrap .i64 (((IntKind.wrap .u64 (IntKind.wrap .i64 (d20.1 + d20.2)))).fdiv (2 ^ (min 1 64)))) + 1), d20.2), rfl, hl3, (Wk.canonD [] [] [some 0] rfl trivial rfl (tmOU 0 tmO0 rfl qM rfl (TmL.clean (e_A6vu_clean _))) (tA 10 (tA 9 (tA 8 (tA 4 (tA 2 (tA 0 tmAll0 (tI (c_PathRoute _))) (Tm.clo tn tn)) tp) tv) tv) tv))⟩
    ·
     have hl3 := cF hl3 h5; refine awp_nw1 [0,2,4,8,9,11] fun tz U u => ?_; (try simp only [go_sem, fx21_0, fx21_1, fx21_2]); refine u _ ?_; clear u U; refine bq_n ?_; refine lq_n ?_; exact ⟨n2, (d20.1, IntKind.wrap .i64 (((IntKind.wrap .u64 (IntKind.wrap .i64 (d20.1 + d20.2)))).fdiv (2 ^ (min 1 64)))), rfl, hl3, (Wk.canonD [] [] [some 0] rfl trivial rfl (tmOU 0 tmO0 rfl qM rfl (TmL.clean (e_A6vu_clean _))) (tA 10 (tA 9 (tA 8 (tA 4 (tA 2 (tA 0 tmAll0 (tI (c_PathRoute _))) (Tm.clo tn tn)) tp) tv) tv) tv))⟩
   ·
    have hl3 := cF hl3 h4; refine awp_exit ?_; refine lq_e ?_; refine bq_e ?_; refine sq_n ?_; obtain rfl := someInj hl3; exact ⟨_, rfl, (Wk.canonD [] [] [some 0] rfl trivial rfl (tmOU 0 tmO0 rfl qM rfl (TmL.clean (e_A6vu_clean _))) (tA 9 (tA 8 (tA 4 (tA 2 (tA 0 tmAll0 (tI (c_PathRoute _))) (Tm.clo tn tn)) tp) tv) tv))⟩
 ·
  rintro _ rfl; clear hi1; unfold slices_BinarySearchFunc_api_PathRoute_api_PathRoute_api_Addr_S0; refine awp_nw [0,2,4,8,9] fun tz U u => ?_; rcases bE (decide (d19 < (a0.length : Int))) with h6 | h6
  ·
   have h0 := cT h0 h6; obtain ⟨x23, bx23, h0⟩ := bnd h0; obtain ⟨fx23_0, fx23_1, fx23_2, fx23_3⟩ := idx_some bx23; obtain ⟨x24, bx24, h0⟩ := bnd h0; (try simp only [go_sem, h6, fx23_0, fx23_1, fx23_2]); (refine xcall_p (path_node_route_1_p x23 a1 bx24) ?_; try dsimp only); (try refine xw_id ?_); (try simp only [go_sem, h6, fx23_0, fx23_1, fx23_2]); refine qU u ?_; clear u U; refine awp_ret1 ?_; obtain rfl := someInj h0; refine endW_i ?_; refine end_ret0 rs47 (rfl) ?_; exact qF
  ·
   have h0 := cF h0 h6; (try simp only [go_sem, h6]); refine qU u ?_; clear u U; refine awp_ret1 ?_; obtain rfl := someInj h0; refine endW_i ?_; refine end_ret0 rs47 (rfl) ?_; exact qF
theorem path_node_route_p (a0 : Path_node) (a1 : A6vu) {r : (Int × Bool)} (h0 : path_node_route a0 a1 = some r) : SndP K 23 [(.iptr (E_Path_node a0) 0), (.agg (e_A6vu a1))] (.tup [(vi r.1), (vb r.2)]) := by
 refine SndP.of_walkW hC (Clean.tup (clean_cons cv (clean_cons cv clean_nil))) (clean_cons (Clean.iptr (E_Path_node_clean _)) (clean_cons (Clean.agg (e_A6vu_clean _)) clean_nil)) (show K.P.funcs[23]? = some Tryd.f23 from Tryd.func23) rfl rfl (by decide +kernel) (qB2 rfl) ?_; unfold path_node_route at h0; refine awp_nw [0,1] fun tz U u => ?_; (try simp only [go_sem]); refine qU u ?_; clear u U; refine awp_nw [0,3] fun tz U u => ?_; obtain ⟨x19, bx19, h0⟩ := bnd h0; (try simp only [go_sem]); (refine xcall_p (slices_BinarySearchFunc_api_PathRoute_api_PathRoute_api_Addr_p a0.Paths.Routes a1 bx19) ?_; try dsimp only); (try refine xw_id ?_); (try simp only [go_sem]); refine qU u ?_; clear u U; refine awp_ret1 ?_; obtain rfl := someInj h0; refine endW_i ?_; refine end_ret0 rs23 (rfl) ?_; exact qF
theorem slices_Insert_api_PathWanted_api_PathWanted_0_io (a0 : Int) (a1 : List PathWanted) (a2 : List PathWanted) {r : (List PathWanted)} (h0 : slices_Insert_api_PathWanted_api_PathWanted_0 a0 a1 a2 = some r) : SndIO K 24 2 (fun q => [(.ref (q 0) 0 a1.length 8), (vi a0), (.ref (q 1) 0 a2.length 8)]) [(fun q => (List.flatMap e_PathWanted a1)), (fun q => (List.flatMap e_PathWanted a2))] (fun q => (.ref (q 2) 0 r.length 8)) [none, (some (fun q => (List.flatMap e_PathWanted a2))), (some (fun q => (List.flatMap e_PathWanted r)))] := by
 refine SndIO.of_walkW hC (RenML.cons (RenM.ref 0 0 _ _) (RenML.cons rv (RenML.cons (RenM.ref 1 0 _ _) RenML.nil))) (tpl_cons (RenML.const (c_PathWanted _)) (tpl_cons (RenML.const (c_PathWanted _)) tpl_nil)) (otpl_none (otpl_some (RenML.const (c_PathWanted _)) (otpl_some (RenML.const (c_PathWanted _)) otpl_nil))) (RenM.ref 2 0 _ _) rfl (qB2 rfl) (show K.P.funcs[24]? = some Tryd.f24 from Tryd.func24) rfl rfl (by decide +kernel) (qB2 rfl) ?_; unfold slices_Insert_api_PathWanted_api_PathWanted_0 at h0; refine awp_nw [0,1,2] fun tz U u => ?_; (try simp only [go_sem]); refine qU u ?_; clear u U; refine awp_nw [0,1,2] fun tz U u => ?_; obtain ⟨x24, bx24, h0⟩ := bnd h0; have bx24 := chk_some bx24; simp only [Bool.and_eq_true, decide_eq_true_eq] at bx24; obtain ⟨gx24_0, gx24_1⟩ := bx24; (have g1 : (((a1.length : Nat) : Int) - a0).toNat = a1.length - (a0).toNat := by omega); (try simp only [go_sem, gx24_0, gx24_1, g1]); refine qU u ?_; clear u U; refine awp_nw [0,1,2] fun tz U u => ?_; (try simp only [go_sem]); refine qU u ?_; clear u U; refine awp_assoc ?_; refine awp_nw [0,1,2,7] fun tz U u => ?_; (try simp only [go_sem]); refine qU u ?_; clear u U; refine awp_cond (b := (((a2.length : Nat) : Int) == 0)) rfl (fun h2 => ?_) (fun h2 => ?_)
 ·
  have h0 := cT h0 h2; refine awp_assoc ?_; refine awp_nw [0] fun tz U u => ?_; (try simp only [go_sem]); refine qU u ?_; clear u U; refine awp_ret ?_; obtain rfl := someInj h0; refine endW_i ?_; refine end_ret0 rs24 (rfl) ?_; refine ResIO.mk [] [some 0, some 1, some 0] rfl (resED (resEU qM rfl (TmL.of_eq qL (c_PathWanted _)) (resEU qM rfl (TmL.of_eq qL (c_PathWanted _)) resE0))) tr; (all_goals exact qN)
 ·
  have h0 := cF h0 h2; refine awp_skip ?_; refine awp_nw [0,1,2,7] fun tz U u => ?_; (try simp only [go_sem]); refine qU u ?_; clear u U; refine awp_assoc ?_; refine awp_nw [0,1,2,7,8] fun tz U u => ?_; (try simp only [go_sem]); refine qU u ?_; clear u U; refine awp_cond (b := (a0 == ((a1.length : Nat) : Int))) rfl (fun h3 => ?_) (fun h3 => ?_)
  ·
   have h0 := cT h0 h3; refine awp_assoc ?_; refine awp_nw [0,2] fun tz U u => ?_; obtain ⟨x25, bx25, h0⟩ := bnd h0; have bx25 := chk_some bx25; simp only [Bool.and_eq_true, decide_eq_true_eq] at bx25; have gx25_0 := bx25; (try simp only [go_sem, gx25_0]); refine qU u ?_; clear u U; refine awp_ret ?_; obtain rfl := someInj h0; refine endW_i ?_; refine end_ret0 rs24 (rfl) ?_; refine ResIO.mk [] [some 0, some 1, some 19] rfl (resED (resEU qM rfl (TmL.of_eq qL (c_PathWanted _)) (resEU qM rfl (TmL.of_eq qL (c_PathWanted _)) resE0))) tr; (all_goals exact qN)
  ·
   have h0 := cF h0 h3; refine awp_skip ?_; refine awp_assoc ?_; refine awp_nw [0,1,2,7,8] fun tz U u => ?_; cases h0

theorem slices_Insert_api_PathWanted_api_PathWanted_io (a0 : Int) (a1 : List PathWanted) (a2 : List PathWanted) {r : (List PathWanted)} (h0 : slices_Insert_api_PathWanted_api_PathWanted a0 a1 a2 = some r) : SndIO K 24 2 (fun q => [(.ref (q 0) 0 a1.length 8), (vi a0), (.ref (q 1) 0 a2.length 8)]) [(fun q => (List.flatMap e_PathWanted a1)), (fun q => (List.flatMap e_PathWanted a2))] (fun q => (.ref (q 2) 0 ((r).length) 8)) [none, (some (fun q => (List.flatMap e_PathWanted a2))), (some (fun q => (List.flatMap e_PathWanted r)))] := by
 unfold slices_Insert_api_PathWanted_api_PathWanted at h0; obtain ⟨x13, bx13, h0⟩ := bnd h0; have bx13' := bx13; have bx13 := chk_some bx13; simp only [Bool.and_eq_true, decide_eq_true_eq] at bx13; obtain ⟨gx13_0, gx13_1⟩ := bx13; have bx13' := bx13'; obtain ⟨i, rfl⟩ : ∃ i : Nat, a0 = (i : Int) := ⟨a0.toNat, by omega⟩; rcases bE (((a2.length : Nat) : Int) == 0) with h2 | h2
 ·
  exact slices_Insert_api_PathWanted_api_PathWanted_0_io _ _ _ (by unfold slices_Insert_api_PathWanted_api_PathWanted_0; simp only [bx13', Option.bind_some, h2, cond_true]; exact cT h0 h2)
 have h0 := cF h0 h2; rcases bE (((i : Nat) : Int) == ((a1.length : Nat) : Int)) with h3 | h3
 ·
  exact slices_Insert_api_PathWanted_api_PathWanted_0_io _ _ _ (by unfold slices_Insert_api_PathWanted_api_PathWanted_0; simp only [bx13', Option.bind_some, h2, cond_false, h3, cond_true]; exact cT h0 h3)
 have h0 := cF h0 h3; obtain ⟨x15, bx15, h0⟩ := bnd h0; have bx15 := chk_some bx15; simp only [Bool.and_eq_true, decide_eq_true_eq] at bx15; obtain ⟨hm, hb⟩ := bx15; obtain rfl := someInj h0; (have hne : (i : Int) ≠ (a1.length : Int) := by simpa using h3); (have hlt : i < a1.length := by omega); simp only [Int.toNat_natCast]; refine SndIO.of_walkC hC (RenML.cons (RenM.ref 0 0 _ _) (RenML.cons rv (RenML.cons (RenM.ref 1 0 _ _) RenML.nil))) (tpl_cons (RenML.const (c_PathWanted _)) (tpl_cons (RenML.const (c_PathWanted _)) tpl_nil)) (otpl_none (otpl_some (RenML.const (c_PathWanted _)) (otpl_some (RenML.const (c_PathWanted _)) otpl_nil))) (RenM.ref 2 0 _ _) rfl (qB2 rfl) (show K.P.funcs[24]? = some Tryd.f24 from Tryd.func24) rfl rfl (by decide +kernel) (qB2 rfl) rfl (by omega) fun cap hcap => ?_; have g0 : (0 ≤ (i : Int)) = True := eq_true (by omega); have g1 : ((i : Int) ≤ (a1.length : Int)) = True := eq_true (by omega); have g2 : ((a1.length : Int) ≤ (cap : Int)) = True := eq_true (by omega); have g3 : ((i : Int) < (cap : Int)) = True := eq_true (by omega); (have hw1 : IntKind.wrap .i64 ((a1.length : Int) + 1) = (a1.length : Int) + 1 := by rw [IntKind.wrap_i64]; omega); (have hw2 : IntKind.wrap .i64 ((a1.length : Int) + 1 - (i : Int)) = (a1.length : Int) + 1 - (i : Int) := by rw [IntKind.wrap_i64]; omega); have hLr : ∀ l : List PathWanted, (List.flatMap e_PathWanted l).length = l.length * 8 := fun l => r_PathWanted_len l; (repeat refine awp_assoc ?_); refine awp_nw [0,1,2] fun tz U u => ?_; (try simp only [go_sem, Nat.reduceEqDiff, reduceIte, Nat.reduceMul, Nat.reduceSub, Nat.reduceLT, Nat.reduceLeDiff, Int.reduceToNat, Int.reduceBEq, Int.reduceBNe, Int.reduceLT, Int.reduceLE, Int.reduceAdd, Int.reduceSub, Int.reduceMul, Int.reduceNeg, Int.reduceEq, Int.reduceNe, g0, g1, g2, g3, hm, hLr, Int.sub_zero, Int.toNat_natCast, Nat.sub_zero]); refine qU u ?_; clear u U; (repeat refine awp_assoc ?_); refine awp_nw [0,1,2] fun tz U u => ?_; (try simp only [go_sem, Nat.reduceEqDiff, reduceIte, Nat.reduceMul, Nat.reduceSub, Nat.reduceLT, Nat.reduceLeDiff, Int.reduceToNat, Int.reduceBEq, Int.reduceBNe, Int.reduceLT, Int.reduceLE, Int.reduceAdd, Int.reduceSub, Int.reduceMul, Int.reduceNeg, Int.reduceEq, Int.reduceNe, g0, g1, g2, g3, hm, hLr, Int.sub_zero, Int.toNat_natCast, Nat.sub_zero]); refine qU u ?_; clear u U; (repeat refine awp_assoc ?_); refine awp_nw [0,1,2] fun tz U u => ?_; (try simp only [go_sem, Nat.reduceEqDiff, reduceIte, Nat.reduceMul, Nat.reduceSub, Nat.reduceLT, Nat.reduceLeDiff, Int.reduceToNat, Int.reduceBEq, Int.reduceBNe, Int.reduceLT, Int.reduceLE, Int.reduceAdd, Int.reduceSub, Int.reduceMul, Int.reduceNeg, Int.reduceEq, Int.reduceNe, g0, g1, g2, g3, hm, hLr, Int.sub_zero, Int.toNat_natCast, Nat.sub_zero]); refine qU u ?_; clear u U; refine awp_assoc ?_; (repeat refine awp_assoc ?_); refine awp_nw [0,1,2,7] fun tz U u => ?_; (try simp only [go_sem, Nat.reduceEqDiff, reduceIte, Nat.reduceMul, Nat.reduceSub, Nat.reduceLT, Nat.reduceLeDiff, Int.reduceToNat, Int.reduceBEq, Int.reduceBNe, Int.reduceLT, Int.reduceLE, Int.reduceAdd, Int.reduceSub, Int.reduceMul, Int.reduceNeg, Int.reduceEq, Int.reduceNe, g0, g1, g2, g3, hm, hLr, Int.sub_zero, Int.toNat_natCast, Nat.sub_zero]); refine qU u ?_; clear u U; refine awp_cond (b := false) rfl (fun h => by cases h) (fun _ => ?_); refine awp_skip ?_; (repeat refine awp_assoc ?_); refine awp_nw [0,1,2,7] fun tz U u => ?_; (try simp only [go_sem, Nat.reduceEqDiff, reduceIte, Nat.reduceMul, Nat.reduceSub, Nat.reduceLT, Nat.reduceLeDiff, Int.reduceToNat, Int.reduceBEq, Int.reduceBNe, Int.reduceLT, Int.reduceLE, Int.reduceAdd, Int.reduceSub, Int.reduceMul, Int.reduceNeg, Int.reduceEq, Int.reduceNe, g0, g1, g2, g3, hm, hLr, Int.sub_zero, Int.toNat_natCast, Nat.sub_zero]); refine qU u ?_; clear u U; refine awp_assoc ?_; (repeat refine awp_assoc ?_); refine awp_nw [0,1,2,7,8] fun tz U u => ?_; (try simp only [go_sem, Nat.reduceEqDiff, reduceIte, Nat.reduceMul, Nat.reduceSub, Nat.reduceLT, Nat.reduceLeDiff, Int.reduceToNat, Int.reduceBEq, Int.reduceBNe, Int.reduceLT, Int.reduceLE, Int.reduceAdd, Int.reduceSub, Int.reduceMul, Int.reduceNeg, Int.reduceEq, Int.reduceNe, g0, g1, g2, g3, hm, hLr, Int.sub_zero, Int.toNat_natCast, Nat.sub_zero]); refine qU u ?_; clear u U; refine awp_cond (b := (((i : Nat) : Int) == ((a1.length : Nat) : Int))) rfl (fun h => absurd h (by simp only [beq_iff_eq]; omega)) (fun _ => ?_); refine awp_skip ?_; refine awp_assoc ?_; (repeat refine awp_assoc ?_); refine awp_nw [0,1,2,7,8] fun tz U u => ?_; (try simp only [go_sem, Nat.reduceEqDiff, reduceIte, Nat.reduceMul, Nat.reduceSub, Nat.reduceLT, Nat.reduceLeDiff, Int.reduceToNat, Int.reduceBEq, Int.reduceBNe, Int.reduceLT, Int.reduceLE, Int.reduceAdd, Int.reduceSub, Int.reduceMul, Int.reduceNeg, Int.reduceEq, Int.reduceNe, g0, g1, g2, g3, hm, hLr, Int.sub_zero, Int.toNat_natCast, Nat.sub_zero, hw1]); refine qU u ?_; clear u U; refine awp_cond (b := decide ((cap : Int) < (a1.length : Int) + 1)) rfl (fun h3 => ?_) (fun h3 => ?_)
 ·
  have h3 := of_decide_eq_true h3; refine awp_assoc ?_; (have elI : elS K.P 3 = none := by kernel_rfl); (have e1 : ((i : Int) + ((a1.length : Int) + 1 - (i : Int))) = (a1.length : Int) + 1 := by omega); (have e2 : ((a1.length : Int) + 1 - (i : Int)).toNat = a1.length + 1 - i := by omega); (have e3 : (i + (a1.length + 1 - i)) = a1.length + 1 := by omega); have e4 : (0 < (a1.length : Int) + 1 - (i : Int)) = True := eq_true (by omega); have e5 : ((a1.length : Int) + 1 - (i : Int) < 9223372036854775808) = True := eq_true (by omega); have e6 : ((cap : Int) < (a1.length : Int) + 1) = True := eq_true h3; have e7 : (((a1.length : Int) + 1) * 24 ≤ 140737488355328) = True := eq_true (by omega); have e8 : (i * 8 ≤ a1.length * 8) = True := eq_true (by omega); have e9 : ((i : Int) ≤ (cap : Int)) = True := eq_true (by omega); have e10 : ((0 : Int) < (cap : Int)) = True := eq_true (by omega); obtain ⟨c0, hc0⟩ : ∃ c, c = (List.flatMap e_PathWanted (List.take i a1)) ++ rep (a1.length + 1 - i) (e_PathWanted PathWanted.z) := ⟨_, rfl⟩; (have hl0 : c0.length = (a1.length + 1) * 8 := by rw [hc0, List.length_append, hLr, List.length_take, rep_length]; rw [e_PathWanted_len]; omega); (repeat refine awp_assoc ?_); refine awp_nw [0,1,2,7,8] fun tz U u => ?_; (try simp only [go_sem, Nat.reduceEqDiff, reduceIte, Nat.reduceMul, Nat.reduceSub, Nat.reduceLT, Nat.reduceLeDiff, Int.reduceToNat, Int.reduceBEq, Int.reduceBNe, Int.reduceLT, Int.reduceLE, Int.reduceAdd, Int.reduceSub, Int.reduceMul, Int.reduceNeg, Int.reduceEq, Int.reduceNe, g0, g1, g2, g3, hm, hLr, Int.sub_zero, Int.toNat_natCast, Nat.sub_zero, hw1, hw2, e1, e2, e3, e4, e5, e6, e7, e8, e9, e10, elI, ← hc0]); refine qU u ?_; clear u U; have f1 : ((i : Int) ≤ ((a1.length + 1 : Nat) : Int)) = True := eq_true (by omega); (have f2 : (((a1.length + 1 : Nat) : Int) - (i : Int)).toNat = a1.length + 1 - i := by omega); (have s2 : sub? (List.flatMap e_PathWanted a2) 0 8 = some (List.flatMap e_PathWanted a2) := by unfold sub?; rw [if_pos (by rw [hLr, hm]; omega), List.drop_zero, List.take_of_length_le (by rw [hLr, hm]; omega)]); have t2 : List.take 8 (List.flatMap e_PathWanted a2) = (List.flatMap e_PathWanted a2) := List.take_of_length_le (by rw [hLr, hm]; omega); (have m1 : min 1 (a1.length + 1 - i) = 1 := by omega); have q1 : (i * 8 + 8 ≤ c0.length) = True := eq_true (by rw [hl0]; omega); obtain ⟨c1, hc1⟩ : ∃ c, c = putAt c0 (i * 8) (List.flatMap e_PathWanted a2) := ⟨_, rfl⟩; (have hl1 : c1.length = (a1.length + 1) * 8 := by rw [hc1, putAt_length, hl0]); (repeat refine awp_assoc ?_); refine awp_nw [0,1,2,7,8,9] fun tz U u => ?_; (try simp only [go_sem, Nat.reduceEqDiff, reduceIte, Nat.reduceMul, Nat.reduceSub, Nat.reduceLT, Nat.reduceLeDiff, Int.reduceToNat, Int.reduceBEq, Int.reduceBNe, Int.reduceLT, Int.reduceLE, Int.reduceAdd, Int.reduceSub, Int.reduceMul, Int.reduceNeg, Int.reduceEq, Int.reduceNe, g0, g1, g2, g3, hm, hLr, Int.sub_zero, Int.toNat_natCast, Nat.sub_zero, f1, f2, s2, t2, m1, q1, ← hc1]); refine qU u ?_; clear u U; have f3 : ((i : Int) + 1 ≤ ((a1.length + 1 : Nat) : Int)) = True := eq_true (by omega); (have f4 : (((a1.length + 1 : Nat) : Int) - ((i : Int) + 1)).toNat = a1.length - i := by omega); (have f5 : ((i : Int) + 1).toNat = i + 1 := by omega); (have f6 : ((a1.length : Int) - (i : Int)).toNat = a1.length - i := by omega); have f7 : (0 ≤ (i : Int) + 1) = True := eq_true (by omega); (have hw3 : IntKind.wrap .i64 ((i : Int) + 1) = (i : Int) + 1 := by rw [IntKind.wrap_i64]; omega); have s3 : sub? (List.flatMap e_PathWanted a1) (i * 8) ((a1.length - i) * 8) = some (List.flatMap e_PathWanted (List.drop i a1)) := rows_subD l_PathWanted a1 i (by omega); have t3 : List.take ((a1.length - i) * 8) (List.flatMap e_PathWanted (List.drop i a1)) = (List.flatMap e_PathWanted (List.drop i a1)) := List.take_of_length_le (by rw [hLr, List.length_drop]; exact Nat.le_refl _); have q2 : ((i + 1) * 8 + (a1.length - i) * 8 ≤ c1.length) = True := eq_true (by rw [hl1]; omega); have m2 : min (a1.length - i) (a1.length - i) = a1.length - i := Nat.min_self _
  have hfin : putAt c1 ((i + 1) * 8) (List.flatMap e_PathWanted (List.drop i a1)) = (List.flatMap e_PathWanted (List.take i a1 ++ a2 ++ List.drop i a1)) := by
   have := ins_grow (fun l => (List.flatMap e_PathWanted l)) 8 (fun l => r_PathWanted_len l) (fun x y => List.flatMap_append) a1 a2 i hm hlt (e_PathWanted PathWanted.z) (by rw [e_PathWanted_len]); rw [hc1, hc0]; simpa using this
  (repeat refine awp_assoc ?_); refine awp_nr [0,1,2,7,8,9] (fun _ => rfl) fun tz => ?_; refine awp_regDW fun U u all hall => ?_; refine xd_id ?_; (try simp only [go_sem, Nat.reduceEqDiff, reduceIte, Nat.reduceMul, Nat.reduceSub, Nat.reduceLT, Nat.reduceLeDiff, Int.reduceToNat, Int.reduceBEq, Int.reduceBNe, Int.reduceLT, Int.reduceLE, Int.reduceAdd, Int.reduceSub, Int.reduceMul, Int.reduceNeg, Int.reduceEq, Int.reduceNe, g0, g1, g2, g3, hm, hLr, Int.sub_zero, Int.toNat_natCast, Nat.sub_zero, f3, f4, f5, f6, f7, hw3, s3, t3, q2, m2, hfin]); refine And.intro ?_ (u _ _ (Wk.refl _ _ _) ?_)
  ·
   subst hall; clear u U; (first | (simp [printsOk, apartP, clash, meet]; done) | (simp [printsOk, apartP, clash, meet]; decide +kernel) | decide +kernel)
  ·
   clear u U hall all; (repeat refine awp_assoc ?_); refine awp_nw [0,1,2,7,8,9] fun tz U u => ?_; (try simp only [go_sem, Nat.reduceEqDiff, reduceIte, Nat.reduceMul, Nat.reduceSub, Nat.reduceLT, Nat.reduceLeDiff, Int.reduceToNat, Int.reduceBEq, Int.reduceBNe, Int.reduceLT, Int.reduceLE, Int.reduceAdd, Int.reduceSub, Int.reduceMul, Int.reduceNeg, Int.reduceEq, Int.reduceNe, g0, g1, g2, g3, hm, hLr, Int.sub_zero, Int.toNat_natCast, Nat.sub_zero]); refine qU u ?_; clear u U; (repeat refine awp_assoc ?_); refine awp_ret ?_; refine endW_i ?_; refine end_ret0 rs24 (rfl) ?_; refine ResIO.mk [] [some 0, some 1, some 31] rfl (resED (resEU qM (by simp only [upd_get, Nat.reduceEqDiff, reduceIte, Nat.reduceMul, Nat.reduceSub, Nat.reduceLT, Nat.reduceLeDiff, Int.reduceToNat, Int.reduceBEq, Int.reduceBNe, Int.reduceLT, Int.reduceLE, Int.reduceAdd, Int.reduceSub, Int.reduceMul, Int.reduceNeg, Int.reduceEq, Int.reduceNe, Nat.reduceAdd, if_true, if_false] <;> rfl) (TmL.of_eq rfl (c_PathWanted _)) (resEU qM (by simp only [upd_get, Nat.reduceEqDiff, reduceIte, Nat.reduceMul, Nat.reduceSub, Nat.reduceLT, Nat.reduceLeDiff, Int.reduceToNat, Int.reduceBEq, Int.reduceBNe, Int.reduceLT, Int.reduceLE, Int.reduceAdd, Int.reduceSub, Int.reduceMul, Int.reduceNeg, Int.reduceEq, Int.reduceNe, Nat.reduceAdd, if_true, if_false] <;> rfl) (TmL.of_eq rfl (c_PathWanted _)) resE0))) tr; (all_goals (first | rfl | (simp only [List.length_append, List.length_take, List.length_drop, hm]; omega)))
 ·
  have h3 := of_decide_eq_false h3; refine awp_skip ?_; have k0 : (0 ≤ (a1.length : Int) + 1) = True := eq_true (by omega); have k1 : ((a1.length : Int) + 1 ≤ (cap : Int)) = True := eq_true (by omega); have k2 : ((0 : Int) < (cap : Int)) = True := eq_true (by omega); (have k3 : ((a1.length : Int) + 1).toNat = a1.length + 1 := by omega); (repeat refine awp_assoc ?_); refine awp_nw [0,1,2,7,8] fun tz U u => ?_; (try simp only [go_sem, Nat.reduceEqDiff, reduceIte, Nat.reduceMul, Nat.reduceSub, Nat.reduceLT, Nat.reduceLeDiff, Int.reduceToNat, Int.reduceBEq, Int.reduceBNe, Int.reduceLT, Int.reduceLE, Int.reduceAdd, Int.reduceSub, Int.reduceMul, Int.reduceNeg, Int.reduceEq, Int.reduceNe, g0, g1, g2, g3, hm, hLr, Int.sub_zero, Int.toNat_natCast, Nat.sub_zero, hw1, k0, k1, k2, k3]); refine qU u ?_; clear u U; have f3 : ((i : Int) + 1 ≤ ((a1.length + 1 : Nat) : Int)) = True := eq_true (by omega); (have f4 : (((a1.length + 1 : Nat) : Int) - ((i : Int) + 1)).toNat = a1.length - i := by omega); (have f5 : ((i : Int) + 1).toNat = i + 1 := by omega); (have f6 : (((a1.length + 1 : Nat) : Int) - (i : Int)).toNat = a1.length + 1 - i := by omega); have f7 : (0 ≤ (i : Int) + 1) = True := eq_true (by omega); have f8 : ((i : Int) + 1 < (cap : Int)) = True := eq_true (by omega); have f9 : (((a1.length + 1 : Nat) : Int) ≤ (cap : Int)) = True := eq_true (by omega); have f1 : ((i : Int) ≤ ((a1.length + 1 : Nat) : Int)) = True := eq_true (by omega); (have hw3 : IntKind.wrap .i64 ((i : Int) + 1) = (i : Int) + 1 := by rw [IntKind.wrap_i64]; omega); (repeat refine awp_assoc ?_); refine awp_nw [0,1,2,7,8] fun tz U u => ?_; (try simp only [go_sem, Nat.reduceEqDiff, reduceIte, Nat.reduceMul, Nat.reduceSub, Nat.reduceLT, Nat.reduceLeDiff, Int.reduceToNat, Int.reduceBEq, Int.reduceBNe, Int.reduceLT, Int.reduceLE, Int.reduceAdd, Int.reduceSub, Int.reduceMul, Int.reduceNeg, Int.reduceEq, Int.reduceNe, g0, g1, g2, g3, hm, hLr, Int.sub_zero, Int.toNat_natCast, Nat.sub_zero, f3, f4, f5, f6, f7, f8, f9, hw3]); refine xcall_g (overlaps_apart (tS := 25) (tR := 4) (show K.P.funcs[49]? = some Tryd.f49 from Tryd.func49) rfl rfl rfl (by kernel_rfl) (elS_eq el25) sz60 (by omega) (by simp only [upd_get, Nat.reduceEqDiff, reduceIte]; rfl) (by simp only [upd_get, Nat.reduceEqDiff, reduceIte]; rfl) (by decide) (by omega) (by omega)) ?_; rintro r hs ⟨rfl, rfl⟩; refine xw_id ?_; (try simp only [go_sem, Nat.reduceEqDiff, reduceIte, Nat.reduceMul, Nat.reduceSub, Nat.reduceLT, Nat.reduceLeDiff, Int.reduceToNat, Int.reduceBEq, Int.reduceBNe, Int.reduceLT, Int.reduceLE, Int.reduceAdd, Int.reduceSub, Int.reduceMul, Int.reduceNeg, Int.reduceEq, Int.reduceNe, g0, g1, g2, g3, hm, hLr, Int.sub_zero, Int.toNat_natCast, Nat.sub_zero]); refine qU u ?_; clear u U; (repeat refine awp_assoc ?_); refine awp_cond (b := true) rfl (fun _ => ?_) (fun h => by cases h); obtain ⟨c1, hc1⟩ : ∃ c, c = (List.flatMap e_PathWanted (List.take (i + 1) a1 ++ List.drop i a1)) ++ List.drop ((i + 1) * 8 + (a1.length - i) * 8) (List.flatMap e_PathWanted a1) := ⟨_, rfl⟩; obtain ⟨hl1, hfin⟩ := ins_room (fun l => (List.flatMap e_PathWanted l)) 8 (fun l => r_PathWanted_len l) (fun x y => List.flatMap_append) (fun x n => rows_take l_PathWanted x n) a1 a2 i hlt (c1 := c1) (by rw [hc1, List.flatMap_append, rows_take l_PathWanted]); (try simp only [Nat.mul_one] at hfin hl1); have s3 : sub? (List.flatMap e_PathWanted a1) (i * 8) ((a1.length - i) * 8) = some (List.flatMap e_PathWanted (List.drop i a1)) := rows_subD l_PathWanted a1 i (by omega); (have m2 : min (a1.length + 1 - i) (a1.length - i) = a1.length - i := by omega); have q2 : ((i + 1) * 8 ≤ a1.length * 8) = True := eq_true (by omega); (have s9 : sub? (List.flatMap e_PathWanted a1) (i * 8) ((a1.length + 1 - i) * 8) = none := by unfold sub?; rw [if_neg]; rw [hLr]; omega); (repeat refine awp_assoc ?_); refine awp_nr [0,1,2,7,8] (fun _ => rfl) fun tz => ?_; refine awp_regDW fun U u all hall => ?_; refine xd_id ?_; (try simp only [go_sem, Nat.reduceEqDiff, reduceIte, Nat.reduceMul, Nat.reduceSub, Nat.reduceLT, Nat.reduceLeDiff, Int.reduceToNat, Int.reduceBEq, Int.reduceBNe, Int.reduceLT, Int.reduceLE, Int.reduceAdd, Int.reduceSub, Int.reduceMul, Int.reduceNeg, Int.reduceEq, Int.reduceNe, g0, g1, g2, g3, hm, hLr, Int.sub_zero, Int.toNat_natCast, Nat.sub_zero, f1, f3, f4, f5, f6, f7, f8, f9, hw3, s3, s9, m2, q2, ← hc1]); refine And.intro ?_ (u _ _ (Wk.refl _ _ _) ?_)
  ·
   subst hall; clear u U; (first | (simp [printsOk, apartP, clash, meet]; done) | (simp [printsOk, apartP, clash, meet]; decide +kernel) | decide +kernel)
  ·
   clear u U hall all; (have s2 : sub? (List.flatMap e_PathWanted a2) 0 8 = some (List.flatMap e_PathWanted a2) := by unfold sub?; rw [if_pos (by rw [hLr, hm]; omega), List.drop_zero, List.take_of_length_le (by rw [hLr, hm]; omega)]); have t2 : List.take 8 (List.flatMap e_PathWanted a2) = (List.flatMap e_PathWanted a2) := List.take_of_length_le (by rw [hLr, hm]; omega); (have m1 : min 1 (a1.length + 1 - i) = 1 := by omega); have q1 : (i * 8 ≤ c1.length) = True := eq_true (by rw [hl1]; omega); (repeat refine awp_assoc ?_); refine awp_nw [0,1,2,7,8] fun tz U u => ?_; (try simp only [go_sem, Nat.reduceEqDiff, reduceIte, Nat.reduceMul, Nat.reduceSub, Nat.reduceLT, Nat.reduceLeDiff, Int.reduceToNat, Int.reduceBEq, Int.reduceBNe, Int.reduceLT, Int.reduceLE, Int.reduceAdd, Int.reduceSub, Int.reduceMul, Int.reduceNeg, Int.reduceEq, Int.reduceNe, g0, g1, g2, g3, hm, hLr, Int.sub_zero, Int.toNat_natCast, Nat.sub_zero, f1, f6, f7, f9, s2, t2, m1, q1, hfin]); refine qU u ?_; clear u U; (repeat refine awp_assoc ?_); refine awp_nw [0,1,2,7,8] fun tz U u => ?_; (try simp only [go_sem, Nat.reduceEqDiff, reduceIte, Nat.reduceMul, Nat.reduceSub, Nat.reduceLT, Nat.reduceLeDiff, Int.reduceToNat, Int.reduceBEq, Int.reduceBNe, Int.reduceLT, Int.reduceLE, Int.reduceAdd, Int.reduceSub, Int.reduceMul, Int.reduceNeg, Int.reduceEq, Int.reduceNe, g0, g1, g2, g3, hm, hLr, Int.sub_zero, Int.toNat_natCast, Nat.sub_zero]); refine u _ _ (Wk.cap 6 (by simp only [upd_get, Nat.reduceEqDiff, reduceIte]; rfl)) ?_; clear u U; (repeat refine awp_assoc ?_); refine awp_ret ?_; refine endW_i ?_; refine end_ret0 rs24 (rfl) ?_; refine ResIO.mk [] [some 0, some 1, some 0] rfl (resED (resEU qM (by simp only [upd_get, Nat.reduceEqDiff, reduceIte, Nat.reduceMul, Nat.reduceSub, Nat.reduceLT, Nat.reduceLeDiff, Int.reduceToNat, Int.reduceBEq, Int.reduceBNe, Int.reduceLT, Int.reduceLE, Int.reduceAdd, Int.reduceSub, Int.reduceMul, Int.reduceNeg, Int.reduceEq, Int.reduceNe, Nat.reduceAdd, if_true, if_false] <;> rfl) (TmL.of_eq rfl (c_PathWanted _)) (resEU qM (by simp only [upd_get, Nat.reduceEqDiff, reduceIte, Nat.reduceMul, Nat.reduceSub, Nat.reduceLT, Nat.reduceLeDiff, Int.reduceToNat, Int.reduceBEq, Int.reduceBNe, Int.reduceLT, Int.reduceLE, Int.reduceAdd, Int.reduceSub, Int.reduceMul, Int.reduceNeg, Int.reduceEq, Int.reduceNe, Nat.reduceAdd, if_true, if_false] <;> rfl) (TmL.of_eq rfl (c_PathWanted _)) resE0))) tr; (all_goals (first | rfl | (simp only [List.length_append, List.length_take, List.length_drop, hm]; omega)))
theorem path_node_known_p (a0 : Path_node) (a1 : A6vu) {r : Int} (h0 : path_node_known a0 a1 = some r) : SndP K 52 [(.iptr (E_Path_node a0) 0), (.agg (e_A6vu a1))] (vi r) := by
 refine SndP.of_walkW hC cv (clean_cons (Clean.iptr (E_Path_node_clean _)) (clean_cons (Clean.agg (e_A6vu_clean _)) clean_nil)) (show K.P.funcs[52]? = some Tryd.f52 from Tryd.func52) rfl rfl (by decide +kernel) (qB2 rfl) ?_; unfold path_node_known at h0; refine awp_nw [0,1] fun tz U u => ?_; (try simp only [go_sem]); refine qU u ?_; clear u U; refine awp_assoc ?_; refine awp_nw [0,3] fun tz U u => ?_; obtain ⟨x27, bx27, h0⟩ := bnd h0; (try simp only [go_sem]); (refine xcall_p (path_node_route_p a0 a1 bx27) ?_; try dsimp only); (try refine xw_id ?_); (try simp only [go_sem]); refine qU u ?_; clear u U; refine awp_assoc ?_; refine awp_nw [0,5,6] fun tz U u => ?_; (try simp only [go_sem]); refine qU u ?_; clear u U; refine awp_cond (b := x27.2) rfl (fun h1 => ?_) (fun h1 => ?_)
 ·
  have h0 := cT h0 h1; refine awp_assoc ?_; refine awp_nw [0,5] fun tz U u => ?_; obtain ⟨x28, bx28, h0⟩ := bnd h0; obtain ⟨fx28_0, fx28_1, fx28_2, fx28_3⟩ := idx_some bx28; (try simp only [go_sem, fx28_0, fx28_1, fx28_2]); refine qU u ?_; clear u U; refine awp_ret ?_; obtain rfl := someInj h0; refine endW_i ?_; refine end_ret0 rs52 (rfl) ?_; exact qF
 ·
  have h0 := cF h0 h1; refine awp_skip ?_; refine awp_nw [] fun tz U u => ?_; (try simp only [go_sem]); refine qU u ?_; clear u U; refine awp_ret1 ?_; obtain rfl := someInj h0; refine endW_i ?_; refine end_ret0 rs52 (rfl) ?_; exact qF
def path_put_S0 (d30 : (List Int)) : AS :=
 { objs := (upd (fun _ => .dead) 1 (.live (List.map vu d30))), next := 2, tmps := (upd (fun _ => .unk) 0 (.ref 1 0 d30.length 1)) }

def path_put_S1 (a0 : Int) (a1 : Int) (d31 : (List Int × Int)) : AS :=
 { objs := (upd (fun _ => .dead) 1 (.live (List.map vu d31.1))), next := 2, tmps := (upd (upd (upd (upd (fun _ => .unk) 0 (.ref 1 0 d31.1.length 1)) 1 (vi a0)) 8 (vi a1)) 9 (vi d31.2)) }

theorem path_put_io (a0 : Int) (a1 : Int) (a2 : List Int) {r : (List Int)} (h0 : path_put a0 a1 a2 = some r) : SndIO K 56 1 (fun q => [(.ref (q 0) 0 a2.length 1), (vi a0), (vi a1)]) [(fun q => (List.map vu a2))] (fun q => (.ref (q 1) 0 r.length 1)) [none, (some (fun q => (List.map vu r)))] := by
 refine SndIO.of_walkW hC (RenML.cons (RenM.ref 0 0 _ _) (RenML.cons rv (RenML.cons rv RenML.nil))) (tpl_cons (RenML.const (vu_clean _)) tpl_nil) (otpl_none (otpl_some (RenML.const (vu_clean _)) otpl_nil)) (RenM.ref 1 0 _ _) rfl (qB2 rfl) (show K.P.funcs[56]? = some Tryd.f56 from Tryd.func56) rfl rfl (by decide +kernel) (qB2 rfl) ?_; unfold path_put at h0; refine awp_nw [0,1,2] fun tz U u => ?_; (try simp only [go_sem]); refine qU u ?_; clear u U; refine awp_assoc ?_; refine awp_nw [0,1,2] fun tz U u => ?_; (try simp only [go_sem]); refine qU u ?_; clear u U; obtain ⟨d30, hi1, h0⟩ := bnd h0; refine awp_cut (fun z => d30 = z) (fun d30 : (List Int) => path_put_S0 d30) ?_ ?_
 ·
  refine awp_block1 ?_; refine awp_loopS (fun n (d31 : (List Int × Int)) => path_put_L2 a1 a0 n d31 = some d30) (fun d31 : (List Int × Int) => path_put_S1 a0 a1 d31) big (a2, 0) (by refine Wk.canonD [] [0] [some 0, some 0] rfl ⟨rfl, trivial⟩ rfl (tmOU 1 tmO0 rfl qM rfl (TmL.of_eq qL (vu_clean _))) (tA 9 (tA 8 (tA 1 (tA 0 tmAll0 tr) tv) tv) tv); all_goals exact qN) hi1 ?_; clear hi1; rintro n d31 hl3; rcases n with _ | n2
  ·
   (rw [path_put_L2] at hl3; cases hl3)
  ·
   rw [path_put_L2] at hl3; unfold path_put_S1; refine awp_nw [0,1,8,9] fun tz U u => ?_; (try simp only [go_sem]); refine qU u ?_; clear u U; refine awp_cond (b := (decide (d31.2 < a1))) rfl (fun h4 => ?_) (fun h4 => ?_)
   ·
    have hl3 := cT hl3 h4; refine awp_skip ?_; refine awp_blockW ?_; refine awp_nw [0,1,8,9] fun tz U u => ?_; (try simp only [go_sem]); refine qU u ?_; clear u U; refine awp_nw1 [0,1,7,8,9] fun tz U u => ?_; obtain ⟨x32, bx32, hl3⟩ := bnd hl3; have bx32 := chk_some bx32; simp only [Bool.and_eq_true, decide_eq_true_eq] at bx32; have gx32_0 := bx32; obtain ⟨x33, bx33, hl3⟩ := bnd hl3; have bx33 := chk_some bx33; simp only [Bool.and_eq_true, decide_eq_true_eq] at bx33; have gx33_0 := bx33; (try simp only [go_sem, gx32_0, gx33_0]); refine u _ ?_; clear u U; refine bq_n ?_; refine seqW_i ?_; refine awp_nw1 [0,1,8,9] fun tz U u => ?_; (try simp only [go_sem]); refine u _ ?_; clear u U; refine lq_n ?_; exact ⟨n2, ((d31.1 ++ [IntKind.wrap .u8 ((a0).fdiv (2 ^ (min ((IntKind.wrap .i64 (8 * d31.2))).toNat 64)))]), IntKind.wrap .i64 (d31.2 + 1)), rfl, hl3, (by refine Wk.canonD [] [0] [some 0, some 12] rfl ⟨rfl, trivial⟩ rfl (tmOU 1 tmO0 rfl qM rfl (TmL.of_eq qL (vu_clean _))) (tA 9 (tA 8 (tA 1 (tA 0 tmAll0 tr) tv) tv) tv); all_goals exact qN)⟩
   ·
    have hl3 := cF hl3 h4; refine awp_exit ?_; refine lq_e ?_; refine bq_e ?_; refine sq_n ?_; obtain rfl := someInj hl3; exact ⟨_, rfl, (by refine Wk.canonD [] [0] [some 0, some 1] rfl ⟨rfl, trivial⟩ rfl (tmOU 1 tmO0 rfl qM rfl (TmL.of_eq qL (vu_clean _))) (tA 0 tmAll0 tr); all_goals exact qN)⟩
 ·
  rintro _ rfl; clear hi1; unfold path_put_S0; refine awp_nw [0] fun tz U u => ?_; (try simp only [go_sem]); refine qU u ?_; clear u U; refine awp_ret1 ?_; obtain rfl := someInj h0; refine endW_i ?_; refine end_ret0 rs56 (rfl) ?_; refine ResIO.mk [] [some 0, some 1] rfl (resED (resEU qM rfl (TmL.of_eq qL (vu_clean _)) resE0)) tr; (all_goals exact qN)
def path_asked_bytes_S0 (a0 : Path_asked) (x32 : (List Int)) : AS :=
 { objs := (upd (upd (fun _ => .dead) 0 (.live (e_Path_asked a0))) 1 (.live (List.map vu (x32 ++ [IntKind.wrap .u8 a0.hops])))), next := 2, tmps := (upd (upd (fun _ => .unk) 1 (.ptr 0 0)) 3 (.ref 1 0 ((x32 ++ [IntKind.wrap .u8 a0.hops]).length) 1)) }

theorem path_asked_bytes_r (a0 : Path_asked) {r : (List Int)} (h0 : path_asked_bytes a0 = some r) : SndR K 53 [(.agg (e_Path_asked a0))] (fun q => (.ref (q 0) 0 r.length 1)) [(List.map vu r)] := by
 refine SndR.of_walkW hC (show K.P.funcs[53]? = some Tryd.f53 from Tryd.func53) rfl rfl (by decide +kernel) (qB2 rfl) ?_; unfold path_asked_bytes at h0; refine awp_nw [0] fun tz U u => ?_; (try simp only [go_sem]); refine qU u ?_; clear u U; refine awp_nw [1] fun tz U u => ?_; (have gp1 : sub? (e_Path_asked a0) 0 6 = some (List.map vu [a0.origin.a0, a0.origin.a1, a0.origin.a2, a0.origin.a3, a0.origin.a4, a0.origin.a5]) := by rfl); (try simp only [go_sem, Int.sub_zero, gp1]); refine qU u ?_; clear u U; refine awp_nr [1,3] (fun _ => rfl) fun tz => ?_; refine awp_regDW fun U u all hall => ?_; refine xd_id ?_; (try simp only [List.toList_toArray, List.map_cons, List.map_nil, List.size_toArray, List.length_cons, List.length_nil, Nat.zero_add]); (try simp only [Nat.reduceAdd]); obtain ⟨x30, bx30, h0⟩ := bnd h0; (iterate 3 ((try simp only [go_sem, -Nat.reduceAdd]); try simp only [Nat.reduceAdd])); (refine xcallD_A 5 (RenML.cons (RenM.ref 0 0 _ _) (RenML.cons rv (RenML.cons rv RenML.nil))) (RenM.ref 1 0 _ _) (vu_clean _) (vu_clean _) (path_put_io a0.seq 4 ([1] ++ [a0.origin.a0, a0.origin.a1, a0.origin.a2, a0.origin.a3, a0.origin.a4, a0.origin.a5]) bx30) (by first | rfl | (simp only [upd_get, Nat.reduceEqDiff, reduceIte, if_true, if_false, List.map_append, List.map_cons, List.map_nil, List.cons_append, List.nil_append] <;> rfl)) (by first | rfl | (simp only [go_sem] <;> rfl) | (simp only [go_sem, List.length_append] <;> rfl)) (fun a b h => by simp only [h]) (fun a b h => by simp only [h]) (by decide) ?_; try dsimp only); (try refine xd_id ?_); (have gp2 : sub? (e_Path_asked a0) 6 6 = some (List.map vu [a0.dest.a0, a0.dest.a1, a0.dest.a2, a0.dest.a3, a0.dest.a4, a0.dest.a5]) := by rfl); obtain ⟨x31, bx31, h0⟩ := bnd h0; have bx31 := chk_some bx31; simp only [Bool.and_eq_true, decide_eq_true_eq] at bx31; have gx31_0 := bx31; (try simp only [List.cons_append, List.nil_append, List.length_append, List.length_cons, List.length_nil, Nat.zero_add, Nat.reduceAdd, Nat.add_assoc, Nat.reduceLeDiff] at gx31_0); (iterate 3 ((try simp only [go_sem, -Nat.reduceAdd, List.length_cons, List.length_nil, Int.sub_zero, gp2, gx31_0, List.length_append, vu_len]); try simp only [Nat.reduceAdd])); refine And.intro ?_ (u _ _ (Wk.refl _ _ _) ?_)
 ·
  subst hall; clear u U; exact qP
 ·
  clear u U hall all; refine awp_nr [1,3] (fun _ => rfl) fun tz => ?_; refine awp_regDW fun U u all hall => ?_; refine xd_id ?_; (try simp only [List.toList_toArray, List.map_cons, List.map_nil, List.size_toArray, List.length_cons, List.length_nil, Nat.zero_add]); (try simp only [Nat.reduceAdd]); obtain ⟨x32, bx32, h0⟩ := bnd h0; (iterate 3 ((try simp only [go_sem, -Nat.reduceAdd]); try simp only [Nat.reduceAdd])); (refine xcallD_A 13 (RenML.cons (RenM.ref 0 0 _ _) (RenML.cons rv (RenML.cons rv RenML.nil))) (RenM.ref 1 0 _ _) (vu_clean _) (vu_clean _) (path_put_io a0.known 4 (x30 ++ [a0.dest.a0, a0.dest.a1, a0.dest.a2, a0.dest.a3, a0.dest.a4, a0.dest.a5]) bx32) (by first | rfl | (simp only [upd_get, Nat.reduceEqDiff, reduceIte, if_true, if_false, List.map_append, List.map_cons, List.map_nil, List.cons_append, List.nil_append] <;> rfl)) (by first | rfl | (simp only [go_sem] <;> rfl) | (simp only [go_sem, List.length_append] <;> rfl)) (fun a b h => by simp only [h]) (fun a b h => by simp only [h]) (by decide) ?_; try dsimp only); (try refine xd_id ?_); obtain ⟨x33, bx33, h0⟩ := bnd h0; have bx33 := chk_some bx33; simp only [Bool.and_eq_true, decide_eq_true_eq] at bx33; have gx33_0 := bx33; (iterate 3 ((try simp only [go_sem, -Nat.reduceAdd, List.length_cons, List.length_nil, gx33_0]); try simp only [Nat.reduceAdd])); refine And.intro ?_ (u _ (path_asked_bytes_S0 a0 x32) (by refine Wk.canonD [] [] [some 0, some 23] rfl trivial rfl (tmOU 1 (tmOU 0 tmO0 rfl qM rfl (TmL.clean (e_Path_asked_clean _))) rfl qM rfl (TmL.of_eq qL (vu_clean _))) (tA 3 (tA 1 tmAll0 tp) tr); all_goals exact qN) ?_)
  ·
   subst hall; clear u U; exact qP
  ·
   clear u U hall all; unfold path_asked_bytes_S0; refine awp_nw [1,3] fun tz U u => ?_; obtain ⟨x34, bx34, h0⟩ := bnd h0; (try simp only [go_sem]); (refine xcall_O [1] (path_put_io a0.cost 8 (x32 ++ [IntKind.wrap .u8 a0.hops]) bx34) (by decide) (by decide) ⟨(by first | rfl | (simp only [go_sem] <;> rfl) | (simp only [go_sem, List.length_append] <;> rfl)), trivial⟩ (by first | rfl | (simp only [go_sem] <;> rfl) | (simp only [go_sem, List.length_append] <;> rfl)) ?_; try dsimp only); (try refine xw_id ?_); (try simp only [go_sem, lc, ln]); refine qU u ?_; clear u U; refine awp_ret1 ?_; obtain rfl := someInj h0; refine endW_i ?_; refine end_ret0 rs53 (rfl) ?_; refine Res.mk [] [some 7] rfl (resOU qM rfl (TmL.of_eq qL (vu_clean _)) resO0) tr; (all_goals exact qN)


theorem path_asked_bytes_p (a0 : Path_asked) {r : (List Int)} (h0 : path_asked_bytes a0 = some r) : SndP K 53 [(.agg (e_Path_asked a0))] (S_vu r) :=
 SndM.pure (rM (path_asked_bytes_r a0 h0) (RenM.ref 0 0 _ _) (rows_all_cons (vu_clean _) rows_all_nil) (clean_cons (Clean.agg (e_Path_asked_clean _)) clean_nil)) (S_vu_clean _) (clean_cons (Clean.agg (e_Path_asked_clean _)) clean_nil) qV
theorem path_node_send_io (a0 : A6vu) (a1 : (List Int)) (a2 : Path_node) {r : Unit} (h0 : path_node_send a0 a1 a2 = some r) : SndIO K 51 3 (fun q => [(.ptr (q 0) 0), (.agg (e_A6vu a0)), (.imm (List.map vu a1) a1.length)]) [(fun q => (e_Path_node a2 (.ref (q 1) 0 a2.Paths.Routes.length 17) (.ref (q 2) 0 a2.Paths.Wanted.length 8) vnil)), (fun q => (List.flatMap e_PathRoute a2.Paths.Routes)), (fun q => (List.flatMap e_PathWanted a2.Paths.Wanted))] (fun q => (.tup [])) [(some (fun q => (e_Path_node a2 (.ref (q 1) 0 a2.Paths.Routes.length 17) (.ref (q 2) 0 a2.Paths.Wanted.length 8) (.ref (q 3) 0 1 7)))), (some (fun q => (List.flatMap e_PathRoute a2.Paths.Routes))), (some (fun q => (List.flatMap e_PathWanted a2.Paths.Wanted))), (some (fun q => (List.flatMap E_Sent [{ Sent.z with Data := a1, To := a0 }])))] := by
 refine SndIO.of_walkW hC (RenML.cons (RenM.ptr 0 0) (RenML.cons (RenM.const (Clean.agg (e_A6vu_clean _))) (RenML.cons (rI (vu_clean _)) RenML.nil))) (tpl_cons (e_Path_node_ren _ (RenM.ref 1 0 _ _) (RenM.ref 2 0 _ _) rv) (tpl_cons (RenML.const (c_PathRoute _)) (tpl_cons (RenML.const (c_PathWanted _)) tpl_nil))) (otpl_some (e_Path_node_ren _ (RenM.ref 1 0 _ _) (RenM.ref 2 0 _ _) (RenM.ref 3 0 _ _)) (otpl_some (RenML.const (c_PathRoute _)) (otpl_some (RenML.const (c_PathWanted _)) (otpl_some (RenML.const (c_Sent _)) otpl_nil)))) (RenM.tup RenML.nil) rfl (qB2 rfl) (show K.P.funcs[51]? = some Tryd.f51 from Tryd.func51) rfl rfl (by decide +kernel) (qB2 rfl) ?_; unfold path_node_send at h0; refine awp_nw [0,1,2] fun tz U u => ?_; (try simp only [go_sem]); refine qU u ?_; clear u U; refine awp_nr1 [0,2,4] (fun _ => rfl) fun tz => ?_; refine awp_regD1 fun U u all hall => ?_; refine xd_id ?_; (try simp only [List.toList_toArray, List.map_cons, List.map_nil, List.size_toArray, List.length_cons, List.length_nil, Nat.zero_add]); (try simp only [Nat.reduceAdd]); (iterate 3 ((try simp only [go_sem, -Nat.reduceAdd]); try simp only [Nat.reduceAdd])); refine And.intro ?_ (u _ ?_)
 ·
  subst hall; clear u U; exact qP
 ·
  clear u U hall all; obtain rfl := someInj h0; refine endW_i ?_; refine end_normal0 rs51 (rfl) ?_; refine ResIO.mk [] [some 0, some 1, some 2, some 13] rfl (resEU qM rfl (e_Path_node_tmx (by rfl) tr tr tr) (resEU qM rfl (TmL.of_eq qL (c_PathRoute _)) (resEU qM rfl (TmL.of_eq qL (c_PathWanted _)) (resEU qM rfl (TmL.of_eq qL (c_Sent _)) resE0)))) (Tm.tup tn); (all_goals exact qN)
theorem path_node_ask_io (a0 : A6vu) (a1 : Path_node) {r : (List Sent)} (h0 : path_node_ask a0 a1 = some r) : SndIO K 25 3 (fun q => [(.ptr (q 0) 0), (.agg (e_A6vu a0))]) [(fun q => (e_Path_node a1 (.ref (q 1) 0 a1.Paths.Routes.length 17) (.ref (q 2) 0 a1.Paths.Wanted.length 8) vnil)), (fun q => (List.flatMap e_PathRoute a1.Paths.Routes)), (fun q => (List.flatMap e_PathWanted a1.Paths.Wanted))] (fun q => (.tup [])) [(some (fun q => (e_Path_node { a1 with Paths.Seq := IntKind.wrap .i64 (a1.Paths.Seq + 1), out := [] } (.ref (q 1) 0 a1.Paths.Routes.length 17) (.ref (q 2) 0 a1.Paths.Wanted.length 8) (.ref (q 3) 0 r.length 7)))), (some (fun q => (List.flatMap e_PathRoute a1.Paths.Routes))), (some (fun q => (List.flatMap e_PathWanted a1.Paths.Wanted))), (some (fun q => (List.flatMap E_Sent r)))] := by
 refine SndIO.of_walkW hC (RenML.cons (RenM.ptr 0 0) (RenML.cons (RenM.const (Clean.agg (e_A6vu_clean _))) RenML.nil)) (tpl_cons (e_Path_node_ren _ (RenM.ref 1 0 _ _) (RenM.ref 2 0 _ _) rv) (tpl_cons (RenML.const (c_PathRoute _)) (tpl_cons (RenML.const (c_PathWanted _)) tpl_nil))) (otpl_some (e_Path_node_ren _ (RenM.ref 1 0 _ _) (RenM.ref 2 0 _ _) (RenM.ref 3 0 _ _)) (otpl_some (RenML.const (c_PathRoute _)) (otpl_some (RenML.const (c_PathWanted _)) (otpl_some (RenML.const (c_Sent _)) otpl_nil)))) (RenM.tup RenML.nil) rfl (qB2 rfl) (show K.P.funcs[25]? = some Tryd.f25 from Tryd.func25) rfl rfl (by decide +kernel) (qB2 rfl) ?_; unfold path_node_ask at h0; refine awp_nw [0,1] fun tz U u => ?_; (try simp only [go_sem, gt0]); refine qU u ?_; clear u U; refine awp_nw [0,3] fun tz U u => ?_; (try simp only [go_sem, gt0]); refine qU u ?_; clear u U; refine awp_nr1 [0,3] (fun _ => rfl) fun tz => ?_; refine awp_regD1 fun U u all hall => ?_; refine xd_id ?_; (try simp only [List.toList_toArray, List.map_cons, List.map_nil, List.size_toArray, List.length_cons, List.length_nil, Nat.zero_add]); (try simp only [Nat.reduceAdd]); obtain ⟨x27, bx27, h0⟩ := bnd h0; (iterate 3 ((try simp only [go_sem, -Nat.reduceAdd, gt0]); try simp only [Nat.reduceAdd])); (refine xcallD_L (by first | (simp only [go_sem, fz, gt0] <;> rfl) | (simp only [go_sem, fz, List.length_set, ble_self, take_set, cond_true, cond_false, gt0] <;> rfl)) (by first | (simp only [go_sem, reach, gt0] <;> rfl)) (path_node_known_p { a1 with Paths.Seq := IntKind.wrap .i64 (a1.Paths.Seq + 1), out := [] } a0 bx27) (Bare.v _) ?_; try dsimp only); (try refine xd_id ?_); obtain ⟨x28, bx28, h0⟩ := bnd h0; (iterate 3 ((try simp only [go_sem, -Nat.reduceAdd, gt0]); try simp only [Nat.reduceAdd])); (refine xcallD_p (path_asked_bytes_p { Path_asked.z with dest := a0, known := x27, origin := a1.Paths.Own, seq := IntKind.wrap .i64 (a1.Paths.Seq + 1) } bx28) ?_; try dsimp only); (try refine xd_id ?_); obtain ⟨x29, bx29, h0⟩ := bnd h0; (iterate 3 ((try simp only [go_sem, -Nat.reduceAdd, gt0]); try simp only [Nat.reduceAdd])); (refine xcallD_O [0, 1, 2] (path_node_send_io gv0 x28 { a1 with Paths.Seq := IntKind.wrap .i64 (a1.Paths.Seq + 1), out := [] } bx29) (by decide) (by decide) ⟨(by first | rfl | (simp only [go_sem, gt0] <;> rfl) | (simp only [go_sem, List.length_append, gt0] <;> rfl)), (by first | rfl | (simp only [go_sem, gt0] <;> rfl) | (simp only [go_sem, List.length_append, gt0] <;> rfl)), (by first | rfl | (simp only [go_sem, gt0] <;> rfl) | (simp only [go_sem, List.length_append, gt0] <;> rfl)), trivial⟩ (by first | rfl | (simp only [go_sem, gt0] <;> rfl) | (simp only [go_sem, List.length_append, gt0] <;> rfl)) (by subst hall; decide +kernel) (by subst hall; first | decide +kernel | (simp [printsOk, apartP, clash, meet]; done) | (simp [printsOk, apartP, clash, meet]; decide +kernel)) ?_; try dsimp only); (try refine xd_id ?_); (iterate 3 ((try simp only [go_sem, -Nat.reduceAdd, gt0, lc, ln]); try simp only [Nat.reduceAdd])); refine And.intro ?_ (u _ ?_)
 ·
  subst hall; clear u U; exact qP
 ·
  clear u U hall all; obtain rfl := someInj h0; refine endW_i ?_; refine end_normal0 rs25 (rfl) ?_; refine ResIO.mk [] [some 0, some 1, some 2, some 33] rfl (resEU qM rfl (e_Path_node_tmx (by rfl) tr tr tr) (resEU qM rfl (TmL.of_eq qL (c_PathRoute _)) (resEU qM rfl (TmL.of_eq qL (c_PathWanted _)) (resEU qM rfl (TmL.of_eq qL (c_Sent _)) resE0)))) (Tm.tup tn); (all_goals exact qN)
def path_begun_2_S0 (a0 : Paths) (a1 : Int) : AS :=
 { objs := (upd (upd (fun _ => .dead) 0 (.live (e_Paths a0 (.imm (List.flatMap e_PathRoute a0.Routes) a0.Routes.length) (.imm (List.flatMap e_PathWanted a0.Wanted) a0.Wanted.length)))) 1 (.live (e_Path_node { Path_node.z with Paths := a0, now := a1 } (.imm (List.flatMap e_PathRoute a0.Routes) a0.Routes.length) (.imm (List.flatMap e_PathWanted a0.Wanted) a0.Wanted.length) vnil))), next := 2, tmps := (upd (upd (upd (fun _ => .unk) 1 (vi a1)) 2 (.ptr 0 0)) 7 (.ptr 1 0)) }

def path_begun_2_S1 (a0 : Paths) (a1 : Int) (x33 : (List PathRoute)) (x34 : (List PathWanted)) : AS :=
 { objs := (upd (upd (upd (fun _ => .dead) 0 (.live (e_Path_node { Path_node.z with Paths := a0, now := a1 } (.ref 1 0 x33.length 17) (.ref 2 0 x34.length 8) vnil))) 1 (.live (List.flatMap e_PathRoute x33))) 2 (.live (List.flatMap e_PathWanted x34))), next := 3, tmps := (upd (upd (fun _ => .unk) 1 (vi a1)) 7 (.ptr 0 0)) }

def path_begun_2_S2 (a0 : Paths) (a1 : Int) (x34 : (List PathWanted)) (d35 : (List PathRoute)) : AS :=
 { objs := (upd (upd (upd (fun _ => .dead) 0 (.live (e_Path_node { Path_node.z with Paths := a0, now := a1, out := [] } (.ref 1 0 d35.length 17) (.ref 2 0 x34.length 8) vnil))) 1 (.live (List.flatMap e_PathRoute d35))) 2 (.live (List.flatMap e_PathWanted x34))), next := 3, tmps := (upd (fun _ => .unk) 7 (.ptr 0 0)) }

def path_begun_2_S3 (a0 : Paths) (a1 : Int) (x34 : (List PathWanted)) (x33 : (List PathRoute)) (d36 : (List PathRoute × Int)) : AS :=
 { objs := (upd (upd (upd (fun _ => .dead) 0 (.live (e_Path_node { Path_node.z with Paths := a0, now := a1, out := [] } (.ref 1 0 d36.1.length 17) (.ref 2 0 x34.length 8) vnil))) 1 (.live (List.flatMap e_PathRoute d36.1))) 2 (.live (List.flatMap e_PathWanted x34))), next := 3, tmps := (upd (upd (upd (upd (fun _ => .unk) 1 (vi a1)) 7 (.ptr 0 0)) 41 (vi ((x33.length : Nat) : Int))) 42 (vi d36.2)) }

theorem path_begun_2_io (a0 : Paths) (a1 : Int) {r : Int} (h0 : path_begun_2 a0 a1 = some r) : SndIO K 20 0 (fun q => [(.agg (e_Paths a0 (.imm (List.flatMap e_PathRoute a0.Routes) a0.Routes.length) (.imm (List.flatMap e_PathWanted a0.Wanted) a0.Wanted.length))), (vi a1)]) [] (fun q => (.tup [(.v (.pointer none)), (vi r)])) [] := by
 refine SndIO.of_walkW hC (RenML.cons (RenM.agg (e_Paths_ren _ (rI (c_PathRoute _)) (rI (c_PathWanted _)))) (RenML.cons rv RenML.nil)) tpl_nil otpl_nil (RenM.tup (RenML.cons rv (RenML.cons rv RenML.nil))) rfl (qB2 rfl) (show K.P.funcs[20]? = some Tryd.f20 from Tryd.func20) rfl rfl (by decide +kernel) (qB2 rfl) ?_; unfold path_begun_2 at h0; refine awp_nw [0,1] fun tz U u => ?_; (try simp only [go_sem]); refine qU u ?_; clear u U; refine awp_assoc ?_; refine awp_nw [1,2] fun tz U u => ?_; obtain ⟨x31, bx31, h0⟩ := bnd h0; (try simp only [go_sem]); (refine xcall_p (path_Check_p a0 bx31) ?_; try dsimp only); (try refine xw_id ?_); (try simp only [go_sem]); refine qU u ?_; clear u U; refine awp_assoc ?_; refine awp_nw [1,2,6] fun tz U u => ?_; (try simp only [go_sem]); refine qU u ?_; clear u U; refine awp_cond (b := (x31 != 0)) rfl (fun h1 => ?_) (fun h1 => ?_)
 ·
  have h0 := cT h0 h1; refine awp_assoc ?_; refine awp_nw [6] fun tz U u => ?_; (try simp only [go_sem]); refine qU u ?_; clear u U; refine awp_ret ?_; obtain rfl := someInj h0; refine endW_i ?_; refine end_ret0 rs20 (rfl) ?_; refine ResIO.mk [] [] rfl resE0 (Tm.tup (tc tv (tc tv tn)))
 ·
  have h0 := cF h0 h1; refine awp_skip ?_; refine awp_assoc ?_; refine awp_nw [1,2] fun tz U u => ?_; obtain ⟨x32, bx32, h0⟩ := bnd h0; (try simp only [go_sem]); (refine xcall_p (path_between_p a1 0 1099511627776 bx32) ?_; try dsimp only); (try refine xw_id ?_); (try simp only [go_sem]); refine qU u ?_; clear u U; refine awp_cond (b := (!x32)) rfl (fun h2 => ?_) (fun h2 => ?_)
  ·
   have h0 := cT h0 h2; refine awp_assoc ?_; refine awp_nw [] fun tz U u => ?_; (try simp only [go_sem]); refine qU u ?_; clear u U; refine awp_ret ?_; obtain rfl := someInj h0; refine endW_i ?_; refine end_ret0 rs20 (rfl) ?_; refine ResIO.mk [] [] rfl resE0 (Tm.tup (tc tv (tc tv tn)))
  ·
   have h0 := cF h0 h2; refine awp_skip ?_; refine awp_nw [1,2] fun tz U u => ?_; (try simp only [go_sem]); refine u _ (path_begun_2_S0 a0 a1) (Wk.canonD [] [] [some 0, some 14] rfl trivial rfl (tmOU 1 (tmOU 0 tmO0 rfl qM rfl (e_Paths_tmx (by rfl) (tI (c_PathRoute _)) (tI (c_PathWanted _)))) rfl qM rfl (e_Path_node_tmx (by rfl) (tI (c_PathRoute _)) (tI (c_PathWanted _)) tv)) (tA 7 (tA 2 (tA 1 tmAll0 tv) tp) tp)) ?_; clear u U; unfold path_begun_2_S0; refine awp_nr [1,2,7] (fun _ => rfl) fun tz => ?_; refine awp_regDW fun U u all hall => ?_; refine xd_id ?_; (try simp only [List.toList_toArray, List.map_cons, List.map_nil, List.size_toArray, List.length_cons, List.length_nil, Nat.zero_add]); (try simp only [Nat.reduceAdd]); obtain ⟨x33, bx33, h0⟩ := bnd h0; (iterate 3 ((try simp only [go_sem, -Nat.reduceAdd]); try simp only [Nat.reduceAdd])); (refine xcallD_E (slices_Clone_api_PathRoute_api_PathRoute_e a0.Routes bx33 _) ?_; try dsimp only); (try refine xd_id ?_); obtain ⟨x34, bx34, h0⟩ := bnd h0; (iterate 3 ((try simp only [go_sem, -Nat.reduceAdd]); try simp only [Nat.reduceAdd])); (refine xcallD_E (slices_Clone_api_PathWanted_api_PathWanted_e a0.Wanted bx34 _) ?_; try dsimp only); (try refine xd_id ?_); (iterate 3 ((try simp only [go_sem, -Nat.reduceAdd]); try simp only [Nat.reduceAdd])); refine And.intro ?_ (u _ (path_begun_2_S1 a0 a1 x33 x34) (by refine Wk.canonD [] [] [some 1, some 6, some 9] rfl trivial rfl (tmOU 2 (tmOU 1 (tmOU 0 tmO0 rfl qM rfl (e_Path_node_tmx (by rfl) tr tr tv)) rfl qM rfl (TmL.of_eq qL (c_PathRoute _))) rfl qM rfl (TmL.of_eq qL (c_PathWanted _))) (tA 7 (tA 1 tmAll0 tv) tp); all_goals exact qN) ?_)
   ·
    subst hall; clear u U; exact qP
   ·
    clear u U hall all; unfold path_begun_2_S1; refine awp_assoc ?_; refine awp_nw [1,7] fun tz U u => ?_; (try simp only [go_sem]); refine qU u ?_; clear u U; obtain ⟨d35, hi3, h0⟩ := bnd h0; refine awp_cut (fun z => d35 = z) (fun d35 : (List PathRoute) => path_begun_2_S2 a0 a1 x34 d35) ?_ ?_
    ·
     refine awp_block1 ?_; refine awp_loopS (fun n (d36 : (List PathRoute × Int)) => path_begun_2_L4 x33 a1 n d36 = some d35) (fun d36 : (List PathRoute × Int) => path_begun_2_S3 a0 a1 x34 x33 d36) big (x33, 0) (by refine Wk.canonD [] [] [some 0, some 1, some 2] rfl trivial rfl (tmOU 2 (tmOU 1 (tmOU 0 tmO0 rfl qM rfl (e_Path_node_tmx (by rfl) tr tr tv)) rfl qM rfl (TmL.of_eq qL (c_PathRoute _))) rfl qM rfl (TmL.of_eq qL (c_PathWanted _))) (tA 42 (tA 41 (tA 7 (tA 1 tmAll0 tv) tp) tv) tv); all_goals exact qN) hi3 ?_; clear hi3; rintro n d36 hl5; rcases n with _ | n4
     ·
      (rw [path_begun_2_L4] at hl5; cases hl5)
     ·
      rw [path_begun_2_L4] at hl5; unfold path_begun_2_S3; refine awp_nw [1,7,41,42] fun tz U u => ?_; (try simp only [go_sem]); refine qU u ?_; clear u U; refine awp_cond (b := (decide (d36.2 < ((x33.length : Nat) : Int)))) rfl (fun h6 => ?_) (fun h6 => ?_)
      ·
       have hl5 := cT hl5 h6; refine awp_skip ?_; refine awp_blockW ?_; refine awp_nw [1,7,41,42] fun tz U u => ?_; (try simp only [go_sem]); refine qU u ?_; clear u U; refine awp_nw [1,7,8,41,42] fun tz U u => ?_; obtain ⟨x37, bx37, hl5⟩ := bnd hl5; obtain ⟨fx37_0, fx37_1, fx37_2, fx37_3⟩ := idx_some bx37; (have fx37_5 : ((d36.2 : Int) < ((d36.1.length : Nat) : Int)) = True := by first | exact fx37_1 | (simp [List.length_modify, List.length_set]; omega)); (try simp only [go_sem, fx37_0, fx37_1, fx37_2, fx37_5]); refine qU u ?_; clear u U; refine awp_nw [1,7,9,41,42] fun tz U u => ?_; refine xw_stop 5 qS qS (by rfl) fun V v => ?_; refine xw_id ?_; (try simp only [go_sem, fx37_0, fx37_1, fx37_2, fx37_5]); refine v _ ?_; clear v V; refine xw_cut 7 [(1, (vi a1)), (7, (.ptr 0 0)), (9, (.ptr 1 ((d36.2).toNat * 17))), (41, (vi ((x33.length : Nat) : Int))), (42, (vi d36.2)), (63, (vb (x37.Valid && (decide (x37.Until ≤ a1)))))] qS qS (by rfl) (fun V v => ?_) fun tz => ?_
       ·
        refine xw_id ?_; rcases bE x37.Valid with h7 | h7
        ·
         (try simp only [go_sem, fx37_0, fx37_1, fx37_2, fx37_5, h7]); exact v _ ⟨(by first | rfl | (simp only [h7]; done)), rfl, rfl, rfl, rfl, rfl, (qB h7), trivial⟩
        ·
         (try simp only [go_sem, fx37_0, fx37_1, fx37_2, fx37_5, h7]); exact v _ ⟨(by first | rfl | (simp only [h7]; done)), rfl, rfl, rfl, rfl, rfl, (qB h7), trivial⟩
       ·
        refine xw_id ?_; (try simp only [go_sem, fx37_0, fx37_1, fx37_2, fx37_5]); refine qU u ?_; clear u U; refine awp_cond1 (b := (x37.Valid && (decide (x37.Until ≤ a1)))) rfl (fun h8 => ?_) (fun h8 => ?_)
        ·
         have hl5 := cT hl5 h8; refine awp_nw1 [1,7,9,41,42] fun tz U u => ?_; obtain ⟨x38, bx38, hl5⟩ := bnd hl5; (try simp only [go_sem, fx37_0, fx37_1, fx37_2, fx37_5]); (refine xcall_O [1] (path_spoil_io d36.2 d36.1 bx38) (by decide) (by decide) ⟨(by first | rfl | (simp only [go_sem, fx37_0, fx37_1, fx37_2, fx37_5] <;> rfl) | (simp only [go_sem, List.length_append, fx37_0, fx37_1, fx37_2, fx37_5] <;> rfl)), trivial⟩ (by first | rfl | (simp only [go_sem, fx37_0, fx37_1, fx37_2, fx37_5] <;> rfl) | (simp only [go_sem, List.length_append, fx37_0, fx37_1, fx37_2, fx37_5] <;> rfl)) ?_; try dsimp only); (try refine xw_id ?_); obtain ⟨x39, bx39, hl5⟩ := bnd hl5; have bx39 := chk_some bx39; simp only [decide_eq_true_eq] at bx39; (try simp only [go_sem, fx37_0, fx37_1, fx37_2, fx37_5, lc, ln]); refine u _ ?_; clear u U; refine bq_n ?_; refine seqW_i ?_; refine awp_nw1 [1,7,41,42] fun tz U u => ?_; (try simp only [go_sem, fx37_0, fx37_1, fx37_2, fx37_5]); refine u _ ?_; clear u U; refine lq_n ?_; exact ⟨n4, (x38, IntKind.wrap .i64 (d36.2 + 1)), rfl, hl5, (by refine Wk.canonD [] [] [some 0, some 1, some 2] rfl trivial rfl (tmOU 2 (tmOU 1 (tmOU 0 tmO0 rfl qM rfl (e_Path_node_tmx (by rfl) tr tr tv)) rfl qM rfl (TmL.of_eq qL (c_PathRoute _))) rfl qM rfl (TmL.of_eq qL (c_PathWanted _))) (tA 42 (tA 41 (tA 7 (tA 1 tmAll0 tv) tp) tv) tv); all_goals exact qN)⟩
        ·
         have hl5 := cF hl5 h8; refine awp_skip1 ?_; refine bq_n ?_; refine seqW_i ?_; refine awp_nw1 [1,7,41,42] fun tz U u => ?_; (try simp only [go_sem, fx37_0, fx37_1, fx37_2, fx37_5]); refine u _ ?_; clear u U; refine lq_n ?_; exact ⟨n4, (d36.1, IntKind.wrap .i64 (d36.2 + 1)), rfl, hl5, (by refine Wk.canonD [] [] [some 0, some 1, some 2] rfl trivial rfl (tmOU 2 (tmOU 1 (tmOU 0 tmO0 rfl qM rfl (e_Path_node_tmx (by rfl) tr tr tv)) rfl qM rfl (TmL.of_eq qL (c_PathRoute _))) rfl qM rfl (TmL.of_eq qL (c_PathWanted _))) (tA 42 (tA 41 (tA 7 (tA 1 tmAll0 tv) tp) tv) tv); all_goals exact qN)⟩
      ·
       have hl5 := cF hl5 h6; refine awp_exit ?_; refine lq_e ?_; refine bq_e ?_; refine sq_n ?_; obtain rfl := someInj hl5; exact ⟨_, rfl, (by refine Wk.canonD [] [] [some 0, some 1, some 2] rfl trivial rfl (tmOU 2 (tmOU 1 (tmOU 0 tmO0 rfl qM rfl (e_Path_node_tmx (by rfl) tr tr tv)) rfl qM rfl (TmL.of_eq qL (c_PathRoute _))) rfl qM rfl (TmL.of_eq qL (c_PathWanted _))) (tA 7 tmAll0 tp); all_goals exact qN)⟩
    ·
     rintro _ rfl; clear hi3; unfold path_begun_2_S2; refine awp_nw [7] fun tz U u => ?_; (try simp only [go_sem]); refine qU u ?_; clear u U; refine awp_ret1 ?_; cases h0
def path_Find_S0 (a0 : Paths) (a1 : A6vu) (a2 : Int) (x5 : (List PathRoute × List PathWanted)) : AS :=
 { objs := (upd (upd (upd (upd (upd (upd (fun _ => .dead) 0 (.live (e_Paths a0 (.imm (List.flatMap e_PathRoute a0.Routes) a0.Routes.length) (.imm (List.flatMap e_PathWanted a0.Wanted) a0.Wanted.length)))) 1 (.live (e_A6vu a1))) 2 (.live (e_Paths Paths.z vnil vnil))) 3 (.live (e_Path_node { Path_node.z with Paths := a0, now := a2, out := [] } (.ref 4 0 x5.1.length 17) (.ref 5 0 x5.2.length 8) vnil))) 4 (.live (List.flatMap e_PathRoute x5.1))) 5 (.live (List.flatMap e_PathWanted x5.2))), next := 6, tmps := (upd (upd (upd (upd (upd (upd (fun _ => .unk) 2 (vi a2)) 3 (.ptr 0 0)) 4 (.ptr 1 0)) 6 (.ptr 2 0)) 9 (.ptr 3 0)) 10 (vi 0)) }

def path_Find_S1 (a1 : A6vu) (a0 : Paths) (a2 : Int) (x5 : (List PathRoute × List PathWanted)) (x13 : (List PathWanted)) : AS :=
 { objs := (upd (upd (upd (upd (upd (fun _ => .dead) 0 (.live (e_A6vu a1))) 1 (.live (e_Paths Paths.z vnil vnil))) 2 (.live (e_Path_node { Path_node.z with Paths := a0, now := a2, out := [] } (.ref 3 0 x5.1.length 17) (.ref 4 0 x13.length 8) vnil))) 3 (.live (List.flatMap e_PathRoute x5.1))) 4 (.live (List.flatMap e_PathWanted x13))), next := 5, tmps := (upd (upd (upd (fun _ => .unk) 4 (.ptr 0 0)) 6 (.ptr 1 0)) 9 (.ptr 2 0)) }

def path_Find_S2 (a0 : Paths) (a1 : A6vu) (a2 : Int) (x15 : Int) : AS :=
 { objs := (upd (upd (upd (fun _ => .dead) 0 (.live (e_Paths a0 (.imm (List.flatMap e_PathRoute a0.Routes) a0.Routes.length) (.imm (List.flatMap e_PathWanted a0.Wanted) a0.Wanted.length)))) 1 (.live (e_A6vu a1))) 2 (.live (e_Paths Paths.z vnil vnil))), next := 3, tmps := (upd (upd (upd (upd (upd (upd (fun _ => .unk) 2 (vi a2)) 3 (.ptr 0 0)) 4 (.ptr 1 0)) 6 (.ptr 2 0)) 9 (.v (.pointer none))) 10 (vi x15)) }

theorem path_Find_r (a0 : Paths) (a1 : A6vu) (a2 : Int) {r : (Paths × (List Sent) × Int)} (h0 : path_Find a0 a1 a2 = some r) : SndR K 6 [(.agg (E_Paths a0)), (.agg (e_A6vu a1)), (vi a2)] (fun q => (.tup [(.agg (e_Paths r.1 (.ref (q 0) 0 r.1.Routes.length 17) (.ref (q 1) 0 r.1.Wanted.length 8))), (.ref (q 2) 0 r.2.1.length 7), (vi r.2.2)])) [(List.flatMap e_PathRoute r.1.Routes), (List.flatMap e_PathWanted r.1.Wanted), (List.flatMap E_Sent r.2.1)] := by
 refine SndR.of_walkW hC (show K.P.funcs[6]? = some Tryd.f6 from Tryd.func6) rfl rfl (by decide +kernel) (qB2 rfl) ?_; unfold path_Find at h0; refine awp_nw [0,1,2] fun tz U u => ?_; (try simp only [go_sem]); refine qU u ?_; clear u U; refine awp_nw [2,3,4,6] fun tz U u => ?_; rcases bE ((path_begun a0 a2).isSome) with h1 | h1
 ·
  have h0 := cT h0 h1; obtain ⟨x5, bx5, h0⟩ := bnd h0; (try simp only [go_sem]); (refine xcall_O [] (path_begun_io a0 a2 bx5) (by decide) (by decide) trivial (by first | rfl | (simp only [go_sem] <;> rfl) | (simp only [go_sem, List.length_append] <;> rfl)) ?_; try dsimp only); (try refine xw_id ?_); (try simp only [go_sem, lc, ln]); refine u _ (path_Find_S0 a0 a1 a2 x5) (by refine Wk.canonD [] [] [some 0, some 1, some 2, some 13, some 14, some 15] rfl trivial rfl (tmOU 5 (tmOU 4 (tmOU 3 (tmOU 2 (tmOU 1 (tmOU 0 tmO0 rfl qM rfl (e_Paths_tmx (by rfl) (tI (c_PathRoute _)) (tI (c_PathWanted _)))) rfl qM rfl (TmL.clean (e_A6vu_clean _))) rfl qM rfl (e_Paths_tmx (by rfl) tv tv)) rfl qM rfl (e_Path_node_tmx (by rfl) tr tr tv)) rfl qM rfl (TmL.of_eq qL (c_PathRoute _))) rfl qM rfl (TmL.of_eq qL (c_PathWanted _))) (tA 10 (tA 9 (tA 6 (tA 4 (tA 3 (tA 2 tmAll0 tv) tp) tp) tp) tp) tv); all_goals exact qN) ?_; clear u U; unfold path_Find_S0; refine awp_assoc ?_; refine awp_nw [2,3,4,6,9,10] fun tz U u => ?_; (try simp only [go_sem]); refine qU u ?_; clear u U; refine awp_condF rfl ?_; refine awp_skip ?_; refine awp_assoc ?_; refine awp_nw [2,3,4,6,9] fun tz U u => ?_; refine xw_stop 5 qS qS (by rfl) fun V v => ?_; refine xw_id ?_; (try simp only [go_sem]); refine v _ ?_; clear v V; obtain ⟨x7, hvh2, h0⟩ := bnd h0; refine xw_cut 3 [(2, (vi a2)), (4, (.ptr 1 0)), (6, (.ptr 2 0)), (9, (.ptr 3 0)), (32, (vb x7))] qS qS (by rfl) (fun V v => ?_) fun tz => ?_
  ·
   refine xw_id ?_; rcases bE (decide (a1 = a0.Own)) with h2 | h2
   ·
    have hvh2 := cT hvh2 h2; (try simp only [go_sem, h2]); obtain rfl := someInj hvh2; exact v _ ⟨rfl, rfl, rfl, rfl, rfl, (qB h2), trivial⟩
   ·
    have hvh2 := cF hvh2 h2; obtain ⟨x6, bx6, hvh2⟩ := bnd hvh2; (try simp only [go_sem, h2]); (refine xcall_p (path_group_p a1 bx6) ?_; try dsimp only); (try refine xw_id ?_); (try simp only [go_sem, h2]); obtain rfl := someInj hvh2; exact v _ ⟨rfl, rfl, rfl, rfl, rfl, (qB h2), trivial⟩
  ·
   refine xw_id ?_; (try simp only [go_sem]); refine qU u ?_; clear u U; refine awp_cond (b := x7) rfl (fun h3 => ?_) (fun h3 => ?_)
   ·
    have h0 := cT h0 h3; refine awp_assoc ?_; refine awp_nw [6] fun tz U u => ?_; (try simp only [go_sem]); refine qU u ?_; clear u U; refine awp_ret ?_; obtain rfl := someInj h0; refine endW_i ?_; refine end_ret0 rs6 qR ?_; refine Res.mk [] [none, none, none] rfl (resON (resON (resON resO0))) (Tm.tup (tc (Tm.agg (e_Paths_tmx (by rfl) tT tT)) (tc tT (tc tv tn))))
   ·
    have h0 := cF h0 h3; refine awp_skip ?_; refine awp_nw [2,4,6,9] fun tz U u => ?_; obtain ⟨x8, bx8, h0⟩ := bnd h0; (try simp only [go_sem]); (refine xcall_L (by first | (simp only [go_sem, fz] <;> rfl) | (simp only [go_sem, fz, List.length_set, ble_self, take_set, cond_true, cond_false] <;> rfl)) (path_node_wanted_p { Path_node.z with Paths := { a0 with Routes := x5.1, Wanted := x5.2 }, now := a2, out := [] } a1 bx8) (bare_ok (by rfl)) ?_; try dsimp only); (try refine xw_id ?_); (try simp only [go_sem]); refine qU u ?_; clear u U; refine awp_assoc ?_; refine awp_nw [2,4,6,9,11,12] fun tz U u => ?_; obtain ⟨x9, bx9, h0⟩ := bnd h0; (try simp only [go_sem]); (refine xcall_L (by first | (simp only [go_sem, fz] <;> rfl) | (simp only [go_sem, fz, List.length_set, ble_self, take_set, cond_true, cond_false] <;> rfl)) (path_node_route_p { Path_node.z with Paths := { a0 with Routes := x5.1, Wanted := x5.2 }, now := a2, out := [] } a1 bx9) (bare_ok (by rfl)) ?_; try dsimp only); (try refine xw_id ?_); (try simp only [go_sem]); refine qU u ?_; clear u U; refine awp_assoc ?_; refine awp_nw [2,4,6,9,11,12,13,14] fun tz U u => ?_; refine xw_stop 2 qS qS (by rfl) fun V v => ?_; refine xw_id ?_; (try simp only [go_sem]); refine v _ ?_; clear v V; obtain ⟨x12, hvh4, h0⟩ := bnd h0; refine xw_cut 13 [(2, (vi a2)), (4, (.ptr 1 0)), (6, (.ptr 2 0)), (9, (.ptr 3 0)), (11, (vi x8.1)), (60, (vb x12))] qS qS (by rfl) (fun V v => ?_) fun tz => ?_
    ·
     refine xw_id ?_; rcases bE x8.2 with h4 | h4
     ·
      have hvh4 := cT hvh4 h4; (try simp only [go_sem, h4]); obtain rfl := someInj hvh4; exact v _ ⟨(by first | rfl | (simp only [h4]; done)), rfl, rfl, rfl, rfl, rfl, (qB h4), trivial⟩
     ·
      have hvh4 := cF hvh4 h4; refine xw_stop 2 qS qS (by rfl) fun V v => ?_; refine xw_id ?_; (try simp only [go_sem, h4]); refine v _ ?_; clear v V; obtain ⟨x11, hvh5, hvh4⟩ := bnd hvh4; refine xw_cut 10 [(2, (vi a2)), (4, (.ptr 1 0)), (6, (.ptr 2 0)), (9, (.ptr 3 0)), (11, (vi x8.1)), (47, (vb false)), (59, (vb x11))] qS qS (by rfl) (fun V v => ?_) fun tz => ?_
      ·
       refine xw_id ?_; rcases bE x9.2 with h5 | h5
       ·
        have hvh5 := cT hvh5 h5; obtain ⟨x10, bx10, hvh5⟩ := bnd hvh5; obtain ⟨fx10_0, fx10_1, fx10_2, fx10_3⟩ := idx_some bx10; (have fx10_5 : ((x9.1 : Int) < ((x5.1.length : Nat) : Int)) = True := by first | exact fx10_1 | (simp [List.length_modify, List.length_set]; omega)); (try simp only [go_sem, h4, h5, fx10_0, fx10_1, fx10_2, fx10_5]); obtain rfl := someInj hvh5; exact v _ ⟨(by first | rfl | (simp only [h5]; done)), rfl, rfl, rfl, rfl, rfl, rfl, (qB h5), trivial⟩
       ·
        have hvh5 := cF hvh5 h5; (try simp only [go_sem, h4, h5]); obtain rfl := someInj hvh5; exact v _ ⟨(by first | rfl | (simp only [h5]; done)), rfl, rfl, rfl, rfl, rfl, rfl, (qB h5), trivial⟩
      ·
       refine xw_id ?_; (try simp only [go_sem, h4]); obtain rfl := someInj hvh4; exact v _ ⟨(by first | rfl | (simp only [h4]; done)), rfl, rfl, rfl, rfl, rfl, (qB h4), trivial⟩
    ·
     refine xw_id ?_; (try simp only [go_sem]); refine qU u ?_; clear u U; refine awp_cond (b := x12) rfl (fun h6 => ?_) (fun h6 => ?_)
     ·
      have h0 := cT h0 h6; refine awp_assoc ?_; refine awp_nw [6,9] fun tz U u => ?_; (try simp only [go_sem]); refine qU u ?_; clear u U; refine awp_ret ?_; obtain rfl := someInj h0; refine endW_i ?_; refine end_ret0 rs6 qR ?_; refine Res.mk [] [some 4, some 5, none] rfl (resOU qM rfl (TmL.of_eq qL (c_PathRoute _)) (resOU qM rfl (TmL.of_eq qL (c_PathWanted _)) (resON resO0))) (Tm.tup (tc (Tm.agg (e_Paths_tmx (by rfl) tr tr)) (tc tT (tc tv tn)))); (all_goals exact qN)
     ·
      have h0 := cF h0 h6; refine awp_skip ?_; refine awp_assoc ?_; refine awp_nw [2,4,6,9,11] fun tz U u => ?_; refine xw_stop 7 qS qS (by rfl) fun V v => ?_; refine xw_id ?_; (try simp only [go_sem]); refine v _ ?_; clear v V; refine xw_cut 8 [(2, (vi a2)), (4, (.ptr 1 0)), (6, (.ptr 2 0)), (9, (.ptr 3 0)), (11, (vi x8.1)), (79, (vb ((a0.Seq == 2147483647) || (((x5.2.length : Nat) : Int) == 32))))] qS qS (by rfl) (fun V v => ?_) fun tz => ?_
      ·
       refine xw_id ?_; rcases bE (a0.Seq == 2147483647) with h7 | h7
       ·
        (try simp only [go_sem, h7]); exact v _ ⟨rfl, rfl, rfl, rfl, rfl, rfl, (qB h7), trivial⟩
       ·
        (try simp only [go_sem, h7]); exact v _ ⟨rfl, rfl, rfl, rfl, rfl, rfl, (qB h7), trivial⟩
      ·
       refine xw_id ?_; (try simp only [go_sem]); refine qU u ?_; clear u U; refine awp_cond (b := ((a0.Seq == 2147483647) || (((x5.2.length : Nat) : Int) == 32))) rfl (fun h8 => ?_) (fun h8 => ?_)
       ·
        have h0 := cT h0 h8; refine awp_assoc ?_; refine awp_nw [6] fun tz U u => ?_; (try simp only [go_sem]); refine qU u ?_; clear u U; refine awp_ret ?_; obtain rfl := someInj h0; refine endW_i ?_; refine end_ret0 rs6 qR ?_; refine Res.mk [] [none, none, none] rfl (resON (resON (resON resO0))) (Tm.tup (tc (Tm.agg (e_Paths_tmx (by rfl) tT tT)) (tc tT (tc tv tn))))
       ·
        have h0 := cF h0 h8; refine awp_skip ?_; refine awp_nr [2,4,6,9,11] (fun _ => rfl) fun tz => ?_; refine awp_regDW fun U u all hall => ?_; refine xd_id ?_; (try simp only [List.toList_toArray, List.map_cons, List.map_nil, List.size_toArray, List.length_cons, List.length_nil, Nat.zero_add]); (try simp only [Nat.reduceAdd]); obtain ⟨x13, bx13, h0⟩ := bnd h0; (iterate 3 ((try simp only [go_sem, -Nat.reduceAdd]); try simp only [Nat.reduceAdd])); (refine xcallD_A2 5 73 (RenML.cons (RenM.ref 0 0 _ _) (RenML.cons rv (RenML.cons (RenM.ref 1 0 _ _) RenML.nil))) (RenM.ref 2 0 _ _) (c_PathWanted _) (c_PathWanted _) (c_PathWanted _) (slices_Insert_api_PathWanted_api_PathWanted_io x8.1 x5.2 [{ PathWanted.z with Dest := a1, Due := IntKind.wrap .i64 (a2 + 100000), Tries := 1 }] bx13) (by first | rfl | (simp only [upd_get, Nat.reduceEqDiff, reduceIte, if_true, if_false, List.map_append, List.map_cons, List.map_nil, List.cons_append, List.nil_append] <;> rfl)) (by first | rfl | (simp only [upd_get, Nat.reduceEqDiff, reduceIte, if_true, if_false, List.map_append, List.map_cons, List.map_nil, List.cons_append, List.nil_append] <;> rfl)) (by first | rfl | (simp only [go_sem] <;> rfl) | (simp only [go_sem, List.length_append] <;> rfl)) (fun a b h => by simp only [h]) (fun a b h h1 => by simp only [h, h1]) (by decide) (by decide) (by decide) ?_; try dsimp only); (try refine xd_id ?_); (iterate 3 ((try simp only [go_sem, -Nat.reduceAdd, lc, ln]); try simp only [Nat.reduceAdd])); refine And.intro ?_ (u _ (path_Find_S1 a1 a0 a2 x5 x13) (by refine Wk.canonD [] [] [some 1, some 2, some 3, some 4, some 74] rfl trivial rfl (tmOU 4 (tmOU 3 (tmOU 2 (tmOU 1 (tmOU 0 tmO0 rfl qM rfl (TmL.clean (e_A6vu_clean _))) rfl qM rfl (e_Paths_tmx (by rfl) tv tv)) rfl qM rfl (e_Path_node_tmx (by rfl) tr tr tv)) rfl qM rfl (TmL.of_eq qL (c_PathRoute _))) rfl qM rfl (TmL.of_eq qL (c_PathWanted _))) (tA 9 (tA 6 (tA 4 tmAll0 tp) tp) tp); all_goals exact qN) ?_)
        ·
         subst hall; clear u U; exact qP
        ·
         clear u U hall all; unfold path_Find_S1; refine awp_nw [4,6,9] fun tz U u => ?_; obtain ⟨x14, bx14, h0⟩ := bnd h0; (try simp only [go_sem]); (refine xcall_O [2, 3, 4] (path_node_ask_io a1 { Path_node.z with Paths := { a0 with Routes := x5.1, Wanted := x13 }, now := a2, out := [] } bx14) (by decide) (by decide) ⟨(by first | rfl | (simp only [go_sem] <;> rfl) | (simp only [go_sem, List.length_append] <;> rfl)), (by first | rfl | (simp only [go_sem] <;> rfl) | (simp only [go_sem, List.length_append] <;> rfl)), (by first | rfl | (simp only [go_sem] <;> rfl) | (simp only [go_sem, List.length_append] <;> rfl)), trivial⟩ (by first | rfl | (simp only [go_sem] <;> rfl) | (simp only [go_sem, List.length_append] <;> rfl)) ?_; try dsimp only); (try refine xw_id ?_); (try simp only [go_sem, lc, ln]); refine qU u ?_; clear u U; refine awp_nr [6,9] (fun _ => rfl) fun tz => ?_; refine awp_regDW fun U u all hall => ?_; refine xd_id ?_; (try simp only [List.toList_toArray, List.map_cons, List.map_nil, List.size_toArray, List.length_cons, List.length_nil, Nat.zero_add]); (try simp only [Nat.reduceAdd]); (iterate 3 ((try simp only [go_sem, -Nat.reduceAdd]); try simp only [Nat.reduceAdd])); refine And.intro ?_ (u _ _ (Wk.refl _ _ _) ?_)
         ·
          subst hall; clear u U; exact qP
         ·
          clear u U hall all; refine awp_ret1 ?_; obtain rfl := someInj h0; refine endW_i ?_; refine end_ret0 rs6 qR ?_; refine Res.mk [] [some 3, some 4, some 8] rfl (resOU qM rfl (TmL.of_eq qL (c_PathRoute _)) (resOU qM rfl (TmL.of_eq qL (c_PathWanted _)) (resOU qM rfl (TmL.of_eq qL (c_Sent _)) resO0))) (Tm.tup (tc (Tm.agg (e_Paths_tmx (by rfl) tr tr)) (tc tr (tc tv tn)))); (all_goals exact qN)
 ·
  have h0 := cF h0 h1; obtain ⟨x15, bx15, h0⟩ := bnd h0; (try simp only [go_sem]); (refine xcall_O [] (path_begun_2_io a0 a2 bx15) (by decide) (by decide) trivial (by first | rfl | (simp only [go_sem] <;> rfl) | (simp only [go_sem, List.length_append] <;> rfl)) ?_; try dsimp only); (try refine xw_id ?_); (try simp only [go_sem, lc, ln]); refine u _ (path_Find_S2 a0 a1 a2 x15) (Wk.canonD [] [] [some 0, some 1, some 2] rfl trivial rfl (tmOU 2 (tmOU 1 (tmOU 0 tmO0 rfl qM rfl (e_Paths_tmx (by rfl) (tI (c_PathRoute _)) (tI (c_PathWanted _)))) rfl qM rfl (TmL.clean (e_A6vu_clean _))) rfl qM rfl (e_Paths_tmx (by rfl) tv tv)) (tA 10 (tA 9 (tA 6 (tA 4 (tA 3 (tA 2 tmAll0 tv) tp) tp) tp) tv) tv)) ?_; clear u U; unfold path_Find_S2; refine awp_assoc ?_; refine awp_nw [2,3,4,6,9,10] fun tz U u => ?_; (try simp only [go_sem]); refine qU u ?_; clear u U; refine awp_cond (b := (x15 != 0)) rfl (fun h9 => ?_) (fun h9 => ?_)
  ·
   have h0 := cT h0 h9; refine awp_assoc ?_; refine awp_nw [6,10] fun tz U u => ?_; (try simp only [go_sem]); refine qU u ?_; clear u U; refine awp_ret ?_; obtain rfl := someInj h0; refine endW_i ?_; refine end_ret0 rs6 qR ?_; refine Res.mk [] [none, none, none] rfl (resON (resON (resON resO0))) (Tm.tup (tc (Tm.agg (e_Paths_tmx (by rfl) tT tT)) (tc tT (tc tv tn))))
  ·
   have h0 := cF h0 h9; refine awp_skip ?_; refine awp_assoc ?_; refine awp_nw [2,3,4,6,9] fun tz U u => ?_; refine xw_stop 5 qS qS (by rfl) fun V v => ?_; refine xw_id ?_; (try simp only [go_sem]); refine v _ ?_; clear v V; obtain ⟨x17, hvh10, h0⟩ := bnd h0; refine xw_cut 3 [(2, (vi a2)), (4, (.ptr 1 0)), (6, (.ptr 2 0)), (9, (.v (.pointer none))), (32, (vb x17))] qS qS (by rfl) (fun V v => ?_) fun tz => ?_
   ·
    refine xw_id ?_; rcases bE (decide (a1 = a0.Own)) with h10 | h10
    ·
     have hvh10 := cT hvh10 h10; (try simp only [go_sem, h10]); obtain rfl := someInj hvh10; exact v _ ⟨rfl, rfl, rfl, rfl, rfl, (qB h10), trivial⟩
    ·
     have hvh10 := cF hvh10 h10; obtain ⟨x16, bx16, hvh10⟩ := bnd hvh10; (try simp only [go_sem, h10]); (refine xcall_p (path_group_p a1 bx16) ?_; try dsimp only); (try refine xw_id ?_); (try simp only [go_sem, h10]); obtain rfl := someInj hvh10; exact v _ ⟨rfl, rfl, rfl, rfl, rfl, (qB h10), trivial⟩
   ·
    refine xw_id ?_; (try simp only [go_sem]); refine qU u ?_; clear u U; refine awp_cond (b := x17) rfl (fun h11 => ?_) (fun h11 => ?_)
    ·
     have h0 := cT h0 h11; refine awp_assoc ?_; refine awp_nw [6] fun tz U u => ?_; (try simp only [go_sem]); refine qU u ?_; clear u U; refine awp_ret ?_; obtain rfl := someInj h0; refine endW_i ?_; refine end_ret0 rs6 qR ?_; refine Res.mk [] [none, none, none] rfl (resON (resON (resON resO0))) (Tm.tup (tc (Tm.agg (e_Paths_tmx (by rfl) tT tT)) (tc tT (tc tv tn))))
    ·
     have h0 := cF h0 h11; refine awp_skip ?_; refine awp_nw [2,4,6,9] fun tz U u => ?_; cases h0

theorem path_Find_m (a0 : Paths) (a1 : A6vu) (a2 : Int) {r : (Paths × (List Sent) × Int)} (h0 : path_Find a0 a1 a2 = some r) : SndM K 6 [(.agg (E_Paths a0)), (.agg (e_A6vu a1)), (vi a2)] (fun q => (.tup [(.agg (e_Paths r.1 (.ref (q 0) 0 r.1.Routes.length 17) (.ref (q 1) 0 r.1.Wanted.length 8))), (.ref (q 2) 0 r.2.1.length 7), (vi r.2.2)])) [(List.flatMap e_PathRoute r.1.Routes), (List.flatMap e_PathWanted r.1.Wanted), (List.flatMap E_Sent r.2.1)] :=
 fun hs => Snd.of_newM (RenM.tup (RenML.cons (RenM.agg (e_Paths_ren _ (RenM.ref 0 0 _ _) (RenM.ref 1 0 _ _))) (RenML.cons (RenM.ref 2 0 _ _) (RenML.cons rv RenML.nil)))) (rows_all_cons (c_PathRoute _) (rows_all_cons (c_PathWanted _) (rows_all_cons (c_Sent _) rows_all_nil))) (clean_cons (Clean.agg (E_Paths_clean _)) (clean_cons (Clean.agg (e_A6vu_clean _)) (clean_cons cv clean_nil))) (path_Find_r a0 a1 a2 h0) hs
def hotspotref23_Smaller_S0 (d22 : Unit) : AS :=
 { objs := (fun _ => .dead), next := 0, tmps := (fun _ => .unk) }

def hotspotref23_Smaller_S1 (a0 : A6vu) (a1 : A6vu) (d24 : Int) : AS :=
 { objs := (upd (upd (fun _ => .dead) 0 (.live (e_A6vu a0))) 1 (.live (e_A6vu a1))), next := 2, tmps := (upd (upd (upd (fun _ => .unk) 2 (.ptr 0 0)) 3 (.ptr 1 0)) 5 (vi d24)) }

theorem hotspotref23_Smaller_p (a0 : A6vu) (a1 : A6vu) {r : Bool} (h0 : hotspotref23_Smaller a0 a1 = some r) : SndP K 29 [(.agg (e_A6vu a0)), (.agg (e_A6vu a1))] (vb r) := by
 refine SndP.of_walkW hC cv (clean_cons (Clean.agg (e_A6vu_clean _)) (clean_cons (Clean.agg (e_A6vu_clean _)) clean_nil)) (show K.P.funcs[29]? = some Tryd.f29 from Tryd.func29) rfl rfl (by decide +kernel) (qB2 rfl) ?_; unfold hotspotref23_Smaller at h0; refine awp_nw [0,1] fun tz U u => ?_; (try simp only [go_sem]); refine qU u ?_; clear u U; refine awp_assoc ?_; refine awp_nw [2,3] fun tz U u => ?_; (try simp only [go_sem]); refine qU u ?_; clear u U; obtain ⟨o23, hi1, h0⟩ := bnd h0; refine awp_cut (fun d22 : Unit => o23 = Ex.go d22) (fun d22 : Unit => hotspotref23_Smaller_S0 d22) ?_ ?_
 ·
  refine awp_block1 ?_; refine awp_loopS (fun n (d24 : Int) => hotspotref23_Smaller_L2 a0 a1 n d24 = some o23) (fun d24 : Int => hotspotref23_Smaller_S1 a0 a1 d24) big 0 (Wk.canonD [] [] [some 0, some 1] rfl trivial rfl (tmOU 1 (tmOU 0 tmO0 rfl qM rfl (TmL.clean (e_A6vu_clean _))) rfl qM rfl (TmL.clean (e_A6vu_clean _))) (tA 5 (tA 3 (tA 2 tmAll0 tp) tp) tv)) hi1 ?_; clear hi1; rintro n d24 hl3; rcases n with _ | n2
  ·
   (rw [hotspotref23_Smaller_L2] at hl3; cases hl3)
  ·
   rw [hotspotref23_Smaller_L2] at hl3; unfold hotspotref23_Smaller_S1; refine awp_assoc ?_; refine awp_nw [2,3,5] fun tz U u => ?_; (try simp only [go_sem]); refine qU u ?_; clear u U; refine awp_cond (b := (decide (d24 < 6))) rfl (fun h4 => ?_) (fun h4 => ?_)
   ·
    have hl3 := cT hl3 h4; refine awp_skip ?_; refine awp_blockW ?_; refine awp_nw [2,3,5] fun tz U u => ?_; obtain ⟨x25, bx25, hl3⟩ := bnd hl3; obtain ⟨fx25_0, fx25_1, fx25_2, fx25_3⟩ := idxA_some bx25; (have fx25_6 : (e_A6vu a0)[(d24).toNat]? = some (vu x25) := by show (List.map vu [a0.a0, a0.a1, a0.a2, a0.a3, a0.a4, a0.a5])[(d24).toNat]? = _; rw [List.getElem?_map, fx25_2]; rfl); obtain ⟨x26, bx26, hl3⟩ := bnd hl3; obtain ⟨fx26_0, fx26_1, fx26_2, fx26_3⟩ := idxA_some bx26; (have fx26_6 : (e_A6vu a1)[(d24).toNat]? = some (vu x26) := by show (List.map vu [a1.a0, a1.a1, a1.a2, a1.a3, a1.a4, a1.a5])[(d24).toNat]? = _; rw [List.getElem?_map, fx26_2]; rfl); (try simp only [go_sem, fx25_0, fx25_1, fx25_6, fx26_0, fx26_1, fx26_6]); refine qU u ?_; clear u U; refine awp_cond1 (b := (x25 != x26)) rfl (fun h5 => ?_) (fun h5 => ?_)
    ·
     have hl3 := cT hl3 h5; refine awp_nw [2,3,5] fun tz U u => ?_; (try simp only [go_sem, fx25_0, fx25_1, fx25_6, fx26_0, fx26_1, fx26_6]); refine qU u ?_; clear u U; refine awp_ret1 ?_; refine bq_r ?_; refine sq_r ?_; refine lq_r ?_; refine bq_r ?_; refine sq_r ?_; obtain rfl := someInj hl3; obtain rfl := Ex.k_ret h0; refine endW_i ?_; refine end_ret0 rs29 (rfl) ?_; exact qF
    ·
     have hl3 := cF hl3 h5; refine awp_skip1 ?_; refine bq_n ?_; refine seqW_i ?_; refine awp_nw1 [2,3,5] fun tz U u => ?_; (try simp only [go_sem, fx25_0, fx25_1, fx25_6, fx26_0, fx26_1, fx26_6]); refine u _ ?_; clear u U; refine lq_n ?_; exact ⟨n2, IntKind.wrap .i64 (d24 + 1), rfl, hl3, (Wk.canonD [] [] [some 0, some 1] rfl trivial rfl (tmOU 1 (tmOU 0 tmO0 rfl qM rfl (TmL.clean (e_A6vu_clean _))) rfl qM rfl (TmL.clean (e_A6vu_clean _))) (tA 5 (tA 3 (tA 2 tmAll0 tp) tp) tv))⟩
   ·
    have hl3 := cF hl3 h4; refine awp_exit ?_; refine lq_e ?_; refine bq_e ?_; refine sq_n ?_; obtain rfl := someInj hl3; exact ⟨_, rfl, (Wk.canonD [] [] [] rfl trivial rfl tmO0 tmAll0)⟩
 ·
  rintro d22 rfl; have h0 := Ex.k_go h0; clear hi1; unfold hotspotref23_Smaller_S0; refine awp_nw [] fun tz U u => ?_; (try simp only [go_sem]); refine qU u ?_; clear u U; refine awp_ret1 ?_; obtain rfl := someInj h0; refine endW_i ?_; refine end_ret0 rs29 (rfl) ?_; exact qF
def hotspotref39_Check_S0 (a0 : Paths) (d19 : Unit) : AS :=
 { objs := (upd (fun _ => .dead) 0 (.live (e_Paths a0 (.imm (List.flatMap e_PathRoute a0.Routes) a0.Routes.length) (.imm (List.flatMap e_PathWanted a0.Wanted) a0.Wanted.length)))), next := 1, tmps := (upd (fun _ => .unk) 1 (.ptr 0 0)) }

def hotspotref39_Check_S1 (a0 : Paths) (d21 : Int) : AS :=
 { objs := (upd (fun _ => .dead) 0 (.live (e_Paths a0 (.imm (List.flatMap e_PathRoute a0.Routes) a0.Routes.length) (.imm (List.flatMap e_PathWanted a0.Wanted) a0.Wanted.length)))), next := 1, tmps := (upd (upd (fun _ => .unk) 1 (.ptr 0 0)) 3 (vi d21)) }

def hotspotref39_Check_S3 (d27 : Unit) : AS :=
 { objs := (fun _ => .dead), next := 0, tmps := (fun _ => .unk) }

def hotspotref39_Check_S4 (a0 : Paths) (d29 : Int) : AS :=
 { objs := (upd (fun _ => .dead) 0 (.live (e_Paths a0 (.imm (List.flatMap e_PathRoute a0.Routes) a0.Routes.length) (.imm (List.flatMap e_PathWanted a0.Wanted) a0.Wanted.length)))), next := 1, tmps := (upd (upd (fun _ => .unk) 1 (.ptr 0 0)) 5 (vi d29)) }

theorem hotspotref39_Check_p (a0 : Paths) {r : Int} (h0 : hotspotref39_Check a0 = some r) : SndP K 18 [(.agg (E_Paths a0))] (vi r) := by
 refine SndP.of_walkW hC cv (clean_cons (Clean.agg (E_Paths_clean _)) clean_nil) (show K.P.funcs[18]? = some Tryd.f18 from Tryd.func18) rfl rfl (by decide +kernel) (qB2 rfl) ?_; unfold hotspotref39_Check at h0; refine awp_nw [0] fun tz U u => ?_; (try simp only [go_sem]); refine qU u ?_; clear u U; refine awp_assoc ?_; refine awp_nw [1] fun tz U u => ?_; refine xw_stop 4 qS qS (by rfl) fun V v => ?_; refine xw_id ?_; (try simp only [go_sem]); refine v _ ?_; clear v V; refine xw_cut 4 [(1, (.ptr 0 0)), (14, (vb ((decide (a0.Seq < 0)) || (decide (2147483647 < a0.Seq)))))] qS qS (by rfl) (fun V v => ?_) fun tz => ?_
 ·
  refine xw_id ?_; rcases bE (decide (a0.Seq < 0)) with h1 | h1
  ·
   (try simp only [go_sem, h1]); exact v _ ⟨rfl, rfl, (qB h1), trivial⟩
  ·
   (try simp only [go_sem, h1]); exact v _ ⟨rfl, rfl, (qB h1), trivial⟩
 ·
  refine xw_id ?_; refine xw_stop 1 qS qS (by rfl) fun V v => ?_; refine xw_id ?_; (try simp only [go_sem]); refine v _ ?_; clear v V; refine xw_cut 5 [(1, (.ptr 0 0)), (20, (vb (((decide (a0.Seq < 0)) || (decide (2147483647 < a0.Seq))) || (decide (32 < (a0.Routes.length : Int))))))] qS qS (by rfl) (fun V v => ?_) fun tz => ?_
  ·
   refine xw_id ?_; rcases bE ((decide (a0.Seq < 0)) || (decide (2147483647 < a0.Seq))) with h2 | h2
   ·
    (try simp only [go_sem, h2]); exact v _ ⟨rfl, rfl, (qB h2), trivial⟩
   ·
    (try simp only [go_sem, h2]); exact v _ ⟨rfl, rfl, (qB h2), trivial⟩
  ·
   refine xw_id ?_; refine xw_stop 1 qS qS (by rfl) fun V v => ?_; refine xw_id ?_; (try simp only [go_sem]); refine v _ ?_; clear v V; refine xw_cut 5 [(1, (.ptr 0 0)), (26, (vb ((((decide (a0.Seq < 0)) || (decide (2147483647 < a0.Seq))) || (decide (32 < (a0.Routes.length : Int)))) || (decide (32 < (a0.Wanted.length : Int))))))] qS qS (by rfl) (fun V v => ?_) fun tz => ?_
   ·
    refine xw_id ?_; rcases bE (((decide (a0.Seq < 0)) || (decide (2147483647 < a0.Seq))) || (decide (32 < (a0.Routes.length : Int)))) with h3 | h3
    ·
     (try simp only [go_sem, h3]); exact v _ ⟨rfl, rfl, (qB h3), trivial⟩
    ·
     (try simp only [go_sem, h3]); exact v _ ⟨rfl, rfl, (qB h3), trivial⟩
   ·
    refine xw_id ?_; (try simp only [go_sem]); refine qU u ?_; clear u U; refine awp_cond (b := ((((decide (a0.Seq < 0)) || (decide (2147483647 < a0.Seq))) || (decide (32 < (a0.Routes.length : Int)))) || (decide (32 < (a0.Wanted.length : Int))))) rfl (fun h4 => ?_) (fun h4 => ?_)
    ·
     have h0 := cT h0 h4; refine awp_assoc ?_; refine awp_nw [] fun tz U u => ?_; (try simp only [go_sem]); refine qU u ?_; clear u U; refine awp_ret ?_; obtain rfl := someInj h0; refine endW_i ?_; refine end_ret0 rs18 (rfl) ?_; exact qF
    ·
     have h0 := cF h0 h4; refine awp_skip ?_; refine awp_assoc ?_; refine awp_nw [1] fun tz U u => ?_; (try simp only [go_sem]); refine qU u ?_; clear u U; obtain ⟨o20, hi5, h0⟩ := bnd h0; refine awp_cut (fun d19 : Unit => o20 = Ex.go d19) (fun d19 : Unit => hotspotref39_Check_S0 a0 d19) ?_ ?_
     ·
      refine awp_block1 ?_; refine awp_loopS (fun n (d21 : Int) => hotspotref39_Check_L2 a0 n d21 = some o20) (fun d21 : Int => hotspotref39_Check_S1 a0 d21) big 0 (Wk.canonD [] [] [some 0] rfl trivial rfl (tmOU 0 tmO0 rfl qM rfl (e_Paths_tmx (by rfl) (tI (c_PathRoute _)) (tI (c_PathWanted _)))) (tA 3 (tA 1 tmAll0 tp) tv)) hi5 ?_; clear hi5; rintro n d21 hl7; rcases n with _ | n6
      ·
       (rw [hotspotref39_Check_L2] at hl7; cases hl7)
      ·
       rw [hotspotref39_Check_L2] at hl7; unfold hotspotref39_Check_S1; refine awp_assoc ?_; refine awp_nw [1,3] fun tz U u => ?_; (try simp only [go_sem]); refine qU u ?_; clear u U; refine awp_cond (b := (decide (d21 < (a0.Routes.length : Int)))) rfl (fun h8 => ?_) (fun h8 => ?_)
       ·
        have hl7 := cT hl7 h8; refine awp_skip ?_; refine awp_blockW ?_; refine awp_nw [1,3] fun tz U u => ?_; obtain ⟨x22, bx22, hl7⟩ := bnd hl7; obtain ⟨fx22_0, fx22_1, fx22_2, fx22_3⟩ := idx_some bx22; (try simp only [go_sem, fx22_0, fx22_1, fx22_2]); refine qU u ?_; clear u U; refine awp_assoc ?_; refine awp_nw [1,3,4] fun tz U u => ?_; (try simp only [List.append_eq, Array.toList_append, List.append_toArray, List.toList_toArray, List.cons_append, List.nil_append]); refine xw_stop 6 qS qS (by rfl) fun V v => ?_; refine xw_id ?_; (try simp only [go_sem, fx22_0, fx22_1, fx22_2]); refine v _ ?_; clear v V; refine xw_cut 4 [(1, (.ptr 0 0)), (3, (vi d21)), (4, (.ptr 11 0)), (48, (vb ((decide (x22.Dest = a0.Own)) || (decide (x22.Seq < 1)))))] qS qS (by rfl) (fun V v => ?_) fun tz => ?_
        ·
         refine xw_id ?_; rcases bE (decide (x22.Dest = a0.Own)) with h9 | h9
         ·
          (try simp only [go_sem, fx22_0, fx22_1, fx22_2, h9]); exact v _ ⟨rfl, rfl, rfl, rfl, (qB h9), trivial⟩
         ·
          (try simp only [go_sem, fx22_0, fx22_1, fx22_2, h9]); exact v _ ⟨rfl, rfl, rfl, rfl, (qB h9), trivial⟩
        ·
         refine xw_id ?_; refine xw_stop 1 qS qS (by rfl) fun V v => ?_; refine xw_id ?_; (try simp only [go_sem, fx22_0, fx22_1, fx22_2]); refine v _ ?_; clear v V; refine xw_cut 4 [(1, (.ptr 0 0)), (3, (vi d21)), (4, (.ptr 11 0)), (53, (vb (((decide (x22.Dest = a0.Own)) || (decide (x22.Seq < 1))) || (decide (2147483647 < x22.Seq)))))] qS qS (by rfl) (fun V v => ?_) fun tz => ?_
         ·
          refine xw_id ?_; rcases bE ((decide (x22.Dest = a0.Own)) || (decide (x22.Seq < 1))) with h10 | h10
          ·
           (try simp only [go_sem, fx22_0, fx22_1, fx22_2, h10]); exact v _ ⟨rfl, rfl, rfl, rfl, (qB h10), trivial⟩
          ·
           (try simp only [go_sem, fx22_0, fx22_1, fx22_2, h10]); exact v _ ⟨rfl, rfl, rfl, rfl, (qB h10), trivial⟩
         ·
          refine xw_id ?_; refine xw_stop 1 qS qS (by rfl) fun V v => ?_; refine xw_id ?_; (try simp only [go_sem, fx22_0, fx22_1, fx22_2]); refine v _ ?_; clear v V; obtain ⟨x26, hvh11, hl7⟩ := bnd hl7; refine xw_cut 16 [(1, (.ptr 0 0)), (3, (vi d21)), (4, (.ptr 11 0)), (70, (vb x26))] qS qS (by rfl) (fun V v => ?_) fun tz => ?_
          ·
           refine xw_id ?_; rcases bE (((decide (x22.Dest = a0.Own)) || (decide (x22.Seq < 1))) || (decide (2147483647 < x22.Seq))) with h11 | h11
           ·
            have hvh11 := cT hvh11 h11; (try simp only [go_sem, fx22_0, fx22_1, fx22_2, h11]); obtain rfl := someInj hvh11; exact v _ ⟨rfl, rfl, rfl, rfl, (qB h11), trivial⟩
           ·
            have hvh11 := cF hvh11 h11; refine xw_stop 3 qS qS (by rfl) fun V v => ?_; refine xw_id ?_; (try simp only [go_sem, fx22_0, fx22_1, fx22_2, h11]); refine v _ ?_; clear v V; obtain ⟨x25, hvh12, hvh11⟩ := bnd hvh11; refine xw_cut 12 [(1, (.ptr 0 0)), (3, (vi d21)), (4, (.ptr 11 0)), (54, (vb false)), (69, (vb x25))] qS qS (by rfl) (fun V v => ?_) fun tz => ?_
            ·
             refine xw_id ?_; rcases bE (decide (0 < d21)) with h12 | h12
             ·
              have hvh12 := cT hvh12 h12; obtain ⟨x23, bx23, hvh12⟩ := bnd hvh12; obtain ⟨fx23_0, fx23_1, fx23_2, fx23_3⟩ := idx_some bx23; obtain ⟨x24, bx24, hvh12⟩ := bnd hvh12; (try simp only [go_sem, fx22_0, fx22_1, fx22_2, h11, h12, fx23_0, fx23_1, fx23_2]); (refine xcall_p (hotspotref23_Smaller_p x23.Dest x22.Dest bx24) ?_; try dsimp only); (try refine xw_id ?_); (try simp only [go_sem, fx22_0, fx22_1, fx22_2, h11, h12, fx23_0, fx23_1, fx23_2]); obtain rfl := someInj hvh12; exact v _ ⟨rfl, rfl, rfl, rfl, rfl, (qB h12), trivial⟩
             ·
              have hvh12 := cF hvh12 h12; (try simp only [go_sem, fx22_0, fx22_1, fx22_2, h11, h12]); obtain rfl := someInj hvh12; exact v _ ⟨rfl, rfl, rfl, rfl, rfl, (qB h12), trivial⟩
            ·
             refine xw_id ?_; (try simp only [go_sem, fx22_0, fx22_1, fx22_2, h11]); obtain rfl := someInj hvh11; exact v _ ⟨rfl, rfl, rfl, rfl, (qB h11), trivial⟩
          ·
           refine xw_id ?_; (try simp only [go_sem, fx22_0, fx22_1, fx22_2]); refine qU u ?_; clear u U; refine awp_cond (b := x26) rfl (fun h13 => ?_) (fun h13 => ?_)
           ·
            have hl7 := cT hl7 h13; refine awp_assoc ?_; refine awp_nw [] fun tz U u => ?_; (try simp only [go_sem, fx22_0, fx22_1, fx22_2]); refine qU u ?_; clear u U; refine awp_ret ?_; refine bq_r ?_; refine sq_r ?_; refine lq_r ?_; refine bq_r ?_; refine sq_r ?_; obtain rfl := someInj hl7; obtain rfl := Ex.k_ret h0; refine endW_i ?_; refine end_ret0 rs18 (rfl) ?_; exact qF
           ·
            have hl7 := cF hl7 h13; refine awp_skip ?_; refine awp_assoc ?_; refine awp_nw [1,3,4] fun tz U u => ?_; refine xw_stop 4 qS qS (by rfl) fun V v => ?_; refine xw_id ?_; (try simp only [go_sem, fx22_0, fx22_1, fx22_2]); refine v _ ?_; clear v V; refine xw_cut 20 [(1, (.ptr 0 0)), (3, (vi d21)), (4, (.ptr 11 0)), (94, (vb ((!x22.Valid) && ((((!decide (x22.Next = A6vu.z)) || (x22.Hops != 0)) || (x22.Cost != 0)) || (x22.Until != 0)))))] qS qS (by rfl) (fun V v => ?_) fun tz => ?_
            ·
             refine xw_id ?_; rcases bE (!x22.Valid) with h14 | h14
             ·
              refine xw_stop 5 qS qS (by rfl) fun V v => ?_; refine xw_id ?_; (try simp only [go_sem, fx22_0, fx22_1, fx22_2, h14]); refine v _ ?_; clear v V; refine xw_cut 4 [(1, (.ptr 0 0)), (3, (vi d21)), (4, (.ptr 11 0)), (74, (vb true)), (83, (vb ((!decide (x22.Next = A6vu.z)) || (x22.Hops != 0))))] qS qS (by rfl) (fun V v => ?_) fun tz => ?_
              ·
               refine xw_id ?_; rcases bE (!decide (x22.Next = A6vu.z)) with h15 | h15
               ·
                (try simp only [go_sem, fx22_0, fx22_1, fx22_2, h14, h15]); exact v _ ⟨rfl, rfl, rfl, rfl, rfl, (qB h15), trivial⟩
               ·
                (try simp only [go_sem, fx22_0, fx22_1, fx22_2, h14, h15]); exact v _ ⟨rfl, rfl, rfl, rfl, rfl, (qB h15), trivial⟩
              ·
               refine xw_id ?_; refine xw_stop 1 qS qS (by rfl) fun V v => ?_; refine xw_id ?_; (try simp only [go_sem, fx22_0, fx22_1, fx22_2, h14]); refine v _ ?_; clear v V; refine xw_cut 4 [(1, (.ptr 0 0)), (3, (vi d21)), (4, (.ptr 11 0)), (74, (vb true)), (88, (vb (((!decide (x22.Next = A6vu.z)) || (x22.Hops != 0)) || (x22.Cost != 0))))] qS qS (by rfl) (fun V v => ?_) fun tz => ?_
               ·
                refine xw_id ?_; rcases bE ((!decide (x22.Next = A6vu.z)) || (x22.Hops != 0)) with h16 | h16
                ·
                 (try simp only [go_sem, fx22_0, fx22_1, fx22_2, h14, h16]); exact v _ ⟨rfl, rfl, rfl, rfl, rfl, (qB h16), trivial⟩
                ·
                 (try simp only [go_sem, fx22_0, fx22_1, fx22_2, h14, h16]); exact v _ ⟨rfl, rfl, rfl, rfl, rfl, (qB h16), trivial⟩
               ·
                refine xw_id ?_; refine xw_stop 1 qS qS (by rfl) fun V v => ?_; refine xw_id ?_; (try simp only [go_sem, fx22_0, fx22_1, fx22_2, h14]); refine v _ ?_; clear v V; refine xw_cut 4 [(1, (.ptr 0 0)), (3, (vi d21)), (4, (.ptr 11 0)), (74, (vb true)), (93, (vb ((((!decide (x22.Next = A6vu.z)) || (x22.Hops != 0)) || (x22.Cost != 0)) || (x22.Until != 0))))] qS qS (by rfl) (fun V v => ?_) fun tz => ?_
                ·
                 refine xw_id ?_; rcases bE (((!decide (x22.Next = A6vu.z)) || (x22.Hops != 0)) || (x22.Cost != 0)) with h17 | h17
                 ·
                  (try simp only [go_sem, fx22_0, fx22_1, fx22_2, h14, h17]); exact v _ ⟨rfl, rfl, rfl, rfl, rfl, (qB h17), trivial⟩
                 ·
                  (try simp only [go_sem, fx22_0, fx22_1, fx22_2, h14, h17]); exact v _ ⟨rfl, rfl, rfl, rfl, rfl, (qB h17), trivial⟩
                ·
                 refine xw_id ?_; (try simp only [go_sem, fx22_0, fx22_1, fx22_2, h14]); exact v _ ⟨rfl, rfl, rfl, rfl, (qB h14), trivial⟩
             ·
              (try simp only [go_sem, fx22_0, fx22_1, fx22_2, h14]); exact v _ ⟨rfl, rfl, rfl, rfl, (qB h14), trivial⟩
            ·
             refine xw_id ?_; (try simp only [go_sem, fx22_0, fx22_1, fx22_2]); refine qU u ?_; clear u U; refine awp_cond (b := ((!x22.Valid) && ((((!decide (x22.Next = A6vu.z)) || (x22.Hops != 0)) || (x22.Cost != 0)) || (x22.Until != 0)))) rfl (fun h18 => ?_) (fun h18 => ?_)
             ·
              have hl7 := cT hl7 h18; refine awp_assoc ?_; refine awp_nw [] fun tz U u => ?_; (try simp only [go_sem, fx22_0, fx22_1, fx22_2]); refine qU u ?_; clear u U; refine awp_ret ?_; refine bq_r ?_; refine sq_r ?_; refine lq_r ?_; refine bq_r ?_; refine sq_r ?_; obtain rfl := someInj hl7; obtain rfl := Ex.k_ret h0; refine endW_i ?_; refine end_ret0 rs18 (rfl) ?_; exact qF
             ·
              have hl7 := cF hl7 h18; refine awp_skip ?_; refine awp_nw [1,3,4] fun tz U u => ?_; (try simp only [List.append_eq, Array.toList_append, List.append_toArray, List.toList_toArray, List.cons_append, List.nil_append]); refine xw_stop 3 qS qS (by rfl) fun V v => ?_; refine xw_id ?_; (try simp only [go_sem, fx22_0, fx22_1, fx22_2]); refine v _ ?_; clear v V; refine xw_cut 36 [(1, (.ptr 0 0)), (3, (vi d21)), (133, (vb (x22.Valid && (((((((decide (x22.Next = a0.Own)) || (decide (x22.Hops < 1))) || (decide (16 < x22.Hops))) || (decide (x22.Cost < 1))) || (decide (1099511627776 < x22.Cost))) || (decide (x22.Until < 1))) || (decide (1099516627776 < x22.Until))))))] qS qS (by rfl) (fun V v => ?_) fun tz => ?_
              ·
               refine xw_id ?_; rcases bE x22.Valid with h19 | h19
               ·
                refine xw_stop 6 qS qS (by rfl) fun V v => ?_; refine xw_id ?_; (try simp only [go_sem, fx22_0, fx22_1, fx22_2, h19]); refine v _ ?_; clear v V; refine xw_cut 4 [(1, (.ptr 0 0)), (3, (vi d21)), (4, (.ptr 11 0)), (97, (vb true)), (107, (vb ((decide (x22.Next = a0.Own)) || (decide (x22.Hops < 1)))))] qS qS (by rfl) (fun V v => ?_) fun tz => ?_
                ·
                 refine xw_id ?_; rcases bE (decide (x22.Next = a0.Own)) with h20 | h20
                 ·
                  (try simp only [go_sem, fx22_0, fx22_1, fx22_2, h19, h20]); exact v _ ⟨rfl, rfl, rfl, rfl, rfl, (qB h20), trivial⟩
                 ·
                  (try simp only [go_sem, fx22_0, fx22_1, fx22_2, h19, h20]); exact v _ ⟨rfl, rfl, rfl, rfl, rfl, (qB h20), trivial⟩
                ·
                 refine xw_id ?_; refine xw_stop 1 qS qS (by rfl) fun V v => ?_; refine xw_id ?_; (try simp only [go_sem, fx22_0, fx22_1, fx22_2, h19]); refine v _ ?_; clear v V; refine xw_cut 4 [(1, (.ptr 0 0)), (3, (vi d21)), (4, (.ptr 11 0)), (97, (vb true)), (112, (vb (((decide (x22.Next = a0.Own)) || (decide (x22.Hops < 1))) || (decide (16 < x22.Hops)))))] qS qS (by rfl) (fun V v => ?_) fun tz => ?_
                 ·
                  refine xw_id ?_; rcases bE ((decide (x22.Next = a0.Own)) || (decide (x22.Hops < 1))) with h21 | h21
                  ·
                   (try simp only [go_sem, fx22_0, fx22_1, fx22_2, h19, h21]); exact v _ ⟨rfl, rfl, rfl, rfl, rfl, (qB h21), trivial⟩
                  ·
                   (try simp only [go_sem, fx22_0, fx22_1, fx22_2, h19, h21]); exact v _ ⟨rfl, rfl, rfl, rfl, rfl, (qB h21), trivial⟩
                 ·
                  refine xw_id ?_; refine xw_stop 1 qS qS (by rfl) fun V v => ?_; refine xw_id ?_; (try simp only [go_sem, fx22_0, fx22_1, fx22_2, h19]); refine v _ ?_; clear v V; refine xw_cut 4 [(1, (.ptr 0 0)), (3, (vi d21)), (4, (.ptr 11 0)), (97, (vb true)), (117, (vb ((((decide (x22.Next = a0.Own)) || (decide (x22.Hops < 1))) || (decide (16 < x22.Hops))) || (decide (x22.Cost < 1)))))] qS qS (by rfl) (fun V v => ?_) fun tz => ?_
                  ·
                   refine xw_id ?_; rcases bE (((decide (x22.Next = a0.Own)) || (decide (x22.Hops < 1))) || (decide (16 < x22.Hops))) with h22 | h22
                   ·
                    (try simp only [go_sem, fx22_0, fx22_1, fx22_2, h19, h22]); exact v _ ⟨rfl, rfl, rfl, rfl, rfl, (qB h22), trivial⟩
                   ·
                    (try simp only [go_sem, fx22_0, fx22_1, fx22_2, h19, h22]); exact v _ ⟨rfl, rfl, rfl, rfl, rfl, (qB h22), trivial⟩
                  ·
                   refine xw_id ?_; refine xw_stop 1 qS qS (by rfl) fun V v => ?_; refine xw_id ?_; (try simp only [go_sem, fx22_0, fx22_1, fx22_2, h19]); refine v _ ?_; clear v V; refine xw_cut 4 [(1, (.ptr 0 0)), (3, (vi d21)), (4, (.ptr 11 0)), (97, (vb true)), (122, (vb (((((decide (x22.Next = a0.Own)) || (decide (x22.Hops < 1))) || (decide (16 < x22.Hops))) || (decide (x22.Cost < 1))) || (decide (1099511627776 < x22.Cost)))))] qS qS (by rfl) (fun V v => ?_) fun tz => ?_
                   ·
                    refine xw_id ?_; rcases bE ((((decide (x22.Next = a0.Own)) || (decide (x22.Hops < 1))) || (decide (16 < x22.Hops))) || (decide (x22.Cost < 1))) with h23 | h23
                    ·
                     (try simp only [go_sem, fx22_0, fx22_1, fx22_2, h19, h23]); exact v _ ⟨rfl, rfl, rfl, rfl, rfl, (qB h23), trivial⟩
                    ·
                     (try simp only [go_sem, fx22_0, fx22_1, fx22_2, h19, h23]); exact v _ ⟨rfl, rfl, rfl, rfl, rfl, (qB h23), trivial⟩
                   ·
                    refine xw_id ?_; refine xw_stop 1 qS qS (by rfl) fun V v => ?_; refine xw_id ?_; (try simp only [go_sem, fx22_0, fx22_1, fx22_2, h19]); refine v _ ?_; clear v V; refine xw_cut 4 [(1, (.ptr 0 0)), (3, (vi d21)), (4, (.ptr 11 0)), (97, (vb true)), (127, (vb ((((((decide (x22.Next = a0.Own)) || (decide (x22.Hops < 1))) || (decide (16 < x22.Hops))) || (decide (x22.Cost < 1))) || (decide (1099511627776 < x22.Cost))) || (decide (x22.Until < 1)))))] qS qS (by rfl) (fun V v => ?_) fun tz => ?_
                    ·
                     refine xw_id ?_; rcases bE (((((decide (x22.Next = a0.Own)) || (decide (x22.Hops < 1))) || (decide (16 < x22.Hops))) || (decide (x22.Cost < 1))) || (decide (1099511627776 < x22.Cost))) with h24 | h24
                     ·
                      (try simp only [go_sem, fx22_0, fx22_1, fx22_2, h19, h24]); exact v _ ⟨rfl, rfl, rfl, rfl, rfl, (qB h24), trivial⟩
                     ·
                      (try simp only [go_sem, fx22_0, fx22_1, fx22_2, h19, h24]); exact v _ ⟨rfl, rfl, rfl, rfl, rfl, (qB h24), trivial⟩
                    ·
                     refine xw_id ?_; refine xw_stop 1 qS qS (by rfl) fun V v => ?_; refine xw_id ?_; (try simp only [go_sem, fx22_0, fx22_1, fx22_2, h19]); refine v _ ?_; clear v V; refine xw_cut 4 [(1, (.ptr 0 0)), (3, (vi d21)), (97, (vb true)), (132, (vb (((((((decide (x22.Next = a0.Own)) || (decide (x22.Hops < 1))) || (decide (16 < x22.Hops))) || (decide (x22.Cost < 1))) || (decide (1099511627776 < x22.Cost))) || (decide (x22.Until < 1))) || (decide (1099516627776 < x22.Until)))))] qS qS (by rfl) (fun V v => ?_) fun tz => ?_
                     ·
                      refine xw_id ?_; rcases bE ((((((decide (x22.Next = a0.Own)) || (decide (x22.Hops < 1))) || (decide (16 < x22.Hops))) || (decide (x22.Cost < 1))) || (decide (1099511627776 < x22.Cost))) || (decide (x22.Until < 1))) with h25 | h25
                      ·
                       (try simp only [go_sem, fx22_0, fx22_1, fx22_2, h19, h25]); exact v _ ⟨rfl, rfl, rfl, rfl, (qB h25), trivial⟩
                      ·
                       (try simp only [go_sem, fx22_0, fx22_1, fx22_2, h19, h25]); exact v _ ⟨rfl, rfl, rfl, rfl, (qB h25), trivial⟩
                     ·
                      refine xw_id ?_; (try simp only [go_sem, fx22_0, fx22_1, fx22_2, h19]); exact v _ ⟨(by first | rfl | (simp only [h19]; done)), rfl, rfl, (qB h19), trivial⟩
               ·
                (try simp only [go_sem, fx22_0, fx22_1, fx22_2, h19]); exact v _ ⟨(by first | rfl | (simp only [h19]; done)), rfl, rfl, (qB h19), trivial⟩
              ·
               refine xw_id ?_; (try simp only [go_sem, fx22_0, fx22_1, fx22_2]); refine qU u ?_; clear u U; refine awp_cond1 (b := (x22.Valid && (((((((decide (x22.Next = a0.Own)) || (decide (x22.Hops < 1))) || (decide (16 < x22.Hops))) || (decide (x22.Cost < 1))) || (decide (1099511627776 < x22.Cost))) || (decide (x22.Until < 1))) || (decide (1099516627776 < x22.Until))))) rfl (fun h26 => ?_) (fun h26 => ?_)
               ·
                have hl7 := cT hl7 h26; refine awp_nw [] fun tz U u => ?_; (try simp only [go_sem, fx22_0, fx22_1, fx22_2]); refine qU u ?_; clear u U; refine awp_ret1 ?_; refine bq_r ?_; refine sq_r ?_; refine lq_r ?_; refine bq_r ?_; refine sq_r ?_; obtain rfl := someInj hl7; obtain rfl := Ex.k_ret h0; refine endW_i ?_; refine end_ret0 rs18 (rfl) ?_; exact qF
               ·
                have hl7 := cF hl7 h26; refine awp_skip1 ?_; refine bq_n ?_; refine seqW_i ?_; refine awp_nw1 [1,3] fun tz U u => ?_; (try simp only [go_sem, fx22_0, fx22_1, fx22_2]); refine u _ ?_; clear u U; refine lq_n ?_; exact ⟨n6, IntKind.wrap .i64 (d21 + 1), rfl, hl7, (Wk.canonD [] [] [some 0] rfl trivial rfl (tmOU 0 tmO0 rfl qM rfl (e_Paths_tmx (by rfl) (tI (c_PathRoute _)) (tI (c_PathWanted _)))) (tA 3 (tA 1 tmAll0 tp) tv))⟩
       ·
        have hl7 := cF hl7 h8; refine awp_exit ?_; refine lq_e ?_; refine bq_e ?_; refine sq_n ?_; obtain rfl := someInj hl7; exact ⟨_, rfl, (Wk.canonD [] [] [some 0] rfl trivial rfl (tmOU 0 tmO0 rfl qM rfl (e_Paths_tmx (by rfl) (tI (c_PathRoute _)) (tI (c_PathWanted _)))) (tA 1 tmAll0 tp))⟩
     ·
      rintro d19 rfl; have h0 := Ex.k_go h0; clear hi5; unfold hotspotref39_Check_S0; refine awp_assoc ?_; refine awp_nw [1] fun tz U u => ?_; (try simp only [go_sem]); refine qU u ?_; clear u U; obtain ⟨o28, hi27, h0⟩ := bnd h0; refine awp_cut (fun d27 : Unit => o28 = Ex.go d27) (fun d27 : Unit => hotspotref39_Check_S3 d27) ?_ ?_
      ·
       refine awp_block1 ?_; refine awp_loopS (fun n (d29 : Int) => hotspotref39_Check_L5 a0 n d29 = some o28) (fun d29 : Int => hotspotref39_Check_S4 a0 d29) big 0 (Wk.canonD [] [] [some 0] rfl trivial rfl (tmOU 0 tmO0 rfl qM rfl (e_Paths_tmx (by rfl) (tI (c_PathRoute _)) (tI (c_PathWanted _)))) (tA 5 (tA 1 tmAll0 tp) tv)) hi27 ?_; clear hi27; rintro n d29 hl29; rcases n with _ | n28
       ·
        (rw [hotspotref39_Check_L5] at hl29; cases hl29)
       ·
        rw [hotspotref39_Check_L5] at hl29; unfold hotspotref39_Check_S4; refine awp_assoc ?_; refine awp_nw [1,5] fun tz U u => ?_; (try simp only [go_sem]); refine qU u ?_; clear u U; refine awp_cond (b := (decide (d29 < (a0.Wanted.length : Int)))) rfl (fun h30 => ?_) (fun h30 => ?_)
        ·
         have hl29 := cT hl29 h30; refine awp_skip ?_; refine awp_blockW ?_; refine awp_nw [1,5] fun tz U u => ?_; obtain ⟨x30, bx30, hl29⟩ := bnd hl29; obtain ⟨fx30_0, fx30_1, fx30_2, fx30_3⟩ := idx_some bx30; (try simp only [go_sem, fx30_0, fx30_1, fx30_2]); refine qU u ?_; clear u U; refine awp_nw [1,5,6] fun tz U u => ?_; (try simp only [List.append_eq, Array.toList_append, List.append_toArray, List.toList_toArray, List.cons_append, List.nil_append]); refine xw_stop 6 qS qS (by rfl) fun V v => ?_; refine xw_id ?_; (try simp only [go_sem, fx30_0, fx30_1, fx30_2]); refine v _ ?_; clear v V; refine xw_cut 4 [(1, (.ptr 0 0)), (5, (vi d29)), (6, (.ptr 11 0)), (155, (vb ((decide (x30.Dest = a0.Own)) || (decide (x30.Tries < 1)))))] qS qS (by rfl) (fun V v => ?_) fun tz => ?_
         ·
          refine xw_id ?_; rcases bE (decide (x30.Dest = a0.Own)) with h31 | h31
          ·
           (try simp only [go_sem, fx30_0, fx30_1, fx30_2, h31]); exact v _ ⟨rfl, rfl, rfl, rfl, (qB h31), trivial⟩
          ·
           (try simp only [go_sem, fx30_0, fx30_1, fx30_2, h31]); exact v _ ⟨rfl, rfl, rfl, rfl, (qB h31), trivial⟩
         ·
          refine xw_id ?_; refine xw_stop 1 qS qS (by rfl) fun V v => ?_; refine xw_id ?_; (try simp only [go_sem, fx30_0, fx30_1, fx30_2]); refine v _ ?_; clear v V; refine xw_cut 4 [(1, (.ptr 0 0)), (5, (vi d29)), (6, (.ptr 11 0)), (160, (vb (((decide (x30.Dest = a0.Own)) || (decide (x30.Tries < 1))) || (decide (3 < x30.Tries)))))] qS qS (by rfl) (fun V v => ?_) fun tz => ?_
          ·
           refine xw_id ?_; rcases bE ((decide (x30.Dest = a0.Own)) || (decide (x30.Tries < 1))) with h32 | h32
           ·
            (try simp only [go_sem, fx30_0, fx30_1, fx30_2, h32]); exact v _ ⟨rfl, rfl, rfl, rfl, (qB h32), trivial⟩
           ·
            (try simp only [go_sem, fx30_0, fx30_1, fx30_2, h32]); exact v _ ⟨rfl, rfl, rfl, rfl, (qB h32), trivial⟩
          ·
           refine xw_id ?_; refine xw_stop 1 qS qS (by rfl) fun V v => ?_; refine xw_id ?_; (try simp only [go_sem, fx30_0, fx30_1, fx30_2]); refine v _ ?_; clear v V; refine xw_cut 4 [(1, (.ptr 0 0)), (5, (vi d29)), (6, (.ptr 11 0)), (165, (vb ((((decide (x30.Dest = a0.Own)) || (decide (x30.Tries < 1))) || (decide (3 < x30.Tries))) || (decide (x30.Due < 1)))))] qS qS (by rfl) (fun V v => ?_) fun tz => ?_
           ·
            refine xw_id ?_; rcases bE (((decide (x30.Dest = a0.Own)) || (decide (x30.Tries < 1))) || (decide (3 < x30.Tries))) with h33 | h33
            ·
             (try simp only [go_sem, fx30_0, fx30_1, fx30_2, h33]); exact v _ ⟨rfl, rfl, rfl, rfl, (qB h33), trivial⟩
            ·
             (try simp only [go_sem, fx30_0, fx30_1, fx30_2, h33]); exact v _ ⟨rfl, rfl, rfl, rfl, (qB h33), trivial⟩
           ·
            refine xw_id ?_; refine xw_stop 1 qS qS (by rfl) fun V v => ?_; refine xw_id ?_; (try simp only [go_sem, fx30_0, fx30_1, fx30_2]); refine v _ ?_; clear v V; refine xw_cut 4 [(1, (.ptr 0 0)), (5, (vi d29)), (6, (.ptr 11 0)), (170, (vb (((((decide (x30.Dest = a0.Own)) || (decide (x30.Tries < 1))) || (decide (3 < x30.Tries))) || (decide (x30.Due < 1))) || (decide (1099511727776 < x30.Due)))))] qS qS (by rfl) (fun V v => ?_) fun tz => ?_
            ·
             refine xw_id ?_; rcases bE ((((decide (x30.Dest = a0.Own)) || (decide (x30.Tries < 1))) || (decide (3 < x30.Tries))) || (decide (x30.Due < 1))) with h34 | h34
             ·
              (try simp only [go_sem, fx30_0, fx30_1, fx30_2, h34]); exact v _ ⟨rfl, rfl, rfl, rfl, (qB h34), trivial⟩
             ·
              (try simp only [go_sem, fx30_0, fx30_1, fx30_2, h34]); exact v _ ⟨rfl, rfl, rfl, rfl, (qB h34), trivial⟩
            ·
             refine xw_id ?_; refine xw_stop 1 qS qS (by rfl) fun V v => ?_; refine xw_id ?_; (try simp only [go_sem, fx30_0, fx30_1, fx30_2]); refine v _ ?_; clear v V; obtain ⟨x34, hvh35, hl29⟩ := bnd hl29; refine xw_cut 16 [(1, (.ptr 0 0)), (5, (vi d29)), (187, (vb x34))] qS qS (by rfl) (fun V v => ?_) fun tz => ?_
             ·
              refine xw_id ?_; rcases bE (((((decide (x30.Dest = a0.Own)) || (decide (x30.Tries < 1))) || (decide (3 < x30.Tries))) || (decide (x30.Due < 1))) || (decide (1099511727776 < x30.Due))) with h35 | h35
              ·
               have hvh35 := cT hvh35 h35; (try simp only [go_sem, fx30_0, fx30_1, fx30_2, h35]); obtain rfl := someInj hvh35; exact v _ ⟨rfl, rfl, rfl, (qB h35), trivial⟩
              ·
               have hvh35 := cF hvh35 h35; refine xw_stop 3 qS qS (by rfl) fun V v => ?_; refine xw_id ?_; (try simp only [go_sem, fx30_0, fx30_1, fx30_2, h35]); refine v _ ?_; clear v V; obtain ⟨x33, hvh36, hvh35⟩ := bnd hvh35; refine xw_cut 12 [(1, (.ptr 0 0)), (5, (vi d29)), (171, (vb false)), (186, (vb x33))] qS qS (by rfl) (fun V v => ?_) fun tz => ?_
               ·
                refine xw_id ?_; rcases bE (decide (0 < d29)) with h36 | h36
                ·
                 have hvh36 := cT hvh36 h36; obtain ⟨x31, bx31, hvh36⟩ := bnd hvh36; obtain ⟨fx31_0, fx31_1, fx31_2, fx31_3⟩ := idx_some bx31; obtain ⟨x32, bx32, hvh36⟩ := bnd hvh36; (try simp only [go_sem, fx30_0, fx30_1, fx30_2, h35, h36, fx31_0, fx31_1, fx31_2]); (refine xcall_p (hotspotref23_Smaller_p x31.Dest x30.Dest bx32) ?_; try dsimp only); (try refine xw_id ?_); (try simp only [go_sem, fx30_0, fx30_1, fx30_2, h35, h36, fx31_0, fx31_1, fx31_2]); obtain rfl := someInj hvh36; exact v _ ⟨rfl, rfl, rfl, rfl, (qB h36), trivial⟩
                ·
                 have hvh36 := cF hvh36 h36; (try simp only [go_sem, fx30_0, fx30_1, fx30_2, h35, h36]); obtain rfl := someInj hvh36; exact v _ ⟨rfl, rfl, rfl, rfl, (qB h36), trivial⟩
               ·
                refine xw_id ?_; (try simp only [go_sem, fx30_0, fx30_1, fx30_2, h35]); obtain rfl := someInj hvh35; exact v _ ⟨rfl, rfl, rfl, (qB h35), trivial⟩
             ·
              refine xw_id ?_; (try simp only [go_sem, fx30_0, fx30_1, fx30_2]); refine qU u ?_; clear u U; refine awp_cond1 (b := x34) rfl (fun h37 => ?_) (fun h37 => ?_)
              ·
               have hl29 := cT hl29 h37; refine awp_nw [] fun tz U u => ?_; (try simp only [go_sem, fx30_0, fx30_1, fx30_2]); refine qU u ?_; clear u U; refine awp_ret1 ?_; refine bq_r ?_; refine sq_r ?_; refine lq_r ?_; refine bq_r ?_; refine sq_r ?_; obtain rfl := someInj hl29; obtain rfl := Ex.k_ret h0; refine endW_i ?_; refine end_ret0 rs18 (rfl) ?_; exact qF
              ·
               have hl29 := cF hl29 h37; refine awp_skip1 ?_; refine bq_n ?_; refine seqW_i ?_; refine awp_nw1 [1,5] fun tz U u => ?_; (try simp only [go_sem, fx30_0, fx30_1, fx30_2]); refine u _ ?_; clear u U; refine lq_n ?_; exact ⟨n28, IntKind.wrap .i64 (d29 + 1), rfl, hl29, (Wk.canonD [] [] [some 0] rfl trivial rfl (tmOU 0 tmO0 rfl qM rfl (e_Paths_tmx (by rfl) (tI (c_PathRoute _)) (tI (c_PathWanted _)))) (tA 5 (tA 1 tmAll0 tp) tv))⟩
        ·
         have hl29 := cF hl29 h30; refine awp_exit ?_; refine lq_e ?_; refine bq_e ?_; refine sq_n ?_; obtain rfl := someInj hl29; exact ⟨_, rfl, (Wk.canonD [] [] [] rfl trivial rfl tmO0 tmAll0)⟩
      ·
       rintro d27 rfl; have h0 := Ex.k_go h0; clear hi27; unfold hotspotref39_Check_S3; refine awp_nw [] fun tz U u => ?_; (try simp only [go_sem]); refine qU u ?_; clear u U; refine awp_ret1 ?_; obtain rfl := someInj h0; refine endW_i ?_; refine end_ret0 rs18 (rfl) ?_; exact qF
theorem hotspotref39_gone_p (a0 : PathRoute) {r : PathRoute} (h0 : hotspotref39_gone a0 = some r) : SndP K 36 [(.agg (e_PathRoute a0))] (.agg (e_PathRoute r)) := by
 refine SndP.of_walkW hC (Clean.agg (e_PathRoute_clean _)) (clean_cons (Clean.agg (e_PathRoute_clean _)) clean_nil) (show K.P.funcs[36]? = some Tryd.f36 from Tryd.func36) rfl rfl (by decide +kernel) (qB2 rfl) ?_; unfold hotspotref39_gone at h0; refine awp_nw [0] fun tz U u => ?_; (try simp only [go_sem]); refine qU u ?_; clear u U; refine awp_nw [1,2] fun tz U u => ?_; (try simp only [go_sem]); refine qU u ?_; clear u U; refine awp_ret1 ?_; obtain rfl := someInj h0; refine endW_i ?_; refine end_ret0 rs36 qR ?_; exact qF
def hotspotref39_before_S0 (x20 : Paths) (a1 : Int) : AS :=
 { objs := (upd (upd (upd (upd (fun _ => .dead) 0 (.live (e_Paths Paths.z vnil vnil))) 1 (.live (e_Paths x20 (.ref 2 0 x20.Routes.length 17) (.ref 3 0 x20.Wanted.length 8)))) 2 (.live (List.flatMap e_PathRoute x20.Routes))) 3 (.live (List.flatMap e_PathWanted x20.Wanted))), next := 4, tmps := (upd (upd (upd (fun _ => .unk) 1 (vi a1)) 4 (.ptr 0 0)) 6 (.ptr 1 0)) }

def hotspotref39_before_S1 (x20 : Paths) (d21 : (List PathRoute)) : AS :=
 { objs := (upd (upd (upd (upd (fun _ => .dead) 0 (.live (e_Paths Paths.z vnil vnil))) 1 (.live (e_Paths x20 (.ref 2 0 d21.length 17) (.ref 3 0 x20.Wanted.length 8)))) 2 (.live (List.flatMap e_PathRoute d21))) 3 (.live (List.flatMap e_PathWanted x20.Wanted))), next := 4, tmps := (upd (upd (fun _ => .unk) 4 (.ptr 0 0)) 6 (.ptr 1 0)) }

def hotspotref39_before_S2 (x20 : Paths) (a1 : Int) (d22 : (List PathRoute × Int)) : AS :=
 { objs := (upd (upd (upd (upd (fun _ => .dead) 0 (.live (e_Paths Paths.z vnil vnil))) 1 (.live (e_Paths x20 (.ref 2 0 d22.1.length 17) (.ref 3 0 x20.Wanted.length 8)))) 2 (.live (List.flatMap e_PathRoute d22.1))) 3 (.live (List.flatMap e_PathWanted x20.Wanted))), next := 4, tmps := (upd (upd (upd (upd (fun _ => .unk) 1 (vi a1)) 4 (.ptr 0 0)) 6 (.ptr 1 0)) 7 (vi d22.2)) }

theorem hotspotref39_before_r (a0 : Paths) (a1 : Int) {r : (Paths × Int)} (h0 : hotspotref39_before a0 a1 = some r) : SndR K 26 [(.agg (E_Paths a0)), (vi a1)] (fun q => (.tup [(.agg (e_Paths r.1 (.ref (q 0) 0 r.1.Routes.length 17) (.ref (q 1) 0 r.1.Wanted.length 8))), (vi r.2)])) [(List.flatMap e_PathRoute r.1.Routes), (List.flatMap e_PathWanted r.1.Wanted)] := by
 refine SndR.of_walkW hC (show K.P.funcs[26]? = some Tryd.f26 from Tryd.func26) rfl rfl (by decide +kernel) (qB2 rfl) ?_; unfold hotspotref39_before at h0; refine awp_nw [0,1] fun tz U u => ?_; (try simp only [go_sem]); refine qU u ?_; clear u U; refine awp_assoc ?_; refine awp_nw [1,2,4] fun tz U u => ?_; obtain ⟨x19, bx19, h0⟩ := bnd h0; (try simp only [go_sem]); (refine xcall_p (hotspotref39_Check_p a0 bx19) ?_; try dsimp only); (try refine xw_id ?_); (try simp only [go_sem]); refine qU u ?_; clear u U; refine awp_cond (b := (x19 != 0)) rfl (fun h1 => ?_) (fun h1 => ?_)
 ·
  have h0 := cT h0 h1; refine awp_assoc ?_; refine awp_nw [4] fun tz U u => ?_; (try simp only [go_sem]); refine qU u ?_; clear u U; refine awp_ret ?_; obtain rfl := someInj h0; refine endW_i ?_; refine end_ret0 rs26 qR ?_; refine Res.mk [] [none, none] rfl (resON (resON resO0)) (Tm.tup (tc (Tm.agg (e_Paths_tmx (by rfl) tT tT)) (tc tv tn)))
 ·
  have h0 := cF h0 h1; refine awp_skip ?_; refine awp_assoc ?_; refine awp_nw [1,2,4] fun tz U u => ?_; refine xw_stop 3 qS qS (by rfl) fun V v => ?_; refine xw_id ?_; (try simp only [go_sem]); refine v _ ?_; clear v V; refine xw_cut 3 [(1, (vi a1)), (2, (.ptr 0 0)), (4, (.ptr 1 0)), (17, (vb ((decide (a1 < 0)) || (decide (1099511627776 < a1)))))] qS qS (by rfl) (fun V v => ?_) fun tz => ?_
  ·
   refine xw_id ?_; rcases bE (decide (a1 < 0)) with h2 | h2
   ·
    (try simp only [go_sem, h2]); exact v _ ⟨rfl, rfl, rfl, rfl, (qB h2), trivial⟩
   ·
    (try simp only [go_sem, h2]); exact v _ ⟨rfl, rfl, rfl, rfl, (qB h2), trivial⟩
  ·
   refine xw_id ?_; (try simp only [go_sem]); refine qU u ?_; clear u U; refine awp_cond (b := ((decide (a1 < 0)) || (decide (1099511627776 < a1)))) rfl (fun h3 => ?_) (fun h3 => ?_)
   ·
    have h0 := cT h0 h3; refine awp_assoc ?_; refine awp_nw [4] fun tz U u => ?_; (try simp only [go_sem]); refine qU u ?_; clear u U; refine awp_ret ?_; obtain rfl := someInj h0; refine endW_i ?_; refine end_ret0 rs26 qR ?_; refine Res.mk [] [none, none] rfl (resON (resON resO0)) (Tm.tup (tc (Tm.agg (e_Paths_tmx (by rfl) tT tT)) (tc tv tn)))
   ·
    have h0 := cF h0 h3; refine awp_skip ?_; refine awp_nw [1,2,4] fun tz U u => ?_; obtain ⟨x20, bx20, h0⟩ := bnd h0; (try simp only [go_sem]); (refine xcall_M (hotspotref39_Twin_m a0 bx20) ?_; try dsimp only); (try refine xw_id ?_); (try simp only [go_sem]); refine u _ (hotspotref39_before_S0 x20 a1) (by refine Wk.canonD [] [] [some 1, some 14, some 16, some 17] rfl trivial rfl (tmOU 3 (tmOU 2 (tmOU 1 (tmOU 0 tmO0 rfl qM rfl (e_Paths_tmx (by rfl) tv tv)) rfl qM rfl (e_Paths_tmx (by rfl) tr tr)) rfl qM rfl (TmL.of_eq qL (c_PathRoute _))) rfl qM rfl (TmL.of_eq qL (c_PathWanted _))) (tA 6 (tA 4 (tA 1 tmAll0 tv) tp) tp); all_goals exact qN) ?_; clear u U; unfold hotspotref39_before_S0; refine awp_assoc ?_; refine awp_nw [1,4,6] fun tz U u => ?_; (try simp only [go_sem]); refine qU u ?_; clear u U; obtain ⟨d21, hi4, h0⟩ := bnd h0; refine awp_cut (fun z => d21 = z) (fun d21 : (List PathRoute) => hotspotref39_before_S1 x20 d21) ?_ ?_
    ·
     refine awp_block1 ?_; refine awp_loopS (fun n (d22 : (List PathRoute × Int)) => hotspotref39_before_L3 a1 n d22 = some d21) (fun d22 : (List PathRoute × Int) => hotspotref39_before_S2 x20 a1 d22) big (x20.Routes, 0) (by refine Wk.canonD [] [] [some 0, some 1, some 2, some 3] rfl trivial rfl (tmOU 3 (tmOU 2 (tmOU 1 (tmOU 0 tmO0 rfl qM rfl (e_Paths_tmx (by rfl) tv tv)) rfl qM rfl (e_Paths_tmx (by rfl) tr tr)) rfl qM rfl (TmL.of_eq qL (c_PathRoute _))) rfl qM rfl (TmL.of_eq qL (c_PathWanted _))) (tA 7 (tA 6 (tA 4 (tA 1 tmAll0 tv) tp) tp) tv); all_goals exact qN) hi4 ?_; clear hi4; rintro n d22 hl6; rcases n with _ | n5
     ·
      (rw [hotspotref39_before_L3] at hl6; cases hl6)
     ·
      rw [hotspotref39_before_L3] at hl6; unfold hotspotref39_before_S2; refine awp_assoc ?_; refine awp_nw [1,4,6,7] fun tz U u => ?_; (try simp only [go_sem]); refine qU u ?_; clear u U; refine awp_cond (b := (decide (d22.2 < ((d22.1.length : Nat) : Int)))) rfl (fun h7 => ?_) (fun h7 => ?_)
      ·
       have hl6 := cT hl6 h7; refine awp_skip ?_; refine awp_blockW ?_; refine awp_nw [1,4,6,7] fun tz U u => ?_; obtain ⟨x23, bx23, hl6⟩ := bnd hl6; obtain ⟨fx23_0, fx23_1, fx23_2, fx23_3⟩ := idx_some bx23; (have fx23_5 : ((d22.2 : Int) < ((d22.1.length : Nat) : Int)) = True := by first | exact fx23_1 | (simp [List.length_modify, List.length_set]; omega)); refine xw_stop 7 qS qS (by rfl) fun V v => ?_; refine xw_id ?_; (try simp only [go_sem, fx23_0, fx23_1, fx23_2, fx23_5]); refine v _ ?_; clear v V; refine xw_cut 9 [(1, (vi a1)), (4, (.ptr 0 0)), (6, (.ptr 1 0)), (7, (vi d22.2)), (43, (vb (x23.Valid && (decide (x23.Until ≤ a1)))))] qS qS (by rfl) (fun V v => ?_) fun tz => ?_
       ·
        refine xw_id ?_; rcases bE x23.Valid with h8 | h8
        ·
         (try simp only [go_sem, fx23_0, fx23_1, fx23_2, fx23_5, h8]); exact v _ ⟨(by first | rfl | (simp only [h8]; done)), rfl, rfl, rfl, rfl, (qB h8), trivial⟩
        ·
         (try simp only [go_sem, fx23_0, fx23_1, fx23_2, fx23_5, h8]); exact v _ ⟨(by first | rfl | (simp only [h8]; done)), rfl, rfl, rfl, rfl, (qB h8), trivial⟩
       ·
        refine xw_id ?_; (try simp only [go_sem, fx23_0, fx23_1, fx23_2, fx23_5]); refine qU u ?_; clear u U; refine awp_cond1 (b := (x23.Valid && (decide (x23.Until ≤ a1)))) rfl (fun h9 => ?_) (fun h9 => ?_)
        ·
         have hl6 := cT hl6 h9; refine awp_nr1 [1,4,6,7] (fun _ => rfl) fun tz => ?_; refine awp_regD1 fun U u all hall => ?_; refine xd_id ?_; (try simp only [List.toList_toArray, List.map_cons, List.map_nil, List.size_toArray, List.length_cons, List.length_nil, Nat.zero_add]); (try simp only [Nat.reduceAdd]); obtain ⟨x24, bx24, hl6⟩ := bnd hl6; (iterate 3 ((try simp only [go_sem, -Nat.reduceAdd, fx23_0, fx23_1, fx23_2, fx23_5]); try simp only [Nat.reduceAdd])); (refine xcallD_p (hotspotref39_gone_p x23 bx24) ?_; try dsimp only); (try refine xd_id ?_); have gs10 : ((d22.2).toNat * 17 + 17 ≤ d22.1.length * 17) = True := eq_true (by (try simp only [List.length_modify, List.length_set]); omega); have gm11 : (d22.1.set ((d22.2).toNat) x24)[(d22.2).toNat]? = some x24 := getSet _ fx23_2; (iterate 3 ((try simp only [go_sem, -Nat.reduceAdd, fx23_0, fx23_1, fx23_2, fx23_5, gs10, gm11]); try simp only [Nat.reduceAdd])); refine And.intro ?_ (u _ ?_)
         ·
          subst hall; clear u U; exact qP
         ·
          clear u U hall all; refine bq_n ?_; refine seqW_i ?_; refine awp_nw1 [1,4,6,7] fun tz U u => ?_; (try simp only [go_sem, fx23_0, fx23_1, fx23_2, fx23_5, gm11]); refine u _ ?_; clear u U; refine lq_n ?_; exact ⟨n5, ((d22.1.set ((d22.2).toNat) x24), IntKind.wrap .i64 (d22.2 + 1)), rfl, hl6, (by refine Wk.canonD [] [] [some 0, some 1, some 2, some 3] rfl trivial rfl (tmOU 3 (tmOU 2 (tmOU 1 (tmOU 0 tmO0 rfl qM rfl (e_Paths_tmx (by rfl) tv tv)) rfl qM rfl (e_Paths_tmx (by rfl) tr tr)) rfl qM rfl (TmL.of_eq qL (c_PathRoute _))) rfl qM rfl (TmL.of_eq qL (c_PathWanted _))) (tA 7 (tA 6 (tA 4 (tA 1 tmAll0 tv) tp) tp) tv); all_goals exact qN)⟩
        ·
         have hl6 := cF hl6 h9; refine awp_skip1 ?_; refine bq_n ?_; refine seqW_i ?_; refine awp_nw1 [1,4,6,7] fun tz U u => ?_; (try simp only [go_sem, fx23_0, fx23_1, fx23_2, fx23_5]); refine u _ ?_; clear u U; refine lq_n ?_; exact ⟨n5, (d22.1, IntKind.wrap .i64 (d22.2 + 1)), rfl, hl6, (by refine Wk.canonD [] [] [some 0, some 1, some 2, some 3] rfl trivial rfl (tmOU 3 (tmOU 2 (tmOU 1 (tmOU 0 tmO0 rfl qM rfl (e_Paths_tmx (by rfl) tv tv)) rfl qM rfl (e_Paths_tmx (by rfl) tr tr)) rfl qM rfl (TmL.of_eq qL (c_PathRoute _))) rfl qM rfl (TmL.of_eq qL (c_PathWanted _))) (tA 7 (tA 6 (tA 4 (tA 1 tmAll0 tv) tp) tp) tv); all_goals exact qN)⟩
      ·
       have hl6 := cF hl6 h7; refine awp_exit ?_; refine lq_e ?_; refine bq_e ?_; refine sq_n ?_; obtain rfl := someInj hl6; exact ⟨_, rfl, (by refine Wk.canonD [] [] [some 0, some 1, some 2, some 3] rfl trivial rfl (tmOU 3 (tmOU 2 (tmOU 1 (tmOU 0 tmO0 rfl qM rfl (e_Paths_tmx (by rfl) tv tv)) rfl qM rfl (e_Paths_tmx (by rfl) tr tr)) rfl qM rfl (TmL.of_eq qL (c_PathRoute _))) rfl qM rfl (TmL.of_eq qL (c_PathWanted _))) (tA 6 (tA 4 tmAll0 tp) tp); all_goals exact qN)⟩
    ·
     rintro _ rfl; clear hi4; unfold hotspotref39_before_S1; refine awp_nw [4,6] fun tz U u => ?_; (try simp only [go_sem]); refine qU u ?_; clear u U; refine awp_ret1 ?_; obtain rfl := someInj h0; refine endW_i ?_; refine end_ret0 rs26 qR ?_; refine Res.mk [] [some 2, some 3] rfl (resOU qM rfl (TmL.of_eq qL (c_PathRoute _)) (resOU qM rfl (TmL.of_eq qL (c_PathWanted _)) resO0)) (Tm.tup (tc (Tm.agg (e_Paths_tmx (by rfl) tr tr)) (tc tv tn))); (all_goals exact qN)

theorem hotspotref39_before_m (a0 : Paths) (a1 : Int) {r : (Paths × Int)} (h0 : hotspotref39_before a0 a1 = some r) : SndM K 26 [(.agg (E_Paths a0)), (vi a1)] (fun q => (.tup [(.agg (e_Paths r.1 (.ref (q 0) 0 r.1.Routes.length 17) (.ref (q 1) 0 r.1.Wanted.length 8))), (vi r.2)])) [(List.flatMap e_PathRoute r.1.Routes), (List.flatMap e_PathWanted r.1.Wanted)] :=
 fun hs => Snd.of_newM (RenM.tup (RenML.cons (RenM.agg (e_Paths_ren _ (RenM.ref 0 0 _ _) (RenM.ref 1 0 _ _))) (RenML.cons rv RenML.nil))) (rows_all_cons (c_PathRoute _) (rows_all_cons (c_PathWanted _) rows_all_nil)) (clean_cons (Clean.agg (E_Paths_clean _)) (clean_cons cv clean_nil)) (hotspotref39_before_r a0 a1 h0) hs
def hotspotref39_at_S0 (d26 : Unit) : AS :=
 { objs := (fun _ => .dead), next := 0, tmps := (fun _ => .unk) }

def hotspotref39_at_S1 (a0 : Paths) (a1 : A6vu) (d28 : Int) : AS :=
 { objs := (upd (upd (fun _ => .dead) 0 (.live (e_Paths a0 (.imm (List.flatMap e_PathRoute a0.Routes) a0.Routes.length) (.imm (List.flatMap e_PathWanted a0.Wanted) a0.Wanted.length)))) 1 (.live (e_A6vu a1))), next := 2, tmps := (upd (upd (upd (fun _ => .unk) 2 (.ptr 0 0)) 3 (.ptr 1 0)) 5 (vi d28)) }

theorem hotspotref39_at_p (a0 : Paths) (a1 : A6vu) {r : Int} (h0 : hotspotref39_at a0 a1 = some r) : SndP K 27 [(.agg (E_Paths a0)), (.agg (e_A6vu a1))] (vi r) := by
 refine SndP.of_walkW hC cv (clean_cons (Clean.agg (E_Paths_clean _)) (clean_cons (Clean.agg (e_A6vu_clean _)) clean_nil)) (show K.P.funcs[27]? = some Tryd.f27 from Tryd.func27) rfl rfl (by decide +kernel) (qB2 rfl) ?_; unfold hotspotref39_at at h0; refine awp_nw [0,1] fun tz U u => ?_; (try simp only [go_sem]); refine qU u ?_; clear u U; refine awp_assoc ?_; refine awp_nw [2,3] fun tz U u => ?_; (try simp only [go_sem]); refine qU u ?_; clear u U; obtain ⟨o27, hi1, h0⟩ := bnd h0; refine awp_cut (fun d26 : Unit => o27 = Ex.go d26) (fun d26 : Unit => hotspotref39_at_S0 d26) ?_ ?_
 ·
  refine awp_block1 ?_; refine awp_loopS (fun n (d28 : Int) => hotspotref39_at_L2 a0 a1 n d28 = some o27) (fun d28 : Int => hotspotref39_at_S1 a0 a1 d28) big 0 (Wk.canonD [] [] [some 0, some 1] rfl trivial rfl (tmOU 1 (tmOU 0 tmO0 rfl qM rfl (e_Paths_tmx (by rfl) (tI (c_PathRoute _)) (tI (c_PathWanted _)))) rfl qM rfl (TmL.clean (e_A6vu_clean _))) (tA 5 (tA 3 (tA 2 tmAll0 tp) tp) tv)) hi1 ?_; clear hi1; rintro n d28 hl3; rcases n with _ | n2
  ·
   (rw [hotspotref39_at_L2] at hl3; cases hl3)
  ·
   rw [hotspotref39_at_L2] at hl3; unfold hotspotref39_at_S1; refine awp_assoc ?_; refine awp_nw [2,3,5] fun tz U u => ?_; (try simp only [go_sem]); refine qU u ?_; clear u U; refine awp_cond (b := (decide (d28 < (a0.Routes.length : Int)))) rfl (fun h4 => ?_) (fun h4 => ?_)
   ·
    have hl3 := cT hl3 h4; refine awp_skip ?_; refine awp_blockW ?_; refine awp_nw [2,3,5] fun tz U u => ?_; obtain ⟨x29, bx29, hl3⟩ := bnd hl3; obtain ⟨fx29_0, fx29_1, fx29_2, fx29_3⟩ := idx_some bx29; (try simp only [go_sem, fx29_0, fx29_1, fx29_2]); refine qU u ?_; clear u U; refine awp_cond1 (b := (decide (x29.Dest = a1))) rfl (fun h5 => ?_) (fun h5 => ?_)
    ·
     have hl3 := cT hl3 h5; refine awp_nw [5] fun tz U u => ?_; (try simp only [go_sem, fx29_0, fx29_1, fx29_2]); refine qU u ?_; clear u U; refine awp_ret1 ?_; refine bq_r ?_; refine sq_r ?_; refine lq_r ?_; refine bq_r ?_; refine sq_r ?_; obtain rfl := someInj hl3; obtain rfl := Ex.k_ret h0; refine endW_i ?_; refine end_ret0 rs27 (rfl) ?_; exact qF
    ·
     have hl3 := cF hl3 h5; refine awp_skip1 ?_; refine bq_n ?_; refine seqW_i ?_; refine awp_nw1 [2,3,5] fun tz U u => ?_; (try simp only [go_sem, fx29_0, fx29_1, fx29_2]); refine u _ ?_; clear u U; refine lq_n ?_; exact ⟨n2, IntKind.wrap .i64 (d28 + 1), rfl, hl3, (Wk.canonD [] [] [some 0, some 1] rfl trivial rfl (tmOU 1 (tmOU 0 tmO0 rfl qM rfl (e_Paths_tmx (by rfl) (tI (c_PathRoute _)) (tI (c_PathWanted _)))) rfl qM rfl (TmL.clean (e_A6vu_clean _))) (tA 5 (tA 3 (tA 2 tmAll0 tp) tp) tv))⟩
   ·
    have hl3 := cF hl3 h4; refine awp_exit ?_; refine lq_e ?_; refine bq_e ?_; refine sq_n ?_; obtain rfl := someInj hl3; exact ⟨_, rfl, (Wk.canonD [] [] [] rfl trivial rfl tmO0 tmAll0)⟩
 ·
  rintro d26 rfl; have h0 := Ex.k_go h0; clear hi1; unfold hotspotref39_at_S0; refine awp_nw [] fun tz U u => ?_; (try simp only [go_sem]); refine qU u ?_; clear u U; refine awp_ret1 ?_; obtain rfl := someInj h0; refine endW_i ?_; refine end_ret0 rs27 (rfl) ?_; exact qF
def hotspotref39_wanted_S0 (d33 : Unit) : AS :=
 { objs := (fun _ => .dead), next := 0, tmps := (fun _ => .unk) }

def hotspotref39_wanted_S1 (a0 : Paths) (a1 : A6vu) (d35 : Int) : AS :=
 { objs := (upd (upd (fun _ => .dead) 0 (.live (e_Paths a0 (.imm (List.flatMap e_PathRoute a0.Routes) a0.Routes.length) (.imm (List.flatMap e_PathWanted a0.Wanted) a0.Wanted.length)))) 1 (.live (e_A6vu a1))), next := 2, tmps := (upd (upd (upd (fun _ => .unk) 2 (.ptr 0 0)) 3 (.ptr 1 0)) 5 (vi d35)) }

theorem hotspotref39_wanted_p (a0 : Paths) (a1 : A6vu) {r : Bool} (h0 : hotspotref39_wanted a0 a1 = some r) : SndP K 28 [(.agg (E_Paths a0)), (.agg (e_A6vu a1))] (vb r) := by
 refine SndP.of_walkW hC cv (clean_cons (Clean.agg (E_Paths_clean _)) (clean_cons (Clean.agg (e_A6vu_clean _)) clean_nil)) (show K.P.funcs[28]? = some Tryd.f28 from Tryd.func28) rfl rfl (by decide +kernel) (qB2 rfl) ?_; unfold hotspotref39_wanted at h0; refine awp_nw [0,1] fun tz U u => ?_; (try simp only [go_sem]); refine qU u ?_; clear u U; refine awp_assoc ?_; refine awp_nw [2,3] fun tz U u => ?_; (try simp only [go_sem]); refine qU u ?_; clear u U; obtain ⟨o34, hi1, h0⟩ := bnd h0; refine awp_cut (fun d33 : Unit => o34 = Ex.go d33) (fun d33 : Unit => hotspotref39_wanted_S0 d33) ?_ ?_
 ·
  refine awp_block1 ?_; refine awp_loopS (fun n (d35 : Int) => hotspotref39_wanted_L2 a0 a1 n d35 = some o34) (fun d35 : Int => hotspotref39_wanted_S1 a0 a1 d35) big 0 (Wk.canonD [] [] [some 0, some 1] rfl trivial rfl (tmOU 1 (tmOU 0 tmO0 rfl qM rfl (e_Paths_tmx (by rfl) (tI (c_PathRoute _)) (tI (c_PathWanted _)))) rfl qM rfl (TmL.clean (e_A6vu_clean _))) (tA 5 (tA 3 (tA 2 tmAll0 tp) tp) tv)) hi1 ?_; clear hi1; rintro n d35 hl3; rcases n with _ | n2
  ·
   (rw [hotspotref39_wanted_L2] at hl3; cases hl3)
  ·
   rw [hotspotref39_wanted_L2] at hl3; unfold hotspotref39_wanted_S1; refine awp_assoc ?_; refine awp_nw [2,3,5] fun tz U u => ?_; (try simp only [go_sem]); refine qU u ?_; clear u U; refine awp_cond (b := (decide (d35 < (a0.Wanted.length : Int)))) rfl (fun h4 => ?_) (fun h4 => ?_)
   ·
    have hl3 := cT hl3 h4; refine awp_skip ?_; refine awp_blockW ?_; refine awp_nw [2,3,5] fun tz U u => ?_; obtain ⟨x36, bx36, hl3⟩ := bnd hl3; obtain ⟨fx36_0, fx36_1, fx36_2, fx36_3⟩ := idx_some bx36; (try simp only [go_sem, fx36_0, fx36_1, fx36_2]); refine qU u ?_; clear u U; refine awp_cond1 (b := (decide (x36.Dest = a1))) rfl (fun h5 => ?_) (fun h5 => ?_)
    ·
     have hl3 := cT hl3 h5; refine awp_nw [] fun tz U u => ?_; (try simp only [go_sem, fx36_0, fx36_1, fx36_2]); refine qU u ?_; clear u U; refine awp_ret1 ?_; refine bq_r ?_; refine sq_r ?_; refine lq_r ?_; refine bq_r ?_; refine sq_r ?_; obtain rfl := someInj hl3; obtain rfl := Ex.k_ret h0; refine endW_i ?_; refine end_ret0 rs28 (rfl) ?_; exact qF
    ·
     have hl3 := cF hl3 h5; refine awp_skip1 ?_; refine bq_n ?_; refine seqW_i ?_; refine awp_nw1 [2,3,5] fun tz U u => ?_; (try simp only [go_sem, fx36_0, fx36_1, fx36_2]); refine u _ ?_; clear u U; refine lq_n ?_; exact ⟨n2, IntKind.wrap .i64 (d35 + 1), rfl, hl3, (Wk.canonD [] [] [some 0, some 1] rfl trivial rfl (tmOU 1 (tmOU 0 tmO0 rfl qM rfl (e_Paths_tmx (by rfl) (tI (c_PathRoute _)) (tI (c_PathWanted _)))) rfl qM rfl (TmL.clean (e_A6vu_clean _))) (tA 5 (tA 3 (tA 2 tmAll0 tp) tp) tv))⟩
   ·
    have hl3 := cF hl3 h4; refine awp_exit ?_; refine lq_e ?_; refine bq_e ?_; refine sq_n ?_; obtain rfl := someInj hl3; exact ⟨_, rfl, (Wk.canonD [] [] [] rfl trivial rfl tmO0 tmAll0)⟩
 ·
  rintro d33 rfl; have h0 := Ex.k_go h0; clear hi1; unfold hotspotref39_wanted_S0; refine awp_nw [] fun tz U u => ?_; (try simp only [go_sem]); refine qU u ?_; clear u U; refine awp_ret1 ?_; obtain rfl := someInj h0; refine endW_i ?_; refine end_ret0 rs28 (rfl) ?_; exact qF
theorem hotspotref39_All_p {r : A6vu} (h0 : hotspotref39_All = some r) : SndP K 30 [] (.agg (e_A6vu r)) := by
 refine SndP.of_walkW hC (Clean.agg (e_A6vu_clean _)) clean_nil (show K.P.funcs[30]? = some Tryd.f30 from Tryd.func30) rfl rfl (by decide +kernel) (qB2 rfl) ?_; unfold hotspotref39_All at h0; refine awp_nw [] fun tz U u => ?_; (try simp only [go_sem]); refine qU u ?_; clear u U; refine awp_nw [0] fun tz U u => ?_; (try simp only [go_sem]); refine qU u ?_; clear u U; refine awp_ret1 ?_; obtain rfl := someInj h0; refine endW_i ?_; refine end_ret0 rs30 qR ?_; exact qF
theorem hotspotref39_known_p (a0 : Paths) (a1 : A6vu) {r : Int} (h0 : hotspotref39_known a0 a1 = some r) : SndP K 32 [(.agg (E_Paths a0)), (.agg (e_A6vu a1))] (vi r) := by
 refine SndP.of_walkW hC cv (clean_cons (Clean.agg (E_Paths_clean _)) (clean_cons (Clean.agg (e_A6vu_clean _)) clean_nil)) (show K.P.funcs[32]? = some Tryd.f32 from Tryd.func32) rfl rfl (by decide +kernel) (qB2 rfl) ?_; unfold hotspotref39_known at h0; refine awp_nw [0,1] fun tz U u => ?_; (try simp only [go_sem]); refine qU u ?_; clear u U; refine awp_nw [2,3] fun tz U u => ?_; obtain ⟨x51, bx51, h0⟩ := bnd h0; (try simp only [go_sem]); (refine xcall_p (hotspotref39_at_p a0 a1 bx51) ?_; try dsimp only); (try refine xw_id ?_); (try simp only [go_sem]); refine qU u ?_; clear u U; refine awp_assoc ?_; refine awp_nw [2,5] fun tz U u => ?_; (try simp only [go_sem]); refine qU u ?_; clear u U; refine awp_cond (b := (decide (x51 < 0))) rfl (fun h1 => ?_) (fun h1 => ?_)
 ·
  have h0 := cT h0 h1; refine awp_assoc ?_; refine awp_nw [] fun tz U u => ?_; (try simp only [go_sem]); refine qU u ?_; clear u U; refine awp_ret ?_; obtain rfl := someInj h0; refine endW_i ?_; refine end_ret0 rs32 (rfl) ?_; exact qF
 ·
  have h0 := cF h0 h1; refine awp_skip ?_; refine awp_nw [2,5] fun tz U u => ?_; obtain ⟨x52, bx52, h0⟩ := bnd h0; obtain ⟨fx52_0, fx52_1, fx52_2, fx52_3⟩ := idx_some bx52; (try simp only [go_sem, fx52_0, fx52_1, fx52_2]); refine qU u ?_; clear u U; refine awp_ret1 ?_; obtain rfl := someInj h0; refine endW_i ?_; refine end_ret0 rs32 (rfl) ?_; exact qF
def hotspotref39_low_S0 (d54 : (List Int)) : AS :=
 { objs := (upd (fun _ => .dead) 0 (.live (List.map vu d54))), next := 1, tmps := (upd (fun _ => .unk) 5 (.ref 0 0 d54.length 1)) }

def hotspotref39_low_S1 (a1 : Int) (d55 : (Int × List Int × Int)) : AS :=
 { objs := (upd (fun _ => .dead) 0 (.live (List.map vu d55.2.1))), next := 1, tmps := (upd (upd (upd (upd (fun _ => .unk) 0 (vi d55.1)) 1 (vi a1)) 5 (.ref 0 0 d55.2.1.length 1)) 6 (vi d55.2.2)) }

theorem hotspotref39_low_r (a0 : Int) (a1 : Int) {r : (List Int)} (h0 : hotspotref39_low a0 a1 = some r) : SndR K 54 [(vi a0), (vi a1)] (fun q => (.ref (q 0) 0 r.length 1)) [(List.map vu r)] := by
 refine SndR.of_walkW hC (show K.P.funcs[54]? = some Tryd.f54 from Tryd.func54) rfl rfl (by decide +kernel) (qB2 rfl) ?_; unfold hotspotref39_low at h0; refine awp_nw [0,1] fun tz U u => ?_; (try simp only [go_sem]); refine qU u ?_; clear u U; refine awp_nw [0,1] fun tz U u => ?_; (try simp only [go_sem]); refine qU u ?_; clear u U; refine awp_assoc ?_; refine awp_nw [0,1,5] fun tz U u => ?_; (try simp only [go_sem]); refine qU u ?_; clear u U; obtain ⟨d54, hi1, h0⟩ := bnd h0; refine awp_cut (fun z => d54 = z) (fun d54 : (List Int) => hotspotref39_low_S0 d54) ?_ ?_
 ·
  refine awp_block1 ?_; refine awp_loopS (fun n (d55 : (Int × List Int × Int)) => hotspotref39_low_L2 a1 n d55 = some d54) (fun d55 : (Int × List Int × Int) => hotspotref39_low_S1 a1 d55) big (a0, [], 0) (Wk.canonD [] [] [none] rfl trivial rfl (tmON 0 tmO0 rfl) (tA 6 (tA 5 (tA 1 (tA 0 tmAll0 tv) tv) tT) tv)) hi1 ?_; clear hi1; rintro n d55 hl3; rcases n with _ | n2
  ·
   (rw [hotspotref39_low_L2] at hl3; cases hl3)
  ·
   rw [hotspotref39_low_L2] at hl3; unfold hotspotref39_low_S1; refine awp_assoc ?_; refine awp_nw [0,1,5,6] fun tz U u => ?_; (try simp only [go_sem]); refine qU u ?_; clear u U; refine awp_cond (b := (decide (d55.2.2 < a1))) rfl (fun h4 => ?_) (fun h4 => ?_)
   ·
    have hl3 := cT hl3 h4; refine awp_skip ?_; refine awp_blockW ?_; refine awp_nw [0,1,5,6] fun tz U u => ?_; obtain ⟨x56, bx56, hl3⟩ := bnd hl3; have bx56 := chk_some bx56; simp only [Bool.and_eq_true, decide_eq_true_eq] at bx56; have gx56_0 := bx56; (try simp only [go_sem, gx56_0]); (try (rw [if_pos (by (try simp only [List.length_append, lc, ln]); omega)]; try simp only [go_sem, gx56_0])); refine qU u ?_; clear u U; refine awp_nw1 [0,1,5,6] fun tz U u => ?_; (try simp only [go_sem]); refine u _ ?_; clear u U; refine bq_n ?_; refine seqW_i ?_; refine awp_nw1 [0,1,5,6] fun tz U u => ?_; (try simp only [go_sem]); refine u _ ?_; clear u U; refine lq_n ?_; exact ⟨n2, ((d55.1).fdiv (2 ^ (min 8 64)), (d55.2.1 ++ [IntKind.wrap .u8 d55.1]), IntKind.wrap .i64 (d55.2.2 + 1)), rfl, hl3, (by refine Wk.canonD [] [] [some 8] rfl trivial rfl (tmOU 0 tmO0 rfl qM rfl (TmL.of_eq qL (vu_clean _))) (tA 6 (tA 5 (tA 1 (tA 0 tmAll0 tv) tv) tr) tv); all_goals exact qN)⟩
   ·
    have hl3 := cF hl3 h4; refine awp_exit ?_; refine lq_e ?_; refine bq_e ?_; refine sq_n ?_; obtain rfl := someInj hl3; exact ⟨_, rfl, (by refine Wk.canonD [] [] [some 0] rfl trivial rfl (tmOU 0 tmO0 rfl qM rfl (TmL.of_eq qL (vu_clean _))) (tA 5 tmAll0 tr); all_goals exact qN)⟩
 ·
  rintro _ rfl; clear hi1; unfold hotspotref39_low_S0; refine awp_nw [5] fun tz U u => ?_; (try simp only [go_sem]); refine qU u ?_; clear u U; refine awp_ret1 ?_; obtain rfl := someInj h0; refine endW_i ?_; refine end_ret0 rs54 (rfl) ?_; refine Res.mk [] [some 0] rfl (resOU qM rfl (TmL.of_eq qL (vu_clean _)) resO0) tr; (all_goals exact qN)

theorem hotspotref39_low_m (a0 : Int) (a1 : Int) {r : (List Int)} (h0 : hotspotref39_low a0 a1 = some r) : SndM K 54 [(vi a0), (vi a1)] (fun q => (.ref (q 0) 0 r.length 1)) [(List.map vu r)] :=
 fun hs => Snd.of_newM (RenM.ref 0 0 _ _) (rows_all_cons (vu_clean _) rows_all_nil) (clean_cons cv (clean_cons cv clean_nil)) (hotspotref39_low_r a0 a1 h0) hs
def hotspotref39_Request_S0 (a2 : A6vu) (a0 : A6vu) (a1 : Int) (a3 : Int) (a4 : Int) (a5 : Int) : AS :=
 { objs := (upd (upd (fun _ => .dead) 0 (.live (e_A6vu a2))) 1 (.live (List.map vu ([1] ++ [a0.a0, a0.a1, a0.a2, a0.a3, a0.a4, a0.a5])))), next := 2, tmps := (upd (upd (upd (upd (upd (upd (fun _ => .unk) 1 (vi a1)) 3 (vi a3)) 4 (vi a4)) 5 (vi a5)) 8 (.ptr 0 0)) 13 (.ref 1 0 (([1] ++ [a0.a0, a0.a1, a0.a2, a0.a3, a0.a4, a0.a5]).length) 1)) }

def hotspotref39_Request_S1 (a0 : A6vu) (a1 : Int) (a2 : A6vu) (a3 : Int) (a4 : Int) (a5 : Int) (x54 : (List Int)) (x57 : (List Int)) : AS :=
 { objs := (upd (fun _ => .dead) 0 (.live (List.map vu (((([1] ++ [a0.a0, a0.a1, a0.a2, a0.a3, a0.a4, a0.a5]) ++ x54) ++ [a2.a0, a2.a1, a2.a2, a2.a3, a2.a4, a2.a5]) ++ x57)))), next := 1, tmps := (upd (upd (upd (fun _ => .unk) 4 (vi a4)) 5 (vi a5)) 13 (.ref 0 0 ((((([1] ++ [a0.a0, a0.a1, a0.a2, a0.a3, a0.a4, a0.a5]) ++ x54) ++ [a2.a0, a2.a1, a2.a2, a2.a3, a2.a4, a2.a5]) ++ x57).length) 1)) }

theorem hotspotref39_Request_r (a0 : A6vu) (a1 : Int) (a2 : A6vu) (a3 : Int) (a4 : Int) (a5 : Int) {r : (List Int)} (h0 : hotspotref39_Request a0 a1 a2 a3 a4 a5 = some r) : SndR K 31 [(.agg (e_A6vu a0)), (vi a1), (.agg (e_A6vu a2)), (vi a3), (vi a4), (vi a5)] (fun q => (.ref (q 0) 0 r.length 1)) [(List.map vu r)] := by
 refine SndR.of_walkW hC (show K.P.funcs[31]? = some Tryd.f31 from Tryd.func31) rfl rfl (by decide +kernel) (qB2 rfl) ?_; unfold hotspotref39_Request at h0; refine awp_nw [0,1,2,3,4,5] fun tz U u => ?_; (try simp only [go_sem]); refine qU u ?_; clear u U; refine awp_nw [1,3,4,5,6,8] fun tz U u => ?_; (try simp only [go_sem, Int.sub_zero]); (try (rw [if_pos (by (try simp only [List.length_append, lc, ln]); omega)]; try simp only [go_sem, Int.sub_zero])); refine u _ (hotspotref39_Request_S0 a2 a0 a1 a3 a4 a5) (by refine Wk.canonD [] [] [some 1, some 5] rfl trivial rfl (tmOU 1 (tmOU 0 tmO0 rfl qM rfl (TmL.clean (e_A6vu_clean _))) rfl qM rfl (TmL.of_eq qL (vu_clean _))) (tA 13 (tA 8 (tA 5 (tA 4 (tA 3 (tA 1 tmAll0 tv) tv) tv) tv) tp) tr); all_goals exact qN) ?_; clear u U; unfold hotspotref39_Request_S0; refine awp_nw [1,3,4,5,8,13] fun tz U u => ?_; obtain ⟨x54, bx54, h0⟩ := bnd h0; (try simp only [go_sem]); (refine xcall_M (hotspotref39_low_m a1 4 bx54) ?_; try dsimp only); (try refine xw_id ?_); obtain ⟨x55, bx55, h0⟩ := bnd h0; have bx55 := chk_some bx55; simp only [Bool.and_eq_true, decide_eq_true_eq] at bx55; have gx55_0 := bx55; (try simp only [List.cons_append, List.nil_append, List.length_append, List.length_cons, List.length_nil, Nat.zero_add, Nat.reduceAdd, Nat.add_assoc, Nat.reduceLeDiff] at gx55_0); (try simp only [go_sem, gx55_0, List.length_append, vu_len]); (try (rw [if_pos (by (try simp only [List.length_append, lc, ln]); omega)]; try simp only [go_sem, gx55_0, List.length_append, vu_len])); refine qU u ?_; clear u U; refine awp_nw [3,4,5,8,13] fun tz U u => ?_; obtain ⟨x56, bx56, h0⟩ := bnd h0; have bx56 := chk_some bx56; simp only [Bool.and_eq_true, decide_eq_true_eq] at bx56; have gx56_0 := bx56; (try simp only [List.cons_append, List.nil_append, List.length_append, List.length_cons, List.length_nil, Nat.zero_add, Nat.reduceAdd, Nat.add_assoc, Nat.reduceLeDiff] at gx56_0); (try simp only [go_sem, Int.sub_zero, gx56_0, List.length_append, vu_len]); (try (rw [if_pos (by (try simp only [List.length_append, lc, ln]); omega)]; try simp only [go_sem, Int.sub_zero, gx56_0, List.length_append, vu_len])); refine qU u ?_; clear u U; refine awp_nw [3,4,5,13] fun tz U u => ?_; obtain ⟨x57, bx57, h0⟩ := bnd h0; (try simp only [go_sem]); (refine xcall_M (hotspotref39_low_m a3 4 bx57) ?_; try dsimp only); (try refine xw_id ?_); have gc1 : (7 + (x54.length + 6) = (x54.length + 6) + 7) = True := eq_true (Nat.add_comm _ _); obtain ⟨x58, bx58, h0⟩ := bnd h0; have bx58 := chk_some bx58; simp only [Bool.and_eq_true, decide_eq_true_eq] at bx58; have gx58_0 := bx58; (try simp only [List.cons_append, List.nil_append, List.length_append, List.length_cons, List.length_nil, Nat.zero_add, Nat.reduceAdd, Nat.add_assoc, Nat.reduceLeDiff] at gx58_0); (try simp only [go_sem, gc1, gx58_0, List.length_append, vu_len]); (try (rw [if_pos (by (try simp only [List.length_append, lc, ln]); omega)]; try simp only [go_sem, gc1, gx58_0, List.length_append, vu_len])); refine u _ (hotspotref39_Request_S1 a0 a1 a2 a3 a4 a5 x54 x57) (by refine Wk.canonD [] [] [some 15] rfl trivial rfl (tmOU 0 tmO0 rfl qM rfl (TmL.of_eq qL (vu_clean _))) (tA 13 (tA 5 (tA 4 tmAll0 tv) tv) tr); all_goals exact qN) ?_; clear u U; unfold hotspotref39_Request_S1; refine awp_nw [4,5,13] fun tz U u => ?_; obtain ⟨x59, bx59, h0⟩ := bnd h0; (try simp only [go_sem]); (refine xcall_M (hotspotref39_low_m a4 1 bx59) ?_; try dsimp only); (try refine xw_id ?_); obtain ⟨x60, bx60, h0⟩ := bnd h0; have bx60 := chk_some bx60; simp only [Bool.and_eq_true, decide_eq_true_eq] at bx60; have gx60_0 := bx60; (try simp only [List.cons_append, List.nil_append, List.length_append, List.length_cons, List.length_nil, Nat.zero_add, Nat.reduceAdd, Nat.add_assoc, Nat.reduceLeDiff] at gx60_0); (try simp only [go_sem, gx60_0, List.length_append, vu_len]); (try (rw [if_pos (by (try simp only [List.length_append, lc, ln]); omega)]; try simp only [go_sem, gx60_0, List.length_append, vu_len])); refine qU u ?_; clear u U; refine awp_nw [5,13] fun tz U u => ?_; obtain ⟨x61, bx61, h0⟩ := bnd h0; (try simp only [go_sem]); (refine xcall_M (hotspotref39_low_m a5 8 bx61) ?_; try dsimp only); (try refine xw_id ?_); obtain ⟨x62, bx62, h0⟩ := bnd h0; have bx62 := chk_some bx62; simp only [Bool.and_eq_true, decide_eq_true_eq] at bx62; have gx62_0 := bx62; (try simp only [List.cons_append, List.nil_append, List.length_append, List.length_cons, List.length_nil, Nat.zero_add, Nat.reduceAdd, Nat.add_assoc, Nat.reduceLeDiff] at gx62_0)
 (try simp only [go_sem, gx62_0, List.length_append, vu_len]); (try (rw [if_pos (by (try simp only [List.length_append, lc, ln]); omega)]; try simp only [go_sem, gx62_0, List.length_append, vu_len])); refine qU u ?_; clear u U; refine awp_ret1 ?_; obtain rfl := someInj h0; refine endW_i ?_; refine end_ret0 rs31 (rfl) ?_; refine Res.mk [] [some 10] rfl (resOU qM rfl (TmL.of_eq qL (vu_clean _)) resO0) tr; (all_goals exact qN)


theorem hotspotref39_Request_p (a0 : A6vu) (a1 : Int) (a2 : A6vu) (a3 : Int) (a4 : Int) (a5 : Int) {r : (List Int)} (h0 : hotspotref39_Request a0 a1 a2 a3 a4 a5 = some r) : SndP K 31 [(.agg (e_A6vu a0)), (vi a1), (.agg (e_A6vu a2)), (vi a3), (vi a4), (vi a5)] (S_vu r) :=
 SndM.pure (rM (hotspotref39_Request_r a0 a1 a2 a3 a4 a5 h0) (RenM.ref 0 0 _ _) (rows_all_cons (vu_clean _) rows_all_nil) (clean_cons (Clean.agg (e_A6vu_clean _)) (clean_cons cv (clean_cons (Clean.agg (e_A6vu_clean _)) (clean_cons cv (clean_cons cv (clean_cons cv clean_nil))))))) (S_vu_clean _) (clean_cons (Clean.agg (e_A6vu_clean _)) (clean_cons cv (clean_cons (Clean.agg (e_A6vu_clean _)) (clean_cons cv (clean_cons cv (clean_cons cv clean_nil)))))) qV
def hotspotref39_Find_S0 (x19 : (Paths × Int)) (a1 : A6vu) (a2 : Int) : AS :=
 { objs := (upd (upd (upd (upd (upd (fun _ => .dead) 0 (.live (e_Paths x19.1 (.ref 1 0 x19.1.Routes.length 17) (.ref 2 0 x19.1.Wanted.length 8)))) 1 (.live (List.flatMap e_PathRoute x19.1.Routes))) 2 (.live (List.flatMap e_PathWanted x19.1.Wanted))) 3 (.live (e_A6vu a1))) 4 (.live (e_Paths Paths.z vnil vnil))), next := 5, tmps := (upd (upd (upd (upd (upd (fun _ => .unk) 2 (vi a2)) 3 (.ptr 0 0)) 4 (.ptr 3 0)) 6 (.ptr 4 0)) 9 (vi x19.2)) }

def hotspotref39_Find_S1 (x19 : (Paths × Int)) (a1 : A6vu) (a2 : Int) : AS :=
 { objs := (upd (upd (upd (upd (upd (upd (fun _ => .dead) 0 (.live (e_Paths x19.1 (.ref 1 0 x19.1.Routes.length 17) (.ref 2 0 x19.1.Wanted.length 8)))) 1 (.live (List.flatMap e_PathRoute x19.1.Routes))) 2 (.live (List.flatMap e_PathWanted x19.1.Wanted))) 3 (.live (e_A6vu a1))) 4 (.live (e_Paths Paths.z vnil vnil))) 5 (.live (e_PathWanted { PathWanted.z with Dest := a1, Due := IntKind.wrap .i64 (a2 + 100000), Tries := 1 }))), next := 6, tmps := (upd (upd (upd (upd (upd (fun _ => .unk) 3 (.ptr 0 0)) 4 (.ptr 3 0)) 6 (.ptr 4 0)) 11 vnil) 12 (.ptr 5 0)) }

def hotspotref39_Find_S2 (x19 : (Paths × Int)) (a1 : A6vu) (a2 : Int) (d25 : (List PathWanted × Bool)) : AS :=
 { objs := (upd (upd (upd (upd (upd (upd (upd (fun _ => .dead) 0 (.live (e_Paths x19.1 (.ref 1 0 x19.1.Routes.length 17) (.ref 2 0 x19.1.Wanted.length 8)))) 1 (.live (List.flatMap e_PathRoute x19.1.Routes))) 2 (.live (List.flatMap e_PathWanted x19.1.Wanted))) 3 (.live (e_A6vu a1))) 4 (.live (e_Paths Paths.z vnil vnil))) 5 (.live (List.flatMap e_PathWanted d25.1))) 6 (.live (e_PathWanted { PathWanted.z with Dest := a1, Due := IntKind.wrap .i64 (a2 + 100000), Tries := 1 }))), next := 7, tmps := (upd (upd (upd (upd (upd (upd (fun _ => .unk) 3 (.ptr 0 0)) 4 (.ptr 3 0)) 6 (.ptr 4 0)) 11 (.ref 5 0 d25.1.length 8)) 12 (.ptr 6 0)) 13 (vb d25.2)) }

def hotspotref39_Find_S3 (x19 : (Paths × Int)) (a1 : A6vu) (a2 : Int) (d26 : (List PathWanted × Bool × Int)) : AS :=
 { objs := (upd (upd (upd (upd (upd (upd (upd (fun _ => .dead) 0 (.live (e_Paths x19.1 (.ref 1 0 x19.1.Routes.length 17) (.ref 2 0 x19.1.Wanted.length 8)))) 1 (.live (List.flatMap e_PathRoute x19.1.Routes))) 2 (.live (List.flatMap e_PathWanted x19.1.Wanted))) 3 (.live (e_A6vu a1))) 4 (.live (e_Paths Paths.z vnil vnil))) 5 (.live (List.flatMap e_PathWanted d26.1))) 6 (.live (e_PathWanted { PathWanted.z with Dest := a1, Due := IntKind.wrap .i64 (a2 + 100000), Tries := 1 }))), next := 7, tmps := (upd (upd (upd (upd (upd (upd (upd (fun _ => .unk) 3 (.ptr 0 0)) 4 (.ptr 3 0)) 6 (.ptr 4 0)) 11 (.ref 5 0 d26.1.length 8)) 12 (.ptr 6 0)) 13 (vb d26.2.1)) 14 (vi d26.2.2)) }

def hotspotref39_Find_S5 (x19 : (Paths × Int)) (a1 : A6vu) (a2 : Int) (d26 : (List PathWanted × Bool × Int)) (d30 : (List PathWanted × Bool)) : AS :=
 { objs := (upd (upd (upd (upd (upd (upd (upd (fun _ => .dead) 0 (.live (e_Paths x19.1 (.ref 1 0 x19.1.Routes.length 17) (.ref 2 0 x19.1.Wanted.length 8)))) 1 (.live (List.flatMap e_PathRoute x19.1.Routes))) 2 (.live (List.flatMap e_PathWanted x19.1.Wanted))) 3 (.live (e_A6vu a1))) 4 (.live (e_Paths Paths.z vnil vnil))) 5 (.live (List.flatMap e_PathWanted d30.1))) 6 (.live (e_PathWanted { PathWanted.z with Dest := a1, Due := IntKind.wrap .i64 (a2 + 100000), Tries := 1 }))), next := 7, tmps := (upd (upd (upd (upd (upd (upd (upd (fun _ => .unk) 3 (.ptr 0 0)) 4 (.ptr 3 0)) 6 (.ptr 4 0)) 11 (.ref 5 0 d30.1.length 8)) 12 (.ptr 6 0)) 13 (vb d30.2)) 14 (vi d26.2.2)) }

def hotspotref39_Find_S6 (x19 : (Paths × Int)) (a1 : A6vu) (d34 : (List PathWanted)) : AS :=
 { objs := (upd (upd (upd (upd (upd (upd (fun _ => .dead) 0 (.live (e_Paths x19.1 (.ref 1 0 x19.1.Routes.length 17) (.ref 2 0 x19.1.Wanted.length 8)))) 1 (.live (List.flatMap e_PathRoute x19.1.Routes))) 2 (.live (List.flatMap e_PathWanted x19.1.Wanted))) 3 (.live (e_A6vu a1))) 4 (.live (e_Paths Paths.z vnil vnil))) 5 (.live (List.flatMap e_PathWanted d34))), next := 6, tmps := (upd (upd (upd (upd (fun _ => .unk) 3 (.ptr 0 0)) 4 (.ptr 3 0)) 6 (.ptr 4 0)) 11 (.ref 5 0 d34.length 8)) }

theorem hotspotref39_Find_r (a0 : Paths) (a1 : A6vu) (a2 : Int) {r : (Paths × (List Sent) × Int)} (h0 : hotspotref39_Find a0 a1 a2 = some r) : SndR K 7 [(.agg (E_Paths a0)), (.agg (e_A6vu a1)), (vi a2)] (fun q => (.tup [(.agg (e_Paths r.1 (.ref (q 0) 0 r.1.Routes.length 17) (.ref (q 1) 0 r.1.Wanted.length 8))), (.ref (q 2) 0 r.2.1.length 7), (vi r.2.2)])) [(List.flatMap e_PathRoute r.1.Routes), (List.flatMap e_PathWanted r.1.Wanted), (List.flatMap E_Sent r.2.1)] := by
 refine SndR.of_walkW hC (show K.P.funcs[7]? = some Tryd.f7 from Tryd.func7) rfl rfl (by decide +kernel) (qB2 rfl) ?_; unfold hotspotref39_Find at h0; refine awp_nw [0,1,2] fun tz U u => ?_; (try simp only [go_sem]); refine qU u ?_; clear u U; refine awp_nw [2,3,4,6] fun tz U u => ?_; obtain ⟨x19, bx19, h0⟩ := bnd h0; (try simp only [go_sem]); (refine xcall_M (hotspotref39_before_m a0 a2 bx19) ?_; try dsimp only); (try refine xw_id ?_); (try simp only [go_sem]); refine u _ (hotspotref39_Find_S0 x19 a1 a2) (by refine Wk.canonD [] [] [some 0, some 13, some 14, some 1, some 2] rfl trivial rfl (tmOU 4 (tmOU 3 (tmOU 2 (tmOU 1 (tmOU 0 tmO0 rfl qM rfl (e_Paths_tmx (by rfl) tr tr)) rfl qM rfl (TmL.of_eq qL (c_PathRoute _))) rfl qM rfl (TmL.of_eq qL (c_PathWanted _))) rfl qM rfl (TmL.clean (e_A6vu_clean _))) rfl qM rfl (e_Paths_tmx (by rfl) tv tv)) (tA 9 (tA 6 (tA 4 (tA 3 (tA 2 tmAll0 tv) tp) tp) tp) tv); all_goals exact qN) ?_; clear u U; unfold hotspotref39_Find_S0; refine awp_assoc ?_; refine awp_nw [2,3,4,6,9] fun tz U u => ?_; (try simp only [go_sem]); refine qU u ?_; clear u U; refine awp_cond (b := (x19.2 != 0)) rfl (fun h1 => ?_) (fun h1 => ?_)
 ·
  have h0 := cT h0 h1; refine awp_assoc ?_; refine awp_nw [6,9] fun tz U u => ?_; (try simp only [go_sem]); refine qU u ?_; clear u U; refine awp_ret ?_; obtain rfl := someInj h0; refine endW_i ?_; refine end_ret0 rs7 qR ?_; refine Res.mk [] [none, none, none] rfl (resON (resON (resON resO0))) (Tm.tup (tc (Tm.agg (e_Paths_tmx (by rfl) tT tT)) (tc tT (tc tv tn))))
 ·
  have h0 := cF h0 h1; refine awp_skip ?_; refine awp_assoc ?_; refine awp_nw [2,3,4,6] fun tz U u => ?_; refine xw_stop 5 qS qS (by rfl) fun V v => ?_; refine xw_id ?_; (try simp only [go_sem]); refine v _ ?_; clear v V; refine xw_cut 5 [(2, (vi a2)), (3, (.ptr 0 0)), (4, (.ptr 3 0)), (6, (.ptr 4 0)), (34, (vb ((decide (a1 = x19.1.Own)) || (((a1.a0).tmod 2) == 1))))] qS qS (by rfl) (fun V v => ?_) fun tz => ?_
  ·
   refine xw_id ?_; rcases bE (decide (a1 = x19.1.Own)) with h2 | h2
   ·
    (try simp only [go_sem, h2]); exact v _ ⟨rfl, rfl, rfl, rfl, rfl, (qB h2), trivial⟩
   ·
    (try simp only [go_sem, h2, Int.reduceEq]); exact v _ ⟨rfl, rfl, rfl, rfl, rfl, (qB h2), trivial⟩
  ·
   refine xw_id ?_; (try simp only [go_sem]); refine qU u ?_; clear u U; refine awp_cond (b := ((decide (a1 = x19.1.Own)) || (((a1.a0).tmod 2) == 1))) rfl (fun h3 => ?_) (fun h3 => ?_)
   ·
    have h0 := cT h0 h3; refine awp_assoc ?_; refine awp_nw [6] fun tz U u => ?_; (try simp only [go_sem]); refine qU u ?_; clear u U; refine awp_ret ?_; obtain rfl := someInj h0; refine endW_i ?_; refine end_ret0 rs7 qR ?_; refine Res.mk [] [none, none, none] rfl (resON (resON (resON resO0))) (Tm.tup (tc (Tm.agg (e_Paths_tmx (by rfl) tT tT)) (tc tT (tc tv tn))))
   ·
    have h0 := cF h0 h3; refine awp_skip ?_; refine awp_nw [2,3,4,6] fun tz U u => ?_; obtain ⟨x20, bx20, h0⟩ := bnd h0; (try simp only [go_sem]); (refine xcall_L (by first | (simp only [go_sem, fz] <;> rfl) | (simp only [go_sem, fz, List.length_set, ble_self, take_set, cond_true, cond_false] <;> rfl)) (hotspotref39_at_p x19.1 a1 bx20) (Bare.v _) ?_; try dsimp only); (try refine xw_id ?_); (try simp only [go_sem]); refine qU u ?_; clear u U; refine awp_assoc ?_; refine awp_nw [2,3,4,6,10] fun tz U u => ?_; refine xw_stop 3 qS qS (by rfl) fun V v => ?_; refine xw_id ?_; (try simp only [go_sem]); refine v _ ?_; clear v V; obtain ⟨x22, hvh4, h0⟩ := bnd h0; refine xw_cut 7 [(2, (vi a2)), (3, (.ptr 0 0)), (4, (.ptr 3 0)), (6, (.ptr 4 0)), (48, (vb x22))] qS qS (by rfl) (fun V v => ?_) fun tz => ?_
    ·
     refine xw_id ?_; rcases bE (decide (0 ≤ x20)) with h4 | h4
     ·
      have hvh4 := cT hvh4 h4; obtain ⟨x21, bx21, hvh4⟩ := bnd hvh4; obtain ⟨fx21_0, fx21_1, fx21_2, fx21_3⟩ := idx_some bx21; (have fx21_5 : ((x20 : Int) < ((x19.1.Routes.length : Nat) : Int)) = True := by first | exact fx21_1 | (simp [List.length_modify, List.length_set]; omega)); (try simp only [go_sem, h4, fx21_0, fx21_1, fx21_2, fx21_5]); obtain rfl := someInj hvh4; exact v _ ⟨rfl, rfl, rfl, rfl, rfl, (qB h4), trivial⟩
     ·
      have hvh4 := cF hvh4 h4; (try simp only [go_sem, h4]); obtain rfl := someInj hvh4; exact v _ ⟨rfl, rfl, rfl, rfl, rfl, (qB h4), trivial⟩
    ·
     refine xw_id ?_; refine xw_stop 1 qS qS (by rfl) fun V v => ?_; refine xw_id ?_; (try simp only [go_sem]); refine v _ ?_; clear v V; obtain ⟨x24, hvh5, h0⟩ := bnd h0; refine xw_cut 4 [(2, (vi a2)), (3, (.ptr 0 0)), (4, (.ptr 3 0)), (6, (.ptr 4 0)), (53, (vb x24))] qS qS (by rfl) (fun V v => ?_) fun tz => ?_
     ·
      refine xw_id ?_; rcases bE x22 with h5 | h5
      ·
       have hvh5 := cT hvh5 h5; (try simp only [go_sem, h5]); obtain rfl := someInj hvh5; exact v _ ⟨rfl, rfl, rfl, rfl, rfl, (qB h5), trivial⟩
      ·
       have hvh5 := cF hvh5 h5; obtain ⟨x23, bx23, hvh5⟩ := bnd hvh5; (try simp only [go_sem, h5]); (refine xcall_L (by first | (simp only [go_sem, fz, h5] <;> rfl) | (simp only [go_sem, fz, List.length_set, ble_self, take_set, cond_true, cond_false, h5] <;> rfl)) (hotspotref39_wanted_p x19.1 a1 bx23) (Bare.v _) ?_; try dsimp only); (try refine xw_id ?_); (try simp only [go_sem, h5]); obtain rfl := someInj hvh5; exact v _ ⟨rfl, rfl, rfl, rfl, rfl, (qB h5), trivial⟩
     ·
      refine xw_id ?_; (try simp only [go_sem]); refine qU u ?_; clear u U; refine awp_cond (b := x24) rfl (fun h6 => ?_) (fun h6 => ?_)
      ·
       have h0 := cT h0 h6; refine awp_assoc ?_; refine awp_nw [3,6] fun tz U u => ?_; (try simp only [go_sem]); refine qU u ?_; clear u U; refine awp_ret ?_; obtain rfl := someInj h0; refine endW_i ?_; refine end_ret0 rs7 qR ?_; refine Res.mk [] [some 1, some 2, none] rfl (resOU qM rfl (TmL.of_eq qL (c_PathRoute _)) (resOU qM rfl (TmL.of_eq qL (c_PathWanted _)) (resON resO0))) (Tm.tup (tc (Tm.agg (e_Paths_tmx (by rfl) tr tr)) (tc tT (tc tv tn)))); (all_goals exact qN)
      ·
       have h0 := cF h0 h6; refine awp_skip ?_; refine awp_assoc ?_; refine awp_nw [2,3,4,6] fun tz U u => ?_; refine xw_stop 4 qS qS (by rfl) fun V v => ?_; refine xw_id ?_; (try simp only [go_sem]); refine v _ ?_; clear v V; refine xw_cut 5 [(2, (vi a2)), (3, (.ptr 0 0)), (4, (.ptr 3 0)), (6, (.ptr 4 0)), (63, (vb ((decide (2147483647 ≤ x19.1.Seq)) || (decide (32 ≤ ((x19.1.Wanted.length : Nat) : Int))))))] qS qS (by rfl) (fun V v => ?_) fun tz => ?_
       ·
        refine xw_id ?_; rcases bE (decide (2147483647 ≤ x19.1.Seq)) with h7 | h7
        ·
         (try simp only [go_sem, h7]); exact v _ ⟨rfl, rfl, rfl, rfl, rfl, (qB h7), trivial⟩
        ·
         (try simp only [go_sem, h7]); exact v _ ⟨rfl, rfl, rfl, rfl, rfl, (qB h7), trivial⟩
       ·
        refine xw_id ?_; (try simp only [go_sem]); refine qU u ?_; clear u U; refine awp_cond (b := ((decide (2147483647 ≤ x19.1.Seq)) || (decide (32 ≤ ((x19.1.Wanted.length : Nat) : Int))))) rfl (fun h8 => ?_) (fun h8 => ?_)
        ·
         have h0 := cT h0 h8; refine awp_assoc ?_; refine awp_nw [6] fun tz U u => ?_; (try simp only [go_sem]); refine qU u ?_; clear u U; refine awp_ret ?_; obtain rfl := someInj h0; refine endW_i ?_; refine end_ret0 rs7 qR ?_; refine Res.mk [] [none, none, none] rfl (resON (resON (resON resO0))) (Tm.tup (tc (Tm.agg (e_Paths_tmx (by rfl) tT tT)) (tc tT (tc tv tn))))
        ·
         have h0 := cF h0 h8; refine awp_skip ?_; refine awp_nw [2,3,4,6] fun tz U u => ?_; (try simp only [go_sem]); refine qU u ?_; clear u U; refine awp_nw [2,3,4,6,11] fun tz U u => ?_; (try simp only [go_sem]); refine u _ (hotspotref39_Find_S1 x19 a1 a2) (by refine Wk.canonD [] [] [some 0, some 1, some 2, some 3, some 4, some 50] rfl trivial rfl (tmOU 5 (tmOU 4 (tmOU 3 (tmOU 2 (tmOU 1 (tmOU 0 tmO0 rfl qM rfl (e_Paths_tmx (by rfl) tr tr)) rfl qM rfl (TmL.of_eq qL (c_PathRoute _))) rfl qM rfl (TmL.of_eq qL (c_PathWanted _))) rfl qM rfl (TmL.clean (e_A6vu_clean _))) rfl qM rfl (e_Paths_tmx (by rfl) tv tv)) rfl qM rfl (TmL.clean (e_PathWanted_clean _))) (tA 12 (tA 11 (tA 6 (tA 4 (tA 3 tmAll0 tp) tp) tp) tv) tp); all_goals exact qN) ?_; clear u U; unfold hotspotref39_Find_S1; refine awp_nw [3,4,6,11,12] fun tz U u => ?_; (try simp only [go_sem]); refine qU u ?_; clear u U; refine awp_assoc ?_; refine awp_nw [3,4,6,11,12,13] fun tz U u => ?_; (try simp only [go_sem]); refine qU u ?_; clear u U; obtain ⟨d25, hi9, h0⟩ := bnd h0; refine awp_cut (fun z => d25 = z) (fun d25 : (List PathWanted × Bool) => hotspotref39_Find_S2 x19 a1 a2 d25) ?_ ?_
         ·
          refine awp_block1 ?_; refine awp_loopS (fun n (d26 : (List PathWanted × Bool × Int)) => hotspotref39_Find_L4 x19 a1 a2 n d26 = some d25) (fun d26 : (List PathWanted × Bool × Int) => hotspotref39_Find_S3 x19 a1 a2 d26) big ([], false, 0) (by refine Wk.canonD [] [] [some 0, some 1, some 2, some 3, some 4, none, some 5] rfl trivial rfl (tmOU 6 (tmON 5 (tmOU 4 (tmOU 3 (tmOU 2 (tmOU 1 (tmOU 0 tmO0 rfl qM rfl (e_Paths_tmx (by rfl) tr tr)) rfl qM rfl (TmL.of_eq qL (c_PathRoute _))) rfl qM rfl (TmL.of_eq qL (c_PathWanted _))) rfl qM rfl (TmL.clean (e_A6vu_clean _))) rfl qM rfl (e_Paths_tmx (by rfl) tv tv)) rfl) rfl qM rfl (TmL.clean (e_PathWanted_clean _))) (tA 14 (tA 13 (tA 12 (tA 11 (tA 6 (tA 4 (tA 3 tmAll0 tp) tp) tp) tT) tp) tv) tv); all_goals exact qN) hi9 ?_; clear hi9; rintro n d26 hl11; rcases n with _ | n10
          ·
           (rw [hotspotref39_Find_L4] at hl11; cases hl11)
          ·
           rw [hotspotref39_Find_L4] at hl11; unfold hotspotref39_Find_S3; refine awp_assoc ?_; refine awp_nw [3,4,6,11,12,13,14] fun tz U u => ?_; (try simp only [go_sem]); refine qU u ?_; clear u U; refine awp_cond (b := (decide (d26.2.2 < ((x19.1.Wanted.length : Nat) : Int)))) rfl (fun h12 => ?_) (fun h12 => ?_)
           ·
            have hl11 := cT hl11 h12; refine awp_skip ?_; refine awp_blockW ?_; refine awp_assoc ?_; refine awp_nw [3,4,6,11,12,13,14] fun tz U u => ?_; refine xw_stop 3 qS qS (by rfl) fun V v => ?_; refine xw_id ?_; (try simp only [go_sem]); refine v _ ?_; clear v V; obtain ⟨x29, hvh13, hl11⟩ := bnd hl11; refine xw_cut 9 [(3, (.ptr 0 0)), (4, (.ptr 3 0)), (6, (.ptr 4 0)), (11, (.ref 5 0 d26.1.length 8)), (12, (.ptr 6 0)), (13, (vb d26.2.1)), (14, (vi d26.2.2)), (87, (vb x29))] qS qS (by rfl) (fun V v => ?_) fun tz => ?_
            ·
             refine xw_id ?_; rcases bE (!d26.2.1) with h13 | h13
             ·
              have hvh13 := cT hvh13 h13; obtain ⟨x27, bx27, hvh13⟩ := bnd hvh13; obtain ⟨fx27_0, fx27_1, fx27_2, fx27_3⟩ := idx_some bx27; (have fx27_5 : ((d26.2.2 : Int) < ((x19.1.Wanted.length : Nat) : Int)) = True := by first | exact fx27_1 | (simp [List.length_modify, List.length_set]; omega)); obtain ⟨x28, bx28, hvh13⟩ := bnd hvh13; (try simp only [go_sem, h13, fx27_0, fx27_1, fx27_2, fx27_5]); (refine xcall_p (hotspotref23_Smaller_p a1 x27.Dest bx28) ?_; try dsimp only); (try refine xw_id ?_); (try simp only [go_sem, h13, fx27_0, fx27_1, fx27_2, fx27_5]); obtain rfl := someInj hvh13; exact v _ ⟨rfl, rfl, rfl, rfl, rfl, rfl, rfl, rfl, (qB h13), trivial⟩
             ·
              have hvh13 := cF hvh13 h13; (try simp only [go_sem, h13]); obtain rfl := someInj hvh13; exact v _ ⟨rfl, rfl, rfl, rfl, rfl, rfl, rfl, rfl, (qB h13), trivial⟩
            ·
             refine xw_id ?_; (try simp only [go_sem]); refine qU u ?_; clear u U; obtain ⟨d30, hi14, hl11⟩ := bnd hl11; refine awp_cut (fun z => d30 = z) (fun d30 : (List PathWanted × Bool) => hotspotref39_Find_S5 x19 a1 a2 d26 d30) ?_ ?_
             ·
              refine awp_cond1 (b := x29) rfl (fun h15 => ?_) (fun h15 => ?_)
              ·
               have hi14 := cT hi14 h15; refine awp_nw [3,4,6,11,12,14] fun tz U u => ?_; obtain ⟨x31, bx31, hi14⟩ := bnd hi14; have bx31 := chk_some bx31; simp only [Bool.and_eq_true, decide_eq_true_eq] at bx31; have gx31_0 := bx31; (try simp only [go_sem, gx31_0]); (try (rw [if_pos (by (try simp only [List.length_append, lc, ln]); omega)]; try simp only [go_sem, gx31_0])); refine qU u ?_; clear u U; refine awp_nw1 [3,4,6,11,12,14] fun tz U u => ?_; (try simp only [go_sem]); refine u _ ?_; clear u U; refine sq_n ?_; obtain rfl := someInj hi14; exact ⟨_, rfl, (by refine Wk.canonD [] [] [some 0, some 1, some 2, some 3, some 4, some 27, some 6] rfl trivial rfl (tmOU 6 (tmOU 5 (tmOU 4 (tmOU 3 (tmOU 2 (tmOU 1 (tmOU 0 tmO0 rfl qM rfl (e_Paths_tmx (by rfl) tr tr)) rfl qM rfl (TmL.of_eq qL (c_PathRoute _))) rfl qM rfl (TmL.of_eq qL (c_PathWanted _))) rfl qM rfl (TmL.clean (e_A6vu_clean _))) rfl qM rfl (e_Paths_tmx (by rfl) tv tv)) rfl qM rfl (TmL.of_eq qL (c_PathWanted _))) rfl qM rfl (TmL.clean (e_PathWanted_clean _))) (tA 14 (tA 13 (tA 12 (tA 11 (tA 6 (tA 4 (tA 3 tmAll0 tp) tp) tp) tr) tp) tv) tv); all_goals exact qN)⟩
              ·
               have hi14 := cF hi14 h15; refine awp_skip1 ?_; refine sq_n ?_; obtain rfl := someInj hi14; exact ⟨_, rfl, (by refine Wk.canonD [] [] [some 0, some 1, some 2, some 3, some 4, some 5, some 6] rfl trivial rfl (tmOU 6 (tmOU 5 (tmOU 4 (tmOU 3 (tmOU 2 (tmOU 1 (tmOU 0 tmO0 rfl qM rfl (e_Paths_tmx (by rfl) tr tr)) rfl qM rfl (TmL.of_eq qL (c_PathRoute _))) rfl qM rfl (TmL.of_eq qL (c_PathWanted _))) rfl qM rfl (TmL.clean (e_A6vu_clean _))) rfl qM rfl (e_Paths_tmx (by rfl) tv tv)) rfl qM rfl (TmL.of_eq qL (c_PathWanted _))) rfl qM rfl (TmL.clean (e_PathWanted_clean _))) (tA 14 (tA 13 (tA 12 (tA 11 (tA 6 (tA 4 (tA 3 tmAll0 tp) tp) tp) tr) tp) tv) tv); all_goals exact qN)⟩
             ·
              rintro _ rfl; clear hi14; unfold hotspotref39_Find_S5; refine awp_nw1 [3,4,6,11,12,13,14] fun tz U u => ?_; obtain ⟨x32, bx32, hl11⟩ := bnd hl11; obtain ⟨fx32_0, fx32_1, fx32_2, fx32_3⟩ := idx_some bx32; (have fx32_5 : ((d26.2.2 : Int) < ((x19.1.Wanted.length : Nat) : Int)) = True := by first | exact fx32_1 | (simp [List.length_modify, List.length_set]; omega)); obtain ⟨x33, bx33, hl11⟩ := bnd hl11; have bx33 := chk_some bx33; simp only [Bool.and_eq_true, decide_eq_true_eq] at bx33; have gx33_0 := bx33; (try simp only [go_sem, fx32_0, fx32_1, fx32_2, fx32_5, gx33_0]); (try (rw [if_pos (by (try simp only [List.length_append, lc, ln]); omega)]; try simp only [go_sem, fx32_0, fx32_1, fx32_2, fx32_5, gx33_0])); refine u _ ?_; clear u U; refine bq_n ?_; refine seqW_i ?_; refine awp_nw1 [3,4,6,11,12,13,14] fun tz U u => ?_; (try simp only [go_sem, fx32_0, fx32_1, fx32_2, fx32_5]); refine u _ ?_; clear u U; refine lq_n ?_; exact ⟨n10, ((d30.1 ++ [x32]), d30.2, IntKind.wrap .i64 (d26.2.2 + 1)), rfl, hl11, (by refine Wk.canonD [] [] [some 0, some 1, some 2, some 3, some 4, some 14, some 6] rfl trivial rfl (tmOU 6 (tmOU 5 (tmOU 4 (tmOU 3 (tmOU 2 (tmOU 1 (tmOU 0 tmO0 rfl qM rfl (e_Paths_tmx (by rfl) tr tr)) rfl qM rfl (TmL.of_eq qL (c_PathRoute _))) rfl qM rfl (TmL.of_eq qL (c_PathWanted _))) rfl qM rfl (TmL.clean (e_A6vu_clean _))) rfl qM rfl (e_Paths_tmx (by rfl) tv tv)) rfl qM rfl (TmL.of_eq qL (c_PathWanted _))) rfl qM rfl (TmL.clean (e_PathWanted_clean _))) (tA 14 (tA 13 (tA 12 (tA 11 (tA 6 (tA 4 (tA 3 tmAll0 tp) tp) tp) tr) tp) tv) tv); all_goals exact qN)⟩
           ·
            have hl11 := cF hl11 h12; refine awp_exit ?_; refine lq_e ?_; refine bq_e ?_; refine sq_n ?_; obtain rfl := someInj hl11; exact ⟨_, rfl, (by refine Wk.canonD [] [] [some 0, some 1, some 2, some 3, some 4, some 5, some 6] rfl trivial rfl (tmOU 6 (tmOU 5 (tmOU 4 (tmOU 3 (tmOU 2 (tmOU 1 (tmOU 0 tmO0 rfl qM rfl (e_Paths_tmx (by rfl) tr tr)) rfl qM rfl (TmL.of_eq qL (c_PathRoute _))) rfl qM rfl (TmL.of_eq qL (c_PathWanted _))) rfl qM rfl (TmL.clean (e_A6vu_clean _))) rfl qM rfl (e_Paths_tmx (by rfl) tv tv)) rfl qM rfl (TmL.of_eq qL (c_PathWanted _))) rfl qM rfl (TmL.clean (e_PathWanted_clean _))) (tA 13 (tA 12 (tA 11 (tA 6 (tA 4 (tA 3 tmAll0 tp) tp) tp) tr) tp) tv); all_goals exact qN)⟩
         ·
          rintro _ rfl; clear hi9; unfold hotspotref39_Find_S2; refine awp_assoc ?_; refine awp_nw [3,4,6,11,12,13] fun tz U u => ?_; (try simp only [go_sem]); refine qU u ?_; clear u U; obtain ⟨d34, hi16, h0⟩ := bnd h0; refine awp_cut (fun z => d34 = z) (fun d34 : (List PathWanted) => hotspotref39_Find_S6 x19 a1 d34) ?_ ?_
          ·
           refine awp_cond1 (b := (!d25.2)) rfl (fun h17 => ?_) (fun h17 => ?_)
           ·
            have hi16 := cT hi16 h17; refine awp_nw1 [3,4,6,11,12] fun tz U u => ?_; obtain ⟨x35, bx35, hi16⟩ := bnd hi16; have bx35 := chk_some bx35; simp only [Bool.and_eq_true, decide_eq_true_eq] at bx35; have gx35_0 := bx35; (try simp only [go_sem, gx35_0]); (try (rw [if_pos (by (try simp only [List.length_append, lc, ln]); omega)]; try simp only [go_sem, gx35_0])); refine u _ ?_; clear u U; refine sq_n ?_; obtain rfl := someInj hi16; exact ⟨_, rfl, (by refine Wk.canonD [] [] [some 0, some 1, some 2, some 3, some 4, some 12] rfl trivial rfl (tmOU 5 (tmOU 4 (tmOU 3 (tmOU 2 (tmOU 1 (tmOU 0 tmO0 rfl qM rfl (e_Paths_tmx (by rfl) tr tr)) rfl qM rfl (TmL.of_eq qL (c_PathRoute _))) rfl qM rfl (TmL.of_eq qL (c_PathWanted _))) rfl qM rfl (TmL.clean (e_A6vu_clean _))) rfl qM rfl (e_Paths_tmx (by rfl) tv tv)) rfl qM rfl (TmL.of_eq qL (c_PathWanted _))) (tA 11 (tA 6 (tA 4 (tA 3 tmAll0 tp) tp) tp) tr); all_goals exact qN)⟩
           ·
            have hi16 := cF hi16 h17; refine awp_skip1 ?_; refine sq_n ?_; obtain rfl := someInj hi16; exact ⟨_, rfl, (by refine Wk.canonD [] [] [some 0, some 1, some 2, some 3, some 4, some 5] rfl trivial rfl (tmOU 5 (tmOU 4 (tmOU 3 (tmOU 2 (tmOU 1 (tmOU 0 tmO0 rfl qM rfl (e_Paths_tmx (by rfl) tr tr)) rfl qM rfl (TmL.of_eq qL (c_PathRoute _))) rfl qM rfl (TmL.of_eq qL (c_PathWanted _))) rfl qM rfl (TmL.clean (e_A6vu_clean _))) rfl qM rfl (e_Paths_tmx (by rfl) tv tv)) rfl qM rfl (TmL.of_eq qL (c_PathWanted _))) (tA 11 (tA 6 (tA 4 (tA 3 tmAll0 tp) tp) tp) tr); all_goals exact qN)⟩
          ·
           rintro _ rfl; clear hi16; unfold hotspotref39_Find_S6; refine awp_nw [3,4,6,11] fun tz U u => ?_; (try simp only [go_sem]); refine qU u ?_; clear u U; refine awp_nw [3,4,6] fun tz U u => ?_; (try simp only [go_sem]); refine qU u ?_; clear u U; refine awp_nr [3,4,6] (fun _ => rfl) fun tz => ?_; refine awp_regDW fun U u all hall => ?_; refine xd_id ?_; (try simp only [List.toList_toArray, List.map_cons, List.map_nil, List.size_toArray, List.length_cons, List.length_nil, Nat.zero_add]); (try simp only [Nat.reduceAdd]); obtain ⟨x36, bx36, h0⟩ := bnd h0; (iterate 3 ((try simp only [go_sem, -Nat.reduceAdd]); try simp only [Nat.reduceAdd])); (refine xcallD_p (hotspotref39_All_p  bx36) ?_; try dsimp only); (try refine xd_id ?_); obtain ⟨x37, bx37, h0⟩ := bnd h0; (iterate 3 ((try simp only [go_sem, -Nat.reduceAdd]); try simp only [Nat.reduceAdd])); (refine xcallD_L (by first | (simp only [go_sem, fz] <;> rfl) | (simp only [go_sem, fz, List.length_set, ble_self, take_set, cond_true, cond_false] <;> rfl)) (by first | (simp only [go_sem, reach] <;> rfl)) (hotspotref39_known_p { x19.1 with Seq := IntKind.wrap .i64 (x19.1.Seq + 1), Wanted := d34 } a1 bx37) (Bare.v _) ?_; try dsimp only); (try refine xd_id ?_); obtain ⟨x38, bx38, h0⟩ := bnd h0; (iterate 3 ((try simp only [go_sem, -Nat.reduceAdd]); try simp only [Nat.reduceAdd])); (refine xcallD_p (hotspotref39_Request_p x19.1.Own (IntKind.wrap .i64 (x19.1.Seq + 1)) a1 x37 0 0 bx38) ?_; try dsimp only); (try refine xd_id ?_); (iterate 3 ((try simp only [go_sem, -Nat.reduceAdd]); try simp only [Nat.reduceAdd])); refine And.intro ?_ (u _ _ (Wk.refl _ _ _) ?_)
           ·
            subst hall; clear u U; exact qP
           ·
            clear u U hall all; refine awp_ret1 ?_; obtain rfl := someInj h0; refine endW_i ?_; refine end_ret0 rs7 qR ?_; refine Res.mk [] [some 1, some 5, some 26] rfl (resOU qM rfl (TmL.of_eq qL (c_PathRoute _)) (resOU qM rfl (TmL.of_eq qL (c_PathWanted _)) (resOU qM rfl (TmL.of_eq qL (c_Sent _)) resO0))) (Tm.tup (tc (Tm.agg (e_Paths_tmx (by rfl) tr tr)) (tc tr (tc tv tn)))); (all_goals exact qN)


theorem hotspotref39_Find_p (a0 : Paths) (a1 : A6vu) (a2 : Int) {r : (Paths × (List Sent) × Int)} (h0 : hotspotref39_Find a0 a1 a2 = some r) : SndP K 7 [(.agg (E_Paths a0)), (.agg (e_A6vu a1)), (vi a2)] (.tup [(.agg (E_Paths r.1)), (S_Sent r.2.1), (vi r.2.2)]) :=
 SndM.pure (rM (hotspotref39_Find_r a0 a1 a2 h0) (RenM.tup (RenML.cons (RenM.agg (e_Paths_ren _ (RenM.ref 0 0 _ _) (RenM.ref 1 0 _ _))) (RenML.cons (RenM.ref 2 0 _ _) (RenML.cons rv RenML.nil)))) (rows_all_cons (c_PathRoute _) (rows_all_cons (c_PathWanted _) (rows_all_cons (c_Sent _) rows_all_nil))) (clean_cons (Clean.agg (E_Paths_clean _)) (clean_cons (Clean.agg (e_A6vu_clean _)) (clean_cons cv clean_nil)))) (Clean.tup (clean_cons (Clean.agg (E_Paths_clean _)) (clean_cons (S_Sent_clean _) (clean_cons cv clean_nil)))) (clean_cons (Clean.agg (E_Paths_clean _)) (clean_cons (Clean.agg (e_A6vu_clean _)) (clean_cons cv clean_nil))) qV
def hotspotref39_Same_S0 (a0 : Paths) (a1 : Paths) (d40 : Unit) : AS :=
 { objs := (upd (upd (fun _ => .dead) 0 (.live (e_Paths a0 (.imm (List.flatMap e_PathRoute a0.Routes) a0.Routes.length) (.imm (List.flatMap e_PathWanted a0.Wanted) a0.Wanted.length)))) 1 (.live (e_Paths a1 (.imm (List.flatMap e_PathRoute a1.Routes) a1.Routes.length) (.imm (List.flatMap e_PathWanted a1.Wanted) a1.Wanted.length)))), next := 2, tmps := (upd (upd (fun _ => .unk) 2 (.ptr 0 0)) 3 (.ptr 1 0)) }

def hotspotref39_Same_S1 (a0 : Paths) (a1 : Paths) (d42 : Int) : AS :=
 { objs := (upd (upd (fun _ => .dead) 0 (.live (e_Paths a0 (.imm (List.flatMap e_PathRoute a0.Routes) a0.Routes.length) (.imm (List.flatMap e_PathWanted a0.Wanted) a0.Wanted.length)))) 1 (.live (e_Paths a1 (.imm (List.flatMap e_PathRoute a1.Routes) a1.Routes.length) (.imm (List.flatMap e_PathWanted a1.Wanted) a1.Wanted.length)))), next := 2, tmps := (upd (upd (upd (fun _ => .unk) 2 (.ptr 0 0)) 3 (.ptr 1 0)) 5 (vi d42)) }

def hotspotref39_Same_S3 (d45 : Unit) : AS :=
 { objs := (fun _ => .dead), next := 0, tmps := (fun _ => .unk) }

def hotspotref39_Same_S4 (a0 : Paths) (a1 : Paths) (d47 : Int) : AS :=
 { objs := (upd (upd (fun _ => .dead) 0 (.live (e_Paths a0 (.imm (List.flatMap e_PathRoute a0.Routes) a0.Routes.length) (.imm (List.flatMap e_PathWanted a0.Wanted) a0.Wanted.length)))) 1 (.live (e_Paths a1 (.imm (List.flatMap e_PathRoute a1.Routes) a1.Routes.length) (.imm (List.flatMap e_PathWanted a1.Wanted) a1.Wanted.length)))), next := 2, tmps := (upd (upd (upd (fun _ => .unk) 2 (.ptr 0 0)) 3 (.ptr 1 0)) 6 (vi d47)) }

theorem hotspotref39_Same_p (a0 : Paths) (a1 : Paths) {r : Bool} (h0 : hotspotref39_Same a0 a1 = some r) : SndP K 8 [(.agg (E_Paths a0)), (.agg (E_Paths a1))] (vb r) := by
 refine SndP.of_walkW hC cv (clean_cons (Clean.agg (E_Paths_clean _)) (clean_cons (Clean.agg (E_Paths_clean _)) clean_nil)) (show K.P.funcs[8]? = some Tryd.f8 from Tryd.func8) rfl rfl (by decide +kernel) (qB2 rfl) ?_; unfold hotspotref39_Same at h0; refine awp_nw [0,1] fun tz U u => ?_; (try simp only [go_sem]); refine qU u ?_; clear u U; refine awp_assoc ?_; refine awp_nw [2,3] fun tz U u => ?_; refine xw_stop 6 qS qS (by rfl) fun V v => ?_; refine xw_id ?_; (try simp only [go_sem]); refine v _ ?_; clear v V; refine xw_cut 6 [(2, (.ptr 0 0)), (3, (.ptr 1 0)), (18, (vb ((!decide (a0.Own = a1.Own)) || (a0.Seq != a1.Seq))))] qS qS (by rfl) (fun V v => ?_) fun tz => ?_
 ·
  refine xw_id ?_; rcases bE (!decide (a0.Own = a1.Own)) with h1 | h1
  ·
   (try simp only [go_sem, h1]); exact v _ ⟨rfl, rfl, rfl, (qB h1), trivial⟩
  ·
   (try simp only [go_sem, h1]); exact v _ ⟨rfl, rfl, rfl, (qB h1), trivial⟩
 ·
  refine xw_id ?_; refine xw_stop 1 qS qS (by rfl) fun V v => ?_; refine xw_id ?_; (try simp only [go_sem]); refine v _ ?_; clear v V; refine xw_cut 8 [(2, (.ptr 0 0)), (3, (.ptr 1 0)), (27, (vb (((!decide (a0.Own = a1.Own)) || (a0.Seq != a1.Seq)) || ((a0.Routes.length : Int) != (a1.Routes.length : Int)))))] qS qS (by rfl) (fun V v => ?_) fun tz => ?_
  ·
   refine xw_id ?_; rcases bE ((!decide (a0.Own = a1.Own)) || (a0.Seq != a1.Seq)) with h2 | h2
   ·
    (try simp only [go_sem, h2]); exact v _ ⟨rfl, rfl, rfl, (qB h2), trivial⟩
   ·
    (try simp only [go_sem, h2]); exact v _ ⟨rfl, rfl, rfl, (qB h2), trivial⟩
  ·
   refine xw_id ?_; refine xw_stop 1 qS qS (by rfl) fun V v => ?_; refine xw_id ?_; (try simp only [go_sem]); refine v _ ?_; clear v V; refine xw_cut 8 [(2, (.ptr 0 0)), (3, (.ptr 1 0)), (36, (vb ((((!decide (a0.Own = a1.Own)) || (a0.Seq != a1.Seq)) || ((a0.Routes.length : Int) != (a1.Routes.length : Int))) || ((a0.Wanted.length : Int) != (a1.Wanted.length : Int)))))] qS qS (by rfl) (fun V v => ?_) fun tz => ?_
   ·
    refine xw_id ?_; rcases bE (((!decide (a0.Own = a1.Own)) || (a0.Seq != a1.Seq)) || ((a0.Routes.length : Int) != (a1.Routes.length : Int))) with h3 | h3
    ·
     (try simp only [go_sem, h3]); exact v _ ⟨rfl, rfl, rfl, (qB h3), trivial⟩
    ·
     (try simp only [go_sem, h3]); exact v _ ⟨rfl, rfl, rfl, (qB h3), trivial⟩
   ·
    refine xw_id ?_; (try simp only [go_sem]); refine qU u ?_; clear u U; refine awp_cond (b := ((((!decide (a0.Own = a1.Own)) || (a0.Seq != a1.Seq)) || ((a0.Routes.length : Int) != (a1.Routes.length : Int))) || ((a0.Wanted.length : Int) != (a1.Wanted.length : Int)))) rfl (fun h4 => ?_) (fun h4 => ?_)
    ·
     have h0 := cT h0 h4; refine awp_assoc ?_; refine awp_nw [] fun tz U u => ?_; (try simp only [go_sem]); refine qU u ?_; clear u U; refine awp_ret ?_; obtain rfl := someInj h0; refine endW_i ?_; refine end_ret0 rs8 (rfl) ?_; exact qF
    ·
     have h0 := cF h0 h4; refine awp_skip ?_; refine awp_assoc ?_; refine awp_nw [2,3] fun tz U u => ?_; (try simp only [go_sem]); refine qU u ?_; clear u U; obtain ⟨o41, hi5, h0⟩ := bnd h0; refine awp_cut (fun d40 : Unit => o41 = Ex.go d40) (fun d40 : Unit => hotspotref39_Same_S0 a0 a1 d40) ?_ ?_
     ·
      refine awp_block1 ?_; refine awp_loopS (fun n (d42 : Int) => hotspotref39_Same_L2 a0 a1 n d42 = some o41) (fun d42 : Int => hotspotref39_Same_S1 a0 a1 d42) big 0 (Wk.canonD [] [] [some 0, some 1] rfl trivial rfl (tmOU 1 (tmOU 0 tmO0 rfl qM rfl (e_Paths_tmx (by rfl) (tI (c_PathRoute _)) (tI (c_PathWanted _)))) rfl qM rfl (e_Paths_tmx (by rfl) (tI (c_PathRoute _)) (tI (c_PathWanted _)))) (tA 5 (tA 3 (tA 2 tmAll0 tp) tp) tv)) hi5 ?_; clear hi5; rintro n d42 hl7; rcases n with _ | n6
      ·
       (rw [hotspotref39_Same_L2] at hl7; cases hl7)
      ·
       rw [hotspotref39_Same_L2] at hl7; unfold hotspotref39_Same_S1; refine awp_assoc ?_; refine awp_nw [2,3,5] fun tz U u => ?_; (try simp only [go_sem]); refine qU u ?_; clear u U; refine awp_cond (b := (decide (d42 < (a0.Routes.length : Int)))) rfl (fun h8 => ?_) (fun h8 => ?_)
       ·
        have hl7 := cT hl7 h8; refine awp_skip ?_; refine awp_blockW ?_; refine awp_nw [2,3,5] fun tz U u => ?_; obtain ⟨x43, bx43, hl7⟩ := bnd hl7; obtain ⟨fx43_0, fx43_1, fx43_2, fx43_3⟩ := idx_some bx43; obtain ⟨x44, bx44, hl7⟩ := bnd hl7; obtain ⟨fx44_0, fx44_1, fx44_2, fx44_3⟩ := idx_some bx44; (try simp only [go_sem, fx43_0, fx43_1, fx43_2, fx44_0, fx44_1, fx44_2]); refine qU u ?_; clear u U; refine awp_cond1 (b := (!decide (x43 = x44))) rfl (fun h9 => ?_) (fun h9 => ?_)
        ·
         have hl7 := cT hl7 h9; refine awp_nw [] fun tz U u => ?_; (try simp only [go_sem, fx43_0, fx43_1, fx43_2, fx44_0, fx44_1, fx44_2]); refine qU u ?_; clear u U; refine awp_ret1 ?_; refine bq_r ?_; refine sq_r ?_; refine lq_r ?_; refine bq_r ?_; refine sq_r ?_; obtain rfl := someInj hl7; obtain rfl := Ex.k_ret h0; refine endW_i ?_; refine end_ret0 rs8 (rfl) ?_; exact qF
        ·
         have hl7 := cF hl7 h9; refine awp_skip1 ?_; refine bq_n ?_; refine seqW_i ?_; refine awp_nw1 [2,3,5] fun tz U u => ?_; (try simp only [go_sem, fx43_0, fx43_1, fx43_2, fx44_0, fx44_1, fx44_2]); refine u _ ?_; clear u U; refine lq_n ?_; exact ⟨n6, IntKind.wrap .i64 (d42 + 1), rfl, hl7, (Wk.canonD [] [] [some 0, some 1] rfl trivial rfl (tmOU 1 (tmOU 0 tmO0 rfl qM rfl (e_Paths_tmx (by rfl) (tI (c_PathRoute _)) (tI (c_PathWanted _)))) rfl qM rfl (e_Paths_tmx (by rfl) (tI (c_PathRoute _)) (tI (c_PathWanted _)))) (tA 5 (tA 3 (tA 2 tmAll0 tp) tp) tv))⟩
       ·
        have hl7 := cF hl7 h8; refine awp_exit ?_; refine lq_e ?_; refine bq_e ?_; refine sq_n ?_; obtain rfl := someInj hl7; exact ⟨_, rfl, (Wk.canonD [] [] [some 0, some 1] rfl trivial rfl (tmOU 1 (tmOU 0 tmO0 rfl qM rfl (e_Paths_tmx (by rfl) (tI (c_PathRoute _)) (tI (c_PathWanted _)))) rfl qM rfl (e_Paths_tmx (by rfl) (tI (c_PathRoute _)) (tI (c_PathWanted _)))) (tA 3 (tA 2 tmAll0 tp) tp))⟩
     ·
      rintro d40 rfl; have h0 := Ex.k_go h0; clear hi5; unfold hotspotref39_Same_S0; refine awp_assoc ?_; refine awp_nw [2,3] fun tz U u => ?_; (try simp only [go_sem]); refine qU u ?_; clear u U; obtain ⟨o46, hi10, h0⟩ := bnd h0; refine awp_cut (fun d45 : Unit => o46 = Ex.go d45) (fun d45 : Unit => hotspotref39_Same_S3 d45) ?_ ?_
      ·
       refine awp_block1 ?_; refine awp_loopS (fun n (d47 : Int) => hotspotref39_Same_L5 a0 a1 n d47 = some o46) (fun d47 : Int => hotspotref39_Same_S4 a0 a1 d47) big 0 (Wk.canonD [] [] [some 0, some 1] rfl trivial rfl (tmOU 1 (tmOU 0 tmO0 rfl qM rfl (e_Paths_tmx (by rfl) (tI (c_PathRoute _)) (tI (c_PathWanted _)))) rfl qM rfl (e_Paths_tmx (by rfl) (tI (c_PathRoute _)) (tI (c_PathWanted _)))) (tA 6 (tA 3 (tA 2 tmAll0 tp) tp) tv)) hi10 ?_; clear hi10; rintro n d47 hl12; rcases n with _ | n11
       ·
        (rw [hotspotref39_Same_L5] at hl12; cases hl12)
       ·
        rw [hotspotref39_Same_L5] at hl12; unfold hotspotref39_Same_S4; refine awp_assoc ?_; refine awp_nw [2,3,6] fun tz U u => ?_; (try simp only [go_sem]); refine qU u ?_; clear u U; refine awp_cond (b := (decide (d47 < (a0.Wanted.length : Int)))) rfl (fun h13 => ?_) (fun h13 => ?_)
        ·
         have hl12 := cT hl12 h13; refine awp_skip ?_; refine awp_blockW ?_; refine awp_nw [2,3,6] fun tz U u => ?_; obtain ⟨x48, bx48, hl12⟩ := bnd hl12; obtain ⟨fx48_0, fx48_1, fx48_2, fx48_3⟩ := idx_some bx48; obtain ⟨x49, bx49, hl12⟩ := bnd hl12; obtain ⟨fx49_0, fx49_1, fx49_2, fx49_3⟩ := idx_some bx49; (try simp only [go_sem, fx48_0, fx48_1, fx48_2, fx49_0, fx49_1, fx49_2]); refine qU u ?_; clear u U; refine awp_cond1 (b := (!decide (x48 = x49))) rfl (fun h14 => ?_) (fun h14 => ?_)
         ·
          have hl12 := cT hl12 h14; refine awp_nw [] fun tz U u => ?_; (try simp only [go_sem, fx48_0, fx48_1, fx48_2, fx49_0, fx49_1, fx49_2]); refine qU u ?_; clear u U; refine awp_ret1 ?_; refine bq_r ?_; refine sq_r ?_; refine lq_r ?_; refine bq_r ?_; refine sq_r ?_; obtain rfl := someInj hl12; obtain rfl := Ex.k_ret h0; refine endW_i ?_; refine end_ret0 rs8 (rfl) ?_; exact qF
         ·
          have hl12 := cF hl12 h14; refine awp_skip1 ?_; refine bq_n ?_; refine seqW_i ?_; refine awp_nw1 [2,3,6] fun tz U u => ?_; (try simp only [go_sem, fx48_0, fx48_1, fx48_2, fx49_0, fx49_1, fx49_2]); refine u _ ?_; clear u U; refine lq_n ?_; exact ⟨n11, IntKind.wrap .i64 (d47 + 1), rfl, hl12, (Wk.canonD [] [] [some 0, some 1] rfl trivial rfl (tmOU 1 (tmOU 0 tmO0 rfl qM rfl (e_Paths_tmx (by rfl) (tI (c_PathRoute _)) (tI (c_PathWanted _)))) rfl qM rfl (e_Paths_tmx (by rfl) (tI (c_PathRoute _)) (tI (c_PathWanted _)))) (tA 6 (tA 3 (tA 2 tmAll0 tp) tp) tv))⟩
        ·
         have hl12 := cF hl12 h13; refine awp_exit ?_; refine lq_e ?_; refine bq_e ?_; refine sq_n ?_; obtain rfl := someInj hl12; exact ⟨_, rfl, (Wk.canonD [] [] [] rfl trivial rfl tmO0 tmAll0)⟩
      ·
       rintro d45 rfl; have h0 := Ex.k_go h0; clear hi10; unfold hotspotref39_Same_S3; refine awp_nw [] fun tz U u => ?_; (try simp only [go_sem]); refine qU u ?_; clear u U; refine awp_ret1 ?_; obtain rfl := someInj h0; refine endW_i ?_; refine end_ret0 rs8 (rfl) ?_; exact qF
def hotspotref22_Same_S0 (d54 : Unit) : AS :=
 { objs := (fun _ => .dead), next := 0, tmps := (fun _ => .unk) }

def hotspotref22_Same_S1 (a0 : (List Int)) (a1 : (List Int)) (d56 : Int) : AS :=
 { objs := (fun _ => .dead), next := 0, tmps := (upd (upd (upd (fun _ => .unk) 0 (.imm (List.map vu a0) a0.length)) 1 (.imm (List.map vu a1) a1.length)) 5 (vi d56)) }

theorem hotspotref22_Same_p (a0 : (List Int)) (a1 : (List Int)) {r : Bool} (h0 : hotspotref22_Same a0 a1 = some r) : SndP K 33 [(S_vu a0), (S_vu a1)] (vb r) := by
 refine SndP.of_walkW hC cv (clean_cons (S_vu_clean _) (clean_cons (S_vu_clean _) clean_nil)) (show K.P.funcs[33]? = some Tryd.f33 from Tryd.func33) rfl rfl (by decide +kernel) (qB2 rfl) ?_; unfold hotspotref22_Same at h0; refine awp_nw [0,1] fun tz U u => ?_; (try simp only [go_sem]); refine qU u ?_; clear u U; refine awp_assoc ?_; refine awp_nw [0,1] fun tz U u => ?_; (try simp only [go_sem]); refine qU u ?_; clear u U; refine awp_cond (b := ((a0.length : Int) != (a1.length : Int))) rfl (fun h1 => ?_) (fun h1 => ?_)
 ·
  have h0 := cT h0 h1; refine awp_assoc ?_; refine awp_nw [] fun tz U u => ?_; (try simp only [go_sem]); refine qU u ?_; clear u U; refine awp_ret ?_; obtain rfl := someInj h0; refine endW_i ?_; refine end_ret0 rs33 (rfl) ?_; exact qF
 ·
  have h0 := cF h0 h1; refine awp_skip ?_; refine awp_assoc ?_; refine awp_nw [0,1] fun tz U u => ?_; (try simp only [go_sem]); refine qU u ?_; clear u U; obtain ⟨o55, hi2, h0⟩ := bnd h0; refine awp_cut (fun d54 : Unit => o55 = Ex.go d54) (fun d54 : Unit => hotspotref22_Same_S0 d54) ?_ ?_
  ·
   refine awp_block1 ?_; refine awp_loopS (fun n (d56 : Int) => hotspotref22_Same_L2 a0 a1 n d56 = some o55) (fun d56 : Int => hotspotref22_Same_S1 a0 a1 d56) big 0 (Wk.canonD [] [] [] rfl trivial rfl tmO0 (tA 5 (tA 1 (tA 0 tmAll0 (tI (vu_clean _))) (tI (vu_clean _))) tv)) hi2 ?_; clear hi2; rintro n d56 hl4; rcases n with _ | n3
   ·
    (rw [hotspotref22_Same_L2] at hl4; cases hl4)
   ·
    rw [hotspotref22_Same_L2] at hl4; unfold hotspotref22_Same_S1; refine awp_assoc ?_; refine awp_nw [0,1,5] fun tz U u => ?_; (try simp only [go_sem]); refine qU u ?_; clear u U; refine awp_cond (b := (decide (d56 < (a0.length : Int)))) rfl (fun h5 => ?_) (fun h5 => ?_)
    ·
     have hl4 := cT hl4 h5; refine awp_skip ?_; refine awp_blockW ?_; refine awp_nw [0,1,5] fun tz U u => ?_; obtain ⟨x57, bx57, hl4⟩ := bnd hl4; obtain ⟨fx57_0, fx57_1, fx57_2, fx57_3⟩ := idx_some bx57; obtain ⟨x58, bx58, hl4⟩ := bnd hl4; obtain ⟨fx58_0, fx58_1, fx58_2, fx58_3⟩ := idx_some bx58; (try simp only [go_sem, fx57_0, fx57_1, fx57_2, fx58_0, fx58_1, fx58_2]); refine qU u ?_; clear u U; refine awp_cond1 (b := (x57 != x58)) rfl (fun h6 => ?_) (fun h6 => ?_)
     ·
      have hl4 := cT hl4 h6; refine awp_nw [] fun tz U u => ?_; (try simp only [go_sem, fx57_0, fx57_1, fx57_2, fx58_0, fx58_1, fx58_2]); refine qU u ?_; clear u U; refine awp_ret1 ?_; refine bq_r ?_; refine sq_r ?_; refine lq_r ?_; refine bq_r ?_; refine sq_r ?_; obtain rfl := someInj hl4; obtain rfl := Ex.k_ret h0; refine endW_i ?_; refine end_ret0 rs33 (rfl) ?_; exact qF
     ·
      have hl4 := cF hl4 h6; refine awp_skip1 ?_; refine bq_n ?_; refine seqW_i ?_; refine awp_nw1 [0,1,5] fun tz U u => ?_; (try simp only [go_sem, fx57_0, fx57_1, fx57_2, fx58_0, fx58_1, fx58_2]); refine u _ ?_; clear u U; refine lq_n ?_; exact ⟨n3, IntKind.wrap .i64 (d56 + 1), rfl, hl4, (Wk.canonD [] [] [] rfl trivial rfl tmO0 (tA 5 (tA 1 (tA 0 tmAll0 (tI (vu_clean _))) (tI (vu_clean _))) tv))⟩
    ·
     have hl4 := cF hl4 h5; refine awp_exit ?_; refine lq_e ?_; refine bq_e ?_; refine sq_n ?_; obtain rfl := someInj hl4; exact ⟨_, rfl, (Wk.canonD [] [] [] rfl trivial rfl tmO0 tmAll0)⟩
  ·
   rintro d54 rfl; have h0 := Ex.k_go h0; clear hi2; unfold hotspotref22_Same_S0; refine awp_nw [] fun tz U u => ?_; (try simp only [go_sem]); refine qU u ?_; clear u U; refine awp_ret1 ?_; obtain rfl := someInj h0; refine endW_i ?_; refine end_ret0 rs33 (rfl) ?_; exact qF
def hotspotref39_SameSent_S0 (d51 : Unit) : AS :=
 { objs := (fun _ => .dead), next := 0, tmps := (fun _ => .unk) }

def hotspotref39_SameSent_S1 (a0 : (List Sent)) (a1 : (List Sent)) (d53 : Int) : AS :=
 { objs := (fun _ => .dead), next := 0, tmps := (upd (upd (upd (fun _ => .unk) 0 (.imm (List.flatMap E_Sent a0) a0.length)) 1 (.imm (List.flatMap E_Sent a1) a1.length)) 5 (vi d53)) }

theorem hotspotref39_SameSent_p (a0 : (List Sent)) (a1 : (List Sent)) {r : Bool} (h0 : hotspotref39_SameSent a0 a1 = some r) : SndP K 9 [(S_Sent a0), (S_Sent a1)] (vb r) := by
 refine SndP.of_walkW hC cv (clean_cons (S_Sent_clean _) (clean_cons (S_Sent_clean _) clean_nil)) (show K.P.funcs[9]? = some Tryd.f9 from Tryd.func9) rfl rfl (by decide +kernel) (qB2 rfl) ?_; unfold hotspotref39_SameSent at h0; refine awp_nw [0,1] fun tz U u => ?_; (try simp only [go_sem]); refine qU u ?_; clear u U; refine awp_assoc ?_; refine awp_nw [0,1] fun tz U u => ?_; (try simp only [go_sem]); refine qU u ?_; clear u U; refine awp_cond (b := ((a0.length : Int) != (a1.length : Int))) rfl (fun h1 => ?_) (fun h1 => ?_)
 ·
  have h0 := cT h0 h1; refine awp_assoc ?_; refine awp_nw [] fun tz U u => ?_; (try simp only [go_sem]); refine qU u ?_; clear u U; refine awp_ret ?_; obtain rfl := someInj h0; refine endW_i ?_; refine end_ret0 rs9 (rfl) ?_; exact qF
 ·
  have h0 := cF h0 h1; refine awp_skip ?_; refine awp_assoc ?_; refine awp_nw [0,1] fun tz U u => ?_; (try simp only [go_sem]); refine qU u ?_; clear u U; obtain ⟨o52, hi2, h0⟩ := bnd h0; refine awp_cut (fun d51 : Unit => o52 = Ex.go d51) (fun d51 : Unit => hotspotref39_SameSent_S0 d51) ?_ ?_
  ·
   refine awp_block1 ?_; refine awp_loopS (fun n (d53 : Int) => hotspotref39_SameSent_L2 a0 a1 n d53 = some o52) (fun d53 : Int => hotspotref39_SameSent_S1 a0 a1 d53) big 0 (Wk.canonD [] [] [] rfl trivial rfl tmO0 (tA 5 (tA 1 (tA 0 tmAll0 (tI (c_Sent _))) (tI (c_Sent _))) tv)) hi2 ?_; clear hi2; rintro n d53 hl4; rcases n with _ | n3
   ·
    (rw [hotspotref39_SameSent_L2] at hl4; cases hl4)
   ·
    rw [hotspotref39_SameSent_L2] at hl4; unfold hotspotref39_SameSent_S1; refine awp_assoc ?_; refine awp_nw [0,1,5] fun tz U u => ?_; (try simp only [go_sem]); refine qU u ?_; clear u U; refine awp_cond (b := (decide (d53 < (a0.length : Int)))) rfl (fun h5 => ?_) (fun h5 => ?_)
    ·
     have hl4 := cT hl4 h5; refine awp_skip ?_; refine awp_blockW ?_; refine awp_nw [0,1,5] fun tz U u => ?_; obtain ⟨x54, bx54, hl4⟩ := bnd hl4; obtain ⟨fx54_0, fx54_1, fx54_2, fx54_3⟩ := idx_some bx54; obtain ⟨x55, bx55, hl4⟩ := bnd hl4; obtain ⟨fx55_0, fx55_1, fx55_2, fx55_3⟩ := idx_some bx55; refine xw_stop 12 qS qS (by rfl) fun V v => ?_; refine xw_id ?_; (try simp only [go_sem, fx54_0, fx54_1, fx54_2, fx55_0, fx55_1, fx55_2]); refine v _ ?_; clear v V; obtain ⟨x57, hvh6, hl4⟩ := bnd hl4; refine xw_cut 13 [(0, (.imm (List.flatMap E_Sent a0) a0.length)), (1, (.imm (List.flatMap E_Sent a1) a1.length)), (5, (vi d53)), (41, (vb x57))] qS qS (by rfl) (fun V v => ?_) fun tz => ?_
     ·
      refine xw_id ?_; rcases bE (!decide (x54.To = x55.To)) with h6 | h6
      ·
       have hvh6 := cT hvh6 h6; (try simp only [go_sem, fx54_0, fx54_1, fx54_2, fx55_0, fx55_1, fx55_2, h6]); obtain rfl := someInj hvh6; exact v _ ⟨rfl, rfl, rfl, rfl, (qB h6), trivial⟩
      ·
       have hvh6 := cF hvh6 h6; obtain ⟨x56, bx56, hvh6⟩ := bnd hvh6; (try simp only [go_sem, fx54_0, fx54_1, fx54_2, fx55_0, fx55_1, fx55_2, h6]); (refine xcall_p (hotspotref22_Same_p x54.Data x55.Data bx56) ?_; try dsimp only); (try refine xw_id ?_); (try simp only [go_sem, fx54_0, fx54_1, fx54_2, fx55_0, fx55_1, fx55_2, h6]); obtain rfl := someInj hvh6; exact v _ ⟨rfl, rfl, rfl, rfl, (qB h6), trivial⟩
     ·
      refine xw_id ?_; (try simp only [go_sem, fx54_0, fx54_1, fx54_2, fx55_0, fx55_1, fx55_2]); refine qU u ?_; clear u U; refine awp_cond1 (b := x57) rfl (fun h7 => ?_) (fun h7 => ?_)
      ·
       have hl4 := cT hl4 h7; refine awp_nw [] fun tz U u => ?_; (try simp only [go_sem, fx54_0, fx54_1, fx54_2, fx55_0, fx55_1, fx55_2]); refine qU u ?_; clear u U; refine awp_ret1 ?_; refine bq_r ?_; refine sq_r ?_; refine lq_r ?_; refine bq_r ?_; refine sq_r ?_; obtain rfl := someInj hl4; obtain rfl := Ex.k_ret h0; refine endW_i ?_; refine end_ret0 rs9 (rfl) ?_; exact qF
      ·
       have hl4 := cF hl4 h7; refine awp_skip1 ?_; refine bq_n ?_; refine seqW_i ?_; refine awp_nw1 [0,1,5] fun tz U u => ?_; (try simp only [go_sem, fx54_0, fx54_1, fx54_2, fx55_0, fx55_1, fx55_2]); refine u _ ?_; clear u U; refine lq_n ?_; exact ⟨n3, IntKind.wrap .i64 (d53 + 1), rfl, hl4, (Wk.canonD [] [] [] rfl trivial rfl tmO0 (tA 5 (tA 1 (tA 0 tmAll0 (tI (c_Sent _))) (tI (c_Sent _))) tv))⟩
    ·
     have hl4 := cF hl4 h5; refine awp_exit ?_; refine lq_e ?_; refine bq_e ?_; refine sq_n ?_; obtain rfl := someInj hl4; exact ⟨_, rfl, (Wk.canonD [] [] [] rfl trivial rfl tmO0 tmAll0)⟩
  ·
   rintro d51 rfl; have h0 := Ex.k_go h0; clear hi2; unfold hotspotref39_SameSent_S0; refine awp_nw [] fun tz U u => ?_; (try simp only [go_sem]); refine qU u ?_; clear u U; refine awp_ret1 ?_; obtain rfl := someInj h0; refine endW_i ?_; refine end_ret0 rs9 (rfl) ?_; exact qF
def hotspotlaw39_touch_S0 (a0 : Paths) (d60 : (List PathRoute)) : AS :=
 { objs := (upd (upd (upd (fun _ => .dead) 0 (.live (List.flatMap e_PathRoute d60))) 1 (.live (List.flatMap e_PathWanted a0.Wanted))) 2 (.live (e_Paths a0 (.ref 0 0 d60.length 17) (.ref 1 0 a0.Wanted.length 8)))), next := 3, tmps := (upd (fun _ => .unk) 1 (.ptr 2 0)) }

def hotspotlaw39_touch_S1 (a0 : Paths) (d61 : (List PathRoute × Int)) : AS :=
 { objs := (upd (upd (upd (fun _ => .dead) 0 (.live (List.flatMap e_PathRoute d61.1))) 1 (.live (List.flatMap e_PathWanted a0.Wanted))) 2 (.live (e_Paths a0 (.ref 0 0 d61.1.length 17) (.ref 1 0 a0.Wanted.length 8)))), next := 3, tmps := (upd (upd (fun _ => .unk) 1 (.ptr 2 0)) 2 (vi d61.2)) }

def hotspotlaw39_touch_S3 (d60 : (List PathRoute)) (d63 : (List PathWanted)) : AS :=
 { objs := (upd (upd (fun _ => .dead) 0 (.live (List.flatMap e_PathRoute d60))) 1 (.live (List.flatMap e_PathWanted d63))), next := 2, tmps := (fun _ => .unk) }

def hotspotlaw39_touch_S4 (d60 : (List PathRoute)) (a0 : Paths) (d64 : (List PathWanted × Int)) : AS :=
 { objs := (upd (upd (upd (fun _ => .dead) 0 (.live (List.flatMap e_PathRoute d60))) 1 (.live (List.flatMap e_PathWanted d64.1))) 2 (.live (e_Paths a0 (.ref 0 0 d60.length 17) (.ref 1 0 d64.1.length 8)))), next := 3, tmps := (upd (upd (fun _ => .unk) 1 (.ptr 2 0)) 3 (vi d64.2)) }

theorem hotspotlaw39_touch_io (a0 : Paths) {r : (List PathRoute × List PathWanted)} (h0 : hotspotlaw39_touch a0 = some r) : SndIO K 10 2 (fun q => [(.agg (e_Paths a0 (.ref (q 0) 0 a0.Routes.length 17) (.ref (q 1) 0 a0.Wanted.length 8)))]) [(fun q => (List.flatMap e_PathRoute a0.Routes)), (fun q => (List.flatMap e_PathWanted a0.Wanted))] (fun q => (.tup [])) [(some (fun q => (List.flatMap e_PathRoute r.1))), (some (fun q => (List.flatMap e_PathWanted r.2)))] := by
 refine SndIO.of_walkW hC (RenML.cons (RenM.agg (e_Paths_ren _ (RenM.ref 0 0 _ _) (RenM.ref 1 0 _ _))) RenML.nil) (tpl_cons (RenML.const (c_PathRoute _)) (tpl_cons (RenML.const (c_PathWanted _)) tpl_nil)) (otpl_some (RenML.const (c_PathRoute _)) (otpl_some (RenML.const (c_PathWanted _)) otpl_nil)) (RenM.tup RenML.nil) rfl (qB2 rfl) (show K.P.funcs[10]? = some Tryd.f10 from Tryd.func10) rfl rfl (by decide +kernel) (qB2 rfl) ?_; unfold hotspotlaw39_touch at h0; refine awp_nw [0] fun tz U u => ?_; (try simp only [go_sem]); refine qU u ?_; clear u U; refine awp_assoc ?_; refine awp_nw [1] fun tz U u => ?_; (try simp only [go_sem]); refine qU u ?_; clear u U; obtain ⟨d60, hi1, h0⟩ := bnd h0; refine awp_cut (fun z => d60 = z) (fun d60 : (List PathRoute) => hotspotlaw39_touch_S0 a0 d60) ?_ ?_
 ·
  refine awp_block1 ?_; refine awp_loopS (fun n (d61 : (List PathRoute × Int)) => hotspotlaw39_touch_L2 n d61 = some d60) (fun d61 : (List PathRoute × Int) => hotspotlaw39_touch_S1 a0 d61) big (a0.Routes, 0) (by refine Wk.canonD [] [] [some 0, some 1, some 2] rfl trivial rfl (tmOU 2 (tmOU 1 (tmOU 0 tmO0 rfl qM rfl (TmL.of_eq qL (c_PathRoute _))) rfl qM rfl (TmL.of_eq qL (c_PathWanted _))) rfl qM rfl (e_Paths_tmx (by rfl) tr tr)) (tA 2 (tA 1 tmAll0 tp) tv); all_goals exact qN) hi1 ?_; clear hi1; rintro n d61 hl3; rcases n with _ | n2
  ·
   (rw [hotspotlaw39_touch_L2] at hl3; cases hl3)
  ·
   rw [hotspotlaw39_touch_L2] at hl3; unfold hotspotlaw39_touch_S1; refine awp_assoc ?_; refine awp_nw [1,2] fun tz U u => ?_; (try simp only [go_sem]); refine qU u ?_; clear u U; refine awp_cond (b := (decide (d61.2 < ((d61.1.length : Nat) : Int)))) rfl (fun h4 => ?_) (fun h4 => ?_)
   ·
    have hl3 := cT hl3 h4; refine awp_skip ?_; refine awp_blockW ?_; refine awp_nw1 [1,2] fun tz U u => ?_; obtain ⟨x62, bx62, hl3⟩ := bnd hl3; obtain ⟨fx62_0, fx62_1, fx62_2, fx62_3⟩ := idx_some bx62; (have fx62_5 : ((d61.2 : Int) < ((d61.1.length : Nat) : Int)) = True := by first | exact fx62_1 | (simp [List.length_modify, List.length_set]; omega)); have gs5 : ((d61.2).toNat * 17 + 7 ≤ d61.1.length * 17) = True := eq_true (by (try simp only [List.length_modify, List.length_set]); omega); have gm6 : (d61.1.modify ((d61.2).toNat) fun y => { y with Seq := 77 })[(d61.2).toNat]? = some ({ x62 with Seq := 77 }) := getMod _ fx62_2; (try simp only [go_sem, fx62_0, fx62_1, fx62_2, fx62_5, gs5, gm6]); refine u _ ?_; clear u U; refine bq_n ?_; refine seqW_i ?_; refine awp_nw1 [1,2] fun tz U u => ?_; (try simp only [go_sem, fx62_0, fx62_1, fx62_2, fx62_5, gm6]); refine u _ ?_; clear u U; refine lq_n ?_; exact ⟨n2, ((d61.1.modify ((d61.2).toNat) fun y => { y with Seq := 77 }), IntKind.wrap .i64 (d61.2 + 1)), rfl, hl3, (by refine Wk.canonD [] [] [some 0, some 1, some 2] rfl trivial rfl (tmOU 2 (tmOU 1 (tmOU 0 tmO0 rfl qM rfl (TmL.of_eq qL (c_PathRoute _))) rfl qM rfl (TmL.of_eq qL (c_PathWanted _))) rfl qM rfl (e_Paths_tmx (by rfl) tr tr)) (tA 2 (tA 1 tmAll0 tp) tv); all_goals exact qN)⟩
   ·
    have hl3 := cF hl3 h4; refine awp_exit ?_; refine lq_e ?_; refine bq_e ?_; refine sq_n ?_; obtain rfl := someInj hl3; exact ⟨_, rfl, (by refine Wk.canonD [] [] [some 0, some 1, some 2] rfl trivial rfl (tmOU 2 (tmOU 1 (tmOU 0 tmO0 rfl qM rfl (TmL.of_eq qL (c_PathRoute _))) rfl qM rfl (TmL.of_eq qL (c_PathWanted _))) rfl qM rfl (e_Paths_tmx (by rfl) tr tr)) (tA 1 tmAll0 tp); all_goals exact qN)⟩
 ·
  rintro _ rfl; clear hi1; unfold hotspotlaw39_touch_S0; refine awp_nw [1] fun tz U u => ?_; (try simp only [go_sem]); refine qU u ?_; clear u U; obtain ⟨d63, hi7, h0⟩ := bnd h0; refine awp_cutQ (fun z => d63 = z) (fun d63 : (List PathWanted) => hotspotlaw39_touch_S3 d60 d63) clQ_end ?_ ?_
  ·
   refine awp_block1 ?_; refine awp_loopS (fun n (d64 : (List PathWanted × Int)) => hotspotlaw39_touch_L5 n d64 = some d63) (fun d64 : (List PathWanted × Int) => hotspotlaw39_touch_S4 d60 a0 d64) big (a0.Wanted, 0) (by refine Wk.canonD [] [] [some 0, some 1, some 2] rfl trivial rfl (tmOU 2 (tmOU 1 (tmOU 0 tmO0 rfl qM rfl (TmL.of_eq qL (c_PathRoute _))) rfl qM rfl (TmL.of_eq qL (c_PathWanted _))) rfl qM rfl (e_Paths_tmx (by rfl) tr tr)) (tA 3 (tA 1 tmAll0 tp) tv); all_goals exact qN) hi7 ?_; clear hi7; rintro n d64 hl9; rcases n with _ | n8
   ·
    (rw [hotspotlaw39_touch_L5] at hl9; cases hl9)
   ·
    rw [hotspotlaw39_touch_L5] at hl9; unfold hotspotlaw39_touch_S4; refine awp_assoc ?_; refine awp_nw [1,3] fun tz U u => ?_; (try simp only [go_sem]); refine qU u ?_; clear u U; refine awp_cond (b := (decide (d64.2 < ((d64.1.length : Nat) : Int)))) rfl (fun h10 => ?_) (fun h10 => ?_)
    ·
     have hl9 := cT hl9 h10; refine awp_skip ?_; refine awp_blockW ?_; refine awp_nw1 [1,3] fun tz U u => ?_; obtain ⟨x65, bx65, hl9⟩ := bnd hl9; obtain ⟨fx65_0, fx65_1, fx65_2, fx65_3⟩ := idx_some bx65; (have fx65_5 : ((d64.2 : Int) < ((d64.1.length : Nat) : Int)) = True := by first | exact fx65_1 | (simp [List.length_modify, List.length_set]; omega)); have gs11 : ((d64.2).toNat * 8 + 7 ≤ d64.1.length * 8) = True := eq_true (by (try simp only [List.length_modify, List.length_set]); omega); have gm12 : (d64.1.modify ((d64.2).toNat) fun y => { y with Tries := 77 })[(d64.2).toNat]? = some ({ x65 with Tries := 77 }) := getMod _ fx65_2; (try simp only [go_sem, fx65_0, fx65_1, fx65_2, fx65_5, gs11, gm12]); refine u _ ?_; clear u U; refine bq_n ?_; refine seqW_i ?_; refine awp_nw1 [1,3] fun tz U u => ?_; (try simp only [go_sem, fx65_0, fx65_1, fx65_2, fx65_5, gm12]); refine u _ ?_; clear u U; refine lq_n ?_; exact ⟨n8, ((d64.1.modify ((d64.2).toNat) fun y => { y with Tries := 77 }), IntKind.wrap .i64 (d64.2 + 1)), rfl, hl9, (by refine Wk.canonD [] [] [some 0, some 1, some 2] rfl trivial rfl (tmOU 2 (tmOU 1 (tmOU 0 tmO0 rfl qM rfl (TmL.of_eq qL (c_PathRoute _))) rfl qM rfl (TmL.of_eq qL (c_PathWanted _))) rfl qM rfl (e_Paths_tmx (by rfl) tr tr)) (tA 3 (tA 1 tmAll0 tp) tv); all_goals exact qN)⟩
    ·
     have hl9 := cF hl9 h10; refine awp_exit ?_; refine lq_e ?_; refine bq_e ?_; refine sq_n ?_; obtain rfl := someInj hl9; exact ⟨_, rfl, (Wk.canonD [] [] [some 0, some 1] rfl trivial rfl (tmOU 1 (tmOU 0 tmO0 rfl qM rfl (TmL.of_eq qL (c_PathRoute _))) rfl qM rfl (TmL.of_eq qL (c_PathWanted _))) tmAll0)⟩
  ·
   rintro _ rfl; clear hi7; unfold hotspotlaw39_touch_S3; obtain rfl := someInj h0; refine endW_i ?_; refine end_normal0 rs10 (rfl) ?_; refine ResIO.mk [] [some 0, some 1] rfl (resEU qM rfl (TmL.of_eq qL (c_PathRoute _)) (resEU qM rfl (TmL.of_eq qL (c_PathWanted _)) resE0)) (Tm.tup tn)
theorem path_node_send_2_io (a0 : A6vu) (a1 : (List Int)) (a2 : Path_node) {r : Unit} (h0 : path_node_send_2 a0 a1 a2 = some r) : SndIO K 51 4 (fun q => [(.ptr (q 0) 0), (.agg (e_A6vu a0)), (.imm (List.map vu a1) a1.length)]) [(fun q => (e_Path_node a2 (.ref (q 1) 0 a2.Paths.Routes.length 17) (.ref (q 2) 0 a2.Paths.Wanted.length 8) (.ref (q 3) 0 a2.out.length 7))), (fun q => (List.flatMap e_PathRoute a2.Paths.Routes)), (fun q => (List.flatMap e_PathWanted a2.Paths.Wanted)), (fun q => (List.flatMap E_Sent a2.out))] (fun q => (.tup [])) [(some (fun q => (e_Path_node a2 (.ref (q 1) 0 a2.Paths.Routes.length 17) (.ref (q 2) 0 a2.Paths.Wanted.length 8) (.ref (q 4) 0 ((a2.out ++ [{ Sent.z with Data := a1, To := a0 }]).length) 7)))), (some (fun q => (List.flatMap e_PathRoute a2.Paths.Routes))), (some (fun q => (List.flatMap e_PathWanted a2.Paths.Wanted))), none, (some (fun q => (List.flatMap E_Sent (a2.out ++ [{ Sent.z with Data := a1, To := a0 }]))))] := by
 refine SndIO.of_walkW hC (RenML.cons (RenM.ptr 0 0) (RenML.cons (RenM.const (Clean.agg (e_A6vu_clean _))) (RenML.cons (rI (vu_clean _)) RenML.nil))) (tpl_cons (e_Path_node_ren _ (RenM.ref 1 0 _ _) (RenM.ref 2 0 _ _) (RenM.ref 3 0 _ _)) (tpl_cons (RenML.const (c_PathRoute _)) (tpl_cons (RenML.const (c_PathWanted _)) (tpl_cons (RenML.const (c_Sent _)) tpl_nil)))) (otpl_some (e_Path_node_ren _ (RenM.ref 1 0 _ _) (RenM.ref 2 0 _ _) (RenM.ref 4 0 _ _)) (otpl_some (RenML.const (c_PathRoute _)) (otpl_some (RenML.const (c_PathWanted _)) (otpl_none (otpl_some (RenML.const (c_Sent _)) otpl_nil))))) (RenM.tup RenML.nil) rfl (qB2 rfl) (show K.P.funcs[51]? = some Tryd.f51 from Tryd.func51) rfl rfl (by decide +kernel) (qB2 rfl) ?_; unfold path_node_send_2 at h0; refine awp_nw [0,1,2] fun tz U u => ?_; (try simp only [go_sem]); refine qU u ?_; clear u U; refine awp_nr1 [0,2,4] (fun _ => rfl) fun tz => ?_; refine awp_regD1 fun U u all hall => ?_; refine xd_id ?_; (try simp only [List.toList_toArray, List.map_cons, List.map_nil, List.size_toArray, List.length_cons, List.length_nil, Nat.zero_add]); (try simp only [Nat.reduceAdd]); obtain ⟨x80, bx80, h0⟩ := bnd h0; have bx80 := chk_some bx80; simp only [Bool.and_eq_true, decide_eq_true_eq] at bx80; have gx80_0 := bx80; (iterate 3 ((try simp only [go_sem, -Nat.reduceAdd, gx80_0]); try simp only [Nat.reduceAdd])); refine And.intro ?_ (u _ ?_)
 ·
  subst hall; clear u U; exact qP
 ·
  clear u U hall all; obtain rfl := someInj h0; refine endW_i ?_; refine end_normal0 rs51 (rfl) ?_; refine ResIO.mk [] [some 0, some 1, some 2, some 3, some 14] rfl (resEU qM rfl (e_Path_node_tmx (by rfl) tr tr tr) (resEU qM rfl (TmL.of_eq qL (c_PathRoute _)) (resEU qM rfl (TmL.of_eq qL (c_PathWanted _)) (resED (resEU qM rfl (TmL.of_eq qL (c_Sent _)) resE0))))) (Tm.tup tn); (all_goals exact qN)
end Go.AX.Z.TO
