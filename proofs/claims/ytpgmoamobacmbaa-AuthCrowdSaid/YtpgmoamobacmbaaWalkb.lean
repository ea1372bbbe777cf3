/- A part of the proof: walks through the functions that the statement reaches. -/
import Derived.Test.YtpgmoamobacmbaaWalka
set_option linter.unusedVariables false
set_option linter.unusedSimpArgs false

/-! (TVW auth Base) -/

set_option linter.unusedSimpArgs false
set_option linter.unusedVariables false
set_option maxHeartbeats 4000000
set_option maxRecDepth 20000
namespace Go.AX.Z.TV
open Go.AX Go.Proofs
attribute [local irreducible] awp xw xop xcall gsp ob xd xdop xcallD seqQ loopQ blkQ endQ

def auth_Base_S0 (a0 : (List Int)) (d33 : (A6vu × A6vu)) : AS :=
 { objs := (upd (upd (fun _ => .dead) 0 (.live (e_A6vu d33.1))) 1 (.live (e_A6vu d33.2))), next := 2, tmps := (upd (upd (upd (fun _ => .unk) 0 (vs a0)) 4 (.ptr 0 0)) 5 (.ptr 1 0)) }

def auth_Base_S1 (x35 : ((List Int) × Int)) : AS :=
 { objs := (upd (fun _ => .dead) 0 (.live (List.map vu x35.1))), next := 1, tmps := (upd (fun _ => .unk) 8 (.ref 0 0 x35.1.length 1)) }

theorem auth_Base_p (a0 : (List Int)) (a1 : A6vu) (a2 : A6vu) {r : (Int × Int)} (h0 : auth_Base a0 a1 a2 = some r) : SndP K 26 [(vs a0), (.agg (e_A6vu a1)), (.agg (e_A6vu a2))] (.tup [(vq r.1), (vi r.2)]) := by
 refine SndP.of_walkW hC (Clean.tup (clean_cons (Clean.v _) (clean_cons (Clean.v _) clean_nil))) (clean_cons (Clean.v _) (clean_cons (Clean.agg (e_A6vu_clean _)) (clean_cons (Clean.agg (e_A6vu_clean _)) clean_nil))) (show K.P.funcs[26]? = some Try.f26 from Try.func26) rfl rfl (by decide +kernel) (Nat.le_of_ble_eq_true rfl) ?_
 unfold auth_Base at h0
 refine awp_nr [0,1,2] (fun _ => rfl) fun tz => ?_
 refine awp_regW fun KK hKK => ?_
 refine xw_id ?_
 try simp only [go_sem, Nat.reduceAdd]
 refine hKK _ _ (Wk.refl _ _ _) ?_; clear hKK KK
 refine awp_assoc ?_
 refine awp_nr [0,4,5] (fun _ => rfl) fun tz => ?_
 refine awp_regW fun KK hKK => ?_
 refine xw_id ?_
 try simp only [go_sem, Nat.reduceAdd]
 refine hKK _ _ (Wk.refl _ _ _) ?_; clear hKK KK
 refine awp_cond (b := (decide (a1 = a2))) rfl (fun h1 => ?_) (fun h1 => ?_)
 ·
  have h0 := cT h0 h1
  refine awp_assoc ?_
  refine awp_nr [] (fun _ => rfl) fun tz => ?_
  refine awp_regW fun KK hKK => ?_
  refine xw_id ?_
  try simp only [go_sem, Nat.reduceAdd]
  refine hKK _ _ (Wk.refl _ _ _) ?_; clear hKK KK
  refine awp_ret ?_
  obtain rfl := someInj h0
  refine endW_i ?_
  refine end_ret0 rs26 (rfl) ?_
  try simp only [go_sem, Nat.reduceAdd, fz, nilS, packR, List.take_nil, List.take_length, List.length_map, List.length_append, cond_true, cond_false, Nat.ble_eq, ble_self]
  all_goals first | rfl | (simp only [go_sem, Nat.reduceAdd, fz, nilS, packR, List.take_nil, List.take_length, List.length_map, List.length_append, cond_true, cond_false, Nat.ble_eq, ble_self, List.map_append] <;> rfl)
 ·
  have h0 := cF h0 h1
  refine awp_skip ?_
  refine awp_assoc ?_
  refine awp_nr [0,4,5] (fun _ => rfl) fun tz => ?_
  refine awp_regW fun KK hKK => ?_
  refine xw_id ?_
  try simp only [go_sem, Nat.reduceAdd]
  refine hKK _ _ (Wk.refl _ _ _) ?_; clear hKK KK
  refine awp_cond (b := (decide (64 < (a0.length : Int)))) rfl (fun h2 => ?_) (fun h2 => ?_)
  ·
   have h0 := cT h0 h2
   refine awp_assoc ?_
   refine awp_nr [] (fun _ => rfl) fun tz => ?_
   refine awp_regW fun KK hKK => ?_
   refine xw_id ?_
   try simp only [go_sem, Nat.reduceAdd]
   refine hKK _ _ (Wk.refl _ _ _) ?_; clear hKK KK
   refine awp_ret ?_
   obtain rfl := someInj h0
   refine endW_i ?_
   refine end_ret0 rs26 (rfl) ?_
   try simp only [go_sem, Nat.reduceAdd, fz, nilS, packR, List.take_nil, List.take_length, List.length_map, List.length_append, cond_true, cond_false, Nat.ble_eq, ble_self]
   all_goals first | rfl | (simp only [go_sem, Nat.reduceAdd, fz, nilS, packR, List.take_nil, List.take_length, List.length_map, List.length_append, cond_true, cond_false, Nat.ble_eq, ble_self, List.map_append] <;> rfl)
  ·
   have h0 := cF h0 h2
   refine awp_skip ?_
   refine awp_assoc ?_
   refine awp_nr [0,4,5] (fun _ => rfl) fun tz => ?_
   refine awp_regW fun KK hKK => ?_
   refine xw_id ?_
   obtain ⟨x32, bx32, h0⟩ := bnd h0
   try simp only [go_sem, Nat.reduceAdd]
   refine xcall_p (address_Compare_p a1 a2 bx32) ?_; try dsimp only
   try refine xw_id ?_
   try simp only [go_sem, Nat.reduceAdd]
   refine hKK _ _ (Wk.refl _ _ _) ?_; clear hKK KK
   obtain ⟨d33, hi3, h0⟩ := bnd h0
   refine awp_cut (fun z => d33 = z) (fun d33 : (A6vu × A6vu) => auth_Base_S0 a0 d33) ?_ ?_
   ·
    refine awp_cond1 (b := (decide (0 < x32))) rfl (fun h4 => ?_) (fun h4 => ?_)
    ·
     have hi3 := cT hi3 h4
     refine awp_nr1 [0,4,5] (fun _ => rfl) fun tz => ?_
     refine awp_reg1 fun KK hKK => ?_
     refine xw_id ?_
     try simp only [go_sem, Nat.reduceAdd]
     refine hKK _ ?_; clear hKK KK
     refine sq_n ?_
     obtain rfl := someInj hi3
     exact ⟨_, rfl, (Wk.canonD [] [] [some 0, some 1] rfl trivial rfl (tmOU 1 (tmOU 0 tmO0 rfl List.not_mem_nil rfl (TmL.clean (e_A6vu_clean _))) rfl List.not_mem_nil rfl (TmL.clean (e_A6vu_clean _))) (tmAllU 5 (tmAllU 4 (tmAllU 0 tmAll0 (Tm.v _)) (Tm.ptr rfl)) (Tm.ptr rfl)))⟩
    ·
     have hi3 := cF hi3 h4
     refine awp_skip1 ?_
     refine sq_n ?_
     obtain rfl := someInj hi3
     exact ⟨_, rfl, (Wk.canonD [] [] [some 0, some 1] rfl trivial rfl (tmOU 1 (tmOU 0 tmO0 rfl List.not_mem_nil rfl (TmL.clean (e_A6vu_clean _))) rfl List.not_mem_nil rfl (TmL.clean (e_A6vu_clean _))) (tmAllU 5 (tmAllU 4 (tmAllU 0 tmAll0 (Tm.v _)) (Tm.ptr rfl)) (Tm.ptr rfl)))⟩
   ·
    rintro _ rfl
    clear hi3
    unfold auth_Base_S0
    refine awp_nr [0,4,5] (fun _ => rfl) fun tz => ?_
    refine awp_regDW fun KK hKK all hall => ?_
    refine xd_id ?_
    try simp only [List.toList_toArray, List.map_cons, List.map_nil, List.size_toArray, List.length_cons, List.length_nil, Nat.zero_add]
    try simp only [Nat.reduceAdd]
    have gs5 : sbE K.P 9 29 (vs a0) = some (.imm (List.map vu (sB a0)) (sB a0).length) := sbE_vs (d := .string) (e := 5) (by kernel_rfl) (by kernel_rfl) (by kernel_rfl) a0
    obtain ⟨x34, bx34, h0⟩ := bnd h0
    iterate 3 ((try simp only [go_sem, gs5, Int.sub_zero, Int.sub_zero]); try simp only [Nat.reduceAdd])
    refine xcallD_EL (by first | (simp only [go_sem, fz, nilS, cond_true, cond_false, Nat.reduceAdd, gs5, Int.sub_zero, Int.sub_zero] <;> rfl) | (simp only [go_sem, fz, List.length_set, ble_self, take_set, cond_true, cond_false, Nat.reduceAdd, gs5, Int.sub_zero, Int.sub_zero] <;> rfl)) (by first | (simp only [go_sem, reach, Nat.reduceAdd, gs5, Int.sub_zero, Int.sub_zero] <;> rfl)) (slices_Concat_byte_byte_e [(sB a0), [d33.1.a0, d33.1.a1, d33.1.a2, d33.1.a3, d33.1.a4, d33.1.a5], [d33.2.a0, d33.2.a1, d33.2.a2, d33.2.a3, d33.2.a4, d33.2.a5]] bx34 _) (by repeat' (first | exact NoV.v _ | exact NoV.ref _ _ _ _ | exact NoV.onil | refine NoV.ocons ?_ ?_ | exact NoV.nil | refine NoV.tup ?_ | refine NoV.agg ?_ | refine NoV.rows (fun _ => ?_) _ | refine NoV.maps (fun _ => ?_) _ | refine NoV.cons ?_ ?_)) (by repeat' (first | exact NoV.v _ | exact NoV.ref _ _ _ _ | exact NoV.onil | refine NoV.ocons ?_ ?_ | exact NoV.nil | refine NoV.tup ?_ | refine NoV.agg ?_ | refine NoV.rows (fun _ => ?_) _ | refine NoV.maps (fun _ => ?_) _ | refine NoV.cons ?_ ?_)) ?_; try dsimp only
    try refine xd_id ?_
    obtain ⟨x35, bx35, h0⟩ := bnd h0
    iterate 3 ((try simp only [go_sem, gs5, Int.sub_zero, Int.sub_zero]); try simp only [Nat.reduceAdd])
    refine xcallD_EL (by first | (simp only [go_sem, fz, nilS, cond_true, cond_false, Nat.reduceAdd, gs5, Int.sub_zero, Int.sub_zero] <;> rfl) | (simp only [go_sem, fz, List.length_set, ble_self, take_set, cond_true, cond_false, Nat.reduceAdd, gs5, Int.sub_zero, Int.sub_zero] <;> rfl)) (by first | (simp only [go_sem, reach, Nat.reduceAdd, gs5, Int.sub_zero, Int.sub_zero] <;> rfl)) (derive_Expand_2_e A16vu.z x34 8 bx35 _) (by repeat' (first | exact NoV.v _ | exact NoV.ref _ _ _ _ | exact NoV.onil | refine NoV.ocons ?_ ?_ | exact NoV.nil | refine NoV.tup ?_ | refine NoV.agg ?_ | refine NoV.rows (fun _ => ?_) _ | refine NoV.maps (fun _ => ?_) _ | refine NoV.cons ?_ ?_)) (by repeat' (first | exact NoV.v _ | exact NoV.ref _ _ _ _ | exact NoV.onil | refine NoV.ocons ?_ ?_ | exact NoV.nil | refine NoV.tup ?_ | refine NoV.agg ?_ | refine NoV.rows (fun _ => ?_) _ | refine NoV.maps (fun _ => ?_) _ | refine NoV.cons ?_ ?_)) ?_; try dsimp only
    try refine xd_id ?_
    iterate 3 ((try simp only [go_sem, gs5, Int.sub_zero, Int.sub_zero]); try simp only [Nat.reduceAdd])
    refine And.intro ?_ (hKK _ (auth_Base_S1 x35) (by refine Wk.canonD [] [] [some 9] rfl trivial rfl (tmOU 0 tmO0 rfl List.not_mem_nil rfl (TmL.of_eq (by first | rfl | (simp only [List.flatMap_append, List.flatMap_cons, List.flatMap_nil, List.map_append, List.map_cons, List.map_nil, List.append_nil, List.nil_append] <;> rfl)) (vu_clean _))) (tmAllU 8 tmAll0 (Tm.refL rfl ?_)); all_goals (first | rfl | (simp only [List.length_append, List.length_take, List.length_drop, List.length_cons, List.length_nil, List.length_modify, List.length_set, Nat.zero_add] <;> omega) | omega)) ?_)
    ·
     subst hall
     clear hKK KK
     first | decide +kernel | (simp [printsOk, apartP, clash, meet]; try (first | done | decide +kernel | (repeat (first | exact Or.inr (by decide +kernel) | (refine And.intro (Or.inr (by decide +kernel)) ?_)))))
    ·
     clear hKK KK hall all
     unfold auth_Base_S1
     refine awp_nr [8] (fun _ => rfl) fun tz => ?_
     refine awp_regW fun KK hKK => ?_
     refine xw_id ?_
     obtain ⟨x36, bx36, h0⟩ := bnd h0
     try simp only [go_sem, Nat.reduceAdd]
     refine xcall_L (by first | (simp only [go_sem, fz, Nat.reduceAdd] <;> rfl) | (simp only [go_sem, fz, List.length_set, ble_self, take_set, cond_true, cond_false, Nat.reduceAdd] <;> rfl)) (auth_get_p x35.1 bx36) (Bare.v _) ?_; try dsimp only
     try refine xw_id ?_
     try simp only [go_sem, Nat.reduceAdd, Int.reduceEq]
     refine hKK _ _ (Wk.refl _ _ _) ?_; clear hKK KK
     refine awp_nr [10] (fun _ => rfl) fun tz => ?_
     refine awp_regW fun KK hKK => ?_
     refine xw_id ?_
     obtain ⟨x37, bx37, h0⟩ := bnd h0
     try simp only [go_sem, Nat.reduceAdd]
     refine xcall_p (auth_Mul_p (IntKind.wrap .u64 (2 + ((x36).tmod 2305843009213693948))) (IntKind.wrap .u64 (2 + ((x36).tmod 2305843009213693948))) bx37) ?_; try dsimp only
     try refine xw_id ?_
     try simp only [go_sem, Nat.reduceAdd]
     refine hKK _ _ (Wk.refl _ _ _) ?_; clear hKK KK
     refine awp_ret1 ?_
     obtain rfl := someInj h0
     refine endW_i ?_
     refine end_ret0 rs26 (rfl) ?_
     try simp only [go_sem, Nat.reduceAdd, fz, nilS, packR, List.take_nil, List.take_length, List.length_map, List.length_append, cond_true, cond_false, Nat.ble_eq, ble_self]
     all_goals first | rfl | (simp only [go_sem, Nat.reduceAdd, fz, nilS, packR, List.take_nil, List.take_length, List.length_map, List.length_append, cond_true, cond_false, Nat.ble_eq, ble_self, List.map_append] <;> rfl)

end Go.AX.Z.TV

/-! (TVW auth secret) -/

set_option linter.unusedSimpArgs false
set_option linter.unusedVariables false
set_option maxHeartbeats 4000000
set_option maxRecDepth 20000
namespace Go.AX.Z.TV
open Go.AX Go.Proofs
attribute [local irreducible] awp xw xop xcall gsp ob xd xdop xcallD seqQ loopQ blkQ endQ


theorem auth_secret_p (a0 : Auth) {r : Bool} (h0 : auth_secret a0 = some r) : SndP K 48 [(.agg (e_Auth a0))] (vb r) := by
 refine SndP.of_walkW hC (Clean.v _) (clean_cons (Clean.agg (e_Auth_clean _)) clean_nil) (show K.P.funcs[48]? = some Try.f48 from Try.func48) rfl rfl (by decide +kernel) (Nat.le_of_ble_eq_true rfl) ?_
 unfold auth_secret at h0
 refine awp_nr [0] (fun _ => rfl) fun tz => ?_
 refine awp_regW fun KK hKK => ?_
 refine xw_id ?_
 try simp only [go_sem, Nat.reduceAdd]
 refine hKK _ _ (Wk.refl _ _ _) ?_; clear hKK KK
 refine awp_nr [1] (fun _ => rfl) fun tz => ?_
 refine awp_regW fun KK hKK => ?_
 refine xw_id ?_
 refine xw_stop 4 (by (try simp only [go_sem]); rfl) (by (try simp only [go_sem]); rfl) (by rfl) fun K1 hK1 => ?_
 refine xw_id ?_
 try simp only [go_sem, Nat.reduceAdd]
 refine hK1 _ ?_; clear hK1 K1
 refine xw_cut 4 [(1, (.ptr 0 0)), (10, (vb ((decide (2 ≤ a0.Rand)) && (decide (a0.Rand < 2305843009213693950)))))] (by (try simp only [go_sem]); rfl) (by (try simp only [go_sem]); rfl) (by rfl) (fun K1 hK1 => ?_) fun tz => ?_
 ·
  refine xw_id ?_
  rcases Bool.eq_false_or_eq_true (decide (2 ≤ a0.Rand)) with h1 | h1
  ·
   try simp only [go_sem, Nat.reduceAdd, h1]
   exact hK1 _ ⟨rfl, rfl, (by first | rfl | (rw [h1]; rfl) | (simp only [h1, Bool.true_and, Bool.false_and, Bool.true_or, Bool.false_or, cond_true, cond_false] <;> rfl)), trivial⟩
  ·
   try simp only [go_sem, Nat.reduceAdd, h1]
   exact hK1 _ ⟨rfl, rfl, (by first | rfl | (rw [h1]; rfl) | (simp only [h1, Bool.true_and, Bool.false_and, Bool.true_or, Bool.false_or, cond_true, cond_false] <;> rfl)), trivial⟩
 ·
  refine xw_id ?_
  refine xw_stop 1 (by (try simp only [go_sem]); rfl) (by (try simp only [go_sem]); rfl) (by rfl) fun K1 hK1 => ?_
  refine xw_id ?_
  try simp only [go_sem, Nat.reduceAdd]
  refine hK1 _ ?_; clear hK1 K1
  refine xw_cut 4 [(1, (.ptr 0 0)), (15, (vb (((decide (2 ≤ a0.Rand)) && (decide (a0.Rand < 2305843009213693950))) && (decide (2 ≤ a0.Mask)))))] (by (try simp only [go_sem]); rfl) (by (try simp only [go_sem]); rfl) (by rfl) (fun K1 hK1 => ?_) fun tz => ?_
  ·
   refine xw_id ?_
   rcases Bool.eq_false_or_eq_true ((decide (2 ≤ a0.Rand)) && (decide (a0.Rand < 2305843009213693950))) with h2 | h2
   ·
    have h2_0 : (decide (2 ≤ a0.Rand)) = true := by simp only [Bool.and_eq_true] at h2; exact h2.1
    have h2_1 : (decide (a0.Rand < 2305843009213693950)) = true := by simp only [Bool.and_eq_true] at h2; exact h2.2
    try simp only [go_sem, Nat.reduceAdd, h2, h2_0, h2_1]
    exact hK1 _ ⟨rfl, rfl, (by first | rfl | (rw [h2]; rfl) | (simp only [h2, Bool.true_and, Bool.false_and, Bool.true_or, Bool.false_or, cond_true, cond_false] <;> rfl)), trivial⟩
   ·
    try simp only [go_sem, Nat.reduceAdd, h2]
    exact hK1 _ ⟨rfl, rfl, (by first | rfl | (rw [h2]; rfl) | (simp only [h2, Bool.true_and, Bool.false_and, Bool.true_or, Bool.false_or, cond_true, cond_false] <;> rfl)), trivial⟩
  ·
   refine xw_id ?_
   refine xw_stop 1 (by (try simp only [go_sem]); rfl) (by (try simp only [go_sem]); rfl) (by rfl) fun K1 hK1 => ?_
   refine xw_id ?_
   try simp only [go_sem, Nat.reduceAdd]
   refine hK1 _ ?_; clear hK1 K1
   refine xw_cut 4 [(20, (vb ((((decide (2 ≤ a0.Rand)) && (decide (a0.Rand < 2305843009213693950))) && (decide (2 ≤ a0.Mask))) && (decide (a0.Mask < 2305843009213693950)))))] (by (try simp only [go_sem]); rfl) (by (try simp only [go_sem]); rfl) (by rfl) (fun K1 hK1 => ?_) fun tz => ?_
   ·
    refine xw_id ?_
    rcases Bool.eq_false_or_eq_true (((decide (2 ≤ a0.Rand)) && (decide (a0.Rand < 2305843009213693950))) && (decide (2 ≤ a0.Mask))) with h3 | h3
    ·
     have h3_0 : (decide (2 ≤ a0.Rand)) = true := by simp only [Bool.and_eq_true] at h3; exact h3.1.1
     have h3_1 : (decide (a0.Rand < 2305843009213693950)) = true := by simp only [Bool.and_eq_true] at h3; exact h3.1.2
     have h3_2 : (decide (2 ≤ a0.Mask)) = true := by simp only [Bool.and_eq_true] at h3; exact h3.2
     try simp only [go_sem, Nat.reduceAdd, h3, h3_0, h3_1, h3_2]
     exact hK1 _ ⟨rfl, (by first | rfl | (rw [h3]; rfl) | (simp only [h3, Bool.true_and, Bool.false_and, Bool.true_or, Bool.false_or, cond_true, cond_false] <;> rfl)), trivial⟩
    ·
     try simp only [go_sem, Nat.reduceAdd, h3]
     exact hK1 _ ⟨rfl, (by first | rfl | (rw [h3]; rfl) | (simp only [h3, Bool.true_and, Bool.false_and, Bool.true_or, Bool.false_or, cond_true, cond_false] <;> rfl)), trivial⟩
   ·
    refine xw_id ?_
    try simp only [go_sem, Nat.reduceAdd]
    refine hKK _ _ (Wk.refl _ _ _) ?_; clear hKK KK
    refine awp_ret1 ?_
    obtain rfl := someInj h0
    refine endW_i ?_
    refine end_ret0 rs48 (rfl) ?_
    try simp only [go_sem, Nat.reduceAdd, fz, nilS, packR, List.take_nil, List.take_length, List.length_map, List.length_append, cond_true, cond_false, Nat.ble_eq, ble_self]
    all_goals first | rfl | (simp only [go_sem, Nat.reduceAdd, fz, nilS, packR, List.take_nil, List.take_length, List.length_map, List.length_append, cond_true, cond_false, Nat.ble_eq, ble_self, List.map_append] <;> rfl)

end Go.AX.Z.TV

/-! (TVW auth sum) -/

set_option linter.unusedSimpArgs false
set_option linter.unusedVariables false
set_option maxHeartbeats 4000000
set_option maxRecDepth 20000
namespace Go.AX.Z.TV
open Go.AX Go.Proofs
attribute [local irreducible] awp xw xop xcall gsp ob xd xdop xcallD seqQ loopQ blkQ endQ


theorem auth_sum_p (a0 : Int) (a1 : Int) {r : Int} (h0 : auth_sum a0 a1 = some r) : SndP K 49 [(vq a0), (vq a1)] (vq r) := by
 refine SndP.of_walkW hC (Clean.v _) (clean_cons (Clean.v _) (clean_cons (Clean.v _) clean_nil)) (show K.P.funcs[49]? = some Try.f49 from Try.func49) rfl rfl (by decide +kernel) (Nat.le_of_ble_eq_true rfl) ?_
 unfold auth_sum at h0
 refine awp_nr [0,1] (fun _ => rfl) fun tz => ?_
 refine awp_regW fun KK hKK => ?_
 refine xw_id ?_
 try simp only [go_sem, Nat.reduceAdd]
 refine hKK _ _ (Wk.refl _ _ _) ?_; clear hKK KK
 refine awp_nr [0,1] (fun _ => rfl) fun tz => ?_
 refine awp_regW fun KK hKK => ?_
 refine xw_id ?_
 try simp only [go_sem, Nat.reduceAdd, Int.reduceEq]
 refine hKK _ _ (Wk.refl _ _ _) ?_; clear hKK KK
 refine awp_ret1 ?_
 obtain rfl := someInj h0
 refine endW_i ?_
 refine end_ret0 rs49 (rfl) ?_
 try simp only [go_sem, Nat.reduceAdd, fz, nilS, packR, List.take_nil, List.take_length, List.length_map, List.length_append, cond_true, cond_false, Nat.ble_eq, ble_self]
 all_goals first | rfl | (simp only [go_sem, Nat.reduceAdd, fz, nilS, packR, List.take_nil, List.take_length, List.length_map, List.length_append, cond_true, cond_false, Nat.ble_eq, ble_self, List.map_append] <;> rfl)

end Go.AX.Z.TV

/-! (TVW auth New) -/

set_option linter.unusedSimpArgs false
set_option linter.unusedVariables false
set_option maxHeartbeats 4000000
set_option maxRecDepth 20000
namespace Go.AX.Z.TV
open Go.AX Go.Proofs
attribute [local irreducible] awp xw xop xcall gsp ob xd xdop xcallD seqQ loopQ blkQ endQ

def auth_New_S0 (a0 : A6vu) (a1 : A6vu) (a3 : Int) (a4 : Int) (x32 : (Int × Int)) : AS :=
 { objs := (upd (upd (upd (fun _ => .dead) 0 (.live (e_A6vu a0))) 1 (.live (e_A6vu a1))) 2 (.live (e_Auth Auth.z))), next := 3, tmps := (upd (upd (upd (upd (upd (upd (upd (fun _ => .unk) 3 (vq a3)) 4 (vq a4)) 5 (.ptr 0 0)) 6 (.ptr 1 0)) 10 (.ptr 2 0)) 12 (vq x32.1)) 13 (vi x32.2)) }

def auth_New_S1 (x32 : (Int × Int)) (x35 : Int) (a4 : Int) (a0 : A6vu) (a1 : A6vu) (a3 : Int) (x34 : Int) : AS :=
 { objs := (upd (upd (fun _ => .dead) 0 (.live (e_Auth Auth.z))) 1 (.live (e_Auth { Auth.z with Base := x32.1, Element := x35, Mask := a4, Own := a0, Peer := a1, Rand := a3, Scalar := x34 }))), next := 2, tmps := (upd (upd (fun _ => .unk) 10 (.ptr 0 0)) 14 (.ptr 1 0)) }

theorem auth_New_p (a0 : A6vu) (a1 : A6vu) (a2 : (List Int)) (a3 : Int) (a4 : Int) {r : (Auth × Int)} (h0 : auth_New a0 a1 a2 a3 a4 = some r) : SndP K 29 [(.agg (e_A6vu a0)), (.agg (e_A6vu a1)), (vs a2), (vq a3), (vq a4)] (.tup [(.agg (e_Auth r.1)), (vi r.2)]) := by
 refine SndP.of_walkW hC (Clean.tup (clean_cons (Clean.agg (e_Auth_clean _)) (clean_cons (Clean.v _) clean_nil))) (clean_cons (Clean.agg (e_A6vu_clean _)) (clean_cons (Clean.agg (e_A6vu_clean _)) (clean_cons (Clean.v _) (clean_cons (Clean.v _) (clean_cons (Clean.v _) clean_nil))))) (show K.P.funcs[29]? = some Try.f29 from Try.func29) rfl rfl (by decide +kernel) (Nat.le_of_ble_eq_true rfl) ?_
 unfold auth_New at h0
 refine awp_nr [0,1,2,3,4] (fun _ => rfl) fun tz => ?_
 refine awp_regW fun KK hKK => ?_
 refine xw_id ?_
 try simp only [go_sem, Nat.reduceAdd]
 refine hKK _ _ (Wk.refl _ _ _) ?_; clear hKK KK
 refine awp_nr [2,3,4,5,6,10] (fun _ => rfl) fun tz => ?_
 refine awp_regW fun KK hKK => ?_
 refine xw_id ?_
 obtain ⟨x32, bx32, h0⟩ := bnd h0
 try simp only [go_sem, Nat.reduceAdd]
 refine xcall_p (auth_Base_p a2 a0 a1 bx32) ?_; try dsimp only
 try refine xw_id ?_
 try simp only [go_sem, Nat.reduceAdd]
 refine hKK _ (auth_New_S0 a0 a1 a3 a4 x32) (Wk.canonD [] [] [some 0, some 1, some 2] rfl trivial rfl (tmOU 2 (tmOU 1 (tmOU 0 tmO0 rfl List.not_mem_nil rfl (TmL.clean (e_A6vu_clean _))) rfl List.not_mem_nil rfl (TmL.clean (e_A6vu_clean _))) rfl List.not_mem_nil rfl (TmL.clean (e_Auth_clean _))) (tmAllU 13 (tmAllU 12 (tmAllU 10 (tmAllU 6 (tmAllU 5 (tmAllU 4 (tmAllU 3 tmAll0 (Tm.v _)) (Tm.v _)) (Tm.ptr rfl)) (Tm.ptr rfl)) (Tm.ptr rfl)) (Tm.v _)) (Tm.v _))) ?_; clear hKK KK
 unfold auth_New_S0
 refine awp_assoc ?_
 refine awp_nr [3,4,5,6,10,12,13] (fun _ => rfl) fun tz => ?_
 refine awp_regW fun KK hKK => ?_
 refine xw_id ?_
 try simp only [go_sem, Nat.reduceAdd]
 refine hKK _ _ (Wk.refl _ _ _) ?_; clear hKK KK
 refine awp_cond (b := (x32.2 != 0)) rfl (fun h1 => ?_) (fun h1 => ?_)
 ·
  have h0 := cT h0 h1
  refine awp_assoc ?_
  refine awp_nr [10,13] (fun _ => rfl) fun tz => ?_
  refine awp_regW fun KK hKK => ?_
  refine xw_id ?_
  try simp only [go_sem, Nat.reduceAdd]
  refine hKK _ _ (Wk.refl _ _ _) ?_; clear hKK KK
  refine awp_ret ?_
  obtain rfl := someInj h0
  refine endW_i ?_
  refine end_ret0 rs29 (by simp only [go_sem, resV, resAll, resOf, packR, Nat.reduceAdd]; rfl) ?_
  try simp only [go_sem, Nat.reduceAdd, fz, nilS, packR, List.take_nil, List.take_length, List.length_map, List.length_append, cond_true, cond_false, Nat.ble_eq, ble_self]
  all_goals first | rfl | (simp only [go_sem, Nat.reduceAdd, fz, nilS, packR, List.take_nil, List.take_length, List.length_map, List.length_append, cond_true, cond_false, Nat.ble_eq, ble_self, List.map_append] <;> rfl)
 ·
  have h0 := cF h0 h1
  refine awp_skip ?_
  refine awp_nr [3,4,5,6,10,12] (fun _ => rfl) fun tz => ?_
  refine awp_regW fun KK hKK => ?_
  refine xw_id ?_
  try simp only [go_sem, Nat.reduceAdd]
  refine hKK _ _ (Wk.refl _ _ _) ?_; clear hKK KK
  refine awp_assoc ?_
  refine awp_nr [3,4,10,12,14] (fun _ => rfl) fun tz => ?_
  refine awp_regW fun KK hKK => ?_
  refine xw_id ?_
  obtain ⟨x33, bx33, h0⟩ := bnd h0
  try simp only [go_sem, Nat.reduceAdd]
  refine xcall_p (auth_secret_p { Auth.z with Base := x32.1, Mask := a4, Own := a0, Peer := a1, Rand := a3 } bx33) ?_; try dsimp only
  try refine xw_id ?_
  try simp only [go_sem, Nat.reduceAdd]
  refine hKK _ _ (Wk.refl _ _ _) ?_; clear hKK KK
  refine awp_cond (b := (!x33)) rfl (fun h2 => ?_) (fun h2 => ?_)
  ·
   have h0 := cT h0 h2
   refine awp_assoc ?_
   refine awp_nr [10] (fun _ => rfl) fun tz => ?_
   refine awp_regW fun KK hKK => ?_
   refine xw_id ?_
   try simp only [go_sem, Nat.reduceAdd]
   refine hKK _ _ (Wk.refl _ _ _) ?_; clear hKK KK
   refine awp_ret ?_
   obtain rfl := someInj h0
   refine endW_i ?_
   refine end_ret0 rs29 (by simp only [go_sem, resV, resAll, resOf, packR, Nat.reduceAdd]; rfl) ?_
   try simp only [go_sem, Nat.reduceAdd, fz, nilS, packR, List.take_nil, List.take_length, List.length_map, List.length_append, cond_true, cond_false, Nat.ble_eq, ble_self]
   all_goals first | rfl | (simp only [go_sem, Nat.reduceAdd, fz, nilS, packR, List.take_nil, List.take_length, List.length_map, List.length_append, cond_true, cond_false, Nat.ble_eq, ble_self, List.map_append] <;> rfl)
  ·
   have h0 := cF h0 h2
   refine awp_skip ?_
   refine awp_nr [3,4,10,12,14] (fun _ => rfl) fun tz => ?_
   refine awp_regW fun KK hKK => ?_
   refine xw_id ?_
   obtain ⟨x34, bx34, h0⟩ := bnd h0
   try simp only [go_sem, Nat.reduceAdd]
   refine xcall_p (auth_sum_p a3 a4 bx34) ?_; try dsimp only
   try refine xw_id ?_
   obtain ⟨x35, bx35, h0⟩ := bnd h0
   try simp only [go_sem, Nat.reduceAdd]
   refine xcall_p (auth_Pow_p x32.1 (IntKind.wrap .u64 (2305843009213693950 - a4)) bx35) ?_; try dsimp only
   try refine xw_id ?_
   try simp only [go_sem, Nat.reduceAdd]
   refine hKK _ (auth_New_S1 x32 x35 a4 a0 a1 a3 x34) (Wk.canonD [] [] [some 2, some 11] rfl trivial rfl (tmOU 1 (tmOU 0 tmO0 rfl List.not_mem_nil rfl (TmL.clean (e_Auth_clean _))) rfl List.not_mem_nil rfl (TmL.clean (e_Auth_clean _))) (tmAllU 14 (tmAllU 10 tmAll0 (Tm.ptr rfl)) (Tm.ptr rfl))) ?_; clear hKK KK
   unfold auth_New_S1
   refine awp_assoc ?_
   refine awp_nr [10,14] (fun _ => rfl) fun tz => ?_
   refine awp_regW fun KK hKK => ?_
   refine xw_id ?_
   refine xw_stop 4 (by (try simp only [go_sem]); rfl) (by (try simp only [go_sem]); rfl) (by rfl) fun K1 hK1 => ?_
   refine xw_id ?_
   try simp only [go_sem, Nat.reduceAdd]
   refine hK1 _ ?_; clear hK1 K1
   refine xw_cut 4 [(10, (.ptr 0 0)), (14, (.ptr 1 0)), (52, (vb ((decide (x34 < 2)) || (decide (x35 < 2)))))] (by (try simp only [go_sem]); rfl) (by (try simp only [go_sem]); rfl) (by rfl) (fun K1 hK1 => ?_) fun tz => ?_
   ·
    refine xw_id ?_
    rcases Bool.eq_false_or_eq_true (decide (x34 < 2)) with h3 | h3
    ·
     try simp only [go_sem, Nat.reduceAdd, h3]
     exact hK1 _ ⟨rfl, rfl, rfl, (by first | rfl | (rw [h3]; rfl) | (simp only [h3, Bool.true_and, Bool.false_and, Bool.true_or, Bool.false_or, cond_true, cond_false] <;> rfl)), trivial⟩
    ·
     try simp only [go_sem, Nat.reduceAdd, h3]
     exact hK1 _ ⟨rfl, rfl, rfl, (by first | rfl | (rw [h3]; rfl) | (simp only [h3, Bool.true_and, Bool.false_and, Bool.true_or, Bool.false_or, cond_true, cond_false] <;> rfl)), trivial⟩
   ·
    refine xw_id ?_
    try simp only [go_sem, Nat.reduceAdd]
    refine hKK _ _ (Wk.refl _ _ _) ?_; clear hKK KK
    refine awp_cond (b := ((decide (x34 < 2)) || (decide (x35 < 2)))) rfl (fun h4 => ?_) (fun h4 => ?_)
    ·
     have h0 := cT h0 h4
     refine awp_assoc ?_
     refine awp_nr [10] (fun _ => rfl) fun tz => ?_
     refine awp_regW fun KK hKK => ?_
     refine xw_id ?_
     try simp only [go_sem, Nat.reduceAdd]
     refine hKK _ _ (Wk.refl _ _ _) ?_; clear hKK KK
     refine awp_ret ?_
     obtain rfl := someInj h0
     refine endW_i ?_
     refine end_ret0 rs29 (by simp only [go_sem, resV, resAll, resOf, packR, Nat.reduceAdd]; rfl) ?_
     try simp only [go_sem, Nat.reduceAdd, fz, nilS, packR, List.take_nil, List.take_length, List.length_map, List.length_append, cond_true, cond_false, Nat.ble_eq, ble_self]
     all_goals first | rfl | (simp only [go_sem, Nat.reduceAdd, fz, nilS, packR, List.take_nil, List.take_length, List.length_map, List.length_append, cond_true, cond_false, Nat.ble_eq, ble_self, List.map_append] <;> rfl)
    ·
     have h0 := cF h0 h4
     refine awp_skip ?_
     refine awp_nr [10,14] (fun _ => rfl) fun tz => ?_
     refine awp_regW fun KK hKK => ?_
     refine xw_id ?_
     try simp only [go_sem, Nat.reduceAdd]
     refine hKK _ _ (Wk.refl _ _ _) ?_; clear hKK KK
     refine awp_ret1 ?_
     obtain rfl := someInj h0
     refine endW_i ?_
     refine end_ret0 rs29 (by simp only [go_sem, resV, resAll, resOf, packR, Nat.reduceAdd]; rfl) ?_
     try simp only [go_sem, Nat.reduceAdd, fz, nilS, packR, List.take_nil, List.take_length, List.length_map, List.length_append, cond_true, cond_false, Nat.ble_eq, ble_self]
     all_goals first | rfl | (simp only [go_sem, Nat.reduceAdd, fz, nilS, packR, List.take_nil, List.take_length, List.length_map, List.length_append, cond_true, cond_false, Nat.ble_eq, ble_self, List.map_append] <;> rfl)

end Go.AX.Z.TV

/-! (TVW derive Input 3) -/

set_option linter.unusedSimpArgs false
set_option linter.unusedVariables false
set_option maxHeartbeats 4000000
set_option maxRecDepth 20000
namespace Go.AX.Z.TV
open Go.AX Go.Proofs
attribute [local irreducible] awp xw xop xcall gsp ob xd xdop xcallD seqQ loopQ blkQ endQ

def derive_Input_3_S0 (x57 : (List Int)) : AS :=
 { objs := (upd (fun _ => .dead) 0 (.live (List.map vu x57))), next := 1, tmps := (upd (fun _ => .unk) 6 (.ref 0 0 x57.length 1)) }

theorem derive_Input_3_r (a0 : (List Int)) (a1 : Int) {r : (List Int)} (h0 : derive_Input_3 a0 a1 = some r) : SndR K 65 [(.v (.string ⟨#[97, 117, 116, 104]⟩)), (S_vu a0), (vi a1)] (fun q => (.ref (q 0) 0 r.length 1)) [(List.map vu r)] := by
 refine SndR.of_walkW hC (show K.P.funcs[65]? = some Try.f65 from Try.func65) rfl rfl (by decide +kernel) (Nat.le_of_ble_eq_true rfl) ?_
 unfold derive_Input_3 at h0
 refine awp_nr [0,1,2] (fun _ => rfl) fun tz => ?_
 refine awp_regW fun KK hKK => ?_
 refine xw_id ?_
 try simp only [go_sem, Nat.reduceAdd]
 refine hKK _ _ (Wk.refl _ _ _) ?_; clear hKK KK
 refine awp_nr [0,1,2] (fun _ => rfl) fun tz => ?_
 refine awp_regW fun KK hKK => ?_
 refine xw_id ?_
 have gs1 : (⟨#[97, 117, 116, 104]⟩ : ByteArray).size = 4 := by rfl
 have gs2 : sbE K.P 9 29 (.v (.string ⟨#[97, 117, 116, 104]⟩)) = some (.imm (List.map vu [97, 117, 116, 104]) 4) := by kernel_rfl
 obtain ⟨x55, bx55, h0⟩ := bnd h0
 try simp only [go_sem, Nat.reduceAdd, gs1, gs2]
 refine xcall_M (derive_two_m (a0.length : Int) bx55) ?_; try dsimp only
 try refine xw_id ?_
 obtain ⟨x56, bx56, h0⟩ := bnd h0
 try simp only [go_sem, Nat.reduceAdd, gs1, gs2]
 refine xcall_M (derive_two_m a1 bx56) ?_; try dsimp only
 try refine xw_id ?_
 obtain ⟨x57, bx57, h0⟩ := bnd h0
 try simp only [go_sem, Nat.reduceAdd, gs1, gs2]
 refine xcall_ML (by first | (simp only [go_sem, fz, nilS, cond_true, cond_false, Nat.reduceAdd, gs1, gs2] <;> rfl) | (simp only [go_sem, fz, List.length_set, ble_self, take_set, cond_true, cond_false, Nat.reduceAdd, gs1, gs2] <;> rfl)) (derive_join_m [[IntKind.wrap .u8 4], [97, 117, 116, 104], x55, a0, x56] bx57) (fun _ => by repeat' (first | exact NoV.v _ | exact NoV.ref _ _ _ _ | exact NoV.onil | refine NoV.ocons ?_ ?_ | exact NoV.nil | refine NoV.tup ?_ | refine NoV.agg ?_ | refine NoV.rows (fun _ => ?_) _ | refine NoV.maps (fun _ => ?_) _ | refine NoV.cons ?_ ?_)) (by repeat' (first | exact NoV.v _ | exact NoV.ref _ _ _ _ | exact NoV.onil | refine NoV.ocons ?_ ?_ | exact NoV.nil | refine NoV.tup ?_ | refine NoV.agg ?_ | refine NoV.rows (fun _ => ?_) _ | refine NoV.maps (fun _ => ?_) _ | refine NoV.cons ?_ ?_)) ?_; try dsimp only
 try refine xw_id ?_
 try simp only [go_sem, Nat.reduceAdd, gs1, gs2]
 refine hKK _ (derive_Input_3_S0 x57) (by refine Wk.canonD [] [] [some 18] rfl trivial rfl (tmOU 0 tmO0 rfl List.not_mem_nil rfl (TmL.of_eq (by first | rfl | (simp only [List.flatMap_append, List.flatMap_cons, List.flatMap_nil, List.map_append, List.map_cons, List.map_nil, List.append_nil, List.nil_append] <;> rfl)) (vu_clean _))) (tmAllU 6 tmAll0 (Tm.refL rfl ?_)); all_goals (first | rfl | (simp only [List.length_append, List.length_take, List.length_drop, List.length_cons, List.length_nil, List.length_modify, List.length_set, Nat.zero_add] <;> omega) | omega)) ?_; clear hKK KK
 unfold derive_Input_3_S0
 refine awp_ret1 ?_
 obtain rfl := someInj h0
 refine endW_i ?_
 refine end_ret0 rs65 (rfl) ?_
 refine Res.mk [] [some 0] rfl (resOU List.not_mem_nil rfl (TmL.of_eq (by first | rfl | (simp only [List.flatMap_append, List.flatMap_cons, List.flatMap_nil, List.map_append, List.map_cons, List.map_nil, List.append_nil, List.nil_append] <;> rfl)) (vu_clean _)) resO0) (Tm.refL rfl ?_)
 all_goals (first | rfl | (simp only [List.length_append, List.length_take, List.length_drop, List.length_cons, List.length_nil, List.length_modify, List.length_set, Nat.zero_add] <;> omega) | omega)

theorem derive_Input_3_m (a0 : (List Int)) (a1 : Int) {r : (List Int)} (h0 : derive_Input_3 a0 a1 = some r) : SndM K 65 [(.v (.string ⟨#[97, 117, 116, 104]⟩)), (S_vu a0), (vi a1)] (fun q => (.ref (q 0) 0 r.length 1)) [(List.map vu r)] :=
 fun hs => Snd.of_newM (RenM.ref 0 0 _ _) (rows_all_cons (vu_clean _) rows_all_nil) (clean_cons (Clean.v _) (clean_cons (S_vu_clean _) (clean_cons (Clean.v _) clean_nil))) (derive_Input_3_r a0 a1 h0) hs

theorem derive_Input_3_e (a0 : (List Int)) (a1 : Int) {r : (List Int)} (h0 : derive_Input_3 a0 a1 = some r) (fr : Nat) (hs : HS) : SndE K 65 [(.v (.string ⟨#[97, 117, 116, 104]⟩)), (S_vu a0), (vi a1)] hs fr ⟨(fun q : Nat → Nat => (.ref (q 0) 0 r.length 1)) fun _ => fr, .new (List.map vu r)⟩ :=
 SndE.of_res (RenM.ref 0 0 _ _) (vu_clean _) (clean_cons (Clean.v _) (clean_cons (S_vu_clean _) (clean_cons (Clean.v _) clean_nil))) (fun a b h => by simp only [h]) (derive_Input_3_r a0 a1 h0) hs fr

theorem derive_Input_3_p (a0 : (List Int)) (a1 : Int) {r : (List Int)} (h0 : derive_Input_3 a0 a1 = some r) : SndP K 65 [(.v (.string ⟨#[97, 117, 116, 104]⟩)), (S_vu a0), (vi a1)] (S_vu r) :=
 SndM.pure (derive_Input_3_m a0 a1 h0) (S_vu_clean _) (clean_cons (Clean.v _) (clean_cons (S_vu_clean _) (clean_cons (Clean.v _) clean_nil))) (by simp only [go_sem, newL_n, newL_c, upd_get, fz, nilS, cond_true, cond_false, List.drop_zero, List.take_length, List.length_map, ble_self, Nat.reduceAdd] <;> rfl)

end Go.AX.Z.TV

/-! (TVW derive Expand 3) -/

set_option linter.unusedSimpArgs false
set_option linter.unusedVariables false
set_option maxHeartbeats 4000000
set_option maxRecDepth 20000
namespace Go.AX.Z.TV
open Go.AX Go.Proofs
attribute [local irreducible] awp xw xop xcall gsp ob xd xdop xcallD seqQ loopQ blkQ endQ

def derive_Expand_3_S0 (a2 : Int) (d54 : (List Int)) : AS :=
 { objs := (upd (fun _ => .dead) 0 (.live (List.map vu d54))), next := 1, tmps := (upd (upd (fun _ => .unk) 3 (vi a2)) 10 (.ref 0 0 ((d54).length) 1)) }

def derive_Expand_3_S1 (a0 : A16vu) (a1 : (List Int)) (a2 : Int) (d55 : (List Int × Int)) : AS :=
 { objs := (upd (upd (fun _ => .dead) 0 (.live (e_A16vu a0))) 1 (.live (List.map vu d55.1))), next := 2, tmps := (upd (upd (upd (upd (upd (upd (fun _ => .unk) 1 (.v (.string ⟨#[97, 117, 116, 104]⟩))) 2 (.imm (List.map vu a1) a1.length)) 3 (vi a2)) 4 (.ptr 0 0)) 10 (.ref 1 0 ((d55.1).length) 1)) 11 (vi d55.2)) }

def derive_Expand_3_S3 (a0 : A16vu) (d55 : (List Int × Int)) (x57 : A16vu) (a1 : (List Int)) (a2 : Int) : AS :=
 { objs := (upd (upd (upd (fun _ => .dead) 0 (.live (e_A16vu a0))) 1 (.live (List.map vu d55.1))) 2 (.live (e_A16vu x57))), next := 3, tmps := (upd (upd (upd (upd (upd (upd (upd (fun _ => .unk) 1 (.v (.string ⟨#[97, 117, 116, 104]⟩))) 2 (.imm (List.map vu a1) a1.length)) 3 (vi a2)) 4 (.ptr 0 0)) 10 (.ref 1 0 d55.1.length 1)) 11 (vi d55.2)) 12 (.ptr 2 0)) }

theorem derive_Expand_3_r (a0 : A16vu) (a1 : (List Int)) (a2 : Int) {r : ((List Int) × Int)} (h0 : derive_Expand_3 a0 a1 a2 = some r) : SndR K 44 [(.agg (e_A16vu a0)), (.v (.string ⟨#[97, 117, 116, 104]⟩)), (S_vu a1), (vi a2)] (fun q => (.tup [(.ref (q 0) 0 r.1.length 1), (vi r.2)])) [(List.map vu r.1)] := by
 refine SndR.of_walkW hC (show K.P.funcs[44]? = some Try.f44 from Try.func44) rfl rfl (by decide +kernel) (Nat.le_of_ble_eq_true rfl) ?_
 unfold derive_Expand_3 at h0
 refine awp_nr [0,1,2,3] (fun _ => rfl) fun tz => ?_
 refine awp_regW fun KK hKK => ?_
 refine xw_id ?_
 try simp only [go_sem, Nat.reduceAdd]
 refine hKK _ _ (Wk.refl _ _ _) ?_; clear hKK KK
 refine awp_assoc ?_
 refine awp_nr [1,2,3,4] (fun _ => rfl) fun tz => ?_
 refine awp_regW fun KK hKK => ?_
 refine xw_id ?_
 try simp only [go_sem, Nat.reduceAdd]
 refine hKK _ _ (Wk.refl _ _ _) ?_; clear hKK KK
 refine awp_cond (b := (decide (a2 < 0))) rfl (fun h1 => ?_) (fun h1 => ?_)
 ·
  have h0 := cT h0 h1
  refine awp_assoc ?_
  refine awp_nr [] (fun _ => rfl) fun tz => ?_
  refine awp_regW fun KK hKK => ?_
  refine xw_id ?_
  try simp only [go_sem, Nat.reduceAdd]
  refine hKK _ _ (Wk.refl _ _ _) ?_; clear hKK KK
  refine awp_ret ?_
  obtain rfl := someInj h0
  refine endW_i ?_
  refine end_ret0 rs44 (rfl) ?_
  refine Res.mk [] [none] rfl (resON resO0) (Tm.tup (TmL.cons (Tm.thaw _ _ _) (TmL.cons (Tm.v _) TmL.nil)))
 ·
  have h0 := cF h0 h1
  refine awp_skip ?_
  refine awp_assoc ?_
  refine awp_nr [1,2,3,4] (fun _ => rfl) fun tz => ?_
  refine awp_regW fun KK hKK => ?_
  refine xw_id ?_
  have gs2 : (⟨#[97, 117, 116, 104]⟩ : ByteArray).size = 4 := by rfl
  refine xw_stop 9 (by (try simp only [go_sem]); rfl) (by (try simp only [go_sem]); rfl) (by rfl) fun K1 hK1 => ?_
  refine xw_id ?_
  try simp only [go_sem, Nat.reduceAdd, gs2]
  refine hK1 _ ?_; clear hK1 K1
  refine xw_cut 3 [(1, (.v (.string ⟨#[97, 117, 116, 104]⟩))), (2, (.imm (List.map vu a1) a1.length)), (3, (vi a2)), (4, (.ptr 0 0)), (26, (vb ((decide (256 < (a1.length : Int))) || (decide (1024 < a2)))))] (by (try simp only [go_sem]); rfl) (by (try simp only [go_sem]); rfl) (by rfl) (fun K1 hK1 => ?_) fun tz => ?_
  ·
   refine xw_id ?_
   rcases Bool.eq_false_or_eq_true (decide (256 < (a1.length : Int))) with h3 | h3
   ·
    try simp only [go_sem, Nat.reduceAdd, gs2, h3]
    exact hK1 _ ⟨rfl, rfl, rfl, rfl, rfl, (by first | rfl | (rw [h3]; rfl) | (simp only [h3, Bool.true_and, Bool.false_and, Bool.true_or, Bool.false_or, cond_true, cond_false] <;> rfl)), trivial⟩
   ·
    try simp only [go_sem, Nat.reduceAdd, gs2, h3]
    exact hK1 _ ⟨rfl, rfl, rfl, rfl, rfl, (by first | rfl | (rw [h3]; rfl) | (simp only [h3, Bool.true_and, Bool.false_and, Bool.true_or, Bool.false_or, cond_true, cond_false] <;> rfl)), trivial⟩
  ·
   refine xw_id ?_
   try simp only [go_sem, Nat.reduceAdd, gs2]
   refine hKK _ _ (Wk.refl _ _ _) ?_; clear hKK KK
   refine awp_cond (b := ((decide (256 < (a1.length : Int))) || (decide (1024 < a2)))) rfl (fun h4 => ?_) (fun h4 => ?_)
   ·
    have h0 := cT h0 h4
    refine awp_assoc ?_
    refine awp_nr [] (fun _ => rfl) fun tz => ?_
    refine awp_regW fun KK hKK => ?_
    refine xw_id ?_
    try simp only [go_sem, Nat.reduceAdd]
    refine hKK _ _ (Wk.refl _ _ _) ?_; clear hKK KK
    refine awp_ret ?_
    obtain rfl := someInj h0
    refine endW_i ?_
    refine end_ret0 rs44 (rfl) ?_
    refine Res.mk [] [none] rfl (resON resO0) (Tm.tup (TmL.cons (Tm.thaw _ _ _) (TmL.cons (Tm.v _) TmL.nil)))
   ·
    have h0 := cF h0 h4
    refine awp_skip ?_
    refine awp_nr [1,2,3,4] (fun _ => rfl) fun tz => ?_
    refine awp_regW fun KK hKK => ?_
    refine xw_id ?_
    try simp only [go_sem, Nat.reduceAdd]
    refine hKK _ _ (Wk.refl _ _ _) ?_; clear hKK KK
    refine awp_assoc ?_
    refine awp_nr [1,2,3,4,10] (fun _ => rfl) fun tz => ?_
    refine awp_regW fun KK hKK => ?_
    refine xw_id ?_
    try simp only [go_sem, Nat.reduceAdd]
    refine hKK _ _ (Wk.refl _ _ _) ?_; clear hKK KK
    obtain ⟨d54, hi5, h0⟩ := bnd h0
    refine awp_cut (fun z => d54 = z) (fun d54 : (List Int) => derive_Expand_3_S0 a2 d54) ?_ ?_
    ·
     refine awp_block1 ?_
     refine awp_loopS (fun n (d55 : (List Int × Int)) => derive_Expand_3_L2 a2 a1 a0 n d55 = some d54) (fun d55 : (List Int × Int) => derive_Expand_3_S1 a0 a1 a2 d55) big ([], 0) (Wk.canonD [] [] [some 0, none] rfl trivial rfl (tmON 1 (tmOU 0 tmO0 rfl List.not_mem_nil rfl (TmL.clean (e_A16vu_clean _))) rfl) (tmAllU 11 (tmAllU 10 (tmAllU 4 (tmAllU 3 (tmAllU 2 (tmAllU 1 tmAll0 (Tm.v _)) (Tm.clean (Clean.imm (vu_clean _)))) (Tm.v _)) (Tm.ptr rfl)) (Tm.thaw _ _ _)) (Tm.v _))) hi5 ?_
     clear hi5
     rintro n d55 hl7
     rcases n with _ | n6
     ·
      (rw [derive_Expand_3_L2] at hl7; cases hl7)
     ·
      rw [derive_Expand_3_L2] at hl7
      unfold derive_Expand_3_S1
      refine awp_assoc ?_
      refine awp_nr [1,2,3,4,10,11] (fun _ => rfl) fun tz => ?_
      refine awp_regW fun KK hKK => ?_
      refine xw_id ?_
      try simp only [go_sem, Nat.reduceAdd]
      refine hKK _ _ (Wk.refl _ _ _) ?_; clear hKK KK
      refine awp_cond (b := (decide ((((d55.1).length : Nat) : Int) < a2))) rfl (fun h8 => ?_) (fun h8 => ?_)
      ·
       have hl7 := cT hl7 h8
       refine awp_skip ?_
       refine awp_blockW ?_
       refine awp_nr [1,2,3,4,10,11] (fun _ => rfl) fun tz => ?_
       refine awp_regDW fun KK hKK all hall => ?_
       refine xd_id ?_
       try simp only [List.toList_toArray, List.map_cons, List.map_nil, List.size_toArray, List.length_cons, List.length_nil, Nat.zero_add]
       try simp only [Nat.reduceAdd]
       obtain ⟨x56, bx56, hl7⟩ := bnd hl7
       iterate 3 ((try simp only [go_sem, ]); try simp only [Nat.reduceAdd])
       refine xcallD_E (derive_Input_3_e a1 d55.2 bx56 _) ?_; try dsimp only
       try refine xd_id ?_
       obtain ⟨x57, bx57, hl7⟩ := bnd hl7
       iterate 3 ((try simp only [go_sem, ]); try simp only [Nat.reduceAdd])
       refine xcallD_L (by first | (simp only [go_sem, fz, Nat.reduceAdd] <;> rfl) | (simp only [go_sem, fz, List.length_set, ble_self, take_set, cond_true, cond_false, Nat.reduceAdd] <;> rfl)) (by first | (simp only [go_sem, reach, Nat.reduceAdd] <;> rfl)) (derive_Mac_p a0 x56 bx57) (bare_ok (by rfl)) ?_; try dsimp only
       try refine xd_id ?_
       iterate 3 ((try simp only [go_sem, ]); try simp only [Nat.reduceAdd])
       refine And.intro ?_ (hKK _ (derive_Expand_3_S3 a0 d55 x57 a1 a2) (by refine Wk.canonD [] [] [some 0, some 1, some 12] rfl trivial rfl (tmOU 2 (tmOU 1 (tmOU 0 tmO0 rfl List.not_mem_nil rfl (TmL.clean (e_A16vu_clean _))) rfl List.not_mem_nil rfl (TmL.of_eq (by first | rfl | (simp only [List.flatMap_append, List.flatMap_cons, List.flatMap_nil, List.map_append, List.map_cons, List.map_nil, List.append_nil, List.nil_append] <;> rfl)) (vu_clean _))) rfl List.not_mem_nil rfl (TmL.clean (e_A16vu_clean _))) (tmAllU 12 (tmAllU 11 (tmAllU 10 (tmAllU 4 (tmAllU 3 (tmAllU 2 (tmAllU 1 tmAll0 (Tm.v _)) (Tm.clean (Clean.imm (vu_clean _)))) (Tm.v _)) (Tm.ptr rfl)) (Tm.refL rfl ?_)) (Tm.v _)) (Tm.ptr rfl)); all_goals (first | rfl | (simp only [List.length_append, List.length_take, List.length_drop, List.length_cons, List.length_nil, List.length_modify, List.length_set, Nat.zero_add] <;> omega) | omega)) ?_)
       ·
        subst hall
        clear hKK KK
        first | decide +kernel | (simp [printsOk, apartP, clash, meet]; try (first | done | decide +kernel | (repeat (first | exact Or.inr (by decide +kernel) | (refine And.intro (Or.inr (by decide +kernel)) ?_)))))
       ·
        clear hKK KK hall all
        unfold derive_Expand_3_S3
        refine awp_nr1 [1,2,3,4,10,11,12] (fun _ => rfl) fun tz => ?_
        refine awp_reg1 fun KK hKK => ?_
        refine xw_id ?_
        obtain ⟨x58, bx58, hl7⟩ := bnd hl7
        have bx58 := chk_some bx58
        simp only [Bool.and_eq_true, decide_eq_true_eq] at bx58
        have gx58_0 := bx58
        try simp only [List.cons_append, List.nil_append, List.length_append, List.length_cons, List.length_nil, Nat.zero_add, Nat.reduceAdd, Nat.add_assoc, Nat.reduceLeDiff] at gx58_0
        try simp only [go_sem, Nat.reduceAdd, Int.sub_zero, gx58_0, List.length_append, vu_len]
        refine hKK _ ?_; clear hKK KK
        refine bq_n ?_
        refine seqW_i ?_
        refine awp_nr1 [1,2,3,4,10,11] (fun _ => rfl) fun tz => ?_
        refine awp_reg1 fun KK hKK => ?_
        refine xw_id ?_
        try simp only [go_sem, Nat.reduceAdd]
        refine hKK _ ?_; clear hKK KK
        refine lq_n ?_
        exact ⟨n6, ((d55.1 ++ [x57.a0, x57.a1, x57.a2, x57.a3, x57.a4, x57.a5, x57.a6, x57.a7, x57.a8, x57.a9, x57.a10, x57.a11, x57.a12, x57.a13, x57.a14, x57.a15]), IntKind.wrap .i64 (d55.2 + 1)), rfl, hl7, (by refine Wk.canonD [] [] [some 0, some 5] rfl trivial rfl (tmOU 1 (tmOU 0 tmO0 rfl List.not_mem_nil rfl (TmL.clean (e_A16vu_clean _))) rfl List.not_mem_nil rfl (TmL.of_eq (by first | rfl | (simp only [List.flatMap_append, List.flatMap_cons, List.flatMap_nil, List.map_append, List.map_cons, List.map_nil, List.append_nil, List.nil_append] <;> rfl)) (vu_clean _))) (tmAllU 11 (tmAllU 10 (tmAllU 4 (tmAllU 3 (tmAllU 2 (tmAllU 1 tmAll0 (Tm.v _)) (Tm.clean (Clean.imm (vu_clean _)))) (Tm.v _)) (Tm.ptr rfl)) (Tm.refL rfl ?_)) (Tm.v _)); all_goals (first | rfl | (simp only [List.length_append, List.length_take, List.length_drop, List.length_cons, List.length_nil, List.length_modify, List.length_set, Nat.zero_add] <;> omega) | omega))⟩
      ·
       have hl7 := cF hl7 h8
       refine awp_exit ?_
       refine lq_e ?_
       refine bq_e ?_
       refine sq_n ?_
       obtain rfl := someInj hl7
       exact ⟨_, rfl, (by refine Wk.canonD [] [] [some 1] rfl trivial rfl (tmOU 0 tmO0 rfl List.not_mem_nil rfl (TmL.of_eq (by first | rfl | (simp only [List.flatMap_append, List.flatMap_cons, List.flatMap_nil, List.map_append, List.map_cons, List.map_nil, List.append_nil, List.nil_append] <;> rfl)) (vu_clean _))) (tmAllU 10 (tmAllU 3 tmAll0 (Tm.v _)) (Tm.refL rfl ?_)); all_goals (first | rfl | (simp only [List.length_append, List.length_take, List.length_drop, List.length_cons, List.length_nil, List.length_modify, List.length_set, Nat.zero_add] <;> omega) | omega))⟩
    ·
     rintro _ rfl
     clear hi5
     unfold derive_Expand_3_S0
     refine awp_nr [3,10] (fun _ => rfl) fun tz => ?_
     refine awp_regW fun KK hKK => ?_
     refine xw_id ?_
     obtain ⟨x59, bx59, h0⟩ := bnd h0
     have bx59 := chk_some bx59
     simp only [Bool.and_eq_true, decide_eq_true_eq] at bx59
     obtain ⟨⟨gx59_0, gx59_1⟩, gx59_2⟩ := bx59
     try simp only [go_sem, Nat.reduceAdd, gx59_0, gx59_1, gx59_2]
     have ht : List.map vu d54 = List.map vu (List.take ((a2).toNat) d54) ++ List.map vu (List.drop ((a2).toNat) d54) := by rw [← List.map_append, List.take_append_drop]
     refine hKK _ _ (Wk.trim 0 ?_ ht) ?_
     ·
      simp only [upd_get, Nat.reduceEqDiff, reduceIte, if_true, if_false] <;> rfl
     clear hKK KK ht
     refine awp_ret1 ?_
     obtain rfl := someInj h0
     refine endW_i ?_
     refine end_ret0 rs44 (rfl) ?_
     refine Res.mk [] [some 0] rfl (resOU List.not_mem_nil rfl (TmL.of_eq (by first | rfl | (simp only [List.flatMap_append, List.flatMap_cons, List.flatMap_nil, List.map_append, List.map_cons, List.map_nil, List.append_nil, List.nil_append] <;> rfl)) (vu_clean _)) resO0) (Tm.tup (TmL.cons (Tm.refL rfl ?_) (TmL.cons (Tm.v _) TmL.nil)))
     all_goals (first | rfl | (simp only [List.length_append, List.length_take, List.length_drop, List.length_cons, List.length_nil, List.length_modify, List.length_set, Nat.zero_add] <;> omega) | omega)

theorem derive_Expand_3_m (a0 : A16vu) (a1 : (List Int)) (a2 : Int) {r : ((List Int) × Int)} (h0 : derive_Expand_3 a0 a1 a2 = some r) : SndM K 44 [(.agg (e_A16vu a0)), (.v (.string ⟨#[97, 117, 116, 104]⟩)), (S_vu a1), (vi a2)] (fun q => (.tup [(.ref (q 0) 0 r.1.length 1), (vi r.2)])) [(List.map vu r.1)] :=
 fun hs => Snd.of_newM (RenM.tup (RenML.cons (RenM.ref 0 0 _ _) (RenML.cons (RenM.const (Clean.v _)) RenML.nil))) (rows_all_cons (vu_clean _) rows_all_nil) (clean_cons (Clean.agg (e_A16vu_clean _)) (clean_cons (Clean.v _) (clean_cons (S_vu_clean _) (clean_cons (Clean.v _) clean_nil)))) (derive_Expand_3_r a0 a1 a2 h0) hs

theorem derive_Expand_3_e (a0 : A16vu) (a1 : (List Int)) (a2 : Int) {r : ((List Int) × Int)} (h0 : derive_Expand_3 a0 a1 a2 = some r) (fr : Nat) (hs : HS) : SndE K 44 [(.agg (e_A16vu a0)), (.v (.string ⟨#[97, 117, 116, 104]⟩)), (S_vu a1), (vi a2)] hs fr ⟨(fun q : Nat → Nat => (.tup [(.ref (q 0) 0 r.1.length 1), (vi r.2)])) fun _ => fr, .new (List.map vu r.1)⟩ :=
 SndE.of_res (RenM.tup (RenML.cons (RenM.ref 0 0 _ _) (RenML.cons (RenM.const (Clean.v _)) RenML.nil))) (vu_clean _) (clean_cons (Clean.agg (e_A16vu_clean _)) (clean_cons (Clean.v _) (clean_cons (S_vu_clean _) (clean_cons (Clean.v _) clean_nil)))) (fun a b h => by simp only [h]) (derive_Expand_3_r a0 a1 a2 h0) hs fr

theorem derive_Expand_3_p (a0 : A16vu) (a1 : (List Int)) (a2 : Int) {r : ((List Int) × Int)} (h0 : derive_Expand_3 a0 a1 a2 = some r) : SndP K 44 [(.agg (e_A16vu a0)), (.v (.string ⟨#[97, 117, 116, 104]⟩)), (S_vu a1), (vi a2)] (.tup [(S_vu r.1), (vi r.2)]) :=
 SndM.pure (derive_Expand_3_m a0 a1 a2 h0) (Clean.tup (clean_cons (S_vu_clean _) (clean_cons (Clean.v _) clean_nil))) (clean_cons (Clean.agg (e_A16vu_clean _)) (clean_cons (Clean.v _) (clean_cons (S_vu_clean _) (clean_cons (Clean.v _) clean_nil)))) (by simp only [go_sem, newL_n, newL_c, upd_get, fz, nilS, cond_true, cond_false, List.drop_zero, List.take_length, List.length_map, ble_self, Nat.reduceAdd] <;> rfl)

end Go.AX.Z.TV

/-! (TVW auth keyed) -/

set_option linter.unusedSimpArgs false
set_option linter.unusedVariables false
set_option maxHeartbeats 4000000
set_option maxRecDepth 20000
namespace Go.AX.Z.TV
open Go.AX Go.Proofs
attribute [local irreducible] awp xw xop xcall gsp ob xd xdop xcallD seqQ loopQ blkQ endQ

def auth_keyed_S0 (a0 : Auth) (a1 : Int) (a2 : Int) (x51 : Int) : AS :=
 { objs := (upd (upd (fun _ => .dead) 0 (.live (e_Auth a0))) 1 (.live (e_Auth Auth.z))), next := 2, tmps := (upd (upd (upd (upd (upd (fun _ => .unk) 1 (vq a1)) 2 (vq a2)) 3 (.ptr 0 0)) 6 (.ptr 1 0)) 8 (vq x51)) }

def auth_keyed_S1 (a0 : Auth) (a2 : Int) (a1 : Int) (x54 : ((List Int) × Int)) : AS :=
 { objs := (upd (upd (upd (fun _ => .dead) 0 (.live (e_Auth { a0 with OtherElement := a2, OtherScalar := a1 }))) 1 (.live (e_Auth Auth.z))) 2 (.live (List.map vu x54.1))), next := 3, tmps := (upd (upd (upd (fun _ => .unk) 3 (.ptr 0 0)) 6 (.ptr 1 0)) 9 (.ref 2 0 x54.1.length 1)) }

theorem auth_keyed_p (a0 : Auth) (a1 : Int) (a2 : Int) {r : (Auth × Bool)} (h0 : auth_keyed a0 a1 a2 = some r) : SndP K 50 [(.agg (e_Auth a0)), (vq a1), (vq a2)] (.tup [(.agg (e_Auth r.1)), (vb r.2)]) := by
 refine SndP.of_walkW hC (Clean.tup (clean_cons (Clean.agg (e_Auth_clean _)) (clean_cons (Clean.v _) clean_nil))) (clean_cons (Clean.agg (e_Auth_clean _)) (clean_cons (Clean.v _) (clean_cons (Clean.v _) clean_nil))) (show K.P.funcs[50]? = some Try.f50 from Try.func50) rfl rfl (by decide +kernel) (Nat.le_of_ble_eq_true rfl) ?_
 unfold auth_keyed at h0
 refine awp_nr [0,1,2] (fun _ => rfl) fun tz => ?_
 refine awp_regW fun KK hKK => ?_
 refine xw_id ?_
 try simp only [go_sem, Nat.reduceAdd]
 refine hKK _ _ (Wk.refl _ _ _) ?_; clear hKK KK
 refine awp_assoc ?_
 refine awp_nr [1,2,3,6] (fun _ => rfl) fun tz => ?_
 refine awp_regW fun KK hKK => ?_
 refine xw_id ?_
 refine xw_stop 3 (by (try simp only [go_sem]); rfl) (by (try simp only [go_sem]); rfl) (by rfl) fun K1 hK1 => ?_
 refine xw_id ?_
 try simp only [go_sem, Nat.reduceAdd]
 refine hK1 _ ?_; clear hK1 K1
 refine xw_cut 3 [(1, (vq a1)), (2, (vq a2)), (3, (.ptr 0 0)), (6, (.ptr 1 0)), (16, (vb ((decide (a1 < 2)) || (decide (2305843009213693950 ≤ a1)))))] (by (try simp only [go_sem]); rfl) (by (try simp only [go_sem]); rfl) (by rfl) (fun K1 hK1 => ?_) fun tz => ?_
 ·
  refine xw_id ?_
  rcases Bool.eq_false_or_eq_true (decide (a1 < 2)) with h1 | h1
  ·
   try simp only [go_sem, Nat.reduceAdd, h1]
   exact hK1 _ ⟨rfl, rfl, rfl, rfl, rfl, (by first | rfl | (rw [h1]; rfl) | (simp only [h1, Bool.true_and, Bool.false_and, Bool.true_or, Bool.false_or, cond_true, cond_false] <;> rfl)), trivial⟩
  ·
   try simp only [go_sem, Nat.reduceAdd, h1]
   exact hK1 _ ⟨rfl, rfl, rfl, rfl, rfl, (by first | rfl | (rw [h1]; rfl) | (simp only [h1, Bool.true_and, Bool.false_and, Bool.true_or, Bool.false_or, cond_true, cond_false] <;> rfl)), trivial⟩
 ·
  refine xw_id ?_
  refine xw_stop 1 (by (try simp only [go_sem]); rfl) (by (try simp only [go_sem]); rfl) (by rfl) fun K1 hK1 => ?_
  refine xw_id ?_
  try simp only [go_sem, Nat.reduceAdd]
  refine hK1 _ ?_; clear hK1 K1
  refine xw_cut 3 [(1, (vq a1)), (2, (vq a2)), (3, (.ptr 0 0)), (6, (.ptr 1 0)), (20, (vb (((decide (a1 < 2)) || (decide (2305843009213693950 ≤ a1))) || (decide (a2 < 2)))))] (by (try simp only [go_sem]); rfl) (by (try simp only [go_sem]); rfl) (by rfl) (fun K1 hK1 => ?_) fun tz => ?_
  ·
   refine xw_id ?_
   rcases Bool.eq_false_or_eq_true ((decide (a1 < 2)) || (decide (2305843009213693950 ≤ a1))) with h2 | h2
   ·
    try simp only [go_sem, Nat.reduceAdd, h2]
    exact hK1 _ ⟨rfl, rfl, rfl, rfl, rfl, (by first | rfl | (rw [h2]; rfl) | (simp only [h2, Bool.true_and, Bool.false_and, Bool.true_or, Bool.false_or, cond_true, cond_false] <;> rfl)), trivial⟩
   ·
    try simp only [go_sem, Nat.reduceAdd, h2]
    exact hK1 _ ⟨rfl, rfl, rfl, rfl, rfl, (by first | rfl | (rw [h2]; rfl) | (simp only [h2, Bool.true_and, Bool.false_and, Bool.true_or, Bool.false_or, cond_true, cond_false] <;> rfl)), trivial⟩
  ·
   refine xw_id ?_
   refine xw_stop 1 (by (try simp only [go_sem]); rfl) (by (try simp only [go_sem]); rfl) (by rfl) fun K1 hK1 => ?_
   refine xw_id ?_
   try simp only [go_sem, Nat.reduceAdd]
   refine hK1 _ ?_; clear hK1 K1
   refine xw_cut 3 [(1, (vq a1)), (2, (vq a2)), (3, (.ptr 0 0)), (6, (.ptr 1 0)), (24, (vb ((((decide (a1 < 2)) || (decide (2305843009213693950 ≤ a1))) || (decide (a2 < 2))) || (decide (2305843009213693951 ≤ a2)))))] (by (try simp only [go_sem]); rfl) (by (try simp only [go_sem]); rfl) (by rfl) (fun K1 hK1 => ?_) fun tz => ?_
   ·
    refine xw_id ?_
    rcases Bool.eq_false_or_eq_true (((decide (a1 < 2)) || (decide (2305843009213693950 ≤ a1))) || (decide (a2 < 2))) with h3 | h3
    ·
     try simp only [go_sem, Nat.reduceAdd, h3]
     exact hK1 _ ⟨rfl, rfl, rfl, rfl, rfl, (by first | rfl | (rw [h3]; rfl) | (simp only [h3, Bool.true_and, Bool.false_and, Bool.true_or, Bool.false_or, cond_true, cond_false] <;> rfl)), trivial⟩
    ·
     try simp only [go_sem, Nat.reduceAdd, h3]
     exact hK1 _ ⟨rfl, rfl, rfl, rfl, rfl, (by first | rfl | (rw [h3]; rfl) | (simp only [h3, Bool.true_and, Bool.false_and, Bool.true_or, Bool.false_or, cond_true, cond_false] <;> rfl)), trivial⟩
   ·
    refine xw_id ?_
    refine xw_stop 1 (by (try simp only [go_sem]); rfl) (by (try simp only [go_sem]); rfl) (by rfl) fun K1 hK1 => ?_
    refine xw_id ?_
    try simp only [go_sem, Nat.reduceAdd]
    refine hK1 _ ?_; clear hK1 K1
    refine xw_cut 11 [(1, (vq a1)), (2, (vq a2)), (3, (.ptr 0 0)), (6, (.ptr 1 0)), (36, (vb (((((decide (a1 < 2)) || (decide (2305843009213693950 ≤ a1))) || (decide (a2 < 2))) || (decide (2305843009213693951 ≤ a2))) || ((a1 == a0.Scalar) && (a2 == a0.Element)))))] (by (try simp only [go_sem]); rfl) (by (try simp only [go_sem]); rfl) (by rfl) (fun K1 hK1 => ?_) fun tz => ?_
    ·
     refine xw_id ?_
     rcases Bool.eq_false_or_eq_true ((((decide (a1 < 2)) || (decide (2305843009213693950 ≤ a1))) || (decide (a2 < 2))) || (decide (2305843009213693951 ≤ a2))) with h4 | h4
     ·
      try simp only [go_sem, Nat.reduceAdd, h4]
      exact hK1 _ ⟨rfl, rfl, rfl, rfl, rfl, (by first | rfl | (rw [h4]; rfl) | (simp only [h4, Bool.true_and, Bool.false_and, Bool.true_or, Bool.false_or, cond_true, cond_false] <;> rfl)), trivial⟩
     ·
      refine xw_stop 5 (by (try simp only [go_sem]); rfl) (by (try simp only [go_sem]); rfl) (by rfl) fun K1 hK1 => ?_
      refine xw_id ?_
      try simp only [go_sem, Nat.reduceAdd, h4]
      refine hK1 _ ?_; clear hK1 K1
      refine xw_cut 5 [(1, (vq a1)), (2, (vq a2)), (3, (.ptr 0 0)), (6, (.ptr 1 0)), (25, (vb false)), (35, (vb ((a1 == a0.Scalar) && (a2 == a0.Element))))] (by (try simp only [go_sem]); rfl) (by (try simp only [go_sem]); rfl) (by rfl) (fun K1 hK1 => ?_) fun tz => ?_
      ·
       refine xw_id ?_
       rcases Bool.eq_false_or_eq_true (a1 == a0.Scalar) with h5 | h5
       ·
        try simp only [go_sem, Nat.reduceAdd, h4, h5]
        exact hK1 _ ⟨rfl, rfl, rfl, rfl, rfl, rfl, (by first | rfl | (rw [h5]; rfl) | (simp only [h5, Bool.true_and, Bool.false_and, Bool.true_or, Bool.false_or, cond_true, cond_false] <;> rfl)), trivial⟩
       ·
        try simp only [go_sem, Nat.reduceAdd, h4, h5]
        exact hK1 _ ⟨rfl, rfl, rfl, rfl, rfl, rfl, (by first | rfl | (rw [h5]; rfl) | (simp only [h5, Bool.true_and, Bool.false_and, Bool.true_or, Bool.false_or, cond_true, cond_false] <;> rfl)), trivial⟩
      ·
       refine xw_id ?_
       try simp only [go_sem, Nat.reduceAdd, h4]
       exact hK1 _ ⟨rfl, rfl, rfl, rfl, rfl, (by first | rfl | (rw [h4]; rfl) | (simp only [h4, Bool.true_and, Bool.false_and, Bool.true_or, Bool.false_or, cond_true, cond_false] <;> rfl)), trivial⟩
    ·
     refine xw_id ?_
     try simp only [go_sem, Nat.reduceAdd]
     refine hKK _ _ (Wk.refl _ _ _) ?_; clear hKK KK
     refine awp_cond (b := (((((decide (a1 < 2)) || (decide (2305843009213693950 ≤ a1))) || (decide (a2 < 2))) || (decide (2305843009213693951 ≤ a2))) || ((a1 == a0.Scalar) && (a2 == a0.Element)))) rfl (fun h6 => ?_) (fun h6 => ?_)
     ·
      have h0 := cT h0 h6
      refine awp_assoc ?_
      refine awp_nr [3,6] (fun _ => rfl) fun tz => ?_
      refine awp_regW fun KK hKK => ?_
      refine xw_id ?_
      try simp only [go_sem, Nat.reduceAdd]
      refine hKK _ _ (Wk.refl _ _ _) ?_; clear hKK KK
      refine awp_ret ?_
      obtain rfl := someInj h0
      refine endW_i ?_
      refine end_ret0 rs50 (by simp only [go_sem, resV, resAll, resOf, packR, Nat.reduceAdd]; rfl) ?_
      try simp only [go_sem, Nat.reduceAdd, fz, nilS, packR, List.take_nil, List.take_length, List.length_map, List.length_append, cond_true, cond_false, Nat.ble_eq, ble_self]
      all_goals first | rfl | (simp only [go_sem, Nat.reduceAdd, fz, nilS, packR, List.take_nil, List.take_length, List.length_map, List.length_append, cond_true, cond_false, Nat.ble_eq, ble_self, List.map_append] <;> rfl)
     ·
      have h0 := cF h0 h6
      refine awp_skip ?_
      refine awp_nr [1,2,3,6] (fun _ => rfl) fun tz => ?_
      refine awp_regW fun KK hKK => ?_
      refine xw_id ?_
      obtain ⟨x49, bx49, h0⟩ := bnd h0
      try simp only [go_sem, Nat.reduceAdd]
      refine xcall_p (auth_Pow_p a0.Base a1 bx49) ?_; try dsimp only
      try refine xw_id ?_
      obtain ⟨x50, bx50, h0⟩ := bnd h0
      try simp only [go_sem, Nat.reduceAdd]
      refine xcall_p (auth_Mul_p x49 a2 bx50) ?_; try dsimp only
      try refine xw_id ?_
      obtain ⟨x51, bx51, h0⟩ := bnd h0
      try simp only [go_sem, Nat.reduceAdd]
      refine xcall_p (auth_Pow_p x50 a0.Rand bx51) ?_; try dsimp only
      try refine xw_id ?_
      try simp only [go_sem, Nat.reduceAdd]
      refine hKK _ (auth_keyed_S0 a0 a1 a2 x51) (Wk.canonD [] [] [some 0, some 1] rfl trivial rfl (tmOU 1 (tmOU 0 tmO0 rfl List.not_mem_nil rfl (TmL.clean (e_Auth_clean _))) rfl List.not_mem_nil rfl (TmL.clean (e_Auth_clean _))) (tmAllU 8 (tmAllU 6 (tmAllU 3 (tmAllU 2 (tmAllU 1 tmAll0 (Tm.v _)) (Tm.v _)) (Tm.ptr rfl)) (Tm.ptr rfl)) (Tm.v _))) ?_; clear hKK KK
      unfold auth_keyed_S0
      refine awp_assoc ?_
      refine awp_nr [1,2,3,6,8] (fun _ => rfl) fun tz => ?_
      refine awp_regW fun KK hKK => ?_
      refine xw_id ?_
      try simp only [go_sem, Nat.reduceAdd]
      refine hKK _ _ (Wk.refl _ _ _) ?_; clear hKK KK
      refine awp_cond (b := (decide (x51 < 2))) rfl (fun h7 => ?_) (fun h7 => ?_)
      ·
       have h0 := cT h0 h7
       refine awp_assoc ?_
       refine awp_nr [3,6] (fun _ => rfl) fun tz => ?_
       refine awp_regW fun KK hKK => ?_
       refine xw_id ?_
       try simp only [go_sem, Nat.reduceAdd]
       refine hKK _ _ (Wk.refl _ _ _) ?_; clear hKK KK
       refine awp_ret ?_
       obtain rfl := someInj h0
       refine endW_i ?_
       refine end_ret0 rs50 (by simp only [go_sem, resV, resAll, resOf, packR, Nat.reduceAdd]; rfl) ?_
       try simp only [go_sem, Nat.reduceAdd, fz, nilS, packR, List.take_nil, List.take_length, List.length_map, List.length_append, cond_true, cond_false, Nat.ble_eq, ble_self]
       all_goals first | rfl | (simp only [go_sem, Nat.reduceAdd, fz, nilS, packR, List.take_nil, List.take_length, List.length_map, List.length_append, cond_true, cond_false, Nat.ble_eq, ble_self, List.map_append] <;> rfl)
      ·
       have h0 := cF h0 h7
       refine awp_skip ?_
       refine awp_nr [1,2,3,6,8] (fun _ => rfl) fun tz => ?_
       refine awp_regW fun KK hKK => ?_
       refine xw_id ?_
       try simp only [go_sem, Nat.reduceAdd]
       refine hKK _ _ (Wk.refl _ _ _) ?_; clear hKK KK
       refine awp_nr [1,3,6,8] (fun _ => rfl) fun tz => ?_
       refine awp_regW fun KK hKK => ?_
       refine xw_id ?_
       obtain ⟨x52, bx52, h0⟩ := bnd h0
       try simp only [go_sem, Nat.reduceAdd]
       refine xcall_p (auth_sum_p a0.Scalar a1 bx52) ?_; try dsimp only
       try refine xw_id ?_
       obtain ⟨x53, bx53, h0⟩ := bnd h0
       try simp only [go_sem, Nat.reduceAdd]
       refine xcall_ML (by first | (simp only [go_sem, fz, nilS, cond_true, cond_false, Nat.reduceAdd] <;> rfl) | (simp only [go_sem, fz, List.length_set, ble_self, take_set, cond_true, cond_false, Nat.reduceAdd] <;> rfl)) (auth_numbers_m [x51, x52] bx53) (fun _ => by repeat' (first | exact NoV.v _ | exact NoV.ref _ _ _ _ | exact NoV.onil | refine NoV.ocons ?_ ?_ | exact NoV.nil | refine NoV.tup ?_ | refine NoV.agg ?_ | refine NoV.rows (fun _ => ?_) _ | refine NoV.maps (fun _ => ?_) _ | refine NoV.cons ?_ ?_)) (by repeat' (first | exact NoV.v _ | exact NoV.ref _ _ _ _ | exact NoV.onil | refine NoV.ocons ?_ ?_ | exact NoV.nil | refine NoV.tup ?_ | refine NoV.agg ?_ | refine NoV.rows (fun _ => ?_) _ | refine NoV.maps (fun _ => ?_) _ | refine NoV.cons ?_ ?_)) ?_; try dsimp only
       try refine xw_id ?_
       obtain ⟨x54, bx54, h0⟩ := bnd h0
       try simp only [go_sem, Nat.reduceAdd]
       refine xcall_ML (by first | (simp only [go_sem, fz, nilS, cond_true, cond_false, Nat.reduceAdd] <;> rfl) | (simp only [go_sem, fz, List.length_set, ble_self, take_set, cond_true, cond_false, Nat.reduceAdd] <;> rfl)) (derive_Expand_3_m A16vu.z x53 32 bx54) (fun _ => by repeat' (first | exact NoV.v _ | exact NoV.ref _ _ _ _ | exact NoV.onil | refine NoV.ocons ?_ ?_ | exact NoV.nil | refine NoV.tup ?_ | refine NoV.agg ?_ | refine NoV.rows (fun _ => ?_) _ | refine NoV.maps (fun _ => ?_) _ | refine NoV.cons ?_ ?_)) (by repeat' (first | exact NoV.v _ | exact NoV.ref _ _ _ _ | exact NoV.onil | refine NoV.ocons ?_ ?_ | exact NoV.nil | refine NoV.tup ?_ | refine NoV.agg ?_ | refine NoV.rows (fun _ => ?_) _ | refine NoV.maps (fun _ => ?_) _ | refine NoV.cons ?_ ?_)) ?_; try dsimp only
       try refine xw_id ?_
       try simp only [go_sem, Nat.reduceAdd]
       refine hKK _ (auth_keyed_S1 a0 a2 a1 x54) (by refine Wk.canonD [] [] [some 0, some 1, some 25] rfl trivial rfl (tmOU 2 (tmOU 1 (tmOU 0 tmO0 rfl List.not_mem_nil rfl (TmL.clean (e_Auth_clean _))) rfl List.not_mem_nil rfl (TmL.clean (e_Auth_clean _))) rfl List.not_mem_nil rfl (TmL.of_eq (by first | rfl | (simp only [List.flatMap_append, List.flatMap_cons, List.flatMap_nil, List.map_append, List.map_cons, List.map_nil, List.append_nil, List.nil_append] <;> rfl)) (vu_clean _))) (tmAllU 9 (tmAllU 6 (tmAllU 3 tmAll0 (Tm.ptr rfl)) (Tm.ptr rfl)) (Tm.refL rfl ?_)); all_goals (first | rfl | (simp only [List.length_append, List.length_take, List.length_drop, List.length_cons, List.length_nil, List.length_modify, List.length_set, Nat.zero_add] <;> omega) | omega)) ?_; clear hKK KK
       unfold auth_keyed_S1
       refine awp_nr [3,6,9] (fun _ => rfl) fun tz => ?_
       refine awp_regW fun KK hKK => ?_
       refine xw_id ?_
       obtain ⟨x55, bx55, h0⟩ := bnd h0
       have bx55 := chk_some bx55
       simp only [Bool.and_eq_true, decide_eq_true_eq] at bx55
       have gx55_0 := bx55
       have gs8 : (List.map vu x54.1).take 16 = e_A16vu (A16vu.of x54.1) := e_A16vu_of _ (by (try simp only [List.length_drop]); omega)
       have gs8m : min x54.1.length 16 = 16 := Nat.min_eq_right (by omega)
       try simp only [go_sem, Nat.reduceAdd, Int.sub_zero, gx55_0, gs8, gs8m, Nat.mul_one]
       refine hKK _ _ (Wk.refl _ _ _) ?_; clear hKK KK
       refine awp_nr [3,6,9] (fun _ => rfl) fun tz => ?_
       refine awp_regDW fun KK hKK all hall => ?_
       refine xd_id ?_
       try simp only [List.toList_toArray, List.map_cons, List.map_nil, List.size_toArray, List.length_cons, List.length_nil, Nat.zero_add]
       try simp only [Nat.reduceAdd]
       obtain ⟨x56, bx56, h0⟩ := bnd h0
       have bx56 := chk_some bx56
       simp only [Bool.and_eq_true, decide_eq_true_eq] at bx56
       have gx56_0 := bx56
       have g9 : (((x54.1.length : Nat) : Int) - 16).toNat = x54.1.length - 16 := by omega
       have gp10 : sub? (List.map vu x54.1) 16 (x54.1.length - 16) = some (List.map vu (List.drop 16 x54.1)) := map_subD _ _ _ (by omega)
       obtain ⟨x57, bx57, h0⟩ := bnd h0
       have bx57 := chk_some bx57
       simp only [Bool.and_eq_true, decide_eq_true_eq] at bx57
       have gx57_0 := bx57
       have gs11 : (List.map vu (List.drop 16 x54.1)).take 16 = e_A16vu (A16vu.of (List.drop 16 x54.1)) := e_A16vu_of _ (by (try simp only [List.length_drop]); omega)
       have gs11m : min (x54.1.length - 16) 16 = 16 := Nat.min_eq_right (by omega)
       iterate 3 ((try simp only [go_sem, Int.sub_zero, gx56_0, g9, gp10, gx57_0, gs11, gs11m, Nat.mul_one]); try simp only [Nat.reduceAdd])
       refine And.intro ?_ (hKK _ _ (Wk.refl _ _ _) ?_)
       ·
        subst hall
        clear hKK KK
        first | decide +kernel | (simp [printsOk, apartP, clash, meet]; try (first | done | decide +kernel | (repeat (first | exact Or.inr (by decide +kernel) | (refine And.intro (Or.inr (by decide +kernel)) ?_)))))
       ·
        clear hKK KK hall all
        refine awp_nr [3,6] (fun _ => rfl) fun tz => ?_
        refine awp_regW fun KK hKK => ?_
        refine xw_id ?_
        try simp only [go_sem, Nat.reduceAdd]
        refine hKK _ _ (Wk.refl _ _ _) ?_; clear hKK KK
        refine awp_ret1 ?_
        obtain rfl := someInj h0
        refine endW_i ?_
        refine end_ret0 rs50 (by simp only [go_sem, resV, resAll, resOf, packR, Nat.reduceAdd]; rfl) ?_
        try simp only [go_sem, Nat.reduceAdd, fz, nilS, packR, List.take_nil, List.take_length, List.length_map, List.length_append, cond_true, cond_false, Nat.ble_eq, ble_self]
        all_goals first | rfl | (simp only [go_sem, Nat.reduceAdd, fz, nilS, packR, List.take_nil, List.take_length, List.length_map, List.length_append, cond_true, cond_false, Nat.ble_eq, ble_self, List.map_append] <;> rfl)

end Go.AX.Z.TV

/-! (TVW auth Check) -/

set_option linter.unusedSimpArgs false
set_option linter.unusedVariables false
set_option maxHeartbeats 4000000
set_option maxRecDepth 20000
namespace Go.AX.Z.TV
open Go.AX Go.Proofs
attribute [local irreducible] awp xw xop xcall gsp ob xd xdop xcallD seqQ loopQ blkQ endQ

def auth_Check_S0 (a0 : Auth) (x48 : Bool) : AS :=
 { objs := (upd (fun _ => .dead) 0 (.live (e_Auth a0))), next := 1, tmps := (upd (upd (fun _ => .unk) 1 (.ptr 0 0)) 70 (vb ((x48 || (decide (a0.Scalar < 2))) || (decide (a0.Element < 2))))) }

def auth_Check_S1 (a0 : Auth) : AS :=
 { objs := (upd (upd (fun _ => .dead) 0 (.live (e_Auth a0))) 1 (.live (e_Auth { a0 with Confirm := A16vu.z, Master := A16vu.z, OtherElement := 0, OtherScalar := 0, Sync := 0 }))), next := 2, tmps := (upd (upd (fun _ => .unk) 1 (.ptr 0 0)) 6 (.ptr 1 0)) }

theorem auth_Check_p (a0 : Auth) {r : Int} (h0 : auth_Check a0 = some r) : SndP K 23 [(.agg (e_Auth a0))] (vi r) := by
 refine SndP.of_walkW hC (Clean.v _) (clean_cons (Clean.agg (e_Auth_clean _)) clean_nil) (show K.P.funcs[23]? = some Try.f23 from Try.func23) rfl rfl (by decide +kernel) (Nat.le_of_ble_eq_true rfl) ?_
 unfold auth_Check at h0
 refine awp_nr [0] (fun _ => rfl) fun tz => ?_
 refine awp_regW fun KK hKK => ?_
 refine xw_id ?_
 try simp only [go_sem, Nat.reduceAdd]
 refine hKK _ _ (Wk.refl _ _ _) ?_; clear hKK KK
 refine awp_assoc ?_
 refine awp_nr [1] (fun _ => rfl) fun tz => ?_
 refine awp_regW fun KK hKK => ?_
 refine xw_id ?_
 try simp only [List.append_eq, Array.toList_append, List.append_toArray, List.toList_toArray, List.cons_append, List.nil_append]
 refine xw_stop 6 (by (try simp only [go_sem]); rfl) (by (try simp only [go_sem]); rfl) (by rfl) fun K1 hK1 => ?_
 refine xw_id ?_
 try simp only [go_sem, Nat.reduceAdd]
 refine hK1 _ ?_; clear hK1 K1
 refine xw_cut 4 [(1, (.ptr 0 0)), (16, (vb ((decide (a0.Own = a0.Peer)) || (decide (a0.Base < 2)))))] (by (try simp only [go_sem]); rfl) (by (try simp only [go_sem]); rfl) (by rfl) (fun K1 hK1 => ?_) fun tz => ?_
 ·
  refine xw_id ?_
  rcases Bool.eq_false_or_eq_true (decide (a0.Own = a0.Peer)) with h1 | h1
  ·
   try simp only [go_sem, Nat.reduceAdd, h1]
   exact hK1 _ ⟨rfl, rfl, (by first | rfl | (rw [h1]; rfl) | (simp only [h1, Bool.true_and, Bool.false_and, Bool.true_or, Bool.false_or, cond_true, cond_false] <;> rfl)), trivial⟩
  ·
   try simp only [go_sem, Nat.reduceAdd, h1]
   exact hK1 _ ⟨rfl, rfl, (by first | rfl | (rw [h1]; rfl) | (simp only [h1, Bool.true_and, Bool.false_and, Bool.true_or, Bool.false_or, cond_true, cond_false] <;> rfl)), trivial⟩
 ·
  refine xw_id ?_
  refine xw_stop 1 (by (try simp only [go_sem]); rfl) (by (try simp only [go_sem]); rfl) (by rfl) fun K1 hK1 => ?_
  refine xw_id ?_
  try simp only [go_sem, Nat.reduceAdd]
  refine hK1 _ ?_; clear hK1 K1
  refine xw_cut 4 [(1, (.ptr 0 0)), (21, (vb (((decide (a0.Own = a0.Peer)) || (decide (a0.Base < 2))) || (decide (2305843009213693951 ≤ a0.Base)))))] (by (try simp only [go_sem]); rfl) (by (try simp only [go_sem]); rfl) (by rfl) (fun K1 hK1 => ?_) fun tz => ?_
  ·
   refine xw_id ?_
   rcases Bool.eq_false_or_eq_true ((decide (a0.Own = a0.Peer)) || (decide (a0.Base < 2))) with h2 | h2
   ·
    try simp only [go_sem, Nat.reduceAdd, h2]
    exact hK1 _ ⟨rfl, rfl, (by first | rfl | (rw [h2]; rfl) | (simp only [h2, Bool.true_and, Bool.false_and, Bool.true_or, Bool.false_or, cond_true, cond_false] <;> rfl)), trivial⟩
   ·
    try simp only [go_sem, Nat.reduceAdd, h2]
    exact hK1 _ ⟨rfl, rfl, (by first | rfl | (rw [h2]; rfl) | (simp only [h2, Bool.true_and, Bool.false_and, Bool.true_or, Bool.false_or, cond_true, cond_false] <;> rfl)), trivial⟩
  ·
   refine xw_id ?_
   refine xw_stop 1 (by (try simp only [go_sem]); rfl) (by (try simp only [go_sem]); rfl) (by rfl) fun K1 hK1 => ?_
   refine xw_id ?_
   try simp only [go_sem, Nat.reduceAdd]
   refine hK1 _ ?_; clear hK1 K1
   obtain ⟨x45, hvh3, h0⟩ := bnd h0
   refine xw_cut 4 [(1, (.ptr 0 0)), (26, (vb x45))] (by (try simp only [go_sem]); rfl) (by (try simp only [go_sem]); rfl) (by rfl) (fun K1 hK1 => ?_) fun tz => ?_
   ·
    refine xw_id ?_
    rcases Bool.eq_false_or_eq_true (((decide (a0.Own = a0.Peer)) || (decide (a0.Base < 2))) || (decide (2305843009213693951 ≤ a0.Base))) with h3 | h3
    ·
     have hvh3 := cT hvh3 h3
     try simp only [go_sem, Nat.reduceAdd, h3]
     obtain rfl := someInj hvh3
     exact hK1 _ ⟨rfl, rfl, (by first | rfl | (rw [h3]; rfl) | (simp only [h3, Bool.true_and, Bool.false_and, Bool.true_or, Bool.false_or, cond_true, cond_false] <;> rfl)), trivial⟩
    ·
     have hvh3 := cF hvh3 h3
     obtain ⟨x44, bx44, hvh3⟩ := bnd hvh3
     try simp only [go_sem, Nat.reduceAdd, h3]
     refine xcall_p (auth_secret_p a0 bx44) ?_; try dsimp only
     try refine xw_id ?_
     try simp only [go_sem, Nat.reduceAdd, h3]
     obtain rfl := someInj hvh3
     exact hK1 _ ⟨rfl, rfl, (by first | rfl | (rw [h3]; rfl) | (simp only [h3, Bool.true_and, Bool.false_and, Bool.true_or, Bool.false_or, cond_true, cond_false] <;> rfl)), trivial⟩
   ·
    refine xw_id ?_
    refine xw_stop 1 (by (try simp only [go_sem]); rfl) (by (try simp only [go_sem]); rfl) (by rfl) fun K1 hK1 => ?_
    refine xw_id ?_
    try simp only [go_sem, Nat.reduceAdd]
    refine hK1 _ ?_; clear hK1 K1
    refine xw_cut 4 [(1, (.ptr 0 0)), (31, (vb (x45 || (decide (4 < a0.Stage)))))] (by (try simp only [go_sem]); rfl) (by (try simp only [go_sem]); rfl) (by rfl) (fun K1 hK1 => ?_) fun tz => ?_
    ·
     refine xw_id ?_
     rcases Bool.eq_false_or_eq_true x45 with h4 | h4
     ·
      try simp only [go_sem, Nat.reduceAdd, h4]
      exact hK1 _ ⟨rfl, rfl, (by first | rfl | (rw [h4]; rfl) | (simp only [h4, Bool.true_and, Bool.false_and, Bool.true_or, Bool.false_or, cond_true, cond_false] <;> rfl)), trivial⟩
     ·
      try simp only [go_sem, Nat.reduceAdd, h4]
      exact hK1 _ ⟨rfl, rfl, (by first | rfl | (rw [h4]; rfl) | (simp only [h4, Bool.true_and, Bool.false_and, Bool.true_or, Bool.false_or, cond_true, cond_false] <;> rfl)), trivial⟩
    ·
     refine xw_id ?_
     refine xw_stop 1 (by (try simp only [go_sem]); rfl) (by (try simp only [go_sem]); rfl) (by rfl) fun K1 hK1 => ?_
     refine xw_id ?_
     try simp only [go_sem, Nat.reduceAdd]
     refine hK1 _ ?_; clear hK1 K1
     refine xw_cut 9 [(1, (.ptr 0 0)), (41, (vb ((x45 || (decide (4 < a0.Stage))) || ((!a0.HasToken) && (a0.Token != 0)))))] (by (try simp only [go_sem]); rfl) (by (try simp only [go_sem]); rfl) (by rfl) (fun K1 hK1 => ?_) fun tz => ?_
     ·
      refine xw_id ?_
      rcases Bool.eq_false_or_eq_true (x45 || (decide (4 < a0.Stage))) with h5 | h5
      ·
       try simp only [go_sem, Nat.reduceAdd, h5]
       exact hK1 _ ⟨rfl, rfl, (by first | rfl | (rw [h5]; rfl) | (simp only [h5, Bool.true_and, Bool.false_and, Bool.true_or, Bool.false_or, cond_true, cond_false] <;> rfl)), trivial⟩
      ·
       refine xw_stop 4 (by (try simp only [go_sem]); rfl) (by (try simp only [go_sem]); rfl) (by rfl) fun K1 hK1 => ?_
       refine xw_id ?_
       try simp only [go_sem, Nat.reduceAdd, h5]
       refine hK1 _ ?_; clear hK1 K1
       refine xw_cut 4 [(1, (.ptr 0 0)), (32, (vb false)), (40, (vb ((!a0.HasToken) && (a0.Token != 0))))] (by (try simp only [go_sem]); rfl) (by (try simp only [go_sem]); rfl) (by rfl) (fun K1 hK1 => ?_) fun tz => ?_
       ·
        refine xw_id ?_
        rcases Bool.eq_false_or_eq_true (!a0.HasToken) with h6 | h6
        ·
         try simp only [go_sem, Nat.reduceAdd, h5, h6]
         exact hK1 _ ⟨rfl, rfl, rfl, (by first | rfl | (rw [h6]; rfl) | (simp only [h6, Bool.true_and, Bool.false_and, Bool.true_or, Bool.false_or, cond_true, cond_false] <;> rfl)), trivial⟩
        ·
         try simp only [go_sem, Nat.reduceAdd, h5, h6]
         exact hK1 _ ⟨rfl, rfl, rfl, (by first | rfl | (rw [h6]; rfl) | (simp only [h6, Bool.true_and, Bool.false_and, Bool.true_or, Bool.false_or, cond_true, cond_false] <;> rfl)), trivial⟩
       ·
        refine xw_id ?_
        try simp only [go_sem, Nat.reduceAdd, h5]
        exact hK1 _ ⟨rfl, rfl, (by first | rfl | (rw [h5]; rfl) | (simp only [h5, Bool.true_and, Bool.false_and, Bool.true_or, Bool.false_or, cond_true, cond_false] <;> rfl)), trivial⟩
     ·
      refine xw_id ?_
      try simp only [go_sem, Nat.reduceAdd]
      refine hKK _ _ (Wk.refl _ _ _) ?_; clear hKK KK
      refine awp_cond (b := ((x45 || (decide (4 < a0.Stage))) || ((!a0.HasToken) && (a0.Token != 0)))) rfl (fun h7 => ?_) (fun h7 => ?_)
      ·
       have h0 := cT h0 h7
       refine awp_assoc ?_
       refine awp_nr [] (fun _ => rfl) fun tz => ?_
       refine awp_regW fun KK hKK => ?_
       refine xw_id ?_
       try simp only [go_sem, Nat.reduceAdd]
       refine hKK _ _ (Wk.refl _ _ _) ?_; clear hKK KK
       refine awp_ret ?_
       obtain rfl := someInj h0
       refine endW_i ?_
       refine end_ret0 rs23 (rfl) ?_
       try simp only [go_sem, Nat.reduceAdd, fz, nilS, packR, List.take_nil, List.take_length, List.length_map, List.length_append, cond_true, cond_false, Nat.ble_eq, ble_self]
       all_goals first | rfl | (simp only [go_sem, Nat.reduceAdd, fz, nilS, packR, List.take_nil, List.take_length, List.length_map, List.length_append, cond_true, cond_false, Nat.ble_eq, ble_self, List.map_append] <;> rfl)
      ·
       have h0 := cF h0 h7
       refine awp_skip ?_
       refine awp_assoc ?_
       refine awp_nr [1] (fun _ => rfl) fun tz => ?_
       refine awp_regW fun KK hKK => ?_
       refine xw_id ?_
       obtain ⟨x46, bx46, h0⟩ := bnd h0
       try simp only [go_sem, Nat.reduceAdd]
       refine xcall_p (auth_sum_p a0.Rand a0.Mask bx46) ?_; try dsimp only
       try refine xw_id ?_
       refine xw_stop 2 (by (try simp only [go_sem]); rfl) (by (try simp only [go_sem]); rfl) (by rfl) fun K1 hK1 => ?_
       refine xw_id ?_
       try simp only [go_sem, Nat.reduceAdd]
       refine hK1 _ ?_; clear hK1 K1
       obtain ⟨x48, hvh8, h0⟩ := bnd h0
       refine xw_cut 10 [(1, (.ptr 0 0)), (60, (vb x48))] (by (try simp only [go_sem]); rfl) (by (try simp only [go_sem]); rfl) (by rfl) (fun K1 hK1 => ?_) fun tz => ?_
       ·
        refine xw_id ?_
        rcases Bool.eq_false_or_eq_true (a0.Scalar != x46) with h8 | h8
        ·
         have hvh8 := cT hvh8 h8
         try simp only [go_sem, Nat.reduceAdd, h8]
         obtain rfl := someInj hvh8
         exact hK1 _ ⟨rfl, rfl, (by first | rfl | (rw [h8]; rfl) | (simp only [h8, Bool.true_and, Bool.false_and, Bool.true_or, Bool.false_or, cond_true, cond_false] <;> rfl)), trivial⟩
        ·
         have hvh8 := cF hvh8 h8
         obtain ⟨x47, bx47, hvh8⟩ := bnd hvh8
         try simp only [go_sem, Nat.reduceAdd, h8]
         refine xcall_p (auth_Pow_p a0.Base (IntKind.wrap .u64 (2305843009213693950 - a0.Mask)) bx47) ?_; try dsimp only
         try refine xw_id ?_
         try simp only [go_sem, Nat.reduceAdd, h8]
         obtain rfl := someInj hvh8
         exact hK1 _ ⟨rfl, rfl, (by first | rfl | (rw [h8]; rfl) | (simp only [h8, Bool.true_and, Bool.false_and, Bool.true_or, Bool.false_or, cond_true, cond_false] <;> rfl)), trivial⟩
       ·
        refine xw_id ?_
        refine xw_stop 1 (by (try simp only [go_sem]); rfl) (by (try simp only [go_sem]); rfl) (by rfl) fun K1 hK1 => ?_
        refine xw_id ?_
        try simp only [go_sem, Nat.reduceAdd]
        refine hK1 _ ?_; clear hK1 K1
        refine xw_cut 4 [(1, (.ptr 0 0)), (65, (vb (x48 || (decide (a0.Scalar < 2)))))] (by (try simp only [go_sem]); rfl) (by (try simp only [go_sem]); rfl) (by rfl) (fun K1 hK1 => ?_) fun tz => ?_
        ·
         refine xw_id ?_
         rcases Bool.eq_false_or_eq_true x48 with h9 | h9
         ·
          try simp only [go_sem, Nat.reduceAdd, h9]
          exact hK1 _ ⟨rfl, rfl, (by first | rfl | (rw [h9]; rfl) | (simp only [h9, Bool.true_and, Bool.false_and, Bool.true_or, Bool.false_or, cond_true, cond_false] <;> rfl)), trivial⟩
         ·
          try simp only [go_sem, Nat.reduceAdd, h9]
          exact hK1 _ ⟨rfl, rfl, (by first | rfl | (rw [h9]; rfl) | (simp only [h9, Bool.true_and, Bool.false_and, Bool.true_or, Bool.false_or, cond_true, cond_false] <;> rfl)), trivial⟩
        ·
         refine xw_id ?_
         refine xw_stop 1 (by (try simp only [go_sem]); rfl) (by (try simp only [go_sem]); rfl) (by rfl) fun K1 hK1 => ?_
         refine xw_id ?_
         try simp only [go_sem, Nat.reduceAdd]
         refine hK1 _ ?_; clear hK1 K1
         refine xw_cut 4 [(1, (.ptr 0 0)), (70, (vb ((x48 || (decide (a0.Scalar < 2))) || (decide (a0.Element < 2)))))] (by (try simp only [go_sem]); rfl) (by (try simp only [go_sem]); rfl) (by rfl) (fun K1 hK1 => ?_) fun tz => ?_
         ·
          refine xw_id ?_
          rcases Bool.eq_false_or_eq_true (x48 || (decide (a0.Scalar < 2))) with h10 | h10
          ·
           try simp only [go_sem, Nat.reduceAdd, h10]
           exact hK1 _ ⟨rfl, rfl, (by first | rfl | (rw [h10]; rfl) | (simp only [h10, Bool.true_and, Bool.false_and, Bool.true_or, Bool.false_or, cond_true, cond_false] <;> rfl)), trivial⟩
          ·
           try simp only [go_sem, Nat.reduceAdd, h10]
           exact hK1 _ ⟨rfl, rfl, (by first | rfl | (rw [h10]; rfl) | (simp only [h10, Bool.true_and, Bool.false_and, Bool.true_or, Bool.false_or, cond_true, cond_false] <;> rfl)), trivial⟩
         ·
          refine xw_id ?_
          try simp only [go_sem, Nat.reduceAdd]
          refine hKK _ (auth_Check_S0 a0 x48) (Wk.canonD [] [] [some 0] rfl trivial rfl (tmOU 0 tmO0 rfl List.not_mem_nil rfl (TmL.clean (e_Auth_clean _))) (tmAllU 70 (tmAllU 1 tmAll0 (Tm.ptr rfl)) (Tm.v _))) ?_; clear hKK KK
          unfold auth_Check_S0
          refine awp_cond (b := ((x48 || (decide (a0.Scalar < 2))) || (decide (a0.Element < 2)))) rfl (fun h11 => ?_) (fun h11 => ?_)
          ·
           have h0 := cT h0 h11
           refine awp_assoc ?_
           refine awp_nr [] (fun _ => rfl) fun tz => ?_
           refine awp_regW fun KK hKK => ?_
           refine xw_id ?_
           try simp only [go_sem, Nat.reduceAdd]
           refine hKK _ _ (Wk.refl _ _ _) ?_; clear hKK KK
           refine awp_ret ?_
           obtain rfl := someInj h0
           refine endW_i ?_
           refine end_ret0 rs23 (rfl) ?_
           try simp only [go_sem, Nat.reduceAdd, fz, nilS, packR, List.take_nil, List.take_length, List.length_map, List.length_append, cond_true, cond_false, Nat.ble_eq, ble_self]
           all_goals first | rfl | (simp only [go_sem, Nat.reduceAdd, fz, nilS, packR, List.take_nil, List.take_length, List.length_map, List.length_append, cond_true, cond_false, Nat.ble_eq, ble_self, List.map_append] <;> rfl)
          ·
           have h0 := cF h0 h11
           refine awp_skip ?_
           refine awp_nr [1] (fun _ => rfl) fun tz => ?_
           refine awp_regW fun KK hKK => ?_
           refine xw_id ?_
           refine xw_stop 4 (by (try simp only [go_sem]); rfl) (by (try simp only [go_sem]); rfl) (by rfl) fun K1 hK1 => ?_
           refine xw_id ?_
           try simp only [go_sem, Nat.reduceAdd]
           refine hK1 _ ?_; clear hK1 K1
           refine xw_cut 4 [(1, (.ptr 0 0)), (78, (vb ((a0.Stage == 1) || (a0.Stage == 2))))] (by (try simp only [go_sem]); rfl) (by (try simp only [go_sem]); rfl) (by rfl) (fun K1 hK1 => ?_) fun tz => ?_
           ·
            refine xw_id ?_
            rcases Bool.eq_false_or_eq_true (a0.Stage == 1) with h12 | h12
            ·
             try simp only [go_sem, Nat.reduceAdd, h12]
             exact hK1 _ ⟨rfl, rfl, (by first | rfl | (rw [h12]; rfl) | (simp only [h12, Bool.true_and, Bool.false_and, Bool.true_or, Bool.false_or, cond_true, cond_false] <;> rfl)), trivial⟩
            ·
             try simp only [go_sem, Nat.reduceAdd, h12]
             exact hK1 _ ⟨rfl, rfl, (by first | rfl | (rw [h12]; rfl) | (simp only [h12, Bool.true_and, Bool.false_and, Bool.true_or, Bool.false_or, cond_true, cond_false] <;> rfl)), trivial⟩
           ·
            refine xw_id ?_
            try simp only [go_sem, Nat.reduceAdd]
            refine hKK _ _ (Wk.refl _ _ _) ?_; clear hKK KK
            refine awp_assoc ?_
            refine awp_nr [1,3] (fun _ => rfl) fun tz => ?_
            refine awp_regW fun KK hKK => ?_
            refine xw_id ?_
            try simp only [List.append_eq, Array.toList_append, List.append_toArray, List.toList_toArray, List.cons_append, List.nil_append]
            refine xw_stop 2 (by (try simp only [go_sem]); rfl) (by (try simp only [go_sem]); rfl) (by rfl) fun K1 hK1 => ?_
            refine xw_id ?_
            try simp only [go_sem, Nat.reduceAdd]
            refine hK1 _ ?_; clear hK1 K1
            refine xw_cut 19 [(1, (.ptr 0 0)), (3, (vb ((a0.Stage == 1) || (a0.Stage == 2)))), (99, (vb (((a0.Stage == 1) || (a0.Stage == 2)) && ((((decide (a0.Tries < 1)) || (decide (3 < a0.Tries))) || (decide (a0.Due < 1))) || (decide (1099511827776 < a0.Due))))))] (by (try simp only [go_sem]); rfl) (by (try simp only [go_sem]); rfl) (by rfl) (fun K1 hK1 => ?_) fun tz => ?_
            ·
             refine xw_id ?_
             rcases Bool.eq_false_or_eq_true ((a0.Stage == 1) || (a0.Stage == 2)) with h13 | h13
             ·
              refine xw_stop 4 (by (try simp only [go_sem]); rfl) (by (try simp only [go_sem]); rfl) (by rfl) fun K1 hK1 => ?_
              refine xw_id ?_
              try simp only [go_sem, Nat.reduceAdd, h13]
              refine hK1 _ ?_; clear hK1 K1
              refine xw_cut 4 [(1, (.ptr 0 0)), (3, (vb true)), (80, (vb true)), (88, (vb ((decide (a0.Tries < 1)) || (decide (3 < a0.Tries)))))] (by (try simp only [go_sem]); rfl) (by (try simp only [go_sem]); rfl) (by rfl) (fun K1 hK1 => ?_) fun tz => ?_
              ·
               refine xw_id ?_
               rcases Bool.eq_false_or_eq_true (decide (a0.Tries < 1)) with h14 | h14
               ·
                try simp only [go_sem, Nat.reduceAdd, h13, h14]
                exact hK1 _ ⟨rfl, rfl, rfl, rfl, (by first | rfl | (rw [h14]; rfl) | (simp only [h14, Bool.true_and, Bool.false_and, Bool.true_or, Bool.false_or, cond_true, cond_false] <;> rfl)), trivial⟩
               ·
                try simp only [go_sem, Nat.reduceAdd, h13, h14]
                exact hK1 _ ⟨rfl, rfl, rfl, rfl, (by first | rfl | (rw [h14]; rfl) | (simp only [h14, Bool.true_and, Bool.false_and, Bool.true_or, Bool.false_or, cond_true, cond_false] <;> rfl)), trivial⟩
              ·
               refine xw_id ?_
               refine xw_stop 1 (by (try simp only [go_sem]); rfl) (by (try simp only [go_sem]); rfl) (by rfl) fun K1 hK1 => ?_
               refine xw_id ?_
               try simp only [go_sem, Nat.reduceAdd, h13]
               refine hK1 _ ?_; clear hK1 K1
               refine xw_cut 4 [(1, (.ptr 0 0)), (3, (vb true)), (80, (vb true)), (93, (vb (((decide (a0.Tries < 1)) || (decide (3 < a0.Tries))) || (decide (a0.Due < 1)))))] (by (try simp only [go_sem]); rfl) (by (try simp only [go_sem]); rfl) (by rfl) (fun K1 hK1 => ?_) fun tz => ?_
               ·
                refine xw_id ?_
                rcases Bool.eq_false_or_eq_true ((decide (a0.Tries < 1)) || (decide (3 < a0.Tries))) with h15 | h15
                ·
                 try simp only [go_sem, Nat.reduceAdd, h13, h15]
                 exact hK1 _ ⟨rfl, rfl, rfl, rfl, (by first | rfl | (rw [h15]; rfl) | (simp only [h15, Bool.true_and, Bool.false_and, Bool.true_or, Bool.false_or, cond_true, cond_false] <;> rfl)), trivial⟩
                ·
                 try simp only [go_sem, Nat.reduceAdd, h13, h15]
                 exact hK1 _ ⟨rfl, rfl, rfl, rfl, (by first | rfl | (rw [h15]; rfl) | (simp only [h15, Bool.true_and, Bool.false_and, Bool.true_or, Bool.false_or, cond_true, cond_false] <;> rfl)), trivial⟩
               ·
                refine xw_id ?_
                refine xw_stop 1 (by (try simp only [go_sem]); rfl) (by (try simp only [go_sem]); rfl) (by rfl) fun K1 hK1 => ?_
                refine xw_id ?_
                try simp only [go_sem, Nat.reduceAdd, h13]
                refine hK1 _ ?_; clear hK1 K1
                refine xw_cut 4 [(1, (.ptr 0 0)), (3, (vb true)), (80, (vb true)), (98, (vb ((((decide (a0.Tries < 1)) || (decide (3 < a0.Tries))) || (decide (a0.Due < 1))) || (decide (1099511827776 < a0.Due)))))] (by (try simp only [go_sem]); rfl) (by (try simp only [go_sem]); rfl) (by rfl) (fun K1 hK1 => ?_) fun tz => ?_
                ·
                 refine xw_id ?_
                 rcases Bool.eq_false_or_eq_true (((decide (a0.Tries < 1)) || (decide (3 < a0.Tries))) || (decide (a0.Due < 1))) with h16 | h16
                 ·
                  try simp only [go_sem, Nat.reduceAdd, h13, h16]
                  exact hK1 _ ⟨rfl, rfl, rfl, rfl, (by first | rfl | (rw [h16]; rfl) | (simp only [h16, Bool.true_and, Bool.false_and, Bool.true_or, Bool.false_or, cond_true, cond_false] <;> rfl)), trivial⟩
                 ·
                  try simp only [go_sem, Nat.reduceAdd, h13, h16]
                  exact hK1 _ ⟨rfl, rfl, rfl, rfl, (by first | rfl | (rw [h16]; rfl) | (simp only [h16, Bool.true_and, Bool.false_and, Bool.true_or, Bool.false_or, cond_true, cond_false] <;> rfl)), trivial⟩
                ·
                 refine xw_id ?_
                 try simp only [go_sem, Nat.reduceAdd, h13]
                 exact hK1 _ ⟨rfl, rfl, (by first | rfl | (rw [h13]; rfl) | (simp only [h13, Bool.true_and, Bool.false_and, Bool.true_or, Bool.false_or, cond_true, cond_false] <;> rfl)), (by first | rfl | (rw [h13]; rfl) | (simp only [h13, Bool.true_and, Bool.false_and, Bool.true_or, Bool.false_or, cond_true, cond_false] <;> rfl)), trivial⟩
             ·
              try simp only [go_sem, Nat.reduceAdd, h13]
              exact hK1 _ ⟨rfl, rfl, (by first | rfl | (rw [h13]; rfl) | (simp only [h13, Bool.true_and, Bool.false_and, Bool.true_or, Bool.false_or, cond_true, cond_false] <;> rfl)), (by first | rfl | (rw [h13]; rfl) | (simp only [h13, Bool.true_and, Bool.false_and, Bool.true_or, Bool.false_or, cond_true, cond_false] <;> rfl)), trivial⟩
            ·
             refine xw_id ?_
             refine xw_stop 1 (by (try simp only [go_sem]); rfl) (by (try simp only [go_sem]); rfl) (by rfl) fun K1 hK1 => ?_
             refine xw_id ?_
             try simp only [go_sem, Nat.reduceAdd]
             refine hK1 _ ?_; clear hK1 K1
             refine xw_cut 13 [(1, (.ptr 0 0)), (113, (vb ((((a0.Stage == 1) || (a0.Stage == 2)) && ((((decide (a0.Tries < 1)) || (decide (3 < a0.Tries))) || (decide (a0.Due < 1))) || (decide (1099511827776 < a0.Due)))) || ((!((a0.Stage == 1) || (a0.Stage == 2))) && ((a0.Tries != 0) || (a0.Due != 0))))))] (by (try simp only [go_sem]); rfl) (by (try simp only [go_sem]); rfl) (by rfl) (fun K1 hK1 => ?_) fun tz => ?_
             ·
              refine xw_id ?_
              rcases Bool.eq_false_or_eq_true (((a0.Stage == 1) || (a0.Stage == 2)) && ((((decide (a0.Tries < 1)) || (decide (3 < a0.Tries))) || (decide (a0.Due < 1))) || (decide (1099511827776 < a0.Due)))) with h17 | h17
              ·
               have h17_0 : ((a0.Stage == 1) || (a0.Stage == 2)) = true := by simp only [Bool.and_eq_true] at h17; exact h17.1
               have h17_1 : ((((decide (a0.Tries < 1)) || (decide (3 < a0.Tries))) || (decide (a0.Due < 1))) || (decide (1099511827776 < a0.Due))) = true := by simp only [Bool.and_eq_true] at h17; exact h17.2
               try simp only [go_sem, Nat.reduceAdd, h17, h17_0, h17_1]
               exact hK1 _ ⟨rfl, rfl, (by first | rfl | (rw [h17]; rfl) | (simp only [h17, Bool.true_and, Bool.false_and, Bool.true_or, Bool.false_or, cond_true, cond_false] <;> rfl)), trivial⟩
              ·
               refine xw_stop 3 (by (try simp only [go_sem]); rfl) (by (try simp only [go_sem]); rfl) (by rfl) fun K1 hK1 => ?_
               refine xw_id ?_
               try simp only [go_sem, Nat.reduceAdd, h17]
               refine hK1 _ ?_; clear hK1 K1
               refine xw_cut 9 [(1, (.ptr 0 0)), (100, (vb false)), (112, (vb ((!((a0.Stage == 1) || (a0.Stage == 2))) && ((a0.Tries != 0) || (a0.Due != 0)))))] (by (try simp only [go_sem]); rfl) (by (try simp only [go_sem]); rfl) (by rfl) (fun K1 hK1 => ?_) fun tz => ?_
               ·
                refine xw_id ?_
                rcases Bool.eq_false_or_eq_true (!((a0.Stage == 1) || (a0.Stage == 2))) with h18 | h18
                ·
                 refine xw_stop 4 (by (try simp only [go_sem]); rfl) (by (try simp only [go_sem]); rfl) (by rfl) fun K1 hK1 => ?_
                 refine xw_id ?_
                 try simp only [go_sem, Nat.reduceAdd, h17, h18]
                 refine hK1 _ ?_; clear hK1 K1
                 refine xw_cut 4 [(1, (.ptr 0 0)), (100, (vb false)), (103, (vb true)), (111, (vb ((a0.Tries != 0) || (a0.Due != 0))))] (by (try simp only [go_sem]); rfl) (by (try simp only [go_sem]); rfl) (by rfl) (fun K1 hK1 => ?_) fun tz => ?_
                 ·
                  refine xw_id ?_
                  rcases Bool.eq_false_or_eq_true (a0.Tries != 0) with h19 | h19
                  ·
                   try simp only [go_sem, Nat.reduceAdd, h17, h18, h19]
                   exact hK1 _ ⟨rfl, rfl, rfl, rfl, (by first | rfl | (rw [h19]; rfl) | (simp only [h19, Bool.true_and, Bool.false_and, Bool.true_or, Bool.false_or, cond_true, cond_false] <;> rfl)), trivial⟩
                  ·
                   try simp only [go_sem, Nat.reduceAdd, h17, h18, h19]
                   exact hK1 _ ⟨rfl, rfl, rfl, rfl, (by first | rfl | (rw [h19]; rfl) | (simp only [h19, Bool.true_and, Bool.false_and, Bool.true_or, Bool.false_or, cond_true, cond_false] <;> rfl)), trivial⟩
                 ·
                  refine xw_id ?_
                  try simp only [go_sem, Nat.reduceAdd, h17, h18]
                  exact hK1 _ ⟨rfl, rfl, rfl, (by first | rfl | (rw [h18]; rfl) | (simp only [h18, Bool.true_and, Bool.false_and, Bool.true_or, Bool.false_or, cond_true, cond_false] <;> rfl)), trivial⟩
                ·
                 try simp only [go_sem, Nat.reduceAdd, h17, h18]
                 exact hK1 _ ⟨rfl, rfl, rfl, (by first | rfl | (rw [h18]; rfl) | (simp only [h18, Bool.true_and, Bool.false_and, Bool.true_or, Bool.false_or, cond_true, cond_false] <;> rfl)), trivial⟩
               ·
                refine xw_id ?_
                try simp only [go_sem, Nat.reduceAdd, h17]
                exact hK1 _ ⟨rfl, rfl, (by first | rfl | (rw [h17]; rfl) | (simp only [h17, Bool.true_and, Bool.false_and, Bool.true_or, Bool.false_or, cond_true, cond_false] <;> rfl)), trivial⟩
             ·
              refine xw_id ?_
              try simp only [go_sem, Nat.reduceAdd]
              refine hKK _ _ (Wk.refl _ _ _) ?_; clear hKK KK
              refine awp_cond (b := ((((a0.Stage == 1) || (a0.Stage == 2)) && ((((decide (a0.Tries < 1)) || (decide (3 < a0.Tries))) || (decide (a0.Due < 1))) || (decide (1099511827776 < a0.Due)))) || ((!((a0.Stage == 1) || (a0.Stage == 2))) && ((a0.Tries != 0) || (a0.Due != 0))))) rfl (fun h20 => ?_) (fun h20 => ?_)
              ·
               have h0 := cT h0 h20
               refine awp_assoc ?_
               refine awp_nr [] (fun _ => rfl) fun tz => ?_
               refine awp_regW fun KK hKK => ?_
               refine xw_id ?_
               try simp only [go_sem, Nat.reduceAdd]
               refine hKK _ _ (Wk.refl _ _ _) ?_; clear hKK KK
               refine awp_ret ?_
               obtain rfl := someInj h0
               refine endW_i ?_
               refine end_ret0 rs23 (rfl) ?_
               try simp only [go_sem, Nat.reduceAdd, fz, nilS, packR, List.take_nil, List.take_length, List.length_map, List.length_append, cond_true, cond_false, Nat.ble_eq, ble_self]
               all_goals first | rfl | (simp only [go_sem, Nat.reduceAdd, fz, nilS, packR, List.take_nil, List.take_length, List.length_map, List.length_append, cond_true, cond_false, Nat.ble_eq, ble_self, List.map_append] <;> rfl)
              ·
               have h0 := cF h0 h20
               refine awp_skip ?_
               refine awp_assoc ?_
               refine awp_nr [1] (fun _ => rfl) fun tz => ?_
               refine awp_regW fun KK hKK => ?_
               refine xw_id ?_
               refine xw_stop 4 (by (try simp only [go_sem]); rfl) (by (try simp only [go_sem]); rfl) (by rfl) fun K1 hK1 => ?_
               refine xw_id ?_
               try simp only [go_sem, Nat.reduceAdd]
               refine hK1 _ ?_; clear hK1 K1
               refine xw_cut 4 [(1, (.ptr 0 0)), (121, (vb ((a0.Stage == 2) || (a0.Stage == 3))))] (by (try simp only [go_sem]); rfl) (by (try simp only [go_sem]); rfl) (by rfl) (fun K1 hK1 => ?_) fun tz => ?_
               ·
                refine xw_id ?_
                rcases Bool.eq_false_or_eq_true (a0.Stage == 2) with h21 | h21
                ·
                 try simp only [go_sem, Nat.reduceAdd, h21]
                 exact hK1 _ ⟨rfl, rfl, (by first | rfl | (rw [h21]; rfl) | (simp only [h21, Bool.true_and, Bool.false_and, Bool.true_or, Bool.false_or, cond_true, cond_false] <;> rfl)), trivial⟩
                ·
                 try simp only [go_sem, Nat.reduceAdd, h21]
                 exact hK1 _ ⟨rfl, rfl, (by first | rfl | (rw [h21]; rfl) | (simp only [h21, Bool.true_and, Bool.false_and, Bool.true_or, Bool.false_or, cond_true, cond_false] <;> rfl)), trivial⟩
               ·
                refine xw_id ?_
                try simp only [go_sem, Nat.reduceAdd]
                refine hKK _ _ (Wk.refl _ _ _) ?_; clear hKK KK
                refine awp_cond (b := ((a0.Stage == 2) || (a0.Stage == 3))) rfl (fun h22 => ?_) (fun h22 => ?_)
                ·
                 have h0 := cT h0 h22
                 refine awp_assoc ?_
                 refine awp_assoc ?_
                 refine awp_nr [1] (fun _ => rfl) fun tz => ?_
                 refine awp_regW fun KK hKK => ?_
                 refine xw_id ?_
                 obtain ⟨x49, bx49, h0⟩ := bnd h0
                 try simp only [go_sem, Nat.reduceAdd]
                 refine xcall_p (auth_keyed_p a0 a0.OtherScalar a0.OtherElement bx49) ?_; try dsimp only
                 try refine xw_id ?_
                 try simp only [go_sem, Nat.reduceAdd]
                 refine hKK _ _ (Wk.refl _ _ _) ?_; clear hKK KK
                 refine awp_assoc ?_
                 refine awp_nr [1,4,5] (fun _ => rfl) fun tz => ?_
                 refine awp_regW fun KK hKK => ?_
                 refine xw_id ?_
                 refine xw_stop 3 (by (try simp only [go_sem]); rfl) (by (try simp only [go_sem]); rfl) (by rfl) fun K1 hK1 => ?_
                 refine xw_id ?_
                 try simp only [go_sem, Nat.reduceAdd]
                 refine hK1 _ ?_; clear hK1 K1
                 refine xw_cut 4 [(1, (.ptr 0 0)), (137, (vb ((!x49.2) || (!decide (x49.1 = a0)))))] (by (try simp only [go_sem]); rfl) (by (try simp only [go_sem]); rfl) (by rfl) (fun K1 hK1 => ?_) fun tz => ?_
                 ·
                  refine xw_id ?_
                  rcases Bool.eq_false_or_eq_true (!x49.2) with h23 | h23
                  ·
                   try simp only [go_sem, Nat.reduceAdd, h23]
                   exact hK1 _ ⟨rfl, rfl, (by first | rfl | (rw [h23]; rfl) | (simp only [h23, Bool.true_and, Bool.false_and, Bool.true_or, Bool.false_or, cond_true, cond_false] <;> rfl)), trivial⟩
                  ·
                   try simp only [go_sem, Nat.reduceAdd, h23]
                   exact hK1 _ ⟨rfl, rfl, (by first | rfl | (rw [h23]; rfl) | (simp only [h23, Bool.true_and, Bool.false_and, Bool.true_or, Bool.false_or, cond_true, cond_false] <;> rfl)), trivial⟩
                 ·
                  refine xw_id ?_
                  refine xw_stop 1 (by (try simp only [go_sem]); rfl) (by (try simp only [go_sem]); rfl) (by rfl) fun K1 hK1 => ?_
                  refine xw_id ?_
                  try simp only [go_sem, Nat.reduceAdd]
                  refine hK1 _ ?_; clear hK1 K1
                  refine xw_cut 4 [(1, (.ptr 0 0)), (142, (vb (((!x49.2) || (!decide (x49.1 = a0))) || (decide (a0.Sync < 1)))))] (by (try simp only [go_sem]); rfl) (by (try simp only [go_sem]); rfl) (by rfl) (fun K1 hK1 => ?_) fun tz => ?_
                  ·
                   refine xw_id ?_
                   rcases Bool.eq_false_or_eq_true ((!x49.2) || (!decide (x49.1 = a0))) with h24 | h24
                   ·
                    try simp only [go_sem, Nat.reduceAdd, h24]
                    exact hK1 _ ⟨rfl, rfl, (by first | rfl | (rw [h24]; rfl) | (simp only [h24, Bool.true_and, Bool.false_and, Bool.true_or, Bool.false_or, cond_true, cond_false] <;> rfl)), trivial⟩
                   ·
                    try simp only [go_sem, Nat.reduceAdd, h24]
                    exact hK1 _ ⟨rfl, rfl, (by first | rfl | (rw [h24]; rfl) | (simp only [h24, Bool.true_and, Bool.false_and, Bool.true_or, Bool.false_or, cond_true, cond_false] <;> rfl)), trivial⟩
                  ·
                   refine xw_id ?_
                   refine xw_stop 1 (by (try simp only [go_sem]); rfl) (by (try simp only [go_sem]); rfl) (by rfl) fun K1 hK1 => ?_
                   refine xw_id ?_
                   try simp only [go_sem, Nat.reduceAdd]
                   refine hK1 _ ?_; clear hK1 K1
                   refine xw_cut 4 [(147, (vb ((((!x49.2) || (!decide (x49.1 = a0))) || (decide (a0.Sync < 1))) || (decide (65535 < a0.Sync)))))] (by (try simp only [go_sem]); rfl) (by (try simp only [go_sem]); rfl) (by rfl) (fun K1 hK1 => ?_) fun tz => ?_
                   ·
                    refine xw_id ?_
                    rcases Bool.eq_false_or_eq_true (((!x49.2) || (!decide (x49.1 = a0))) || (decide (a0.Sync < 1))) with h25 | h25
                    ·
                     try simp only [go_sem, Nat.reduceAdd, h25]
                     exact hK1 _ ⟨rfl, (by first | rfl | (rw [h25]; rfl) | (simp only [h25, Bool.true_and, Bool.false_and, Bool.true_or, Bool.false_or, cond_true, cond_false] <;> rfl)), trivial⟩
                    ·
                     try simp only [go_sem, Nat.reduceAdd, h25]
                     exact hK1 _ ⟨rfl, (by first | rfl | (rw [h25]; rfl) | (simp only [h25, Bool.true_and, Bool.false_and, Bool.true_or, Bool.false_or, cond_true, cond_false] <;> rfl)), trivial⟩
                   ·
                    refine xw_id ?_
                    try simp only [go_sem, Nat.reduceAdd]
                    refine hKK _ _ (Wk.refl _ _ _) ?_; clear hKK KK
                    refine awp_cond (b := ((((!x49.2) || (!decide (x49.1 = a0))) || (decide (a0.Sync < 1))) || (decide (65535 < a0.Sync)))) rfl (fun h26 => ?_) (fun h26 => ?_)
                    ·
                     have h0 := cT h0 h26
                     refine awp_assoc ?_
                     refine awp_nr [] (fun _ => rfl) fun tz => ?_
                     refine awp_regW fun KK hKK => ?_
                     refine xw_id ?_
                     try simp only [go_sem, Nat.reduceAdd]
                     refine hKK _ _ (Wk.refl _ _ _) ?_; clear hKK KK
                     refine awp_ret ?_
                     obtain rfl := someInj h0
                     refine endW_i ?_
                     refine end_ret0 rs23 (rfl) ?_
                     try simp only [go_sem, Nat.reduceAdd, fz, nilS, packR, List.take_nil, List.take_length, List.length_map, List.length_append, cond_true, cond_false, Nat.ble_eq, ble_self]
                     all_goals first | rfl | (simp only [go_sem, Nat.reduceAdd, fz, nilS, packR, List.take_nil, List.take_length, List.length_map, List.length_append, cond_true, cond_false, Nat.ble_eq, ble_self, List.map_append] <;> rfl)
                    ·
                     have h0 := cF h0 h26
                     refine awp_skip ?_
                     refine awp_assoc ?_
                     refine awp_nr [] (fun _ => rfl) fun tz => ?_
                     refine awp_regW fun KK hKK => ?_
                     refine xw_id ?_
                     try simp only [go_sem, Nat.reduceAdd]
                     refine hKK _ _ (Wk.refl _ _ _) ?_; clear hKK KK
                     refine awp_ret ?_
                     obtain rfl := someInj h0
                     refine endW_i ?_
                     refine end_ret0 rs23 (rfl) ?_
                     try simp only [go_sem, Nat.reduceAdd, fz, nilS, packR, List.take_nil, List.take_length, List.length_map, List.length_append, cond_true, cond_false, Nat.ble_eq, ble_self]
                     all_goals first | rfl | (simp only [go_sem, Nat.reduceAdd, fz, nilS, packR, List.take_nil, List.take_length, List.length_map, List.length_append, cond_true, cond_false, Nat.ble_eq, ble_self, List.map_append] <;> rfl)
                ·
                 have h0 := cF h0 h22
                 refine awp_skip ?_
                 refine awp_nr [1] (fun _ => rfl) fun tz => ?_
                 refine awp_regW fun KK hKK => ?_
                 refine xw_id ?_
                 try simp only [go_sem, Nat.reduceAdd]
                 refine hKK _ _ (Wk.refl _ _ _) ?_; clear hKK KK
                 refine awp_nr [1,6] (fun _ => rfl) fun tz => ?_
                 refine awp_regW fun KK hKK => ?_
                 refine xw_id ?_
                 try simp only [go_sem, Nat.reduceAdd]
                 refine hKK _ (auth_Check_S1 a0) (Wk.canonD [] [] [some 0, some 54] rfl trivial rfl (tmOU 1 (tmOU 0 tmO0 rfl List.not_mem_nil rfl (TmL.clean (e_Auth_clean _))) rfl List.not_mem_nil rfl (TmL.clean (e_Auth_clean _))) (tmAllU 6 (tmAllU 1 tmAll0 (Tm.ptr rfl)) (Tm.ptr rfl))) ?_; clear hKK KK
                 unfold auth_Check_S1
                 refine awp_assoc ?_
                 refine awp_nr [1,6] (fun _ => rfl) fun tz => ?_
                 refine awp_regW fun KK hKK => ?_
                 refine xw_id ?_
                 refine xw_stop 4 (by (try simp only [go_sem]); rfl) (by (try simp only [go_sem]); rfl) (by rfl) fun K1 hK1 => ?_
                 refine xw_id ?_
                 try simp only [go_sem, Nat.reduceAdd]
                 refine hK1 _ ?_; clear hK1 K1
                 refine xw_cut 8 [(167, (vb ((!decide (({ a0 with Confirm := A16vu.z, Master := A16vu.z, OtherElement := 0, OtherScalar := 0, Sync := 0 } : Auth) = a0)) || (a0.HasToken && (a0.Stage != 1)))))] (by (try simp only [go_sem]); rfl) (by (try simp only [go_sem]); rfl) (by rfl) (fun K1 hK1 => ?_) fun tz => ?_
                 ·
                  refine xw_id ?_
                  rcases Bool.eq_false_or_eq_true (!decide (({ a0 with Confirm := A16vu.z, Master := A16vu.z, OtherElement := 0, OtherScalar := 0, Sync := 0 } : Auth) = a0)) with h27 | h27
                  ·
                   try simp only [go_sem, Nat.reduceAdd, h27]
                   exact hK1 _ ⟨rfl, (by first | rfl | (rw [h27]; rfl) | (simp only [h27, Bool.true_and, Bool.false_and, Bool.true_or, Bool.false_or, cond_true, cond_false] <;> rfl)), trivial⟩
                  ·
                   refine xw_stop 3 (by (try simp only [go_sem]); rfl) (by (try simp only [go_sem]); rfl) (by rfl) fun K1 hK1 => ?_
                   refine xw_id ?_
                   try simp only [go_sem, Nat.reduceAdd, h27]
                   refine hK1 _ ?_; clear hK1 K1
                   refine xw_cut 4 [(159, (vb false)), (166, (vb (a0.HasToken && (a0.Stage != 1))))] (by (try simp only [go_sem]); rfl) (by (try simp only [go_sem]); rfl) (by rfl) (fun K1 hK1 => ?_) fun tz => ?_
                   ·
                    refine xw_id ?_
                    rcases Bool.eq_false_or_eq_true a0.HasToken with h28 | h28
                    ·
                     try simp only [go_sem, Nat.reduceAdd, h27, h28]
                     exact hK1 _ ⟨(by first | rfl | (simp only [h28]; done)), rfl, (by first | rfl | (rw [h28]; rfl) | (simp only [h28, Bool.true_and, Bool.false_and, Bool.true_or, Bool.false_or, cond_true, cond_false] <;> rfl)), trivial⟩
                    ·
                     try simp only [go_sem, Nat.reduceAdd, h27, h28]
                     exact hK1 _ ⟨(by first | rfl | (simp only [h28]; done)), rfl, (by first | rfl | (rw [h28]; rfl) | (simp only [h28, Bool.true_and, Bool.false_and, Bool.true_or, Bool.false_or, cond_true, cond_false] <;> rfl)), trivial⟩
                   ·
                    refine xw_id ?_
                    try simp only [go_sem, Nat.reduceAdd, h27]
                    exact hK1 _ ⟨rfl, (by first | rfl | (rw [h27]; rfl) | (simp only [h27, Bool.true_and, Bool.false_and, Bool.true_or, Bool.false_or, cond_true, cond_false] <;> rfl)), trivial⟩
                 ·
                  refine xw_id ?_
                  try simp only [go_sem, Nat.reduceAdd]
                  refine hKK _ _ (Wk.refl _ _ _) ?_; clear hKK KK
                  refine awp_cond (b := ((!decide (({ a0 with Confirm := A16vu.z, Master := A16vu.z, OtherElement := 0, OtherScalar := 0, Sync := 0 } : Auth) = a0)) || (a0.HasToken && (a0.Stage != 1)))) rfl (fun h29 => ?_) (fun h29 => ?_)
                  ·
                   have h0 := cT h0 h29
                   refine awp_assoc ?_
                   refine awp_nr [] (fun _ => rfl) fun tz => ?_
                   refine awp_regW fun KK hKK => ?_
                   refine xw_id ?_
                   try simp only [go_sem, Nat.reduceAdd]
                   refine hKK _ _ (Wk.refl _ _ _) ?_; clear hKK KK
                   refine awp_ret ?_
                   obtain rfl := someInj h0
                   refine endW_i ?_
                   refine end_ret0 rs23 (rfl) ?_
                   try simp only [go_sem, Nat.reduceAdd, fz, nilS, packR, List.take_nil, List.take_length, List.length_map, List.length_append, cond_true, cond_false, Nat.ble_eq, ble_self]
                   all_goals first | rfl | (simp only [go_sem, Nat.reduceAdd, fz, nilS, packR, List.take_nil, List.take_length, List.length_map, List.length_append, cond_true, cond_false, Nat.ble_eq, ble_self, List.map_append] <;> rfl)
                  ·
                   have h0 := cF h0 h29
                   refine awp_skip ?_
                   refine awp_nr [] (fun _ => rfl) fun tz => ?_
                   refine awp_regW fun KK hKK => ?_
                   refine xw_id ?_
                   try simp only [go_sem, Nat.reduceAdd]
                   refine hKK _ _ (Wk.refl _ _ _) ?_; clear hKK KK
                   refine awp_ret1 ?_
                   obtain rfl := someInj h0
                   refine endW_i ?_
                   refine end_ret0 rs23 (rfl) ?_
                   try simp only [go_sem, Nat.reduceAdd, fz, nilS, packR, List.take_nil, List.take_length, List.length_map, List.length_append, cond_true, cond_false, Nat.ble_eq, ble_self]
                   all_goals first | rfl | (simp only [go_sem, Nat.reduceAdd, fz, nilS, packR, List.take_nil, List.take_length, List.length_map, List.length_append, cond_true, cond_false, Nat.ble_eq, ble_self, List.map_append] <;> rfl)

end Go.AX.Z.TV

/-! (TVW auth checked) -/

set_option linter.unusedSimpArgs false
set_option linter.unusedVariables false
set_option maxHeartbeats 4000000
set_option maxRecDepth 20000
namespace Go.AX.Z.TV
open Go.AX Go.Proofs
attribute [local irreducible] awp xw xop xcall gsp ob xd xdop xcallD seqQ loopQ blkQ endQ


theorem auth_checked_p (a0 : Auth) (a1 : Int) {r : Int} (h0 : auth_checked a0 a1 = some r) : SndP K 56 [(.agg (e_Auth a0)), (vi a1)] (vi r) := by
 refine SndP.of_walkW hC (Clean.v _) (clean_cons (Clean.agg (e_Auth_clean _)) (clean_cons (Clean.v _) clean_nil)) (show K.P.funcs[56]? = some Try.f56 from Try.func56) rfl rfl (by decide +kernel) (Nat.le_of_ble_eq_true rfl) ?_
 unfold auth_checked at h0
 refine awp_nr [0,1] (fun _ => rfl) fun tz => ?_
 refine awp_regW fun KK hKK => ?_
 refine xw_id ?_
 try simp only [go_sem, Nat.reduceAdd]
 refine hKK _ _ (Wk.refl _ _ _) ?_; clear hKK KK
 refine awp_assoc ?_
 refine awp_nr [1,2] (fun _ => rfl) fun tz => ?_
 refine awp_regW fun KK hKK => ?_
 refine xw_id ?_
 obtain ⟨x44, bx44, h0⟩ := bnd h0
 try simp only [go_sem, Nat.reduceAdd]
 refine xcall_p (auth_Check_p a0 bx44) ?_; try dsimp only
 try refine xw_id ?_
 try simp only [go_sem, Nat.reduceAdd]
 refine hKK _ _ (Wk.refl _ _ _) ?_; clear hKK KK
 refine awp_assoc ?_
 refine awp_nr [1,5] (fun _ => rfl) fun tz => ?_
 refine awp_regW fun KK hKK => ?_
 refine xw_id ?_
 try simp only [go_sem, Nat.reduceAdd]
 refine hKK _ _ (Wk.refl _ _ _) ?_; clear hKK KK
 refine awp_cond (b := (x44 != 0)) rfl (fun h1 => ?_) (fun h1 => ?_)
 ·
  have h0 := cT h0 h1
  refine awp_assoc ?_
  refine awp_nr [5] (fun _ => rfl) fun tz => ?_
  refine awp_regW fun KK hKK => ?_
  refine xw_id ?_
  try simp only [go_sem, Nat.reduceAdd]
  refine hKK _ _ (Wk.refl _ _ _) ?_; clear hKK KK
  refine awp_ret ?_
  obtain rfl := someInj h0
  refine endW_i ?_
  refine end_ret0 rs56 (rfl) ?_
  try simp only [go_sem, Nat.reduceAdd, fz, nilS, packR, List.take_nil, List.take_length, List.length_map, List.length_append, cond_true, cond_false, Nat.ble_eq, ble_self]
  all_goals first | rfl | (simp only [go_sem, Nat.reduceAdd, fz, nilS, packR, List.take_nil, List.take_length, List.length_map, List.length_append, cond_true, cond_false, Nat.ble_eq, ble_self, List.map_append] <;> rfl)
 ·
  have h0 := cF h0 h1
  refine awp_skip ?_
  refine awp_assoc ?_
  refine awp_nr [1] (fun _ => rfl) fun tz => ?_
  refine awp_regW fun KK hKK => ?_
  refine xw_id ?_
  refine xw_stop 3 (by (try simp only [go_sem]); rfl) (by (try simp only [go_sem]); rfl) (by rfl) fun K1 hK1 => ?_
  refine xw_id ?_
  try simp only [go_sem, Nat.reduceAdd]
  refine hK1 _ ?_; clear hK1 K1
  refine xw_cut 3 [(16, (vb ((decide (a1 < 0)) || (decide (1099511627776 < a1)))))] (by (try simp only [go_sem]); rfl) (by (try simp only [go_sem]); rfl) (by rfl) (fun K1 hK1 => ?_) fun tz => ?_
  ·
   refine xw_id ?_
   rcases Bool.eq_false_or_eq_true (decide (a1 < 0)) with h2 | h2
   ·
    try simp only [go_sem, Nat.reduceAdd, h2]
    exact hK1 _ ⟨rfl, (by first | rfl | (rw [h2]; rfl) | (simp only [h2, Bool.true_and, Bool.false_and, Bool.true_or, Bool.false_or, cond_true, cond_false] <;> rfl)), trivial⟩
   ·
    try simp only [go_sem, Nat.reduceAdd, h2]
    exact hK1 _ ⟨rfl, (by first | rfl | (rw [h2]; rfl) | (simp only [h2, Bool.true_and, Bool.false_and, Bool.true_or, Bool.false_or, cond_true, cond_false] <;> rfl)), trivial⟩
  ·
   refine xw_id ?_
   try simp only [go_sem, Nat.reduceAdd]
   refine hKK _ _ (Wk.refl _ _ _) ?_; clear hKK KK
   refine awp_cond (b := ((decide (a1 < 0)) || (decide (1099511627776 < a1)))) rfl (fun h3 => ?_) (fun h3 => ?_)
   ·
    have h0 := cT h0 h3
    refine awp_assoc ?_
    refine awp_nr [] (fun _ => rfl) fun tz => ?_
    refine awp_regW fun KK hKK => ?_
    refine xw_id ?_
    try simp only [go_sem, Nat.reduceAdd]
    refine hKK _ _ (Wk.refl _ _ _) ?_; clear hKK KK
    refine awp_ret ?_
    obtain rfl := someInj h0
    refine endW_i ?_
    refine end_ret0 rs56 (rfl) ?_
    try simp only [go_sem, Nat.reduceAdd, fz, nilS, packR, List.take_nil, List.take_length, List.length_map, List.length_append, cond_true, cond_false, Nat.ble_eq, ble_self]
    all_goals first | rfl | (simp only [go_sem, Nat.reduceAdd, fz, nilS, packR, List.take_nil, List.take_length, List.length_map, List.length_append, cond_true, cond_false, Nat.ble_eq, ble_self, List.map_append] <;> rfl)
   ·
    have h0 := cF h0 h3
    refine awp_skip ?_
    refine awp_nr [] (fun _ => rfl) fun tz => ?_
    refine awp_regW fun KK hKK => ?_
    refine xw_id ?_
    try simp only [go_sem, Nat.reduceAdd]
    refine hKK _ _ (Wk.refl _ _ _) ?_; clear hKK KK
    refine awp_ret1 ?_
    obtain rfl := someInj h0
    refine endW_i ?_
    refine end_ret0 rs56 (rfl) ?_
    try simp only [go_sem, Nat.reduceAdd, fz, nilS, packR, List.take_nil, List.take_length, List.length_map, List.length_append, cond_true, cond_false, Nat.ble_eq, ble_self]
    all_goals first | rfl | (simp only [go_sem, Nat.reduceAdd, fz, nilS, packR, List.take_nil, List.take_length, List.length_map, List.length_append, cond_true, cond_false, Nat.ble_eq, ble_self, List.map_append] <;> rfl)

end Go.AX.Z.TV

/-! (TVW auth commit) -/

set_option linter.unusedSimpArgs false
set_option linter.unusedVariables false
set_option maxHeartbeats 4000000
set_option maxRecDepth 20000
namespace Go.AX.Z.TV
open Go.AX Go.Proofs
attribute [local irreducible] awp xw xop xcall gsp ob xd xdop xcallD seqQ loopQ blkQ endQ

def auth_commit_S0 (a0 : Auth) (x46 : (List Int)) : AS :=
 { objs := (upd (upd (fun _ => .dead) 0 (.live (e_Auth a0))) 1 (.live (List.map vu ([1] ++ x46)))), next := 2, tmps := (upd (upd (fun _ => .unk) 1 (.ptr 0 0)) 3 (.ref 1 0 (([1] ++ x46).length) 1)) }

theorem auth_commit_r (a0 : Auth) {r : (List Int)} (h0 : auth_commit a0 = some r) : SndR K 57 [(.agg (e_Auth a0))] (fun q => (.ref (q 0) 0 r.length 1)) [(List.map vu r)] := by
 refine SndR.of_walkW hC (show K.P.funcs[57]? = some Try.f57 from Try.func57) rfl rfl (by decide +kernel) (Nat.le_of_ble_eq_true rfl) ?_
 unfold auth_commit at h0
 refine awp_nr [0] (fun _ => rfl) fun tz => ?_
 refine awp_regW fun KK hKK => ?_
 refine xw_id ?_
 try simp only [go_sem, Nat.reduceAdd]
 refine hKK _ _ (Wk.refl _ _ _) ?_; clear hKK KK
 refine awp_nr [1] (fun _ => rfl) fun tz => ?_
 refine awp_regW fun KK hKK => ?_
 refine xw_id ?_
 obtain ⟨x46, bx46, h0⟩ := bnd h0
 try simp only [go_sem, Nat.reduceAdd]
 refine xcall_ML (by first | (simp only [go_sem, fz, nilS, cond_true, cond_false, Nat.reduceAdd] <;> rfl) | (simp only [go_sem, fz, List.length_set, ble_self, take_set, cond_true, cond_false, Nat.reduceAdd] <;> rfl)) (auth_numbers_m [a0.Scalar, a0.Element] bx46) (fun _ => by repeat' (first | exact NoV.v _ | exact NoV.ref _ _ _ _ | exact NoV.onil | refine NoV.ocons ?_ ?_ | exact NoV.nil | refine NoV.tup ?_ | refine NoV.agg ?_ | refine NoV.rows (fun _ => ?_) _ | refine NoV.maps (fun _ => ?_) _ | refine NoV.cons ?_ ?_)) (by repeat' (first | exact NoV.v _ | exact NoV.ref _ _ _ _ | exact NoV.onil | refine NoV.ocons ?_ ?_ | exact NoV.nil | refine NoV.tup ?_ | refine NoV.agg ?_ | refine NoV.rows (fun _ => ?_) _ | refine NoV.maps (fun _ => ?_) _ | refine NoV.cons ?_ ?_)) ?_; try dsimp only
 try refine xw_id ?_
 obtain ⟨x47, bx47, h0⟩ := bnd h0
 have bx47 := chk_some bx47
 simp only [Bool.and_eq_true, decide_eq_true_eq] at bx47
 have gx47_0 := bx47
 try simp only [go_sem, Nat.reduceAdd, gx47_0]
 refine hKK _ (auth_commit_S0 a0 x46) (by refine Wk.canonD [] [] [some 0, some 9] rfl trivial rfl (tmOU 1 (tmOU 0 tmO0 rfl List.not_mem_nil rfl (TmL.clean (e_Auth_clean _))) rfl List.not_mem_nil rfl (TmL.of_eq (by first | rfl | (simp only [List.flatMap_append, List.flatMap_cons, List.flatMap_nil, List.map_append, List.map_cons, List.map_nil, List.append_nil, List.nil_append] <;> rfl)) (vu_clean _))) (tmAllU 3 (tmAllU 1 tmAll0 (Tm.ptr rfl)) (Tm.refL rfl ?_)); all_goals (first | rfl | (simp only [List.length_append, List.length_take, List.length_drop, List.length_cons, List.length_nil, List.length_modify, List.length_set, Nat.zero_add] <;> omega) | omega)) ?_; clear hKK KK
 unfold auth_commit_S0
 refine awp_assoc ?_
 refine awp_nr [1,3] (fun _ => rfl) fun tz => ?_
 refine awp_regW fun KK hKK => ?_
 refine xw_id ?_
 try simp only [go_sem, Nat.reduceAdd]
 refine hKK _ _ (Wk.refl _ _ _) ?_; clear hKK KK
 refine awp_cond (b := (!a0.HasToken)) rfl (fun h1 => ?_) (fun h1 => ?_)
 ·
  have h0 := cT h0 h1
  refine awp_assoc ?_
  refine awp_nr [3] (fun _ => rfl) fun tz => ?_
  refine awp_regW fun KK hKK => ?_
  refine xw_id ?_
  obtain ⟨x48, bx48, h0⟩ := bnd h0
  have bx48 := chk_some bx48
  simp only [Bool.and_eq_true, decide_eq_true_eq] at bx48
  have gx48_0 := bx48
  try simp only [List.cons_append, List.nil_append, List.length_append, List.length_cons, List.length_nil, Nat.zero_add, Nat.reduceAdd, Nat.add_assoc, Nat.reduceLeDiff] at gx48_0
  try simp only [go_sem, Nat.reduceAdd, gx48_0, List.length_append, vu_len]
  refine hKK _ _ (Wk.refl _ _ _) ?_; clear hKK KK
  refine awp_ret ?_
  obtain rfl := someInj h0
  refine endW_i ?_
  refine end_ret0 rs57 (rfl) ?_
  refine Res.mk [] [some 7] rfl (resOU List.not_mem_nil rfl (TmL.of_eq (by first | rfl | (simp only [List.flatMap_append, List.flatMap_cons, List.flatMap_nil, List.map_append, List.map_cons, List.map_nil, List.append_nil, List.nil_append] <;> rfl)) (vu_clean _)) resO0) (Tm.refL rfl ?_)
  all_goals (first | rfl | (simp only [List.length_append, List.length_take, List.length_drop, List.length_cons, List.length_nil, List.length_modify, List.length_set, Nat.zero_add] <;> omega) | omega)
 ·
  have h0 := cF h0 h1
  refine awp_skip ?_
  refine awp_nr [1,3] (fun _ => rfl) fun tz => ?_
  refine awp_regDW fun KK hKK all hall => ?_
  refine xd_id ?_
  try simp only [List.toList_toArray, List.map_cons, List.map_nil, List.size_toArray, List.length_cons, List.length_nil, Nat.zero_add]
  try simp only [Nat.reduceAdd]
  obtain ⟨x49, bx49, h0⟩ := bnd h0
  have bx49 := chk_some bx49
  simp only [Bool.and_eq_true, decide_eq_true_eq] at bx49
  have gx49_0 := bx49
  try simp only [List.cons_append, List.nil_append, List.length_append, List.length_cons, List.length_nil, Nat.zero_add, Nat.reduceAdd, Nat.add_assoc, Nat.reduceLeDiff] at gx49_0
  obtain ⟨x50, bx50, h0⟩ := bnd h0
  iterate 3 ((try simp only [go_sem, gx49_0, List.length_append, vu_len]); try simp only [Nat.reduceAdd])
  refine xcallD_EL (by first | (simp only [go_sem, fz, nilS, cond_true, cond_false, Nat.reduceAdd, gx49_0, List.length_append, vu_len] <;> rfl) | (simp only [go_sem, fz, List.length_set, ble_self, take_set, cond_true, cond_false, Nat.reduceAdd, gx49_0, List.length_append, vu_len] <;> rfl)) (by first | (simp only [go_sem, reach, Nat.reduceAdd, gx49_0, List.length_append, vu_len] <;> rfl)) (auth_numbers_e [a0.Token] bx50 _) (by repeat' (first | exact NoV.v _ | exact NoV.ref _ _ _ _ | exact NoV.onil | refine NoV.ocons ?_ ?_ | exact NoV.nil | refine NoV.tup ?_ | refine NoV.agg ?_ | refine NoV.rows (fun _ => ?_) _ | refine NoV.maps (fun _ => ?_) _ | refine NoV.cons ?_ ?_)) (by repeat' (first | exact NoV.v _ | exact NoV.ref _ _ _ _ | exact NoV.onil | refine NoV.ocons ?_ ?_ | exact NoV.nil | refine NoV.tup ?_ | refine NoV.agg ?_ | refine NoV.rows (fun _ => ?_) _ | refine NoV.maps (fun _ => ?_) _ | refine NoV.cons ?_ ?_)) ?_; try dsimp only
  try refine xd_id ?_
  obtain ⟨x51, bx51, h0⟩ := bnd h0
  have bx51 := chk_some bx51
  simp only [Bool.and_eq_true, decide_eq_true_eq] at bx51
  have gx51_0 := bx51
  try simp only [List.cons_append, List.nil_append, List.length_append, List.length_cons, List.length_nil, Nat.zero_add, Nat.reduceAdd, Nat.add_assoc, Nat.reduceLeDiff] at gx51_0
  iterate 3 ((try simp only [go_sem, gx49_0, List.length_append, vu_len, gx51_0, List.length_append, vu_len]); try simp only [Nat.reduceAdd])
  refine And.intro ?_ (hKK _ _ (Wk.refl _ _ _) ?_)
  ·
   subst hall
   clear hKK KK
   first | decide +kernel | (simp [printsOk, apartP, clash, meet]; try (first | done | decide +kernel | (repeat (first | exact Or.inr (by decide +kernel) | (refine And.intro (Or.inr (by decide +kernel)) ?_)))))
  ·
   clear hKK KK hall all
   refine awp_ret1 ?_
   obtain rfl := someInj h0
   refine endW_i ?_
   refine end_ret0 rs57 (rfl) ?_
   refine Res.mk [] [some 12] rfl (resOU List.not_mem_nil rfl (TmL.of_eq (by first | rfl | (simp only [List.flatMap_append, List.flatMap_cons, List.flatMap_nil, List.map_append, List.map_cons, List.map_nil, List.append_nil, List.nil_append] <;> rfl)) (vu_clean _)) resO0) (Tm.refL rfl ?_)
   all_goals (first | rfl | (simp only [List.length_append, List.length_take, List.length_drop, List.length_cons, List.length_nil, List.length_modify, List.length_set, Nat.zero_add] <;> omega) | omega)

theorem auth_commit_m (a0 : Auth) {r : (List Int)} (h0 : auth_commit a0 = some r) : SndM K 57 [(.agg (e_Auth a0))] (fun q => (.ref (q 0) 0 r.length 1)) [(List.map vu r)] :=
 fun hs => Snd.of_newM (RenM.ref 0 0 _ _) (rows_all_cons (vu_clean _) rows_all_nil) (clean_cons (Clean.agg (e_Auth_clean _)) clean_nil) (auth_commit_r a0 h0) hs

theorem auth_commit_e (a0 : Auth) {r : (List Int)} (h0 : auth_commit a0 = some r) (fr : Nat) (hs : HS) : SndE K 57 [(.agg (e_Auth a0))] hs fr ⟨(fun q : Nat → Nat => (.ref (q 0) 0 r.length 1)) fun _ => fr, .new (List.map vu r)⟩ :=
 SndE.of_res (RenM.ref 0 0 _ _) (vu_clean _) (clean_cons (Clean.agg (e_Auth_clean _)) clean_nil) (fun a b h => by simp only [h]) (auth_commit_r a0 h0) hs fr

theorem auth_commit_p (a0 : Auth) {r : (List Int)} (h0 : auth_commit a0 = some r) : SndP K 57 [(.agg (e_Auth a0))] (S_vu r) :=
 SndM.pure (auth_commit_m a0 h0) (S_vu_clean _) (clean_cons (Clean.agg (e_Auth_clean _)) clean_nil) (by simp only [go_sem, newL_n, newL_c, upd_get, fz, nilS, cond_true, cond_false, List.drop_zero, List.take_length, List.length_map, ble_self, Nat.reduceAdd] <;> rfl)

end Go.AX.Z.TV

/-! (TVW auth Start) -/

set_option linter.unusedSimpArgs false
set_option linter.unusedVariables false
set_option maxHeartbeats 4000000
set_option maxRecDepth 20000
namespace Go.AX.Z.TV
open Go.AX Go.Proofs
attribute [local irreducible] awp xw xop xcall gsp ob xd xdop xcallD seqQ loopQ blkQ endQ

def auth_Start_S0 (a0 : Auth) (a1 : Int) : AS :=
 { objs := (upd (upd (fun _ => .dead) 0 (.live (e_Auth { a0 with Due := IntKind.wrap .i64 (a1 + 200000), Stage := 1, Tries := 1 }))) 1 (.live (e_Auth Auth.z))), next := 2, tmps := (upd (upd (fun _ => .unk) 2 (.ptr 0 0)) 4 (.ptr 1 0)) }

theorem auth_Start_r (a0 : Auth) (a1 : Int) {r : (Auth × (List (List Int)) × Int)} (h0 : auth_Start a0 a1 = some r) : SndR K 30 [(.agg (e_Auth a0)), (vi a1)] (fun q => (.tup [(.agg (e_Auth r.1)), (.ref (q 0) 0 r.2.1.length 1), (vi r.2.2)])) [(List.map S_vu r.2.1)] := by
 refine SndR.of_walkW hC (show K.P.funcs[30]? = some Try.f30 from Try.func30) rfl rfl (by decide +kernel) (Nat.le_of_ble_eq_true rfl) ?_
 unfold auth_Start at h0
 refine awp_nr [0,1] (fun _ => rfl) fun tz => ?_
 refine awp_regW fun KK hKK => ?_
 refine xw_id ?_
 try simp only [go_sem, Nat.reduceAdd]
 refine hKK _ _ (Wk.refl _ _ _) ?_; clear hKK KK
 refine awp_assoc ?_
 refine awp_nr [1,2,4] (fun _ => rfl) fun tz => ?_
 refine awp_regW fun KK hKK => ?_
 refine xw_id ?_
 obtain ⟨x44, bx44, h0⟩ := bnd h0
 try simp only [go_sem, Nat.reduceAdd]
 refine xcall_p (auth_checked_p a0 a1 bx44) ?_; try dsimp only
 try refine xw_id ?_
 try simp only [go_sem, Nat.reduceAdd]
 refine hKK _ _ (Wk.refl _ _ _) ?_; clear hKK KK
 refine awp_assoc ?_
 refine awp_nr [1,2,4,7] (fun _ => rfl) fun tz => ?_
 refine awp_regW fun KK hKK => ?_
 refine xw_id ?_
 try simp only [go_sem, Nat.reduceAdd]
 refine hKK _ _ (Wk.refl _ _ _) ?_; clear hKK KK
 refine awp_cond (b := (x44 != 0)) rfl (fun h1 => ?_) (fun h1 => ?_)
 ·
  have h0 := cT h0 h1
  refine awp_assoc ?_
  refine awp_nr [4,7] (fun _ => rfl) fun tz => ?_
  refine awp_regW fun KK hKK => ?_
  refine xw_id ?_
  try simp only [go_sem, Nat.reduceAdd]
  refine hKK _ _ (Wk.refl _ _ _) ?_; clear hKK KK
  refine awp_ret ?_
  obtain rfl := someInj h0
  refine endW_i ?_
  refine end_ret0 rs30 (by simp only [go_sem, resV, resAll, resOf, packR, Nat.reduceAdd]; rfl) ?_
  refine Res.mk [] [none] rfl (resON resO0) (Tm.tup (TmL.cons (Tm.clean (Clean.agg (e_Auth_clean _))) (TmL.cons (Tm.thaw _ _ _) (TmL.cons (Tm.v _) TmL.nil))))
 ·
  have h0 := cF h0 h1
  refine awp_skip ?_
  refine awp_assoc ?_
  refine awp_nr [1,2,4] (fun _ => rfl) fun tz => ?_
  refine awp_regW fun KK hKK => ?_
  refine xw_id ?_
  try simp only [go_sem, Nat.reduceAdd]
  refine hKK _ _ (Wk.refl _ _ _) ?_; clear hKK KK
  refine awp_cond (b := (a0.Stage != 0)) rfl (fun h2 => ?_) (fun h2 => ?_)
  ·
   have h0 := cT h0 h2
   refine awp_assoc ?_
   refine awp_nr [4] (fun _ => rfl) fun tz => ?_
   refine awp_regW fun KK hKK => ?_
   refine xw_id ?_
   try simp only [go_sem, Nat.reduceAdd]
   refine hKK _ _ (Wk.refl _ _ _) ?_; clear hKK KK
   refine awp_ret ?_
   obtain rfl := someInj h0
   refine endW_i ?_
   refine end_ret0 rs30 (by simp only [go_sem, resV, resAll, resOf, packR, Nat.reduceAdd]; rfl) ?_
   refine Res.mk [] [none] rfl (resON resO0) (Tm.tup (TmL.cons (Tm.clean (Clean.agg (e_Auth_clean _))) (TmL.cons (Tm.thaw _ _ _) (TmL.cons (Tm.v _) TmL.nil))))
  ·
   have h0 := cF h0 h2
   refine awp_skip ?_
   refine awp_nr [1,2,4] (fun _ => rfl) fun tz => ?_
   refine awp_regW fun KK hKK => ?_
   refine xw_id ?_
   try simp only [go_sem, Nat.reduceAdd]
   refine hKK _ (auth_Start_S0 a0 a1) (Wk.canonD [] [] [some 0, some 1] rfl trivial rfl (tmOU 1 (tmOU 0 tmO0 rfl List.not_mem_nil rfl (TmL.clean (e_Auth_clean _))) rfl List.not_mem_nil rfl (TmL.clean (e_Auth_clean _))) (tmAllU 4 (tmAllU 2 tmAll0 (Tm.ptr rfl)) (Tm.ptr rfl))) ?_; clear hKK KK
   unfold auth_Start_S0
   refine awp_nr [2,4] (fun _ => rfl) fun tz => ?_
   refine awp_regDW fun KK hKK all hall => ?_
   refine xd_id ?_
   try simp only [List.toList_toArray, List.map_cons, List.map_nil, List.size_toArray, List.length_cons, List.length_nil, Nat.zero_add]
   try simp only [Nat.reduceAdd]
   obtain ⟨x45, bx45, h0⟩ := bnd h0
   iterate 3 ((try simp only [go_sem, ]); try simp only [Nat.reduceAdd])
   refine xcallD_p (auth_commit_p { a0 with Due := IntKind.wrap .i64 (a1 + 200000), Stage := 1, Tries := 1 } bx45) ?_; try dsimp only
   try refine xd_id ?_
   iterate 3 ((try simp only [go_sem, ]); try simp only [Nat.reduceAdd])
   refine And.intro ?_ (hKK _ _ (Wk.refl _ _ _) ?_)
   ·
    subst hall
    clear hKK KK
    first | decide +kernel | (simp [printsOk, apartP, clash, meet]; try (first | done | decide +kernel | (repeat (first | exact Or.inr (by decide +kernel) | (refine And.intro (Or.inr (by decide +kernel)) ?_)))))
   ·
    clear hKK KK hall all
    refine awp_ret1 ?_
    obtain rfl := someInj h0
    refine endW_i ?_
    refine end_ret0 rs30 (by simp only [go_sem, resV, resAll, resOf, packR, Nat.reduceAdd]; rfl) ?_
    refine Res.mk [] [some 5] rfl (resOU List.not_mem_nil rfl (TmL.of_eq (by first | rfl | (simp only [List.flatMap_append, List.flatMap_cons, List.flatMap_nil, List.map_append, List.map_cons, List.map_nil, List.append_nil, List.nil_append] <;> rfl)) (cS_vu _)) resO0) (Tm.tup (TmL.cons (Tm.clean (Clean.agg (e_Auth_clean _))) (TmL.cons (Tm.refL rfl ?_) (TmL.cons (Tm.v _) TmL.nil))))
    all_goals (first | rfl | (simp only [List.length_append, List.length_take, List.length_drop, List.length_cons, List.length_nil, List.length_modify, List.length_set, Nat.zero_add] <;> omega) | omega)

theorem auth_Start_m (a0 : Auth) (a1 : Int) {r : (Auth × (List (List Int)) × Int)} (h0 : auth_Start a0 a1 = some r) : SndM K 30 [(.agg (e_Auth a0)), (vi a1)] (fun q => (.tup [(.agg (e_Auth r.1)), (.ref (q 0) 0 r.2.1.length 1), (vi r.2.2)])) [(List.map S_vu r.2.1)] :=
 fun hs => Snd.of_newM (RenM.tup (RenML.cons (RenM.const (Clean.agg (e_Auth_clean _))) (RenML.cons (RenM.ref 0 0 _ _) (RenML.cons (RenM.const (Clean.v _)) RenML.nil)))) (rows_all_cons (cS_vu _) rows_all_nil) (clean_cons (Clean.agg (e_Auth_clean _)) (clean_cons (Clean.v _) clean_nil)) (auth_Start_r a0 a1 h0) hs

theorem auth_Start_e (a0 : Auth) (a1 : Int) {r : (Auth × (List (List Int)) × Int)} (h0 : auth_Start a0 a1 = some r) (fr : Nat) (hs : HS) : SndE K 30 [(.agg (e_Auth a0)), (vi a1)] hs fr ⟨(fun q : Nat → Nat => (.tup [(.agg (e_Auth r.1)), (.ref (q 0) 0 r.2.1.length 1), (vi r.2.2)])) fun _ => fr, .new (List.map S_vu r.2.1)⟩ :=
 SndE.of_res (RenM.tup (RenML.cons (RenM.const (Clean.agg (e_Auth_clean _))) (RenML.cons (RenM.ref 0 0 _ _) (RenML.cons (RenM.const (Clean.v _)) RenML.nil)))) (cS_vu _) (clean_cons (Clean.agg (e_Auth_clean _)) (clean_cons (Clean.v _) clean_nil)) (fun a b h => by simp only [h]) (auth_Start_r a0 a1 h0) hs fr

theorem auth_Start_p (a0 : Auth) (a1 : Int) {r : (Auth × (List (List Int)) × Int)} (h0 : auth_Start a0 a1 = some r) : SndP K 30 [(.agg (e_Auth a0)), (vi a1)] (.tup [(.agg (e_Auth r.1)), (S_S_vu r.2.1), (vi r.2.2)]) :=
 SndM.pure (auth_Start_m a0 a1 h0) (Clean.tup (clean_cons (Clean.agg (e_Auth_clean _)) (clean_cons (S_S_vu_clean _) (clean_cons (Clean.v _) clean_nil)))) (clean_cons (Clean.agg (e_Auth_clean _)) (clean_cons (Clean.v _) clean_nil)) (by simp only [go_sem, newL_n, newL_c, upd_get, fz, nilS, cond_true, cond_false, List.drop_zero, List.take_length, List.length_map, ble_self, Nat.reduceAdd] <;> rfl)

end Go.AX.Z.TV

/-! (TVW auth Handle 1) -/

set_option linter.unusedSimpArgs false
set_option linter.unusedVariables false
set_option maxHeartbeats 4000000
set_option maxRecDepth 20000
namespace Go.AX.Z.TV
open Go.AX Go.Proofs
attribute [local irreducible] awp xw xop xcall gsp ob xd xdop xcallD seqQ loopQ blkQ endQ


theorem auth_Handle_1_p (a0 : Int) {r : (Auth × (List (List Int)) × Int)} (h0 : auth_Handle_1 a0 = some r) : SndP K 58 [(vi a0)] (.tup [(.agg (e_Auth r.1)), (S_S_vu r.2.1), (vi r.2.2)]) := by
 refine SndP.of_walkW hC (Clean.tup (clean_cons (Clean.agg (e_Auth_clean _)) (clean_cons (S_S_vu_clean _) (clean_cons (Clean.v _) clean_nil)))) (clean_cons (Clean.v _) clean_nil) (show K.P.funcs[58]? = some Try.f58 from Try.func58) rfl rfl (by decide +kernel) (Nat.le_of_ble_eq_true rfl) ?_
 unfold auth_Handle_1 at h0
 refine awp_nr [0] (fun _ => rfl) fun tz => ?_
 refine awp_regW fun KK hKK => ?_
 refine xw_id ?_
 try simp only [go_sem, Nat.reduceAdd]
 refine hKK _ _ (Wk.refl _ _ _) ?_; clear hKK KK
 refine awp_nr [0,2] (fun _ => rfl) fun tz => ?_
 refine awp_regW fun KK hKK => ?_
 refine xw_id ?_
 try simp only [go_sem, Nat.reduceAdd]
 refine hKK _ _ (Wk.refl _ _ _) ?_; clear hKK KK
 refine awp_ret1 ?_
 obtain rfl := someInj h0
 refine endW_i ?_
 refine end_ret0 rs58 (by simp only [go_sem, resV, resAll, resOf, packR, Nat.reduceAdd]; rfl) ?_
 try simp only [go_sem, Nat.reduceAdd, fz, nilS, packR, List.take_nil, List.take_length, List.length_map, List.length_append, cond_true, cond_false, Nat.ble_eq, ble_self]
 all_goals first | rfl | (simp only [go_sem, Nat.reduceAdd, fz, nilS, packR, List.take_nil, List.take_length, List.length_map, List.length_append, cond_true, cond_false, Nat.ble_eq, ble_self, List.map_append] <;> rfl)

end Go.AX.Z.TV

/-! (TVW bytes Clone) -/

set_option linter.unusedSimpArgs false
set_option linter.unusedVariables false
set_option maxHeartbeats 4000000
set_option maxRecDepth 20000
namespace Go.AX.Z.TV
open Go.AX Go.Proofs
attribute [local irreducible] awp xw xop xcall gsp ob xd xdop xcallD seqQ loopQ blkQ endQ


theorem bytes_Clone_r (a0 : (List Int)) {r : (List Int)} (h0 : bytes_Clone a0 = some r) : SndR K 72 [(S_vu a0)] (fun q => (.ref (q 0) 0 r.length 1)) [(List.map vu r)] := by
 cases a0 with
 | nil =>
  refine SndR.split_nil (fun cap => ?_) (fun a cap => ?_)
  ·
   unfold bytes_Clone at h0
   obtain ⟨x1, bx1, h0⟩ := bnd h0
   obtain rfl := someInj h0
   refine SndR.of_walkW hC (show K.P.funcs[72]? = some Try.f72 from Try.func72) rfl rfl (by decide +kernel) (Nat.le_of_ble_eq_true rfl) ?_
   refine awp_nr [0] (fun _ => rfl) fun tz => ?_
   refine awp_regW fun KK hKK => ?_
   refine xw_id ?_
   try simp only [go_sem, Nat.reduceAdd, Option.isSome_some, if_true, eq_self]
   refine hKK _ _ (Wk.refl _ _ _) ?_; clear hKK KK
   refine awp_assoc ?_
   refine awp_nr [0] (fun _ => rfl) fun tz => ?_
   refine awp_regW fun KK hKK => ?_
   refine xw_id ?_
   try simp only [go_sem, Nat.reduceAdd, Option.isSome_some, if_true, eq_self]
   refine hKK _ _ (Wk.refl _ _ _) ?_; clear hKK KK
   refine awp_condT rfl ?_
   refine awp_assoc ?_
   refine awp_nr [] (fun _ => rfl) fun tz => ?_
   refine awp_regW fun KK hKK => ?_
   refine xw_id ?_
   try simp only [go_sem, Nat.reduceAdd, Option.isSome_some, if_true, eq_self]
   refine hKK _ _ (Wk.refl _ _ _) ?_; clear hKK KK
   refine awp_ret ?_
   refine endW_i ?_
   refine end_ret0 rs72 (rfl) ?_
   exact Res.mk [] [none] rfl (resON resO0) (Tm.thaw _ _ _)
  ·
   revert h0; intro h0
   refine SndR.of_walkW hC (show K.P.funcs[72]? = some Try.f72 from Try.func72) rfl rfl (by decide +kernel) (Nat.le_of_ble_eq_true rfl) ?_
   unfold bytes_Clone at h0
   refine awp_nr [0] (fun _ => rfl) fun tz => ?_
   refine awp_regW fun KK hKK => ?_
   refine xw_id ?_
   try simp only [go_sem, Nat.reduceAdd, Option.isSome_some, if_true, eq_self]
   refine hKK _ _ (Wk.refl _ _ _) ?_; clear hKK KK
   refine awp_assoc ?_
   refine awp_nr [0] (fun _ => rfl) fun tz => ?_
   refine awp_regW fun KK hKK => ?_
   refine xw_id ?_
   try simp only [go_sem, Nat.reduceAdd, Option.isSome_some, if_true, eq_self]
   refine hKK _ _ (Wk.refl _ _ _) ?_; clear hKK KK
   refine awp_condF rfl ?_
   refine awp_skip ?_
   refine awp_nr [0] (fun _ => rfl) fun tz => ?_
   refine awp_regW fun KK hKK => ?_
   refine xw_id ?_
   obtain ⟨x61, bx61, h0⟩ := bnd h0
   have bx61 := chk_some bx61
   simp only [Bool.and_eq_true, decide_eq_true_eq] at bx61
   have gx61_0 := bx61
   try simp only [go_sem, Nat.reduceAdd, Option.isSome_some, if_true, eq_self, gx61_0]
   refine hKK _ _ (Wk.refl _ _ _) ?_; clear hKK KK
   refine awp_ret1 ?_
   obtain rfl := someInj h0
   refine endW_i ?_
   refine end_ret0 rs72 (rfl) ?_
   refine Res.mk [] [some 5] rfl (resOU List.not_mem_nil rfl (TmL.of_eq (by first | rfl | (simp only [List.flatMap_append, List.flatMap_cons, List.flatMap_nil, List.map_append, List.map_cons, List.map_nil, List.append_nil, List.nil_append] <;> rfl)) (vu_clean _)) resO0) (Tm.refL rfl ?_)
   all_goals (first | rfl | (simp only [List.length_append, List.length_take, List.length_drop, List.length_cons, List.length_nil, List.length_modify, List.length_set, Nat.zero_add] <;> omega) | omega)
 | cons x l =>
  generalize ha : x :: l = a0 at *
  have nb : nilB (.imm (List.map vu a0) a0.length) = some false := by subst ha; rfl
  refine SndR.of_walkW hC (show K.P.funcs[72]? = some Try.f72 from Try.func72) rfl rfl (by decide +kernel) (Nat.le_of_ble_eq_true rfl) ?_
  unfold bytes_Clone at h0
  refine awp_nr [0] (fun _ => rfl) fun tz => ?_
  refine awp_regW fun KK hKK => ?_
  refine xw_id ?_
  try simp only [go_sem, Nat.reduceAdd, ↓nb, Option.isSome_some, if_true, eq_self]
  refine hKK _ _ (Wk.refl _ _ _) ?_; clear hKK KK
  refine awp_assoc ?_
  refine awp_nr [0] (fun _ => rfl) fun tz => ?_
  refine awp_regW fun KK hKK => ?_
  refine xw_id ?_
  try simp only [go_sem, Nat.reduceAdd, ↓nb, Option.isSome_some, if_true, eq_self]
  refine hKK _ _ (Wk.refl _ _ _) ?_; clear hKK KK
  refine awp_condF rfl ?_
  refine awp_skip ?_
  refine awp_nr [0] (fun _ => rfl) fun tz => ?_
  refine awp_regW fun KK hKK => ?_
  refine xw_id ?_
  obtain ⟨x61, bx61, h0⟩ := bnd h0
  have bx61 := chk_some bx61
  simp only [Bool.and_eq_true, decide_eq_true_eq] at bx61
  have gx61_0 := bx61
  try simp only [go_sem, Nat.reduceAdd, ↓nb, Option.isSome_some, if_true, eq_self, gx61_0]
  refine hKK _ _ (Wk.refl _ _ _) ?_; clear hKK KK
  refine awp_ret1 ?_
  obtain rfl := someInj h0
  refine endW_i ?_
  refine end_ret0 rs72 (rfl) ?_
  refine Res.mk [] [some 5] rfl (resOU List.not_mem_nil rfl (TmL.of_eq (by first | rfl | (simp only [List.flatMap_append, List.flatMap_cons, List.flatMap_nil, List.map_append, List.map_cons, List.map_nil, List.append_nil, List.nil_append] <;> rfl)) (vu_clean _)) resO0) (Tm.refL rfl ?_)
  all_goals (first | rfl | (simp only [List.length_append, List.length_take, List.length_drop, List.length_cons, List.length_nil, List.length_modify, List.length_set, Nat.zero_add] <;> omega) | omega)

theorem bytes_Clone_m (a0 : (List Int)) {r : (List Int)} (h0 : bytes_Clone a0 = some r) : SndM K 72 [(S_vu a0)] (fun q => (.ref (q 0) 0 r.length 1)) [(List.map vu r)] :=
 fun hs => Snd.of_newM (RenM.ref 0 0 _ _) (rows_all_cons (vu_clean _) rows_all_nil) (clean_cons (S_vu_clean _) clean_nil) (bytes_Clone_r a0 h0) hs

theorem bytes_Clone_e (a0 : (List Int)) {r : (List Int)} (h0 : bytes_Clone a0 = some r) (fr : Nat) (hs : HS) : SndE K 72 [(S_vu a0)] hs fr ⟨(fun q : Nat → Nat => (.ref (q 0) 0 r.length 1)) fun _ => fr, .new (List.map vu r)⟩ :=
 SndE.of_res (RenM.ref 0 0 _ _) (vu_clean _) (clean_cons (S_vu_clean _) clean_nil) (fun a b h => by simp only [h]) (bytes_Clone_r a0 h0) hs fr

theorem bytes_Clone_p (a0 : (List Int)) {r : (List Int)} (h0 : bytes_Clone a0 = some r) : SndP K 72 [(S_vu a0)] (S_vu r) :=
 SndM.pure (bytes_Clone_m a0 h0) (S_vu_clean _) (clean_cons (S_vu_clean _) clean_nil) (by simp only [go_sem, newL_n, newL_c, upd_get, fz, nilS, cond_true, cond_false, List.drop_zero, List.take_length, List.length_map, ble_self, Nat.reduceAdd] <;> rfl)

end Go.AX.Z.TV

/-! (TVW auth coded) -/

set_option linter.unusedSimpArgs false
set_option linter.unusedVariables false
set_option maxHeartbeats 4000000
set_option maxRecDepth 20000
namespace Go.AX.Z.TV
open Go.AX Go.Proofs
attribute [local irreducible] awp xw xop xcall gsp ob xd xdop xcallD seqQ loopQ blkQ endQ

def auth_coded_S0 (a1 : Int) (x64 : A16vu) : AS :=
 { objs := (upd (upd (fun _ => .dead) 0 (.live (List.map vu [2, IntKind.wrap .u8 a1, IntKind.wrap .u8 ((a1).fdiv (2 ^ (min 8 64)))]))) 1 (.live (e_A16vu x64))), next := 2, tmps := (upd (upd (fun _ => .unk) 13 (.ref 0 0 3 1)) 14 (.ptr 1 0)) }

theorem auth_coded_r (a0 : A16vu) (a1 : Int) (a2 : Int) (a3 : Int) (a4 : Int) (a5 : Int) {r : (List Int)} (h0 : auth_coded a0 a1 a2 a3 a4 a5 = some r) : SndR K 60 [(.agg (e_A16vu a0)), (vi a1), (vq a2), (vq a3), (vq a4), (vq a5)] (fun q => (.ref (q 0) 0 r.length 1)) [(List.map vu r)] := by
 refine SndR.of_walkW hC (show K.P.funcs[60]? = some Try.f60 from Try.func60) rfl rfl (by decide +kernel) (Nat.le_of_ble_eq_true rfl) ?_
 unfold auth_coded at h0
 refine awp_nr [0,1,2,3,4,5] (fun _ => rfl) fun tz => ?_
 refine awp_regW fun KK hKK => ?_
 refine xw_id ?_
 try simp only [go_sem, Nat.reduceAdd]
 refine hKK _ _ (Wk.refl _ _ _) ?_; clear hKK KK
 refine awp_nr [1,2,3,4,5,6] (fun _ => rfl) fun tz => ?_
 refine awp_regW fun KK hKK => ?_
 refine xw_id ?_
 try simp only [go_sem, Nat.reduceAdd]
 refine hKK _ _ (Wk.refl _ _ _) ?_; clear hKK KK
 refine awp_nr [2,3,4,5,6,13] (fun _ => rfl) fun tz => ?_
 refine awp_regDW fun KK hKK all hall => ?_
 refine xd_id ?_
 try simp only [List.toList_toArray, List.map_cons, List.map_nil, List.size_toArray, List.length_cons, List.length_nil, Nat.zero_add]
 try simp only [Nat.reduceAdd]
 obtain ⟨x61, bx61, h0⟩ := bnd h0
 iterate 3 ((try simp only [go_sem, ]); try simp only [Nat.reduceAdd])
 refine xcallD_EL (by first | (simp only [go_sem, fz, nilS, cond_true, cond_false, Nat.reduceAdd] <;> rfl) | (simp only [go_sem, fz, List.length_set, ble_self, take_set, cond_true, cond_false, Nat.reduceAdd] <;> rfl)) (by first | (simp only [go_sem, reach, Nat.reduceAdd] <;> rfl)) (bytes_Clone_e [2, IntKind.wrap .u8 a1, IntKind.wrap .u8 ((a1).fdiv (2 ^ (min 8 64)))] bx61 _) (by repeat' (first | exact NoV.v _ | exact NoV.ref _ _ _ _ | exact NoV.onil | refine NoV.ocons ?_ ?_ | exact NoV.nil | refine NoV.tup ?_ | refine NoV.agg ?_ | refine NoV.rows (fun _ => ?_) _ | refine NoV.maps (fun _ => ?_) _ | refine NoV.cons ?_ ?_)) (by repeat' (first | exact NoV.v _ | exact NoV.ref _ _ _ _ | exact NoV.onil | refine NoV.ocons ?_ ?_ | exact NoV.nil | refine NoV.tup ?_ | refine NoV.agg ?_ | refine NoV.rows (fun _ => ?_) _ | refine NoV.maps (fun _ => ?_) _ | refine NoV.cons ?_ ?_)) ?_; try dsimp only
 try refine xd_id ?_
 obtain ⟨x62, bx62, h0⟩ := bnd h0
 iterate 3 ((try simp only [go_sem, ]); try simp only [Nat.reduceAdd])
 refine xcallD_EL (by first | (simp only [go_sem, fz, nilS, cond_true, cond_false, Nat.reduceAdd] <;> rfl) | (simp only [go_sem, fz, List.length_set, ble_self, take_set, cond_true, cond_false, Nat.reduceAdd] <;> rfl)) (by first | (simp only [go_sem, reach, Nat.reduceAdd] <;> rfl)) (auth_numbers_e [a2, a3, a4, a5] bx62 _) (by repeat' (first | exact NoV.v _ | exact NoV.ref _ _ _ _ | exact NoV.onil | refine NoV.ocons ?_ ?_ | exact NoV.nil | refine NoV.tup ?_ | refine NoV.agg ?_ | refine NoV.rows (fun _ => ?_) _ | refine NoV.maps (fun _ => ?_) _ | refine NoV.cons ?_ ?_)) (by repeat' (first | exact NoV.v _ | exact NoV.ref _ _ _ _ | exact NoV.onil | refine NoV.ocons ?_ ?_ | exact NoV.nil | refine NoV.tup ?_ | refine NoV.agg ?_ | refine NoV.rows (fun _ => ?_) _ | refine NoV.maps (fun _ => ?_) _ | refine NoV.cons ?_ ?_)) ?_; try dsimp only
 try refine xd_id ?_
 obtain ⟨x63, bx63, h0⟩ := bnd h0
 have bx63 := chk_some bx63
 simp only [Bool.and_eq_true, decide_eq_true_eq] at bx63
 have gx63_0 := bx63
 obtain ⟨x64, bx64, h0⟩ := bnd h0
 iterate 3 ((try simp only [go_sem, gx63_0]); try simp only [Nat.reduceAdd])
 have gl1 : x61.length + x62.length = (x61 ++ x62).length := by first | rfl | (simp only [List.length_append, List.length_take, List.length_drop, List.length_cons, List.length_nil, List.length_modify, List.length_set, Nat.zero_add]; done) | (simp only [List.length_append, List.length_take, List.length_drop, List.length_cons, List.length_nil, List.length_modify, List.length_set, Nat.zero_add]; omega)
 refine xcallD_L (by first | (simp only [go_sem, fz, Nat.reduceAdd, gx63_0, gl1] <;> rfl) | (simp only [go_sem, fz, List.length_set, ble_self, take_set, cond_true, cond_false, Nat.reduceAdd, gx63_0, gl1] <;> rfl)) (by first | (simp only [go_sem, reach, Nat.reduceAdd, gx63_0] <;> rfl)) (derive_Mac_p a0 (x61 ++ x62) bx64) (bare_ok (by rfl)) ?_; try dsimp only
 try refine xd_id ?_
 iterate 3 ((try simp only [go_sem, gx63_0]); try simp only [Nat.reduceAdd])
 refine And.intro ?_ (hKK _ (auth_coded_S0 a1 x64) (by refine Wk.canonD [] [] [some 7, some 20] rfl trivial rfl (tmOU 1 (tmOU 0 tmO0 rfl List.not_mem_nil rfl (TmL.of_eq (by first | rfl | (simp only [List.flatMap_append, List.flatMap_cons, List.flatMap_nil, List.map_append, List.map_cons, List.map_nil, List.append_nil, List.nil_append] <;> rfl)) (vu_clean _))) rfl List.not_mem_nil rfl (TmL.clean (e_A16vu_clean _))) (tmAllU 14 (tmAllU 13 tmAll0 (Tm.refL rfl ?_)) (Tm.ptr rfl)); all_goals (first | rfl | (simp only [List.length_append, List.length_take, List.length_drop, List.length_cons, List.length_nil, List.length_modify, List.length_set, Nat.zero_add] <;> omega) | omega)) ?_)
 ·
  subst hall
  clear hKK KK
  first | decide +kernel | (simp [printsOk, apartP, clash, meet]; try (first | done | decide +kernel | (repeat (first | exact Or.inr (by decide +kernel) | (refine And.intro (Or.inr (by decide +kernel)) ?_)))))
 ·
  clear hKK KK hall all
  unfold auth_coded_S0
  refine awp_nr [13,14] (fun _ => rfl) fun tz => ?_
  refine awp_regW fun KK hKK => ?_
  refine xw_id ?_
  try simp only [go_sem, Nat.reduceAdd, Int.sub_zero]
  refine hKK _ _ (Wk.refl _ _ _) ?_; clear hKK KK
  refine awp_ret1 ?_
  obtain rfl := someInj h0
  refine endW_i ?_
  refine end_ret0 rs60 (rfl) ?_
  refine Res.mk [] [some 4] rfl (resOU List.not_mem_nil rfl (TmL.of_eq (by first | rfl | (simp only [List.flatMap_append, List.flatMap_cons, List.flatMap_nil, List.map_append, List.map_cons, List.map_nil, List.append_nil, List.nil_append] <;> rfl)) (vu_clean _)) resO0) (Tm.refL rfl ?_)
  all_goals (first | rfl | (simp only [List.length_append, List.length_take, List.length_drop, List.length_cons, List.length_nil, List.length_modify, List.length_set, Nat.zero_add] <;> omega) | omega)

theorem auth_coded_m (a0 : A16vu) (a1 : Int) (a2 : Int) (a3 : Int) (a4 : Int) (a5 : Int) {r : (List Int)} (h0 : auth_coded a0 a1 a2 a3 a4 a5 = some r) : SndM K 60 [(.agg (e_A16vu a0)), (vi a1), (vq a2), (vq a3), (vq a4), (vq a5)] (fun q => (.ref (q 0) 0 r.length 1)) [(List.map vu r)] :=
 fun hs => Snd.of_newM (RenM.ref 0 0 _ _) (rows_all_cons (vu_clean _) rows_all_nil) (clean_cons (Clean.agg (e_A16vu_clean _)) (clean_cons (Clean.v _) (clean_cons (Clean.v _) (clean_cons (Clean.v _) (clean_cons (Clean.v _) (clean_cons (Clean.v _) clean_nil)))))) (auth_coded_r a0 a1 a2 a3 a4 a5 h0) hs

theorem auth_coded_e (a0 : A16vu) (a1 : Int) (a2 : Int) (a3 : Int) (a4 : Int) (a5 : Int) {r : (List Int)} (h0 : auth_coded a0 a1 a2 a3 a4 a5 = some r) (fr : Nat) (hs : HS) : SndE K 60 [(.agg (e_A16vu a0)), (vi a1), (vq a2), (vq a3), (vq a4), (vq a5)] hs fr ⟨(fun q : Nat → Nat => (.ref (q 0) 0 r.length 1)) fun _ => fr, .new (List.map vu r)⟩ :=
 SndE.of_res (RenM.ref 0 0 _ _) (vu_clean _) (clean_cons (Clean.agg (e_A16vu_clean _)) (clean_cons (Clean.v _) (clean_cons (Clean.v _) (clean_cons (Clean.v _) (clean_cons (Clean.v _) (clean_cons (Clean.v _) clean_nil)))))) (fun a b h => by simp only [h]) (auth_coded_r a0 a1 a2 a3 a4 a5 h0) hs fr

theorem auth_coded_p (a0 : A16vu) (a1 : Int) (a2 : Int) (a3 : Int) (a4 : Int) (a5 : Int) {r : (List Int)} (h0 : auth_coded a0 a1 a2 a3 a4 a5 = some r) : SndP K 60 [(.agg (e_A16vu a0)), (vi a1), (vq a2), (vq a3), (vq a4), (vq a5)] (S_vu r) :=
 SndM.pure (auth_coded_m a0 a1 a2 a3 a4 a5 h0) (S_vu_clean _) (clean_cons (Clean.agg (e_A16vu_clean _)) (clean_cons (Clean.v _) (clean_cons (Clean.v _) (clean_cons (Clean.v _) (clean_cons (Clean.v _) (clean_cons (Clean.v _) clean_nil)))))) (by simp only [go_sem, newL_n, newL_c, upd_get, fz, nilS, cond_true, cond_false, List.drop_zero, List.take_length, List.length_map, ble_self, Nat.reduceAdd] <;> rfl)

end Go.AX.Z.TV

/-! (TVW bytes Equal) -/

set_option linter.unusedSimpArgs false
set_option linter.unusedVariables false
set_option maxHeartbeats 4000000
set_option maxRecDepth 20000
namespace Go.AX.Z.TV
open Go.AX Go.Proofs
attribute [local irreducible] awp xw xop xcall gsp ob xd xdop xcallD seqQ loopQ blkQ endQ


theorem bytes_Equal_p (a0 : (List Int)) (a1 : (List Int)) {r : Bool} (h0 : bytes_Equal a0 a1 = some r) : SndP K 59 [(S_vu a0), (S_vu a1)] (vb r) := by
 refine SndP.of_walkW hC (Clean.v _) (clean_cons (S_vu_clean _) (clean_cons (S_vu_clean _) clean_nil)) (show K.P.funcs[59]? = some Try.f59 from Try.func59) rfl rfl (by decide +kernel) (Nat.le_of_ble_eq_true rfl) ?_
 unfold bytes_Equal at h0
 refine awp_nr [0,1] (fun _ => rfl) fun tz => ?_
 refine awp_regW fun KK hKK => ?_
 refine xw_id ?_
 try simp only [go_sem, Nat.reduceAdd]
 refine hKK _ _ (Wk.refl _ _ _) ?_; clear hKK KK
 refine awp_nr [0,1] (fun _ => rfl) fun tz => ?_
 refine awp_regW fun KK hKK => ?_
 refine xw_id ?_
 try simp only [go_sem, Nat.reduceAdd, vu_len, Nat.mul_one, vu_len, Nat.mul_one]
 refine hKK _ _ (Wk.refl _ _ _) ?_; clear hKK KK
 refine awp_ret1 ?_
 obtain rfl := someInj h0
 refine endW_i ?_
 refine end_ret0 rs59 (rfl) ?_
 try simp only [go_sem, Nat.reduceAdd, fz, nilS, packR, List.take_nil, List.take_length, List.length_map, List.length_append, cond_true, cond_false, Nat.ble_eq, ble_self]
 all_goals first | rfl | (simp only [go_sem, Nat.reduceAdd, fz, nilS, packR, List.take_nil, List.take_length, List.length_map, List.length_append, cond_true, cond_false, Nat.ble_eq, ble_self, List.map_append] <;> rfl)

end Go.AX.Z.TV

/-! (TVW auth prove) -/

set_option linter.unusedSimpArgs false
set_option linter.unusedVariables false
set_option maxHeartbeats 4000000
set_option maxRecDepth 20000
namespace Go.AX.Z.TV
open Go.AX Go.Proofs
attribute [local irreducible] awp xw xop xcall gsp ob xd xdop xcallD seqQ loopQ blkQ endQ


theorem auth_prove_r (a0 : Auth) {r : (Auth × (List Int) × Bool)} (h0 : auth_prove a0 = some r) : SndR K 62 [(.agg (e_Auth a0))] (fun q => (.tup [(.agg (e_Auth r.1)), (.ref (q 0) 0 r.2.1.length 1), (vb r.2.2)])) [(List.map vu r.2.1)] := by
 refine SndR.of_walkW hC (show K.P.funcs[62]? = some Try.f62 from Try.func62) rfl rfl (by decide +kernel) (Nat.le_of_ble_eq_true rfl) ?_
 unfold auth_prove at h0
 refine awp_nr [0] (fun _ => rfl) fun tz => ?_
 refine awp_regW fun KK hKK => ?_
 refine xw_id ?_
 try simp only [go_sem, Nat.reduceAdd]
 refine hKK _ _ (Wk.refl _ _ _) ?_; clear hKK KK
 refine awp_nr [1,2] (fun _ => rfl) fun tz => ?_
 refine awp_regW fun KK hKK => ?_
 refine xw_id ?_
 try simp only [go_sem, Nat.reduceAdd]
 refine hKK _ _ (Wk.refl _ _ _) ?_; clear hKK KK
 refine awp_nr [1,2] (fun _ => rfl) fun tz => ?_
 refine awp_regDW fun KK hKK all hall => ?_
 refine xd_id ?_
 try simp only [List.toList_toArray, List.map_cons, List.map_nil, List.size_toArray, List.length_cons, List.length_nil, Nat.zero_add]
 try simp only [Nat.reduceAdd]
 obtain ⟨x81, bx81, h0⟩ := bnd h0
 iterate 3 ((try simp only [go_sem, ]); try simp only [Nat.reduceAdd])
 refine xcallD_E (auth_coded_e a0.Confirm (IntKind.wrap .i64 (a0.Sync + 1)) a0.Scalar a0.Element a0.OtherScalar a0.OtherElement bx81 _) ?_; try dsimp only
 try refine xd_id ?_
 iterate 3 ((try simp only [go_sem, ]); try simp only [Nat.reduceAdd])
 refine And.intro ?_ (hKK _ _ (Wk.refl _ _ _) ?_)
 ·
  subst hall
  clear hKK KK
  first | decide +kernel | (simp [printsOk, apartP, clash, meet]; try (first | done | decide +kernel | (repeat (first | exact Or.inr (by decide +kernel) | (refine And.intro (Or.inr (by decide +kernel)) ?_)))))
 ·
  clear hKK KK hall all
  refine awp_ret1 ?_
  obtain rfl := someInj h0
  refine endW_i ?_
  refine end_ret0 rs62 (by simp only [go_sem, resV, resAll, resOf, packR, Nat.reduceAdd]; rfl) ?_
  refine Res.mk [] [some 22] rfl (resOU List.not_mem_nil rfl (TmL.of_eq (by first | rfl | (simp only [List.flatMap_append, List.flatMap_cons, List.flatMap_nil, List.map_append, List.map_cons, List.map_nil, List.append_nil, List.nil_append] <;> rfl)) (vu_clean _)) resO0) (Tm.tup (TmL.cons (Tm.clean (Clean.agg (e_Auth_clean _))) (TmL.cons (Tm.refL rfl ?_) (TmL.cons (Tm.v _) TmL.nil))))
  all_goals (first | rfl | (simp only [List.length_append, List.length_take, List.length_drop, List.length_cons, List.length_nil, List.length_modify, List.length_set, Nat.zero_add] <;> omega) | omega)

theorem auth_prove_m (a0 : Auth) {r : (Auth × (List Int) × Bool)} (h0 : auth_prove a0 = some r) : SndM K 62 [(.agg (e_Auth a0))] (fun q => (.tup [(.agg (e_Auth r.1)), (.ref (q 0) 0 r.2.1.length 1), (vb r.2.2)])) [(List.map vu r.2.1)] :=
 fun hs => Snd.of_newM (RenM.tup (RenML.cons (RenM.const (Clean.agg (e_Auth_clean _))) (RenML.cons (RenM.ref 0 0 _ _) (RenML.cons (RenM.const (Clean.v _)) RenML.nil)))) (rows_all_cons (vu_clean _) rows_all_nil) (clean_cons (Clean.agg (e_Auth_clean _)) clean_nil) (auth_prove_r a0 h0) hs

theorem auth_prove_e (a0 : Auth) {r : (Auth × (List Int) × Bool)} (h0 : auth_prove a0 = some r) (fr : Nat) (hs : HS) : SndE K 62 [(.agg (e_Auth a0))] hs fr ⟨(fun q : Nat → Nat => (.tup [(.agg (e_Auth r.1)), (.ref (q 0) 0 r.2.1.length 1), (vb r.2.2)])) fun _ => fr, .new (List.map vu r.2.1)⟩ :=
 SndE.of_res (RenM.tup (RenML.cons (RenM.const (Clean.agg (e_Auth_clean _))) (RenML.cons (RenM.ref 0 0 _ _) (RenML.cons (RenM.const (Clean.v _)) RenML.nil)))) (vu_clean _) (clean_cons (Clean.agg (e_Auth_clean _)) clean_nil) (fun a b h => by simp only [h]) (auth_prove_r a0 h0) hs fr

theorem auth_prove_p (a0 : Auth) {r : (Auth × (List Int) × Bool)} (h0 : auth_prove a0 = some r) : SndP K 62 [(.agg (e_Auth a0))] (.tup [(.agg (e_Auth r.1)), (S_vu r.2.1), (vb r.2.2)]) :=
 SndM.pure (auth_prove_m a0 h0) (Clean.tup (clean_cons (Clean.agg (e_Auth_clean _)) (clean_cons (S_vu_clean _) (clean_cons (Clean.v _) clean_nil)))) (clean_cons (Clean.agg (e_Auth_clean _)) clean_nil) (by simp only [go_sem, newL_n, newL_c, upd_get, fz, nilS, cond_true, cond_false, List.drop_zero, List.take_length, List.length_map, ble_self, Nat.reduceAdd] <;> rfl)

end Go.AX.Z.TV

/-! (TVW auth committed) -/

set_option linter.unusedSimpArgs false
set_option linter.unusedVariables false
set_option maxHeartbeats 4000000
set_option maxRecDepth 20000
namespace Go.AX.Z.TV
open Go.AX Go.Proofs
attribute [local irreducible] awp xw xop xcall gsp ob xd xdop xcallD seqQ loopQ blkQ endQ

def auth_committed_S0 (a0 : Auth) (a2 : Int) (x70 : Int) (x72 : Int) : AS :=
 { objs := (upd (upd (fun _ => .dead) 0 (.live (e_Auth a0))) 1 (.live (e_Auth Auth.z))), next := 2, tmps := (upd (upd (upd (upd (upd (fun _ => .unk) 2 (vi a2)) 3 (.ptr 0 0)) 6 (.ptr 1 0)) 9 (vq x70)) 10 (vq x72)) }

def auth_committed_S1 (d73 : (Auth × List (List Int))) : AS :=
 { objs := (upd (upd (upd (fun _ => .dead) 0 (.live (e_Auth d73.1))) 1 (.live (e_Auth Auth.z))) 2 (.live (List.map S_vu d73.2))), next := 3, tmps := (upd (upd (upd (fun _ => .unk) 3 (.ptr 0 0)) 6 (.ptr 1 0)) 11 (.ref 2 0 ((d73.2).length) 1)) }

def auth_committed_S2 (a0 : Auth) (a2 : Int) (x70 : Int) (x72 : Int) (d75 : Bool) : AS :=
 { objs := (upd (upd (fun _ => .dead) 0 (.live (e_Auth a0))) 1 (.live (e_Auth Auth.z))), next := 2, tmps := (upd (upd (upd (upd (upd (upd (upd (upd (fun _ => .unk) 2 (vi a2)) 3 (.ptr 0 0)) 6 (.ptr 1 0)) 9 (vq x70)) 10 (vq x72)) 11 vnil) 23 (vu a0.Stage)) 25 (vb d75)) }

def auth_committed_S3 (a0 : Auth) (x76 : (Auth × Bool)) (a2 : Int) (d77 : (List (List Int))) : AS :=
 { objs := (upd (upd (upd (upd (fun _ => .dead) 0 (.live (e_Auth a0))) 1 (.live (e_Auth Auth.z))) 2 (.live (List.map S_vu d77))) 3 (.live (e_Auth x76.1))), next := 4, tmps := (upd (upd (upd (upd (upd (fun _ => .unk) 2 (vi a2)) 3 (.ptr 0 0)) 6 (.ptr 1 0)) 11 (.ref 2 0 ((d77).length) 1)) 12 (.ptr 3 0)) }

def auth_committed_S4 (a0 : Auth) (x70 : Int) (x72 : Int) (d79 : Bool) : AS :=
 { objs := (upd (upd (fun _ => .dead) 0 (.live (e_Auth a0))) 1 (.live (e_Auth Auth.z))), next := 2, tmps := (upd (upd (upd (upd (upd (upd (fun _ => .unk) 3 (.ptr 0 0)) 6 (.ptr 1 0)) 9 (vq x70)) 10 (vq x72)) 11 vnil) 52 (vb d79)) }

theorem auth_committed_r (a0 : Auth) (a1 : (List Int)) (a2 : Int) {r : (Auth × (List (List Int)) × Int)} (h0 : auth_committed a0 a1 a2 = some r) : SndR K 61 [(.agg (e_Auth a0)), (S_vu a1), (vi a2)] (fun q => (.tup [(.agg (e_Auth r.1)), (.ref (q 0) 0 r.2.1.length 1), (vi r.2.2)])) [(List.map S_vu r.2.1)] := by
 refine SndR.of_walkW hC (show K.P.funcs[61]? = some Try.f61 from Try.func61) rfl rfl (by decide +kernel) (Nat.le_of_ble_eq_true rfl) ?_
 unfold auth_committed at h0
 refine awp_nr [0,1,2] (fun _ => rfl) fun tz => ?_
 refine awp_regW fun KK hKK => ?_
 refine xw_id ?_
 try simp only [go_sem, Nat.reduceAdd]
 refine hKK _ _ (Wk.refl _ _ _) ?_; clear hKK KK
 refine awp_nr [1,2,3,6] (fun _ => rfl) fun tz => ?_
 refine awp_regW fun KK hKK => ?_
 refine xw_id ?_
 obtain ⟨x69, bx69, h0⟩ := bnd h0
 have bx69 := chk_some bx69
 simp only [Bool.and_eq_true, decide_eq_true_eq] at bx69
 have gx69_0 := bx69
 have g1 : ((a1.length : Int) - 1).toNat = (List.drop 1 a1).length := by simp only [List.length_take, List.length_drop]; omega
 try simp only [Int.sub_zero] at g1
 obtain ⟨x70, bx70, h0⟩ := bnd h0
 try simp only [go_sem, Nat.reduceAdd, gx69_0, g1, Int.sub_zero]
 refine xcall_p (auth_get_p (List.drop 1 a1) bx70) ?_; try dsimp only
 try refine xw_id ?_
 obtain ⟨x71, bx71, h0⟩ := bnd h0
 have bx71 := chk_some bx71
 simp only [Bool.and_eq_true, decide_eq_true_eq] at bx71
 have gx71_0 := bx71
 have g2 : ((a1.length : Int) - 9).toNat = (List.drop 9 a1).length := by simp only [List.length_take, List.length_drop]; omega
 try simp only [Int.sub_zero] at g2
 obtain ⟨x72, bx72, h0⟩ := bnd h0
 try simp only [go_sem, Nat.reduceAdd, gx69_0, g1, Int.sub_zero, gx71_0, g2, Int.sub_zero]
 refine xcall_p (auth_get_p (List.drop 9 a1) bx72) ?_; try dsimp only
 try refine xw_id ?_
 try simp only [go_sem, Nat.reduceAdd, gx69_0, g1, Int.sub_zero, gx71_0, g2, Int.sub_zero]
 refine hKK _ (auth_committed_S0 a0 a2 x70 x72) (Wk.canonD [] [] [some 0, some 1] rfl trivial rfl (tmOU 1 (tmOU 0 tmO0 rfl List.not_mem_nil rfl (TmL.clean (e_Auth_clean _))) rfl List.not_mem_nil rfl (TmL.clean (e_Auth_clean _))) (tmAllU 10 (tmAllU 9 (tmAllU 6 (tmAllU 3 (tmAllU 2 tmAll0 (Tm.v _)) (Tm.ptr rfl)) (Tm.ptr rfl)) (Tm.v _)) (Tm.v _))) ?_; clear hKK KK
 unfold auth_committed_S0
 refine awp_nr [2,3,6,9,10] (fun _ => rfl) fun tz => ?_
 refine awp_regW fun KK hKK => ?_
 refine xw_id ?_
 try simp only [go_sem, Nat.reduceAdd]
 refine hKK _ _ (Wk.refl _ _ _) ?_; clear hKK KK
 refine awp_assoc ?_
 refine awp_nr [2,3,6,9,10,11] (fun _ => rfl) fun tz => ?_
 refine awp_regW fun KK hKK => ?_
 refine xw_id ?_
 try simp only [go_sem, Nat.reduceAdd]
 refine hKK _ _ (Wk.refl _ _ _) ?_; clear hKK KK
 obtain ⟨o74, hi3, h0⟩ := bnd h0
 refine awp_cut (fun d73 : (Auth × List (List Int)) => o74 = Ex.go d73) (fun d73 : (Auth × List (List Int)) => auth_committed_S1 d73) ?_ ?_
 ·
  refine awp_block1 ?_
  refine awp_assoc ?_
  refine awp_nr [2,3,6,9,10,11,23] (fun _ => rfl) fun tz => ?_
  refine awp_regW fun KK hKK => ?_
  refine xw_id ?_
  try simp only [go_sem, Nat.reduceAdd]
  refine hKK _ _ (Wk.refl _ _ _) ?_; clear hKK KK
  obtain ⟨d75, hi4, hi3⟩ := bnd hi3
  refine awp_cut (fun z => d75 = z) (fun d75 : Bool => auth_committed_S2 a0 a2 x70 x72 d75) ?_ ?_
  ·
   refine awp_cond1 (b := (a0.Stage == 0)) rfl (fun h5 => ?_) (fun h5 => ?_)
   ·
    have hi4 := cT hi4 h5
    refine awp_skip1 ?_
    refine sq_n ?_
    obtain rfl := someInj hi4
    exact ⟨_, rfl, (Wk.canonD [] [] [some 0, some 1] rfl trivial rfl (tmOU 1 (tmOU 0 tmO0 rfl List.not_mem_nil rfl (TmL.clean (e_Auth_clean _))) rfl List.not_mem_nil rfl (TmL.clean (e_Auth_clean _))) (tmAllU 25 (tmAllU 23 (tmAllU 11 (tmAllU 10 (tmAllU 9 (tmAllU 6 (tmAllU 3 (tmAllU 2 tmAll0 (Tm.v _)) (Tm.ptr rfl)) (Tm.ptr rfl)) (Tm.v _)) (Tm.v _)) (Tm.v _)) (Tm.v _)) (Tm.v _)))⟩
   ·
    have hi4 := cF hi4 h5
    refine awp_nr1 [2,3,6,9,10,11,23] (fun _ => rfl) fun tz => ?_
    refine awp_reg1 fun KK hKK => ?_
    refine xw_id ?_
    try simp only [go_sem, Nat.reduceAdd]
    refine hKK _ ?_; clear hKK KK
    refine sq_n ?_
    obtain rfl := someInj hi4
    exact ⟨_, rfl, (Wk.canonD [] [] [some 0, some 1] rfl trivial rfl (tmOU 1 (tmOU 0 tmO0 rfl List.not_mem_nil rfl (TmL.clean (e_Auth_clean _))) rfl List.not_mem_nil rfl (TmL.clean (e_Auth_clean _))) (tmAllU 25 (tmAllU 23 (tmAllU 11 (tmAllU 10 (tmAllU 9 (tmAllU 6 (tmAllU 3 (tmAllU 2 tmAll0 (Tm.v _)) (Tm.ptr rfl)) (Tm.ptr rfl)) (Tm.v _)) (Tm.v _)) (Tm.v _)) (Tm.v _)) (Tm.v _)))⟩
  ·
   rintro _ rfl
   clear hi4
   unfold auth_committed_S2
   refine awp_cond1 (b := d75) rfl (fun h6 => ?_) (fun h6 => ?_)
   ·
    have hi3 := cT hi3 h6
    refine awp_nr [2,3,6,9,10,11] (fun _ => rfl) fun tz => ?_
    refine awp_regW fun KK hKK => ?_
    refine xw_id ?_
    obtain ⟨x76, bx76, hi3⟩ := bnd hi3
    try simp only [go_sem, Nat.reduceAdd]
    refine xcall_p (auth_keyed_p a0 x70 x72 bx76) ?_; try dsimp only
    try refine xw_id ?_
    try simp only [go_sem, Nat.reduceAdd]
    refine hKK _ _ (Wk.refl _ _ _) ?_; clear hKK KK
    refine awp_assoc ?_
    refine awp_nr [2,3,6,11,12,13] (fun _ => rfl) fun tz => ?_
    refine awp_regW fun KK hKK => ?_
    refine xw_id ?_
    try simp only [go_sem, Nat.reduceAdd]
    refine hKK _ _ (Wk.refl _ _ _) ?_; clear hKK KK
    refine awp_cond (b := (!x76.2)) rfl (fun h7 => ?_) (fun h7 => ?_)
    ·
     have hi3 := cT hi3 h7
     refine awp_assoc ?_
     refine awp_nr [3,6] (fun _ => rfl) fun tz => ?_
     refine awp_regW fun KK hKK => ?_
     refine xw_id ?_
     try simp only [go_sem, Nat.reduceAdd]
     refine hKK _ _ (Wk.refl _ _ _) ?_; clear hKK KK
     refine awp_ret ?_
     refine bq_r ?_
     refine sq_r ?_
     obtain rfl := someInj hi3
     obtain rfl := Ex.k_ret h0
     refine endW_i ?_
     refine end_ret0 rs61 (by simp only [go_sem, resV, resAll, resOf, packR, Nat.reduceAdd]; rfl) ?_
     refine Res.mk [] [none] rfl (resON resO0) (Tm.tup (TmL.cons (Tm.clean (Clean.agg (e_Auth_clean _))) (TmL.cons (Tm.thaw _ _ _) (TmL.cons (Tm.v _) TmL.nil))))
    ·
     have hi3 := cF hi3 h7
     refine awp_skip ?_
     refine awp_assoc ?_
     refine awp_nr [2,3,6,11,12] (fun _ => rfl) fun tz => ?_
     refine awp_regW fun KK hKK => ?_
     refine xw_id ?_
     try simp only [go_sem, Nat.reduceAdd]
     refine hKK _ _ (Wk.refl _ _ _) ?_; clear hKK KK
     obtain ⟨d77, hi8, hi3⟩ := bnd hi3
     refine awp_cut (fun z => d77 = z) (fun d77 : (List (List Int)) => auth_committed_S3 a0 x76 a2 d77) ?_ ?_
     ·
      refine awp_cond1 (b := (a0.Stage == 0)) rfl (fun h9 => ?_) (fun h9 => ?_)
      ·
       have hi8 := cT hi8 h9
       refine awp_nr1 [2,3,6,11,12] (fun _ => rfl) fun tz => ?_
       refine awp_reg1 fun KK hKK => ?_
       refine xw_id ?_
       obtain ⟨x78, bx78, hi8⟩ := bnd hi8
       try simp only [go_sem, Nat.reduceAdd]
       refine xcall_p (auth_commit_p a0 bx78) ?_; try dsimp only
       try refine xw_id ?_
       try simp only [go_sem, Nat.reduceAdd, List.length_map]
       refine hKK _ ?_; clear hKK KK
       refine sq_n ?_
       obtain rfl := someInj hi8
       exact ⟨_, rfl, (by refine Wk.canonD [] [] [some 0, some 1, some 21, some 9] rfl trivial rfl (tmOU 3 (tmOU 2 (tmOU 1 (tmOU 0 tmO0 rfl List.not_mem_nil rfl (TmL.clean (e_Auth_clean _))) rfl List.not_mem_nil rfl (TmL.clean (e_Auth_clean _))) rfl List.not_mem_nil rfl (TmL.of_eq (by first | rfl | (simp only [List.flatMap_append, List.flatMap_cons, List.flatMap_nil, List.map_append, List.map_cons, List.map_nil, List.append_nil, List.nil_append] <;> rfl)) (cS_vu _))) rfl List.not_mem_nil rfl (TmL.clean (e_Auth_clean _))) (tmAllU 12 (tmAllU 11 (tmAllU 6 (tmAllU 3 (tmAllU 2 tmAll0 (Tm.v _)) (Tm.ptr rfl)) (Tm.ptr rfl)) (Tm.refL rfl ?_)) (Tm.ptr rfl)); all_goals (first | rfl | (simp only [List.length_append, List.length_take, List.length_drop, List.length_cons, List.length_nil, List.length_modify, List.length_set, Nat.zero_add] <;> omega) | omega))⟩
      ·
       have hi8 := cF hi8 h9
       refine awp_skip1 ?_
       refine sq_n ?_
       obtain rfl := someInj hi8
       exact ⟨_, rfl, (Wk.canonD [] [] [some 0, some 1, none, some 9] rfl trivial rfl (tmOU 3 (tmON 2 (tmOU 1 (tmOU 0 tmO0 rfl List.not_mem_nil rfl (TmL.clean (e_Auth_clean _))) rfl List.not_mem_nil rfl (TmL.clean (e_Auth_clean _))) rfl) rfl List.not_mem_nil rfl (TmL.clean (e_Auth_clean _))) (tmAllU 12 (tmAllU 11 (tmAllU 6 (tmAllU 3 (tmAllU 2 tmAll0 (Tm.v _)) (Tm.ptr rfl)) (Tm.ptr rfl)) (Tm.thaw _ _ _)) (Tm.ptr rfl)))⟩
     ·
      rintro _ rfl
      clear hi8
      unfold auth_committed_S3
      refine awp_nr [2,3,6,11,12] (fun _ => rfl) fun tz => ?_
      refine awp_regW fun KK hKK => ?_
      refine xw_id ?_
      try simp only [go_sem, Nat.reduceAdd]
      refine hKK _ _ (Wk.refl _ _ _) ?_; clear hKK KK
      refine awp_nr1 [2,3,6,11] (fun _ => rfl) fun tz => ?_
      refine awp_reg1 fun KK hKK => ?_
      refine xw_id ?_
      try simp only [go_sem, Nat.reduceAdd]
      refine hKK _ ?_; clear hKK KK
      refine bq_n ?_
      refine sq_n ?_
      obtain rfl := someInj hi3
      exact ⟨_, rfl, (by refine Wk.canonD [] [] [some 0, some 1, some 2] rfl trivial rfl (tmOU 2 (tmOU 1 (tmOU 0 tmO0 rfl List.not_mem_nil rfl (TmL.clean (e_Auth_clean _))) rfl List.not_mem_nil rfl (TmL.clean (e_Auth_clean _))) rfl List.not_mem_nil rfl (TmL.of_eq (by first | rfl | (simp only [List.flatMap_append, List.flatMap_cons, List.flatMap_nil, List.map_append, List.map_cons, List.map_nil, List.append_nil, List.nil_append] <;> rfl)) (cS_vu _))) (tmAllU 11 (tmAllU 6 (tmAllU 3 tmAll0 (Tm.ptr rfl)) (Tm.ptr rfl)) (Tm.refL rfl ?_)); all_goals (first | rfl | (simp only [List.length_append, List.length_take, List.length_drop, List.length_cons, List.length_nil, List.length_modify, List.length_set, Nat.zero_add] <;> omega) | omega))⟩
   ·
    have hi3 := cF hi3 h6
    refine awp_assoc ?_
    refine awp_nr [3,6,9,10,11,23] (fun _ => rfl) fun tz => ?_
    refine awp_regW fun KK hKK => ?_
    refine xw_id ?_
    try simp only [go_sem, Nat.reduceAdd]
    refine hKK _ _ (Wk.refl _ _ _) ?_; clear hKK KK
    obtain ⟨d79, hi10, hi3⟩ := bnd hi3
    refine awp_cut (fun z => d79 = z) (fun d79 : Bool => auth_committed_S4 a0 x70 x72 d79) ?_ ?_
    ·
     refine awp_cond1 (b := (a0.Stage == 2)) rfl (fun h11 => ?_) (fun h11 => ?_)
     ·
      have hi10 := cT hi10 h11
      refine awp_skip1 ?_
      refine sq_n ?_
      obtain rfl := someInj hi10
      exact ⟨_, rfl, (Wk.canonD [] [] [some 0, some 1] rfl trivial rfl (tmOU 1 (tmOU 0 tmO0 rfl List.not_mem_nil rfl (TmL.clean (e_Auth_clean _))) rfl List.not_mem_nil rfl (TmL.clean (e_Auth_clean _))) (tmAllU 52 (tmAllU 11 (tmAllU 10 (tmAllU 9 (tmAllU 6 (tmAllU 3 tmAll0 (Tm.ptr rfl)) (Tm.ptr rfl)) (Tm.v _)) (Tm.v _)) (Tm.v _)) (Tm.v _)))⟩
     ·
      have hi10 := cF hi10 h11
      refine awp_nr1 [3,6,9,10,11,23] (fun _ => rfl) fun tz => ?_
      refine awp_reg1 fun KK hKK => ?_
      refine xw_id ?_
      try simp only [go_sem, Nat.reduceAdd]
      refine hKK _ ?_; clear hKK KK
      refine sq_n ?_
      obtain rfl := someInj hi10
      exact ⟨_, rfl, (Wk.canonD [] [] [some 0, some 1] rfl trivial rfl (tmOU 1 (tmOU 0 tmO0 rfl List.not_mem_nil rfl (TmL.clean (e_Auth_clean _))) rfl List.not_mem_nil rfl (TmL.clean (e_Auth_clean _))) (tmAllU 52 (tmAllU 11 (tmAllU 10 (tmAllU 9 (tmAllU 6 (tmAllU 3 tmAll0 (Tm.ptr rfl)) (Tm.ptr rfl)) (Tm.v _)) (Tm.v _)) (Tm.v _)) (Tm.v _)))⟩
    ·
     rintro _ rfl
     clear hi10
     unfold auth_committed_S4
     refine awp_cond1 (b := d79) rfl (fun h12 => ?_) (fun h12 => ?_)
     ·
      have hi3 := cT hi3 h12
      refine awp_assoc ?_
      refine awp_nr [3,6,9,10,11] (fun _ => rfl) fun tz => ?_
      refine awp_regW fun KK hKK => ?_
      refine xw_id ?_
      refine xw_stop 5 (by (try simp only [go_sem]); rfl) (by (try simp only [go_sem]); rfl) (by rfl) fun K1 hK1 => ?_
      refine xw_id ?_
      try simp only [go_sem, Nat.reduceAdd]
      refine hK1 _ ?_; clear hK1 K1
      refine xw_cut 5 [(3, (.ptr 0 0)), (6, (.ptr 1 0)), (11, vnil), (64, (vb ((x70 != a0.OtherScalar) || (x72 != a0.OtherElement))))] (by (try simp only [go_sem]); rfl) (by (try simp only [go_sem]); rfl) (by rfl) (fun K1 hK1 => ?_) fun tz => ?_
      ·
       refine xw_id ?_
       rcases Bool.eq_false_or_eq_true (x70 != a0.OtherScalar) with h13 | h13
       ·
        try simp only [go_sem, Nat.reduceAdd, h13]
        exact hK1 _ ⟨rfl, rfl, rfl, rfl, (by first | rfl | (rw [h13]; rfl) | (simp only [h13, Bool.true_and, Bool.false_and, Bool.true_or, Bool.false_or, cond_true, cond_false] <;> rfl)), trivial⟩
       ·
        try simp only [go_sem, Nat.reduceAdd, h13]
        exact hK1 _ ⟨rfl, rfl, rfl, rfl, (by first | rfl | (rw [h13]; rfl) | (simp only [h13, Bool.true_and, Bool.false_and, Bool.true_or, Bool.false_or, cond_true, cond_false] <;> rfl)), trivial⟩
      ·
       refine xw_id ?_
       try simp only [go_sem, Nat.reduceAdd]
       refine hKK _ _ (Wk.refl _ _ _) ?_; clear hKK KK
       refine awp_cond (b := ((x70 != a0.OtherScalar) || (x72 != a0.OtherElement))) rfl (fun h14 => ?_) (fun h14 => ?_)
       ·
        have hi3 := cT hi3 h14
        refine awp_assoc ?_
        refine awp_nr [3,6] (fun _ => rfl) fun tz => ?_
        refine awp_regW fun KK hKK => ?_
        refine xw_id ?_
        try simp only [go_sem, Nat.reduceAdd]
        refine hKK _ _ (Wk.refl _ _ _) ?_; clear hKK KK
        refine awp_ret ?_
        refine bq_r ?_
        refine sq_r ?_
        obtain rfl := someInj hi3
        obtain rfl := Ex.k_ret h0
        refine endW_i ?_
        refine end_ret0 rs61 (by simp only [go_sem, resV, resAll, resOf, packR, Nat.reduceAdd]; rfl) ?_
        refine Res.mk [] [none] rfl (resON resO0) (Tm.tup (TmL.cons (Tm.clean (Clean.agg (e_Auth_clean _))) (TmL.cons (Tm.thaw _ _ _) (TmL.cons (Tm.v _) TmL.nil))))
       ·
        have hi3 := cF hi3 h14
        refine awp_skip ?_
        refine awp_nr [3,6,11] (fun _ => rfl) fun tz => ?_
        refine awp_regW fun KK hKK => ?_
        refine xw_id ?_
        try simp only [go_sem, Nat.reduceAdd]
        refine hKK _ _ (Wk.refl _ _ _) ?_; clear hKK KK
        refine awp_cond1 (b := (a0.Stage == 2)) rfl (fun h15 => ?_) (fun h15 => ?_)
        ·
         have hi3 := cT hi3 h15
         refine awp_nr1 [3,6,11] (fun _ => rfl) fun tz => ?_
         refine awp_reg1 fun KK hKK => ?_
         refine xw_id ?_
         obtain ⟨x80, bx80, hi3⟩ := bnd hi3
         try simp only [go_sem, Nat.reduceAdd]
         refine xcall_p (auth_commit_p a0 bx80) ?_; try dsimp only
         try refine xw_id ?_
         try simp only [go_sem, Nat.reduceAdd, List.length_map]
         refine hKK _ ?_; clear hKK KK
         refine bq_n ?_
         refine sq_n ?_
         obtain rfl := someInj hi3
         exact ⟨_, rfl, (by refine Wk.canonD [] [] [some 0, some 1, some 19] rfl trivial rfl (tmOU 2 (tmOU 1 (tmOU 0 tmO0 rfl List.not_mem_nil rfl (TmL.clean (e_Auth_clean _))) rfl List.not_mem_nil rfl (TmL.clean (e_Auth_clean _))) rfl List.not_mem_nil rfl (TmL.of_eq (by first | rfl | (simp only [List.flatMap_append, List.flatMap_cons, List.flatMap_nil, List.map_append, List.map_cons, List.map_nil, List.append_nil, List.nil_append] <;> rfl)) (cS_vu _))) (tmAllU 11 (tmAllU 6 (tmAllU 3 tmAll0 (Tm.ptr rfl)) (Tm.ptr rfl)) (Tm.refL rfl ?_)); all_goals (first | rfl | (simp only [List.length_append, List.length_take, List.length_drop, List.length_cons, List.length_nil, List.length_modify, List.length_set, Nat.zero_add] <;> omega) | omega))⟩
        ·
         have hi3 := cF hi3 h15
         refine awp_skip1 ?_
         refine bq_n ?_
         refine sq_n ?_
         obtain rfl := someInj hi3
         exact ⟨_, rfl, (Wk.canonD [] [] [some 0, some 1, none] rfl trivial rfl (tmON 2 (tmOU 1 (tmOU 0 tmO0 rfl List.not_mem_nil rfl (TmL.clean (e_Auth_clean _))) rfl List.not_mem_nil rfl (TmL.clean (e_Auth_clean _))) rfl) (tmAllU 11 (tmAllU 6 (tmAllU 3 tmAll0 (Tm.ptr rfl)) (Tm.ptr rfl)) (Tm.thaw _ _ _)))⟩
     ·
      have hi3 := cF hi3 h12
      refine awp_nr [3,6] (fun _ => rfl) fun tz => ?_
      refine awp_regW fun KK hKK => ?_
      refine xw_id ?_
      try simp only [go_sem, Nat.reduceAdd]
      refine hKK _ _ (Wk.refl _ _ _) ?_; clear hKK KK
      refine awp_ret1 ?_
      refine bq_r ?_
      refine sq_r ?_
      obtain rfl := someInj hi3
      obtain rfl := Ex.k_ret h0
      refine endW_i ?_
      refine end_ret0 rs61 (by simp only [go_sem, resV, resAll, resOf, packR, Nat.reduceAdd]; rfl) ?_
      refine Res.mk [] [none] rfl (resON resO0) (Tm.tup (TmL.cons (Tm.clean (Clean.agg (e_Auth_clean _))) (TmL.cons (Tm.thaw _ _ _) (TmL.cons (Tm.v _) TmL.nil))))
 ·
  rintro d73 rfl
  have h0 := Ex.k_go h0
  clear hi3
  unfold auth_committed_S1
  refine awp_nr [3,6,11] (fun _ => rfl) fun tz => ?_
  refine awp_regW fun KK hKK => ?_
  refine xw_id ?_
  obtain ⟨x81, bx81, h0⟩ := bnd h0
  try simp only [go_sem, Nat.reduceAdd]
  refine xcall_p (auth_prove_p d73.1 bx81) ?_; try dsimp only
  try refine xw_id ?_
  try simp only [go_sem, Nat.reduceAdd]
  refine hKK _ _ (Wk.refl _ _ _) ?_; clear hKK KK
  refine awp_assoc ?_
  refine awp_nr [3,6,11,14,15] (fun _ => rfl) fun tz => ?_
  refine awp_regW fun KK hKK => ?_
  refine xw_id ?_
  try simp only [go_sem, Nat.reduceAdd]
  refine hKK _ _ (Wk.refl _ _ _) ?_; clear hKK KK
  refine awp_cond (b := (!x81.2.2)) rfl (fun h16 => ?_) (fun h16 => ?_)
  ·
   have h0 := cT h0 h16
   refine awp_assoc ?_
   refine awp_nr [3,6] (fun _ => rfl) fun tz => ?_
   refine awp_regW fun KK hKK => ?_
   refine xw_id ?_
   try simp only [go_sem, Nat.reduceAdd]
   refine hKK _ _ (Wk.refl _ _ _) ?_; clear hKK KK
   refine awp_ret ?_
   obtain rfl := someInj h0
   refine endW_i ?_
   refine end_ret0 rs61 (by simp only [go_sem, resV, resAll, resOf, packR, Nat.reduceAdd]; rfl) ?_
   refine Res.mk [] [none] rfl (resON resO0) (Tm.tup (TmL.cons (Tm.clean (Clean.agg (e_Auth_clean _))) (TmL.cons (Tm.thaw _ _ _) (TmL.cons (Tm.v _) TmL.nil))))
  ·
   have h0 := cF h0 h16
   refine awp_skip ?_
   refine awp_nr [3,6,11,14] (fun _ => rfl) fun tz => ?_
   refine awp_regDW fun KK hKK all hall => ?_
   refine xd_id ?_
   try simp only [List.toList_toArray, List.map_cons, List.map_nil, List.size_toArray, List.length_cons, List.length_nil, Nat.zero_add]
   try simp only [Nat.reduceAdd]
   obtain ⟨x82, bx82, h0⟩ := bnd h0
   have bx82 := chk_some bx82
   simp only [Bool.and_eq_true, decide_eq_true_eq] at bx82
   have gx82_0 := bx82
   iterate 3 ((try simp only [go_sem, List.length_map, gx82_0]); try simp only [Nat.reduceAdd])
   refine And.intro ?_ (hKK _ _ (Wk.refl _ _ _) ?_)
   ·
    subst hall
    clear hKK KK
    first | decide +kernel | (simp [printsOk, apartP, clash, meet]; try (first | done | decide +kernel | (repeat (first | exact Or.inr (by decide +kernel) | (refine And.intro (Or.inr (by decide +kernel)) ?_)))))
   ·
    clear hKK KK hall all
    refine awp_ret1 ?_
    obtain rfl := someInj h0
    refine endW_i ?_
    refine end_ret0 rs61 (by simp only [go_sem, resV, resAll, resOf, packR, Nat.reduceAdd]; rfl) ?_
    refine Res.mk [] [some 18] rfl (resOU List.not_mem_nil rfl (TmL.of_eq (by first | rfl | (simp only [List.flatMap_append, List.flatMap_cons, List.flatMap_nil, List.map_append, List.map_cons, List.map_nil, List.append_nil, List.nil_append] <;> rfl)) (cS_vu _)) resO0) (Tm.tup (TmL.cons (Tm.clean (Clean.agg (e_Auth_clean _))) (TmL.cons (Tm.refL rfl ?_) (TmL.cons (Tm.v _) TmL.nil))))
    all_goals (first | rfl | (simp only [List.length_append, List.length_take, List.length_drop, List.length_cons, List.length_nil, List.length_modify, List.length_set, Nat.zero_add] <;> omega) | omega)

theorem auth_committed_m (a0 : Auth) (a1 : (List Int)) (a2 : Int) {r : (Auth × (List (List Int)) × Int)} (h0 : auth_committed a0 a1 a2 = some r) : SndM K 61 [(.agg (e_Auth a0)), (S_vu a1), (vi a2)] (fun q => (.tup [(.agg (e_Auth r.1)), (.ref (q 0) 0 r.2.1.length 1), (vi r.2.2)])) [(List.map S_vu r.2.1)] :=
 fun hs => Snd.of_newM (RenM.tup (RenML.cons (RenM.const (Clean.agg (e_Auth_clean _))) (RenML.cons (RenM.ref 0 0 _ _) (RenML.cons (RenM.const (Clean.v _)) RenML.nil)))) (rows_all_cons (cS_vu _) rows_all_nil) (clean_cons (Clean.agg (e_Auth_clean _)) (clean_cons (S_vu_clean _) (clean_cons (Clean.v _) clean_nil))) (auth_committed_r a0 a1 a2 h0) hs

theorem auth_committed_e (a0 : Auth) (a1 : (List Int)) (a2 : Int) {r : (Auth × (List (List Int)) × Int)} (h0 : auth_committed a0 a1 a2 = some r) (fr : Nat) (hs : HS) : SndE K 61 [(.agg (e_Auth a0)), (S_vu a1), (vi a2)] hs fr ⟨(fun q : Nat → Nat => (.tup [(.agg (e_Auth r.1)), (.ref (q 0) 0 r.2.1.length 1), (vi r.2.2)])) fun _ => fr, .new (List.map S_vu r.2.1)⟩ :=
 SndE.of_res (RenM.tup (RenML.cons (RenM.const (Clean.agg (e_Auth_clean _))) (RenML.cons (RenM.ref 0 0 _ _) (RenML.cons (RenM.const (Clean.v _)) RenML.nil)))) (cS_vu _) (clean_cons (Clean.agg (e_Auth_clean _)) (clean_cons (S_vu_clean _) (clean_cons (Clean.v _) clean_nil))) (fun a b h => by simp only [h]) (auth_committed_r a0 a1 a2 h0) hs fr

theorem auth_committed_p (a0 : Auth) (a1 : (List Int)) (a2 : Int) {r : (Auth × (List (List Int)) × Int)} (h0 : auth_committed a0 a1 a2 = some r) : SndP K 61 [(.agg (e_Auth a0)), (S_vu a1), (vi a2)] (.tup [(.agg (e_Auth r.1)), (S_S_vu r.2.1), (vi r.2.2)]) :=
 SndM.pure (auth_committed_m a0 a1 a2 h0) (Clean.tup (clean_cons (Clean.agg (e_Auth_clean _)) (clean_cons (S_S_vu_clean _) (clean_cons (Clean.v _) clean_nil)))) (clean_cons (Clean.agg (e_Auth_clean _)) (clean_cons (S_vu_clean _) (clean_cons (Clean.v _) clean_nil))) (by simp only [go_sem, newL_n, newL_c, upd_get, fz, nilS, cond_true, cond_false, List.drop_zero, List.take_length, List.length_map, ble_self, Nat.reduceAdd] <;> rfl)

end Go.AX.Z.TV

/-! (TVW auth Handle) -/

set_option linter.unusedSimpArgs false
set_option linter.unusedVariables false
set_option maxHeartbeats 4000000
set_option maxRecDepth 20000
namespace Go.AX.Z.TV
open Go.AX Go.Proofs
attribute [local irreducible] awp xw xop xcall gsp ob xd xdop xcallD seqQ loopQ blkQ endQ

def auth_Handle_S0 (a0 : Auth) (a1 : (List Int)) (a2 : Int) (x52 : Int) : AS :=
 { objs := (upd (upd (fun _ => .dead) 0 (.live (e_Auth a0))) 1 (.live (e_Auth Auth.z))), next := 2, tmps := (upd (upd (upd (upd (upd (upd (fun _ => .unk) 1 (.imm (List.map vu a1) a1.length)) 2 (vi a2)) 3 (.ptr 0 0)) 6 (.ptr 1 0)) 9 (.clo 58 [] [])) 11 (vi x52)) }

def auth_Handle_S1 (a0 : Auth) (a2 : Int) (x57 : Int) : AS :=
 { objs := (upd (upd (fun _ => .dead) 0 (.live (e_Auth { a0 with Due := IntKind.wrap .i64 (a2 + 200000), HasToken := true, Token := x57, Tries := IntKind.wrap .i64 (a0.Tries + 1) }))) 1 (.live (e_Auth Auth.z))), next := 2, tmps := (upd (upd (fun _ => .unk) 3 (.ptr 0 0)) 6 (.ptr 1 0)) }

theorem auth_Handle_p (a0 : Auth) (a1 : (List Int)) (a2 : Int) {r : (Auth × (List (List Int)) × Int)} (h0 : auth_Handle a0 a1 a2 = some r) : SndP K 31 [(.agg (e_Auth a0)), (S_vu a1), (vi a2)] (.tup [(.agg (e_Auth r.1)), (S_S_vu r.2.1), (vi r.2.2)]) := by
 refine SndP.of_walkW hC (Clean.tup (clean_cons (Clean.agg (e_Auth_clean _)) (clean_cons (S_S_vu_clean _) (clean_cons (Clean.v _) clean_nil)))) (clean_cons (Clean.agg (e_Auth_clean _)) (clean_cons (S_vu_clean _) (clean_cons (Clean.v _) clean_nil))) (show K.P.funcs[31]? = some Try.f31 from Try.func31) rfl rfl (by decide +kernel) (Nat.le_of_ble_eq_true rfl) ?_
 unfold auth_Handle at h0
 refine awp_nr [0,1,2] (fun _ => rfl) fun tz => ?_
 refine awp_regW fun KK hKK => ?_
 refine xw_id ?_
 try simp only [go_sem, ↓iop_and, ↓iop_or, ↓iop_xor, ↓iop_andn, Nat.reduceAdd]
 refine hKK _ _ (Wk.refl _ _ _) ?_; clear hKK KK
 refine awp_nr [1,2,3,6] (fun _ => rfl) fun tz => ?_
 refine awp_regW fun KK hKK => ?_
 refine xw_id ?_
 try simp only [go_sem, ↓iop_and, ↓iop_or, ↓iop_xor, ↓iop_andn, Nat.reduceAdd]
 refine hKK _ _ (Wk.refl _ _ _) ?_; clear hKK KK
 refine awp_assoc ?_
 refine awp_nr [1,2,3,6,9] (fun _ => rfl) fun tz => ?_
 refine awp_regW fun KK hKK => ?_
 refine xw_id ?_
 obtain ⟨x50, bx50, h0⟩ := bnd h0
 try simp only [go_sem, ↓iop_and, ↓iop_or, ↓iop_xor, ↓iop_andn, Nat.reduceAdd]
 refine xcall_p (auth_checked_p a0 a2 bx50) ?_; try dsimp only
 try refine xw_id ?_
 try simp only [go_sem, ↓iop_and, ↓iop_or, ↓iop_xor, ↓iop_andn, Nat.reduceAdd]
 refine hKK _ _ (Wk.refl _ _ _) ?_; clear hKK KK
 refine awp_assoc ?_
 refine awp_nr [1,2,3,6,9,10] (fun _ => rfl) fun tz => ?_
 refine awp_regW fun KK hKK => ?_
 refine xw_id ?_
 try simp only [go_sem, ↓iop_and, ↓iop_or, ↓iop_xor, ↓iop_andn, Nat.reduceAdd]
 refine hKK _ _ (Wk.refl _ _ _) ?_; clear hKK KK
 refine awp_cond (b := (x50 != 0)) rfl (fun h1 => ?_) (fun h1 => ?_)
 ·
  have h0 := cT h0 h1
  refine awp_assoc ?_
  refine awp_nr [6,9,10] (fun _ => rfl) fun tz => ?_
  refine awp_regW fun KK hKK => ?_
  refine xw_id ?_
  obtain ⟨x51, bx51, h0⟩ := bnd h0
  try simp only [go_sem, ↓iop_and, ↓iop_or, ↓iop_xor, ↓iop_andn, Nat.reduceAdd]
  refine xcall_p (auth_Handle_1_p x50 bx51) ?_; try dsimp only
  try refine xw_id ?_
  try simp only [go_sem, ↓iop_and, ↓iop_or, ↓iop_xor, ↓iop_andn, Nat.reduceAdd]
  refine hKK _ _ (Wk.refl _ _ _) ?_; clear hKK KK
  refine awp_ret ?_
  obtain rfl := someInj h0
  refine endW_i ?_
  refine end_ret0 rs31 (by simp only [go_sem, resV, resAll, resOf, packR, ↓iop_and, ↓iop_or, ↓iop_xor, ↓iop_andn, Nat.reduceAdd]; rfl) ?_
  try simp only [go_sem, ↓iop_and, ↓iop_or, ↓iop_xor, ↓iop_andn, Nat.reduceAdd, fz, nilS, packR, List.take_nil, List.take_length, List.length_map, List.length_append, cond_true, cond_false, Nat.ble_eq, ble_self]
  all_goals first | rfl | (simp only [go_sem, ↓iop_and, ↓iop_or, ↓iop_xor, ↓iop_andn, Nat.reduceAdd, fz, nilS, packR, List.take_nil, List.take_length, List.length_map, List.length_append, cond_true, cond_false, Nat.ble_eq, ble_self, List.map_append] <;> rfl)
 ·
  have h0 := cF h0 h1
  refine awp_skip ?_
  refine awp_assoc ?_
  refine awp_nr [1,2,3,6,9] (fun _ => rfl) fun tz => ?_
  refine awp_regW fun KK hKK => ?_
  refine xw_id ?_
  obtain ⟨x52, bx52, h0⟩ := bnd h0
  try simp only [go_sem, ↓iop_and, ↓iop_or, ↓iop_xor, ↓iop_andn, Nat.reduceAdd]
  refine xcall_p (auth_shaped_p a1 bx52) ?_; try dsimp only
  try refine xw_id ?_
  try simp only [go_sem, ↓iop_and, ↓iop_or, ↓iop_xor, ↓iop_andn, Nat.reduceAdd]
  refine hKK _ (auth_Handle_S0 a0 a1 a2 x52) (Wk.canonD [] [] [some 0, some 1] rfl trivial rfl (tmOU 1 (tmOU 0 tmO0 rfl List.not_mem_nil rfl (TmL.clean (e_Auth_clean _))) rfl List.not_mem_nil rfl (TmL.clean (e_Auth_clean _))) (tmAllU 11 (tmAllU 9 (tmAllU 6 (tmAllU 3 (tmAllU 2 (tmAllU 1 tmAll0 (Tm.clean (Clean.imm (vu_clean _)))) (Tm.v _)) (Tm.ptr rfl)) (Tm.ptr rfl)) (Tm.clo TmL.nil TmL.nil)) (Tm.v _))) ?_; clear hKK KK
  unfold auth_Handle_S0
  refine awp_assoc ?_
  refine awp_nr [1,2,3,6,9,11] (fun _ => rfl) fun tz => ?_
  refine awp_regW fun KK hKK => ?_
  refine xw_id ?_
  try simp only [go_sem, ↓iop_and, ↓iop_or, ↓iop_xor, ↓iop_andn, Nat.reduceAdd]
  refine hKK _ _ (Wk.refl _ _ _) ?_; clear hKK KK
  refine awp_cond (b := (x52 != 0)) rfl (fun h2 => ?_) (fun h2 => ?_)
  ·
   have h0 := cT h0 h2
   refine awp_assoc ?_
   refine awp_nr [6,9,11] (fun _ => rfl) fun tz => ?_
   refine awp_regW fun KK hKK => ?_
   refine xw_id ?_
   obtain ⟨x53, bx53, h0⟩ := bnd h0
   try simp only [go_sem, ↓iop_and, ↓iop_or, ↓iop_xor, ↓iop_andn, Nat.reduceAdd]
   refine xcall_p (auth_Handle_1_p x52 bx53) ?_; try dsimp only
   try refine xw_id ?_
   try simp only [go_sem, ↓iop_and, ↓iop_or, ↓iop_xor, ↓iop_andn, Nat.reduceAdd]
   refine hKK _ _ (Wk.refl _ _ _) ?_; clear hKK KK
   refine awp_ret ?_
   obtain rfl := someInj h0
   refine endW_i ?_
   refine end_ret0 rs31 (by simp only [go_sem, resV, resAll, resOf, packR, ↓iop_and, ↓iop_or, ↓iop_xor, ↓iop_andn, Nat.reduceAdd]; rfl) ?_
   try simp only [go_sem, ↓iop_and, ↓iop_or, ↓iop_xor, ↓iop_andn, Nat.reduceAdd, fz, nilS, packR, List.take_nil, List.take_length, List.length_map, List.length_append, cond_true, cond_false, Nat.ble_eq, ble_self]
   all_goals first | rfl | (simp only [go_sem, ↓iop_and, ↓iop_or, ↓iop_xor, ↓iop_andn, Nat.reduceAdd, fz, nilS, packR, List.take_nil, List.take_length, List.length_map, List.length_append, cond_true, cond_false, Nat.ble_eq, ble_self, List.map_append] <;> rfl)
  ·
   have h0 := cF h0 h2
   refine awp_skip ?_
   refine awp_assoc ?_
   refine awp_nr [1,2,3,6,9] (fun _ => rfl) fun tz => ?_
   refine awp_regW fun KK hKK => ?_
   refine xw_id ?_
   obtain ⟨x54, bx54, h0⟩ := bnd h0
   obtain ⟨fx54_0, fx54_1, fx54_2, fx54_3⟩ := idx_some bx54
   simp only [Int.reduceToNat] at fx54_2 fx54_3
   try simp only [go_sem, ↓iop_and, ↓iop_or, ↓iop_xor, ↓iop_andn, Nat.reduceAdd, fx54_0, fx54_1, fx54_2]
   refine hKK _ _ (Wk.refl _ _ _) ?_; clear hKK KK
   refine awp_blockW ?_
   refine awp_nr [1,2,3,6,9,42] (fun _ => rfl) fun tz => ?_
   refine awp_regW fun KK hKK => ?_
   refine xw_id ?_
   try simp only [go_sem, ↓iop_and, ↓iop_or, ↓iop_xor, ↓iop_andn, Nat.reduceAdd, fx54_0, fx54_1, fx54_2]
   refine hKK _ _ (Wk.refl _ _ _) ?_; clear hKK KK
   refine awp_cond1 (b := (decide (({ A2vu.z with a0 := x54, a1 := a0.Stage } : A2vu) = { A2vu.z with a0 := 3, a1 := 1 }))) rfl (fun h3 => ?_) (fun h3 => ?_)
   ·
    have h0 := cT h0 h3
    refine awp_assoc ?_
    refine awp_nr [1,2,3,6,9] (fun _ => rfl) fun tz => ?_
    refine awp_regW fun KK hKK => ?_
    refine xw_id ?_
    try simp only [go_sem, ↓iop_and, ↓iop_or, ↓iop_xor, ↓iop_andn, Nat.reduceAdd, fx54_0, fx54_1, fx54_2]
    refine hKK _ _ (Wk.refl _ _ _) ?_; clear hKK KK
    refine awp_cond (b := (a0.Tries == 3)) rfl (fun h4 => ?_) (fun h4 => ?_)
    ·
     have h0 := cT h0 h4
     refine awp_assoc ?_
     refine awp_nr [6,9] (fun _ => rfl) fun tz => ?_
     refine awp_regW fun KK hKK => ?_
     refine xw_id ?_
     obtain ⟨x55, bx55, h0⟩ := bnd h0
     try simp only [go_sem, ↓iop_and, ↓iop_or, ↓iop_xor, ↓iop_andn, Nat.reduceAdd, fx54_0, fx54_1, fx54_2]
     refine xcall_p (auth_Handle_1_p 20 bx55) ?_; try dsimp only
     try refine xw_id ?_
     try simp only [go_sem, ↓iop_and, ↓iop_or, ↓iop_xor, ↓iop_andn, Nat.reduceAdd, fx54_0, fx54_1, fx54_2]
     refine hKK _ _ (Wk.refl _ _ _) ?_; clear hKK KK
     refine awp_ret ?_
     refine bq_r ?_
     refine sq_r ?_
     obtain rfl := someInj h0
     refine endW_i ?_
     refine end_ret0 rs31 (by simp only [go_sem, resV, resAll, resOf, packR, ↓iop_and, ↓iop_or, ↓iop_xor, ↓iop_andn, Nat.reduceAdd]; rfl) ?_
     try simp only [go_sem, ↓iop_and, ↓iop_or, ↓iop_xor, ↓iop_andn, Nat.reduceAdd, fz, nilS, packR, List.take_nil, List.take_length, List.length_map, List.length_append, cond_true, cond_false, Nat.ble_eq, ble_self]
     all_goals first | rfl | (simp only [go_sem, ↓iop_and, ↓iop_or, ↓iop_xor, ↓iop_andn, Nat.reduceAdd, fz, nilS, packR, List.take_nil, List.take_length, List.length_map, List.length_append, cond_true, cond_false, Nat.ble_eq, ble_self, List.map_append] <;> rfl)
    ·
     have h0 := cF h0 h4
     refine awp_skip ?_
     refine awp_nr [1,2,3,6] (fun _ => rfl) fun tz => ?_
     refine awp_regW fun KK hKK => ?_
     refine xw_id ?_
     obtain ⟨x56, bx56, h0⟩ := bnd h0
     have bx56 := chk_some bx56
     simp only [Bool.and_eq_true, decide_eq_true_eq] at bx56
     have gx56_0 := bx56
     have g5 : ((a1.length : Int) - 1).toNat = (List.drop 1 a1).length := by simp only [List.length_take, List.length_drop]; omega
     try simp only [Int.sub_zero] at g5
     obtain ⟨x57, bx57, h0⟩ := bnd h0
     try simp only [go_sem, ↓iop_and, ↓iop_or, ↓iop_xor, ↓iop_andn, Nat.reduceAdd, fx54_0, fx54_1, fx54_2, gx56_0, g5, Int.sub_zero]
     refine xcall_p (auth_get_p (List.drop 1 a1) bx57) ?_; try dsimp only
     try refine xw_id ?_
     try simp only [go_sem, ↓iop_and, ↓iop_or, ↓iop_xor, ↓iop_andn, Nat.reduceAdd, fx54_0, fx54_1, fx54_2, gx56_0, g5, Int.sub_zero]
     refine hKK _ _ (Wk.refl _ _ _) ?_; clear hKK KK
     refine awp_nr [2,3,6] (fun _ => rfl) fun tz => ?_
     refine awp_regW fun KK hKK => ?_
     refine xw_id ?_
     try simp only [go_sem, ↓iop_and, ↓iop_or, ↓iop_xor, ↓iop_andn, Nat.reduceAdd, fx54_0, fx54_1, fx54_2]
     refine hKK _ (auth_Handle_S1 a0 a2 x57) (Wk.canonD [] [] [some 0, some 1] rfl trivial rfl (tmOU 1 (tmOU 0 tmO0 rfl List.not_mem_nil rfl (TmL.clean (e_Auth_clean _))) rfl List.not_mem_nil rfl (TmL.clean (e_Auth_clean _))) (tmAllU 6 (tmAllU 3 tmAll0 (Tm.ptr rfl)) (Tm.ptr rfl))) ?_; clear hKK KK
     unfold auth_Handle_S1
     refine awp_nr [3,6] (fun _ => rfl) fun tz => ?_
     refine awp_regDW fun KK hKK all hall => ?_
     refine xd_id ?_
     try simp only [List.toList_toArray, List.map_cons, List.map_nil, List.size_toArray, List.length_cons, List.length_nil, Nat.zero_add]
     try simp only [Nat.reduceAdd]
     obtain ⟨x58, bx58, h0⟩ := bnd h0
     iterate 3 ((try simp only [go_sem, ↓iop_and, ↓iop_or, ↓iop_xor, ↓iop_andn, fx54_0, fx54_1, fx54_2]); try simp only [Nat.reduceAdd])
     refine xcallD_p (auth_commit_p { a0 with Due := IntKind.wrap .i64 (a2 + 200000), HasToken := true, Token := x57, Tries := IntKind.wrap .i64 (a0.Tries + 1) } bx58) ?_; try dsimp only
     try refine xd_id ?_
     iterate 3 ((try simp only [go_sem, ↓iop_and, ↓iop_or, ↓iop_xor, ↓iop_andn, fx54_0, fx54_1, fx54_2]); try simp only [Nat.reduceAdd])
     refine And.intro ?_ (hKK _ _ (Wk.refl _ _ _) ?_)
     ·
      subst hall
      clear hKK KK
      first | decide +kernel | (simp [printsOk, apartP, clash, meet]; try (first | done | decide +kernel | (repeat (first | exact Or.inr (by decide +kernel) | (refine And.intro (Or.inr (by decide +kernel)) ?_)))))
     ·
      clear hKK KK hall all
      refine awp_ret1 ?_
      refine bq_r ?_
      refine sq_r ?_
      obtain rfl := someInj h0
      refine endW_i ?_
      refine end_ret0 rs31 (by simp only [go_sem, resV, resAll, resOf, packR, ↓iop_and, ↓iop_or, ↓iop_xor, ↓iop_andn, Nat.reduceAdd]; rfl) ?_
      try simp only [go_sem, ↓iop_and, ↓iop_or, ↓iop_xor, ↓iop_andn, Nat.reduceAdd, fz, nilS, packR, List.take_nil, List.take_length, List.length_map, List.length_append, cond_true, cond_false, Nat.ble_eq, ble_self]
      all_goals first | rfl | (simp only [go_sem, ↓iop_and, ↓iop_or, ↓iop_xor, ↓iop_andn, Nat.reduceAdd, fz, nilS, packR, List.take_nil, List.take_length, List.length_map, List.length_append, cond_true, cond_false, Nat.ble_eq, ble_self, List.map_append] <;> rfl)
   ·
    have h0 := cF h0 h3
    refine awp_nr [1,2,3,6,9,42] (fun _ => rfl) fun tz => ?_
    refine awp_regW fun KK hKK => ?_
    refine xw_id ?_
    try simp only [go_sem, ↓iop_and, ↓iop_or, ↓iop_xor, ↓iop_andn, Nat.reduceAdd, fx54_0, fx54_1, fx54_2]
    refine hKK _ _ (Wk.refl _ _ _) ?_; clear hKK KK
    refine awp_cond1 (b := (decide (({ A2vu.z with a0 := x54, a1 := a0.Stage } : A2vu) = { A2vu.z with a0 := 2, a1 := 2 }))) rfl (fun h6 => ?_) (fun h6 => ?_)
    ·
     have h0 := cT h0 h6
     refine awp_nr [1,3,6,9] (fun _ => rfl) fun tz => ?_
     refine awp_regW fun KK hKK => ?_
     refine xw_id ?_
     obtain ⟨x59, bx59, h0⟩ := bnd h0
     obtain ⟨fx59_0, fx59_1, fx59_2, fx59_3⟩ := idx_some bx59
     simp only [Int.reduceToNat] at fx59_2 fx59_3
     obtain ⟨x60, bx60, h0⟩ := bnd h0
     obtain ⟨fx60_0, fx60_1, fx60_2, fx60_3⟩ := idx_some bx60
     simp only [Int.reduceToNat] at fx60_2 fx60_3
     try simp only [go_sem, ↓iop_and, ↓iop_or, ↓iop_xor, ↓iop_andn, Nat.reduceAdd, fx54_0, fx54_1, fx54_2, fx59_0, fx59_1, fx59_2, fx60_0, fx60_1, fx60_2]
     refine hKK _ _ (Wk.refl _ _ _) ?_; clear hKK KK
     refine awp_assoc ?_
     refine awp_nr [1,3,6,9,12] (fun _ => rfl) fun tz => ?_
     refine awp_regW fun KK hKK => ?_
     refine xw_id ?_
     obtain ⟨x61, bx61, h0⟩ := bnd h0
     try simp only [go_sem, ↓iop_and, ↓iop_or, ↓iop_xor, ↓iop_andn, Nat.reduceAdd, fx54_0, fx54_1, fx54_2, fx59_0, fx59_1, fx59_2, fx60_0, fx60_1, fx60_2]
     refine xcall_M (auth_coded_m a0.Confirm (bor .i64 (IntKind.wrap .i64 x59) (IntKind.wrap .i64 ((IntKind.wrap .i64 x60) * 2 ^ (min 8 64)))) a0.OtherScalar a0.OtherElement a0.Scalar a0.Element bx61) ?_; try dsimp only
     try refine xw_id ?_
     obtain ⟨x62, bx62, h0⟩ := bnd h0
     try simp only [go_sem, ↓iop_and, ↓iop_or, ↓iop_xor, ↓iop_andn, Nat.reduceAdd, fx54_0, fx54_1, fx54_2, fx59_0, fx59_1, fx59_2, fx60_0, fx60_1, fx60_2]
     refine xcall_L (by first | (simp only [go_sem, fz, ↓iop_and, ↓iop_or, ↓iop_xor, ↓iop_andn, Nat.reduceAdd, fx54_0, fx54_1, fx54_2, fx59_0, fx59_1, fx59_2, fx60_0, fx60_1, fx60_2] <;> rfl) | (simp only [go_sem, fz, List.length_set, ble_self, take_set, cond_true, cond_false, ↓iop_and, ↓iop_or, ↓iop_xor, ↓iop_andn, Nat.reduceAdd, fx54_0, fx54_1, fx54_2, fx59_0, fx59_1, fx59_2, fx60_0, fx60_1, fx60_2] <;> rfl)) (bytes_Equal_p a1 x61 bx62) (Bare.v _) ?_; try dsimp only
     try refine xw_id ?_
     try simp only [go_sem, ↓iop_and, ↓iop_or, ↓iop_xor, ↓iop_andn, Nat.reduceAdd, fx54_0, fx54_1, fx54_2, fx59_0, fx59_1, fx59_2, fx60_0, fx60_1, fx60_2]
     refine hKK _ _ (Wk.refl _ _ _) ?_; clear hKK KK
     refine awp_cond (b := (!x62)) rfl (fun h7 => ?_) (fun h7 => ?_)
     ·
      have h0 := cT h0 h7
      refine awp_assoc ?_
      refine awp_nr [6,9] (fun _ => rfl) fun tz => ?_
      refine awp_regW fun KK hKK => ?_
      refine xw_id ?_
      obtain ⟨x63, bx63, h0⟩ := bnd h0
      try simp only [go_sem, ↓iop_and, ↓iop_or, ↓iop_xor, ↓iop_andn, Nat.reduceAdd, fx54_0, fx54_1, fx54_2, fx59_0, fx59_1, fx59_2, fx60_0, fx60_1, fx60_2]
      refine xcall_p (auth_Handle_1_p 33 bx63) ?_; try dsimp only
      try refine xw_id ?_
      try simp only [go_sem, ↓iop_and, ↓iop_or, ↓iop_xor, ↓iop_andn, Nat.reduceAdd, fx54_0, fx54_1, fx54_2, fx59_0, fx59_1, fx59_2, fx60_0, fx60_1, fx60_2]
      refine hKK _ _ (Wk.refl _ _ _) ?_; clear hKK KK
      refine awp_ret ?_
      refine bq_r ?_
      refine sq_r ?_
      obtain rfl := someInj h0
      refine endW_i ?_
      refine end_ret0 rs31 (by simp only [go_sem, resV, resAll, resOf, packR, ↓iop_and, ↓iop_or, ↓iop_xor, ↓iop_andn, Nat.reduceAdd]; rfl) ?_
      try simp only [go_sem, ↓iop_and, ↓iop_or, ↓iop_xor, ↓iop_andn, Nat.reduceAdd, fz, nilS, packR, List.take_nil, List.take_length, List.length_map, List.length_append, cond_true, cond_false, Nat.ble_eq, ble_self]
      all_goals first | rfl | (simp only [go_sem, ↓iop_and, ↓iop_or, ↓iop_xor, ↓iop_andn, Nat.reduceAdd, fz, nilS, packR, List.take_nil, List.take_length, List.length_map, List.length_append, cond_true, cond_false, Nat.ble_eq, ble_self, List.map_append] <;> rfl)
     ·
      have h0 := cF h0 h7
      refine awp_skip ?_
      refine awp_nr [3,6] (fun _ => rfl) fun tz => ?_
      refine awp_regW fun KK hKK => ?_
      refine xw_id ?_
      try simp only [go_sem, ↓iop_and, ↓iop_or, ↓iop_xor, ↓iop_andn, Nat.reduceAdd, fx54_0, fx54_1, fx54_2, fx59_0, fx59_1, fx59_2, fx60_0, fx60_1, fx60_2]
      refine hKK _ _ (Wk.refl _ _ _) ?_; clear hKK KK
      refine awp_nr [3,6] (fun _ => rfl) fun tz => ?_
      refine awp_regW fun KK hKK => ?_
      refine xw_id ?_
      try simp only [go_sem, ↓iop_and, ↓iop_or, ↓iop_xor, ↓iop_andn, Nat.reduceAdd, fx54_0, fx54_1, fx54_2, fx59_0, fx59_1, fx59_2, fx60_0, fx60_1, fx60_2]
      refine hKK _ _ (Wk.refl _ _ _) ?_; clear hKK KK
      refine awp_ret1 ?_
      refine bq_r ?_
      refine sq_r ?_
      obtain rfl := someInj h0
      refine endW_i ?_
      refine end_ret0 rs31 (by simp only [go_sem, resV, resAll, resOf, packR, ↓iop_and, ↓iop_or, ↓iop_xor, ↓iop_andn, Nat.reduceAdd]; rfl) ?_
      try simp only [go_sem, ↓iop_and, ↓iop_or, ↓iop_xor, ↓iop_andn, Nat.reduceAdd, fz, nilS, packR, List.take_nil, List.take_length, List.length_map, List.length_append, cond_true, cond_false, Nat.ble_eq, ble_self]
      all_goals first | rfl | (simp only [go_sem, ↓iop_and, ↓iop_or, ↓iop_xor, ↓iop_andn, Nat.reduceAdd, fz, nilS, packR, List.take_nil, List.take_length, List.length_map, List.length_append, cond_true, cond_false, Nat.ble_eq, ble_self, List.map_append] <;> rfl)
    ·
     have h0 := cF h0 h6
     refine awp_skip1 ?_
     refine bq_n ?_
     refine seqW_i ?_
     refine awp_assoc ?_
     refine awp_nr [1,2,3,6,9] (fun _ => rfl) fun tz => ?_
     refine awp_regW fun KK hKK => ?_
     refine xw_id ?_
     try simp only [go_sem, ↓iop_and, ↓iop_or, ↓iop_xor, ↓iop_andn, Nat.reduceAdd, fx54_0, fx54_1, fx54_2]
     refine hKK _ _ (Wk.refl _ _ _) ?_; clear hKK KK
     refine awp_cond (b := (x54 != 1)) rfl (fun h8 => ?_) (fun h8 => ?_)
     ·
      have h0 := cT h0 h8
      refine awp_assoc ?_
      refine awp_nr [6,9] (fun _ => rfl) fun tz => ?_
      refine awp_regW fun KK hKK => ?_
      refine xw_id ?_
      obtain ⟨x64, bx64, h0⟩ := bnd h0
      try simp only [go_sem, ↓iop_and, ↓iop_or, ↓iop_xor, ↓iop_andn, Nat.reduceAdd, fx54_0, fx54_1, fx54_2]
      refine xcall_p (auth_Handle_1_p 20 bx64) ?_; try dsimp only
      try refine xw_id ?_
      try simp only [go_sem, ↓iop_and, ↓iop_or, ↓iop_xor, ↓iop_andn, Nat.reduceAdd, fx54_0, fx54_1, fx54_2]
      refine hKK _ _ (Wk.refl _ _ _) ?_; clear hKK KK
      refine awp_ret ?_
      obtain rfl := someInj h0
      refine endW_i ?_
      refine end_ret0 rs31 (by simp only [go_sem, resV, resAll, resOf, packR, ↓iop_and, ↓iop_or, ↓iop_xor, ↓iop_andn, Nat.reduceAdd]; rfl) ?_
      try simp only [go_sem, ↓iop_and, ↓iop_or, ↓iop_xor, ↓iop_andn, Nat.reduceAdd, fz, nilS, packR, List.take_nil, List.take_length, List.length_map, List.length_append, cond_true, cond_false, Nat.ble_eq, ble_self]
      all_goals first | rfl | (simp only [go_sem, ↓iop_and, ↓iop_or, ↓iop_xor, ↓iop_andn, Nat.reduceAdd, fz, nilS, packR, List.take_nil, List.take_length, List.length_map, List.length_append, cond_true, cond_false, Nat.ble_eq, ble_self, List.map_append] <;> rfl)
     ·
      have h0 := cF h0 h8
      refine awp_skip ?_
      refine awp_nr [1,2,3,6,9] (fun _ => rfl) fun tz => ?_
      refine awp_regW fun KK hKK => ?_
      refine xw_id ?_
      obtain ⟨x65, bx65, h0⟩ := bnd h0
      try simp only [go_sem, ↓iop_and, ↓iop_or, ↓iop_xor, ↓iop_andn, Nat.reduceAdd, fx54_0, fx54_1, fx54_2]
      refine xcall_M (auth_committed_m a0 a1 a2 bx65) ?_; try dsimp only
      try refine xw_id ?_
      try simp only [go_sem, ↓iop_and, ↓iop_or, ↓iop_xor, ↓iop_andn, Nat.reduceAdd, fx54_0, fx54_1, fx54_2]
      refine hKK _ _ (Wk.refl _ _ _) ?_; clear hKK KK
      refine awp_assoc ?_
      refine awp_nr [6,9,13,14,15] (fun _ => rfl) fun tz => ?_
      refine awp_regW fun KK hKK => ?_
      refine xw_id ?_
      try simp only [go_sem, ↓iop_and, ↓iop_or, ↓iop_xor, ↓iop_andn, Nat.reduceAdd, fx54_0, fx54_1, fx54_2]
      refine hKK _ _ (Wk.refl _ _ _) ?_; clear hKK KK
      refine awp_cond (b := (x65.2.2 != 0)) rfl (fun h9 => ?_) (fun h9 => ?_)
      ·
       have h0 := cT h0 h9
       refine awp_assoc ?_
       refine awp_nr [6,9,15] (fun _ => rfl) fun tz => ?_
       refine awp_regW fun KK hKK => ?_
       refine xw_id ?_
       obtain ⟨x66, bx66, h0⟩ := bnd h0
       try simp only [go_sem, ↓iop_and, ↓iop_or, ↓iop_xor, ↓iop_andn, Nat.reduceAdd, fx54_0, fx54_1, fx54_2]
       refine xcall_p (auth_Handle_1_p x65.2.2 bx66) ?_; try dsimp only
       try refine xw_id ?_
       try simp only [go_sem, ↓iop_and, ↓iop_or, ↓iop_xor, ↓iop_andn, Nat.reduceAdd, fx54_0, fx54_1, fx54_2]
       refine hKK _ _ (Wk.refl _ _ _) ?_; clear hKK KK
       refine awp_ret ?_
       obtain rfl := someInj h0
       refine endW_i ?_
       refine end_ret0 rs31 (by simp only [go_sem, resV, resAll, resOf, packR, ↓iop_and, ↓iop_or, ↓iop_xor, ↓iop_andn, Nat.reduceAdd]; rfl) ?_
       try simp only [go_sem, ↓iop_and, ↓iop_or, ↓iop_xor, ↓iop_andn, Nat.reduceAdd, fz, nilS, packR, List.take_nil, List.take_length, List.length_map, List.length_append, cond_true, cond_false, Nat.ble_eq, ble_self]
       all_goals first | rfl | (simp only [go_sem, ↓iop_and, ↓iop_or, ↓iop_xor, ↓iop_andn, Nat.reduceAdd, fz, nilS, packR, List.take_nil, List.take_length, List.length_map, List.length_append, cond_true, cond_false, Nat.ble_eq, ble_self, List.map_append] <;> rfl)
      ·
       have h0 := cF h0 h9
       refine awp_skip ?_
       refine awp_nr [6,13,14] (fun _ => rfl) fun tz => ?_
       refine awp_regW fun KK hKK => ?_
       refine xw_id ?_
       try simp only [go_sem, ↓iop_and, ↓iop_or, ↓iop_xor, ↓iop_andn, Nat.reduceAdd, fx54_0, fx54_1, fx54_2]
       refine hKK _ _ (Wk.refl _ _ _) ?_; clear hKK KK
       refine awp_ret1 ?_
       obtain rfl := someInj h0
       refine endW_i ?_
       refine end_ret0 rs31 (by simp only [go_sem, resV, resAll, resOf, packR, ↓iop_and, ↓iop_or, ↓iop_xor, ↓iop_andn, Nat.reduceAdd]; rfl) ?_
       try simp only [go_sem, ↓iop_and, ↓iop_or, ↓iop_xor, ↓iop_andn, Nat.reduceAdd, fz, nilS, packR, List.take_nil, List.take_length, List.length_map, List.length_append, cond_true, cond_false, Nat.ble_eq, ble_self]
       all_goals first | rfl | (simp only [go_sem, ↓iop_and, ↓iop_or, ↓iop_xor, ↓iop_andn, Nat.reduceAdd, fz, nilS, packR, List.take_nil, List.take_length, List.length_map, List.length_append, cond_true, cond_false, Nat.ble_eq, ble_self, List.map_append] <;> rfl)

end Go.AX.Z.TV

/-! (TVW hotspotlaw29 alive) -/

set_option linter.unusedSimpArgs false
set_option linter.unusedVariables false
set_option maxHeartbeats 4000000
set_option maxRecDepth 20000
namespace Go.AX.Z.TV
open Go.AX Go.Proofs
attribute [local irreducible] awp xw xop xcall gsp ob xd xdop xcallD seqQ loopQ blkQ endQ

def hotspotlaw29_alive_S0 (x32 : (Auth × Int)) : AS :=
 { objs := (upd (fun _ => .dead) 0 (.live (e_Auth x32.1))), next := 1, tmps := (upd (upd (fun _ => .unk) 1 (.ptr 0 0)) 2 (vi x32.2)) }

def hotspotlaw29_alive_S1 (x32 : (Auth × Int)) (x35 : (Auth × Int)) : AS :=
 { objs := (upd (upd (fun _ => .dead) 0 (.live (e_Auth x32.1))) 1 (.live (e_Auth x35.1))), next := 2, tmps := (upd (upd (upd (upd (fun _ => .unk) 1 (.ptr 0 0)) 2 (vi x32.2)) 3 (.ptr 1 0)) 4 (vi x35.2)) }

def hotspotlaw29_alive_S2 (x40 : (Auth × (List (List Int)) × Int)) (x35 : (Auth × Int)) : AS :=
 { objs := (upd (upd (fun _ => .dead) 0 (.live (e_Auth x40.1))) 1 (.live (e_Auth x35.1))), next := 2, tmps := (upd (upd (upd (upd (fun _ => .unk) 1 (.ptr 0 0)) 3 (.ptr 1 0)) 5 (.imm (List.map S_vu x40.2.1) x40.2.1.length)) 6 (vi x40.2.2)) }

def hotspotlaw29_alive_S3 (x48 : (Auth × (List (List Int)) × Int)) (x44 : (Auth × (List (List Int)) × Int)) : AS :=
 { objs := (upd (upd (fun _ => .dead) 0 (.live (e_Auth x48.1))) 1 (.live (e_Auth x44.1))), next := 2, tmps := (upd (upd (upd (upd (upd (fun _ => .unk) 1 (.ptr 0 0)) 3 (.ptr 1 0)) 7 (.imm (List.map S_vu x44.2.1) x44.2.1.length)) 9 (.imm (List.map S_vu x48.2.1) x48.2.1.length)) 10 (vi x48.2.2)) }

def hotspotlaw29_alive_S4 (x50 : (Auth × (List (List Int)) × Int)) (x52 : (Auth × (List (List Int)) × Int)) : AS :=
 { objs := (upd (upd (fun _ => .dead) 0 (.live (e_Auth x50.1))) 1 (.live (e_Auth x52.1))), next := 2, tmps := (upd (upd (upd (upd (fun _ => .unk) 1 (.ptr 0 0)) 3 (.ptr 1 0)) 12 (vi x50.2.2)) 14 (vi x52.2.2)) }

theorem hotspotlaw29_alive_p {r : Bool} (h0 : hotspotlaw29_alive = some r) : SndP K 20 [] (vb r) := by
 refine SndP.of_walkW hC (Clean.v _) clean_nil (show K.P.funcs[20]? = some Try.f20 from Try.func20) rfl rfl (by decide +kernel) (Nat.le_of_ble_eq_true rfl) ?_
 unfold hotspotlaw29_alive at h0
 refine awp_nr [] (fun _ => rfl) fun tz => ?_
 refine awp_regW fun KK hKK => ?_
 refine xw_id ?_
 try simp only [go_sem, Nat.reduceAdd]
 refine hKK _ _ (Wk.refl _ _ _) ?_; clear hKK KK
 refine awp_nr [] (fun _ => rfl) fun tz => ?_
 refine awp_regW fun KK hKK => ?_
 refine xw_id ?_
 obtain ⟨x30, bx30, h0⟩ := bnd h0
 try simp only [go_sem, Nat.reduceAdd]
 refine xcall_p (hotspotlaw29_one_p  bx30) ?_; try dsimp only
 try refine xw_id ?_
 obtain ⟨x31, bx31, h0⟩ := bnd h0
 try simp only [go_sem, Nat.reduceAdd]
 refine xcall_p (hotspotlaw29_two_p  bx31) ?_; try dsimp only
 try refine xw_id ?_
 have gs1 : AV.v (.string ⟨#[115, 101, 99, 114, 101, 116]⟩) = vs [115, 101, 99, 114, 101, 116] := by kernel_rfl
 obtain ⟨x32, bx32, h0⟩ := bnd h0
 try simp only [go_sem, Nat.reduceAdd, gs1]
 refine xcall_p (auth_New_p x30 x31 [115, 101, 99, 114, 101, 116] 1000 77 bx32) ?_; try dsimp only
 try refine xw_id ?_
 try simp only [go_sem, Nat.reduceAdd, gs1]
 refine hKK _ (hotspotlaw29_alive_S0 x32) (Wk.canonD [] [] [some 7] rfl trivial rfl (tmOU 0 tmO0 rfl List.not_mem_nil rfl (TmL.clean (e_Auth_clean _))) (tmAllU 2 (tmAllU 1 tmAll0 (Tm.ptr rfl)) (Tm.v _))) ?_; clear hKK KK
 unfold hotspotlaw29_alive_S0
 refine awp_nr [1,2] (fun _ => rfl) fun tz => ?_
 refine awp_regW fun KK hKK => ?_
 refine xw_id ?_
 obtain ⟨x33, bx33, h0⟩ := bnd h0
 try simp only [go_sem, Nat.reduceAdd]
 refine xcall_p (hotspotlaw29_two_p  bx33) ?_; try dsimp only
 try refine xw_id ?_
 obtain ⟨x34, bx34, h0⟩ := bnd h0
 try simp only [go_sem, Nat.reduceAdd]
 refine xcall_p (hotspotlaw29_one_p  bx34) ?_; try dsimp only
 try refine xw_id ?_
 have gs2 : AV.v (.string ⟨#[115, 101, 99, 114, 101, 116]⟩) = vs [115, 101, 99, 114, 101, 116] := by kernel_rfl
 obtain ⟨x35, bx35, h0⟩ := bnd h0
 try simp only [go_sem, Nat.reduceAdd, gs2]
 refine xcall_p (auth_New_p x33 x34 [115, 101, 99, 114, 101, 116] 2000 99 bx35) ?_; try dsimp only
 try refine xw_id ?_
 try simp only [go_sem, Nat.reduceAdd, gs2]
 refine hKK _ (hotspotlaw29_alive_S1 x32 x35) (Wk.canonD [] [] [some 0, some 7] rfl trivial rfl (tmOU 1 (tmOU 0 tmO0 rfl List.not_mem_nil rfl (TmL.clean (e_Auth_clean _))) rfl List.not_mem_nil rfl (TmL.clean (e_Auth_clean _))) (tmAllU 4 (tmAllU 3 (tmAllU 2 (tmAllU 1 tmAll0 (Tm.ptr rfl)) (Tm.v _)) (Tm.ptr rfl)) (Tm.v _))) ?_; clear hKK KK
 unfold hotspotlaw29_alive_S1
 refine awp_assoc ?_
 refine awp_nr [1,2,3,4] (fun _ => rfl) fun tz => ?_
 refine awp_regW fun KK hKK => ?_
 refine xw_id ?_
 refine xw_stop 3 (by (try simp only [go_sem]); rfl) (by (try simp only [go_sem]); rfl) (by rfl) fun K1 hK1 => ?_
 refine xw_id ?_
 try simp only [go_sem, Nat.reduceAdd]
 refine hK1 _ ?_; clear hK1 K1
 refine xw_cut 3 [(1, (.ptr 0 0)), (3, (.ptr 1 0)), (32, (vb ((x32.2 != 0) || (x35.2 != 0))))] (by (try simp only [go_sem]); rfl) (by (try simp only [go_sem]); rfl) (by rfl) (fun K1 hK1 => ?_) fun tz => ?_
 ·
  refine xw_id ?_
  rcases Bool.eq_false_or_eq_true (x32.2 != 0) with h3 | h3
  ·
   try simp only [go_sem, Nat.reduceAdd, h3]
   exact hK1 _ ⟨rfl, rfl, rfl, (by first | rfl | (rw [h3]; rfl) | (simp only [h3, Bool.true_and, Bool.false_and, Bool.true_or, Bool.false_or, cond_true, cond_false] <;> rfl)), trivial⟩
  ·
   try simp only [go_sem, Nat.reduceAdd, h3]
   exact hK1 _ ⟨rfl, rfl, rfl, (by first | rfl | (rw [h3]; rfl) | (simp only [h3, Bool.true_and, Bool.false_and, Bool.true_or, Bool.false_or, cond_true, cond_false] <;> rfl)), trivial⟩
 ·
  refine xw_id ?_
  refine xw_stop 1 (by (try simp only [go_sem]); rfl) (by (try simp only [go_sem]); rfl) (by rfl) fun K1 hK1 => ?_
  refine xw_id ?_
  try simp only [go_sem, Nat.reduceAdd]
  refine hK1 _ ?_; clear hK1 K1
  obtain ⟨x37, hvh4, h0⟩ := bnd h0
  refine xw_cut 3 [(1, (.ptr 0 0)), (3, (.ptr 1 0)), (36, (vb x37))] (by (try simp only [go_sem]); rfl) (by (try simp only [go_sem]); rfl) (by rfl) (fun K1 hK1 => ?_) fun tz => ?_
  ·
   refine xw_id ?_
   rcases Bool.eq_false_or_eq_true ((x32.2 != 0) || (x35.2 != 0)) with h4 | h4
   ·
    have hvh4 := cT hvh4 h4
    try simp only [go_sem, Nat.reduceAdd, h4]
    obtain rfl := someInj hvh4
    exact hK1 _ ⟨rfl, rfl, rfl, (by first | rfl | (rw [h4]; rfl) | (simp only [h4, Bool.true_and, Bool.false_and, Bool.true_or, Bool.false_or, cond_true, cond_false] <;> rfl)), trivial⟩
   ·
    have hvh4 := cF hvh4 h4
    obtain ⟨x36, bx36, hvh4⟩ := bnd hvh4
    try simp only [go_sem, Nat.reduceAdd, h4]
    refine xcall_p (auth_Mul_p 1152921504606846976 2 bx36) ?_; try dsimp only
    try refine xw_id ?_
    try simp only [go_sem, Nat.reduceAdd, h4]
    obtain rfl := someInj hvh4
    exact hK1 _ ⟨rfl, rfl, rfl, (by first | rfl | (rw [h4]; rfl) | (simp only [h4, Bool.true_and, Bool.false_and, Bool.true_or, Bool.false_or, cond_true, cond_false] <;> rfl)), trivial⟩
  ·
   refine xw_id ?_
   refine xw_stop 1 (by (try simp only [go_sem]); rfl) (by (try simp only [go_sem]); rfl) (by rfl) fun K1 hK1 => ?_
   refine xw_id ?_
   try simp only [go_sem, Nat.reduceAdd]
   refine hK1 _ ?_; clear hK1 K1
   obtain ⟨x39, hvh5, h0⟩ := bnd h0
   refine xw_cut 3 [(1, (.ptr 0 0)), (3, (.ptr 1 0)), (40, (vb x39))] (by (try simp only [go_sem]); rfl) (by (try simp only [go_sem]); rfl) (by rfl) (fun K1 hK1 => ?_) fun tz => ?_
   ·
    refine xw_id ?_
    rcases Bool.eq_false_or_eq_true x37 with h5 | h5
    ·
     have hvh5 := cT hvh5 h5
     try simp only [go_sem, Nat.reduceAdd, h5]
     obtain rfl := someInj hvh5
     exact hK1 _ ⟨rfl, rfl, rfl, (by first | rfl | (rw [h5]; rfl) | (simp only [h5, Bool.true_and, Bool.false_and, Bool.true_or, Bool.false_or, cond_true, cond_false] <;> rfl)), trivial⟩
    ·
     have hvh5 := cF hvh5 h5
     obtain ⟨x38, bx38, hvh5⟩ := bnd hvh5
     try simp only [go_sem, Nat.reduceAdd, h5]
     refine xcall_p (auth_Pow_p 2 61 bx38) ?_; try dsimp only
     try refine xw_id ?_
     try simp only [go_sem, Nat.reduceAdd, h5]
     obtain rfl := someInj hvh5
     exact hK1 _ ⟨rfl, rfl, rfl, (by first | rfl | (rw [h5]; rfl) | (simp only [h5, Bool.true_and, Bool.false_and, Bool.true_or, Bool.false_or, cond_true, cond_false] <;> rfl)), trivial⟩
   ·
    refine xw_id ?_
    try simp only [go_sem, Nat.reduceAdd]
    refine hKK _ _ (Wk.refl _ _ _) ?_; clear hKK KK
    refine awp_cond (b := x39) rfl (fun h6 => ?_) (fun h6 => ?_)
    ·
     have h0 := cT h0 h6
     refine awp_assoc ?_
     refine awp_nr [] (fun _ => rfl) fun tz => ?_
     refine awp_regW fun KK hKK => ?_
     refine xw_id ?_
     try simp only [go_sem, Nat.reduceAdd]
     refine hKK _ _ (Wk.refl _ _ _) ?_; clear hKK KK
     refine awp_ret ?_
     obtain rfl := someInj h0
     refine endW_i ?_
     refine end_ret0 rs20 (rfl) ?_
     try simp only [go_sem, Nat.reduceAdd, fz, nilS, packR, List.take_nil, List.take_length, List.length_map, List.length_append, cond_true, cond_false, Nat.ble_eq, ble_self]
     all_goals first | rfl | (simp only [go_sem, Nat.reduceAdd, fz, nilS, packR, List.take_nil, List.take_length, List.length_map, List.length_append, cond_true, cond_false, Nat.ble_eq, ble_self, List.map_append] <;> rfl)
    ·
     have h0 := cF h0 h6
     refine awp_skip ?_
     refine awp_nr [1,3] (fun _ => rfl) fun tz => ?_
     refine awp_regW fun KK hKK => ?_
     refine xw_id ?_
     obtain ⟨x40, bx40, h0⟩ := bnd h0
     try simp only [go_sem, Nat.reduceAdd]
     refine xcall_p (auth_Start_p x32.1 0 bx40) ?_; try dsimp only
     try refine xw_id ?_
     try simp only [go_sem, Nat.reduceAdd]
     refine hKK _ (hotspotlaw29_alive_S2 x40 x35) (Wk.canonD [] [] [some 0, some 1] rfl trivial rfl (tmOU 1 (tmOU 0 tmO0 rfl List.not_mem_nil rfl (TmL.clean (e_Auth_clean _))) rfl List.not_mem_nil rfl (TmL.clean (e_Auth_clean _))) (tmAllU 6 (tmAllU 5 (tmAllU 3 (tmAllU 1 tmAll0 (Tm.ptr rfl)) (Tm.ptr rfl)) (Tm.clean (Clean.imm (cS_vu _)))) (Tm.v _))) ?_; clear hKK KK
     unfold hotspotlaw29_alive_S2
     refine awp_assoc ?_
     refine awp_nr [1,3,5,6] (fun _ => rfl) fun tz => ?_
     refine awp_regW fun KK hKK => ?_
     refine xw_id ?_
     refine xw_stop 3 (by (try simp only [go_sem]); rfl) (by (try simp only [go_sem]); rfl) (by rfl) fun K1 hK1 => ?_
     refine xw_id ?_
     try simp only [go_sem, Nat.reduceAdd]
     refine hK1 _ ?_; clear hK1 K1
     refine xw_cut 4 [(1, (.ptr 0 0)), (3, (.ptr 1 0)), (5, (.imm (List.map S_vu x40.2.1) x40.2.1.length)), (53, (vb ((x40.2.2 != 0) || ((x40.2.1.length : Int) != 1))))] (by (try simp only [go_sem]); rfl) (by (try simp only [go_sem]); rfl) (by rfl) (fun K1 hK1 => ?_) fun tz => ?_
     ·
      refine xw_id ?_
      rcases Bool.eq_false_or_eq_true (x40.2.2 != 0) with h7 | h7
      ·
       try simp only [go_sem, Nat.reduceAdd, h7]
       exact hK1 _ ⟨rfl, rfl, rfl, rfl, (by first | rfl | (rw [h7]; rfl) | (simp only [h7, Bool.true_and, Bool.false_and, Bool.true_or, Bool.false_or, cond_true, cond_false] <;> rfl)), trivial⟩
      ·
       try simp only [go_sem, Nat.reduceAdd, h7]
       exact hK1 _ ⟨rfl, rfl, rfl, rfl, (by first | rfl | (rw [h7]; rfl) | (simp only [h7, Bool.true_and, Bool.false_and, Bool.true_or, Bool.false_or, cond_true, cond_false] <;> rfl)), trivial⟩
     ·
      refine xw_id ?_
      refine xw_stop 1 (by (try simp only [go_sem]); rfl) (by (try simp only [go_sem]); rfl) (by rfl) fun K1 hK1 => ?_
      refine xw_id ?_
      try simp only [go_sem, Nat.reduceAdd]
      refine hK1 _ ?_; clear hK1 K1
      obtain ⟨x42, hvh8, h0⟩ := bnd h0
      refine xw_cut 6 [(1, (.ptr 0 0)), (3, (.ptr 1 0)), (5, (.imm (List.map S_vu x40.2.1) x40.2.1.length)), (60, (vb x42))] (by (try simp only [go_sem]); rfl) (by (try simp only [go_sem]); rfl) (by rfl) (fun K1 hK1 => ?_) fun tz => ?_
      ·
       refine xw_id ?_
       rcases Bool.eq_false_or_eq_true ((x40.2.2 != 0) || ((x40.2.1.length : Int) != 1)) with h8 | h8
       ·
        have hvh8 := cT hvh8 h8
        try simp only [go_sem, Nat.reduceAdd, h8]
        obtain rfl := someInj hvh8
        exact hK1 _ ⟨rfl, rfl, rfl, rfl, (by first | rfl | (rw [h8]; rfl) | (simp only [h8, Bool.true_and, Bool.false_and, Bool.true_or, Bool.false_or, cond_true, cond_false] <;> rfl)), trivial⟩
       ·
        have hvh8 := cF hvh8 h8
        obtain ⟨x41, bx41, hvh8⟩ := bnd hvh8
        obtain ⟨fx41_0, fx41_1, fx41_2, fx41_3⟩ := idx_some bx41
        simp only [Int.reduceToNat] at fx41_2 fx41_3
        have fx41_9 : (List.map S_vu x40.2.1)[0]? = some (S_vu x41) := by rw [List.getElem?_map, fx41_2]; rfl
        try simp only [go_sem, Nat.reduceAdd, h8, fx41_0, fx41_1, fx41_2, fx41_9]
        obtain rfl := someInj hvh8
        exact hK1 _ ⟨rfl, rfl, rfl, rfl, (by first | rfl | (rw [h8]; rfl) | (simp only [h8, Bool.true_and, Bool.false_and, Bool.true_or, Bool.false_or, cond_true, cond_false] <;> rfl)), trivial⟩
      ·
       refine xw_id ?_
       try simp only [go_sem, Nat.reduceAdd]
       refine hKK _ _ (Wk.refl _ _ _) ?_; clear hKK KK
       refine awp_cond (b := x42) rfl (fun h9 => ?_) (fun h9 => ?_)
       ·
        have h0 := cT h0 h9
        refine awp_assoc ?_
        refine awp_nr [] (fun _ => rfl) fun tz => ?_
        refine awp_regW fun KK hKK => ?_
        refine xw_id ?_
        try simp only [go_sem, Nat.reduceAdd]
        refine hKK _ _ (Wk.refl _ _ _) ?_; clear hKK KK
        refine awp_ret ?_
        obtain rfl := someInj h0
        refine endW_i ?_
        refine end_ret0 rs20 (rfl) ?_
        try simp only [go_sem, Nat.reduceAdd, fz, nilS, packR, List.take_nil, List.take_length, List.length_map, List.length_append, cond_true, cond_false, Nat.ble_eq, ble_self]
        all_goals first | rfl | (simp only [go_sem, Nat.reduceAdd, fz, nilS, packR, List.take_nil, List.take_length, List.length_map, List.length_append, cond_true, cond_false, Nat.ble_eq, ble_self, List.map_append] <;> rfl)
       ·
        have h0 := cF h0 h9
        refine awp_skip ?_
        refine awp_nr [1,3,5] (fun _ => rfl) fun tz => ?_
        refine awp_regDW fun KK hKK all hall => ?_
        refine xd_id ?_
        try simp only [List.toList_toArray, List.map_cons, List.map_nil, List.size_toArray, List.length_cons, List.length_nil, Nat.zero_add]
        try simp only [Nat.reduceAdd]
        obtain ⟨x43, bx43, h0⟩ := bnd h0
        obtain ⟨fx43_0, fx43_1, fx43_2, fx43_3⟩ := idx_some bx43
        simp only [Int.reduceToNat] at fx43_2 fx43_3
        have fx43_9 : (List.map S_vu x40.2.1)[0]? = some (S_vu x43) := by rw [List.getElem?_map, fx43_2]; rfl
        obtain ⟨x44, bx44, h0⟩ := bnd h0
        iterate 3 ((try simp only [go_sem, fx43_0, fx43_1, fx43_2, fx43_9]); try simp only [Nat.reduceAdd])
        refine xcallD_p (auth_Handle_p x35.1 x43 0 bx44) ?_; try dsimp only
        try refine xd_id ?_
        iterate 3 ((try simp only [go_sem, fx43_0, fx43_1, fx43_2, fx43_9]); try simp only [Nat.reduceAdd])
        refine And.intro ?_ (hKK _ _ (Wk.refl _ _ _) ?_)
        ·
         subst hall
         clear hKK KK
         first | decide +kernel | (simp [printsOk, apartP, clash, meet]; try (first | done | decide +kernel | (repeat (first | exact Or.inr (by decide +kernel) | (refine And.intro (Or.inr (by decide +kernel)) ?_)))))
        ·
         clear hKK KK hall all
         refine awp_assoc ?_
         refine awp_nr [1,3,7,8] (fun _ => rfl) fun tz => ?_
         refine awp_regW fun KK hKK => ?_
         refine xw_id ?_
         refine xw_stop 3 (by (try simp only [go_sem]); rfl) (by (try simp only [go_sem]); rfl) (by rfl) fun K1 hK1 => ?_
         refine xw_id ?_
         try simp only [go_sem, Nat.reduceAdd, fx43_0, fx43_1, fx43_2, fx43_9]
         refine hK1 _ ?_; clear hK1 K1
         refine xw_cut 4 [(1, (.ptr 0 0)), (3, (.ptr 1 0)), (7, (.imm (List.map S_vu x44.2.1) x44.2.1.length)), (76, (vb ((x44.2.2 != 0) || ((x44.2.1.length : Int) != 2))))] (by (try simp only [go_sem]); rfl) (by (try simp only [go_sem]); rfl) (by rfl) (fun K1 hK1 => ?_) fun tz => ?_
         ·
          refine xw_id ?_
          rcases Bool.eq_false_or_eq_true (x44.2.2 != 0) with h10 | h10
          ·
           try simp only [go_sem, Nat.reduceAdd, fx43_0, fx43_1, fx43_2, fx43_9, h10]
           exact hK1 _ ⟨rfl, rfl, rfl, rfl, (by first | rfl | (rw [h10]; rfl) | (simp only [h10, Bool.true_and, Bool.false_and, Bool.true_or, Bool.false_or, cond_true, cond_false] <;> rfl)), trivial⟩
          ·
           try simp only [go_sem, Nat.reduceAdd, fx43_0, fx43_1, fx43_2, fx43_9, h10]
           exact hK1 _ ⟨rfl, rfl, rfl, rfl, (by first | rfl | (rw [h10]; rfl) | (simp only [h10, Bool.true_and, Bool.false_and, Bool.true_or, Bool.false_or, cond_true, cond_false] <;> rfl)), trivial⟩
         ·
          refine xw_id ?_
          refine xw_stop 1 (by (try simp only [go_sem]); rfl) (by (try simp only [go_sem]); rfl) (by rfl) fun K1 hK1 => ?_
          refine xw_id ?_
          try simp only [go_sem, Nat.reduceAdd, fx43_0, fx43_1, fx43_2, fx43_9]
          refine hK1 _ ?_; clear hK1 K1
          obtain ⟨x46, hvh11, h0⟩ := bnd h0
          refine xw_cut 6 [(1, (.ptr 0 0)), (3, (.ptr 1 0)), (7, (.imm (List.map S_vu x44.2.1) x44.2.1.length)), (83, (vb x46))] (by (try simp only [go_sem]); rfl) (by (try simp only [go_sem]); rfl) (by rfl) (fun K1 hK1 => ?_) fun tz => ?_
          ·
           refine xw_id ?_
           rcases Bool.eq_false_or_eq_true ((x44.2.2 != 0) || ((x44.2.1.length : Int) != 2)) with h11 | h11
           ·
            have hvh11 := cT hvh11 h11
            try simp only [go_sem, Nat.reduceAdd, fx43_0, fx43_1, fx43_2, fx43_9, h11]
            obtain rfl := someInj hvh11
            exact hK1 _ ⟨rfl, rfl, rfl, rfl, (by first | rfl | (rw [h11]; rfl) | (simp only [h11, Bool.true_and, Bool.false_and, Bool.true_or, Bool.false_or, cond_true, cond_false] <;> rfl)), trivial⟩
           ·
            have hvh11 := cF hvh11 h11
            obtain ⟨x45, bx45, hvh11⟩ := bnd hvh11
            obtain ⟨fx45_0, fx45_1, fx45_2, fx45_3⟩ := idx_some bx45
            simp only [Int.reduceToNat] at fx45_2 fx45_3
            have fx45_9 : (List.map S_vu x44.2.1)[1]? = some (S_vu x45) := by rw [List.getElem?_map, fx45_2]; rfl
            try simp only [go_sem, Nat.reduceAdd, fx43_0, fx43_1, fx43_2, fx43_9, h11, fx45_0, fx45_1, fx45_2, fx45_9]
            obtain rfl := someInj hvh11
            exact hK1 _ ⟨rfl, rfl, rfl, rfl, (by first | rfl | (rw [h11]; rfl) | (simp only [h11, Bool.true_and, Bool.false_and, Bool.true_or, Bool.false_or, cond_true, cond_false] <;> rfl)), trivial⟩
          ·
           refine xw_id ?_
           try simp only [go_sem, Nat.reduceAdd, fx43_0, fx43_1, fx43_2, fx43_9]
           refine hKK _ _ (Wk.refl _ _ _) ?_; clear hKK KK
           refine awp_cond (b := x46) rfl (fun h12 => ?_) (fun h12 => ?_)
           ·
            have h0 := cT h0 h12
            refine awp_assoc ?_
            refine awp_nr [] (fun _ => rfl) fun tz => ?_
            refine awp_regW fun KK hKK => ?_
            refine xw_id ?_
            try simp only [go_sem, Nat.reduceAdd, fx43_0, fx43_1, fx43_2, fx43_9]
            refine hKK _ _ (Wk.refl _ _ _) ?_; clear hKK KK
            refine awp_ret ?_
            obtain rfl := someInj h0
            refine endW_i ?_
            refine end_ret0 rs20 (rfl) ?_
            try simp only [go_sem, Nat.reduceAdd, fz, nilS, packR, List.take_nil, List.take_length, List.length_map, List.length_append, cond_true, cond_false, Nat.ble_eq, ble_self]
            all_goals first | rfl | (simp only [go_sem, Nat.reduceAdd, fz, nilS, packR, List.take_nil, List.take_length, List.length_map, List.length_append, cond_true, cond_false, Nat.ble_eq, ble_self, List.map_append] <;> rfl)
           ·
            have h0 := cF h0 h12
            refine awp_skip ?_
            refine awp_nr [1,3,7] (fun _ => rfl) fun tz => ?_
            refine awp_regDW fun KK hKK all hall => ?_
            refine xd_id ?_
            try simp only [List.toList_toArray, List.map_cons, List.map_nil, List.size_toArray, List.length_cons, List.length_nil, Nat.zero_add]
            try simp only [Nat.reduceAdd]
            obtain ⟨x47, bx47, h0⟩ := bnd h0
            obtain ⟨fx47_0, fx47_1, fx47_2, fx47_3⟩ := idx_some bx47
            simp only [Int.reduceToNat] at fx47_2 fx47_3
            have fx47_9 : (List.map S_vu x44.2.1)[0]? = some (S_vu x47) := by rw [List.getElem?_map, fx47_2]; rfl
            obtain ⟨x48, bx48, h0⟩ := bnd h0
            iterate 3 ((try simp only [go_sem, fx43_0, fx43_1, fx43_2, fx43_9, fx47_0, fx47_1, fx47_2, fx47_9]); try simp only [Nat.reduceAdd])
            refine xcallD_p (auth_Handle_p x40.1 x47 0 bx48) ?_; try dsimp only
            try refine xd_id ?_
            iterate 3 ((try simp only [go_sem, fx43_0, fx43_1, fx43_2, fx43_9, fx47_0, fx47_1, fx47_2, fx47_9]); try simp only [Nat.reduceAdd])
            refine And.intro ?_ (hKK _ (hotspotlaw29_alive_S3 x48 x44) (Wk.canonD [] [] [some 0, some 1] rfl trivial rfl (tmOU 1 (tmOU 0 tmO0 rfl List.not_mem_nil rfl (TmL.clean (e_Auth_clean _))) rfl List.not_mem_nil rfl (TmL.clean (e_Auth_clean _))) (tmAllU 10 (tmAllU 9 (tmAllU 7 (tmAllU 3 (tmAllU 1 tmAll0 (Tm.ptr rfl)) (Tm.ptr rfl)) (Tm.clean (Clean.imm (cS_vu _)))) (Tm.clean (Clean.imm (cS_vu _)))) (Tm.v _))) ?_)
            ·
             subst hall
             clear hKK KK
             first | decide +kernel | (simp [printsOk, apartP, clash, meet]; try (first | done | decide +kernel | (repeat (first | exact Or.inr (by decide +kernel) | (refine And.intro (Or.inr (by decide +kernel)) ?_)))))
            ·
             clear hKK KK hall all
             unfold hotspotlaw29_alive_S3
             refine awp_assoc ?_
             refine awp_nr [1,3,7,9,10] (fun _ => rfl) fun tz => ?_
             refine awp_regW fun KK hKK => ?_
             refine xw_id ?_
             refine xw_stop 3 (by (try simp only [go_sem]); rfl) (by (try simp only [go_sem]); rfl) (by rfl) fun K1 hK1 => ?_
             refine xw_id ?_
             try simp only [go_sem, Nat.reduceAdd, fx43_0, fx43_1, fx43_2, fx43_9, fx47_0, fx47_1, fx47_2, fx47_9]
             refine hK1 _ ?_; clear hK1 K1
             refine xw_cut 4 [(1, (.ptr 0 0)), (3, (.ptr 1 0)), (7, (.imm (List.map S_vu x44.2.1) x44.2.1.length)), (9, (.imm (List.map S_vu x48.2.1) x48.2.1.length)), (99, (vb ((x48.2.2 != 0) || ((x48.2.1.length : Int) != 1))))] (by (try simp only [go_sem]); rfl) (by (try simp only [go_sem]); rfl) (by rfl) (fun K1 hK1 => ?_) fun tz => ?_
             ·
              refine xw_id ?_
              rcases Bool.eq_false_or_eq_true (x48.2.2 != 0) with h13 | h13
              ·
               try simp only [go_sem, Nat.reduceAdd, fx43_0, fx43_1, fx43_2, fx43_9, fx47_0, fx47_1, fx47_2, fx47_9, h13]
               exact hK1 _ ⟨rfl, rfl, rfl, rfl, rfl, (by first | rfl | (rw [h13]; rfl) | (simp only [h13, Bool.true_and, Bool.false_and, Bool.true_or, Bool.false_or, cond_true, cond_false] <;> rfl)), trivial⟩
              ·
               try simp only [go_sem, Nat.reduceAdd, fx43_0, fx43_1, fx43_2, fx43_9, fx47_0, fx47_1, fx47_2, fx47_9, h13]
               exact hK1 _ ⟨rfl, rfl, rfl, rfl, rfl, (by first | rfl | (rw [h13]; rfl) | (simp only [h13, Bool.true_and, Bool.false_and, Bool.true_or, Bool.false_or, cond_true, cond_false] <;> rfl)), trivial⟩
             ·
              refine xw_id ?_
              try simp only [go_sem, Nat.reduceAdd, fx43_0, fx43_1, fx43_2, fx43_9, fx47_0, fx47_1, fx47_2, fx47_9]
              refine hKK _ _ (Wk.refl _ _ _) ?_; clear hKK KK
              refine awp_cond (b := ((x48.2.2 != 0) || ((x48.2.1.length : Int) != 1))) rfl (fun h14 => ?_) (fun h14 => ?_)
              ·
               have h0 := cT h0 h14
               refine awp_assoc ?_
               refine awp_nr [] (fun _ => rfl) fun tz => ?_
               refine awp_regW fun KK hKK => ?_
               refine xw_id ?_
               try simp only [go_sem, Nat.reduceAdd, fx43_0, fx43_1, fx43_2, fx43_9, fx47_0, fx47_1, fx47_2, fx47_9]
               refine hKK _ _ (Wk.refl _ _ _) ?_; clear hKK KK
               refine awp_ret ?_
               obtain rfl := someInj h0
               refine endW_i ?_
               refine end_ret0 rs20 (rfl) ?_
               try simp only [go_sem, Nat.reduceAdd, fz, nilS, packR, List.take_nil, List.take_length, List.length_map, List.length_append, cond_true, cond_false, Nat.ble_eq, ble_self]
               all_goals first | rfl | (simp only [go_sem, Nat.reduceAdd, fz, nilS, packR, List.take_nil, List.take_length, List.length_map, List.length_append, cond_true, cond_false, Nat.ble_eq, ble_self, List.map_append] <;> rfl)
              ·
               have h0 := cF h0 h14
               refine awp_skip ?_
               refine awp_nr [1,3,7,9] (fun _ => rfl) fun tz => ?_
               refine awp_regDW fun KK hKK all hall => ?_
               refine xd_id ?_
               try simp only [List.toList_toArray, List.map_cons, List.map_nil, List.size_toArray, List.length_cons, List.length_nil, Nat.zero_add]
               try simp only [Nat.reduceAdd]
               obtain ⟨x49, bx49, h0⟩ := bnd h0
               obtain ⟨fx49_0, fx49_1, fx49_2, fx49_3⟩ := idx_some bx49
               simp only [Int.reduceToNat] at fx49_2 fx49_3
               have fx49_9 : (List.map S_vu x44.2.1)[1]? = some (S_vu x49) := by rw [List.getElem?_map, fx49_2]; rfl
               obtain ⟨x50, bx50, h0⟩ := bnd h0
               iterate 3 ((try simp only [go_sem, fx43_0, fx43_1, fx43_2, fx43_9, fx47_0, fx47_1, fx47_2, fx47_9, fx49_0, fx49_1, fx49_2, fx49_9]); try simp only [Nat.reduceAdd])
               refine xcallD_p (auth_Handle_p x48.1 x49 0 bx50) ?_; try dsimp only
               try refine xd_id ?_
               iterate 3 ((try simp only [go_sem, fx43_0, fx43_1, fx43_2, fx43_9, fx47_0, fx47_1, fx47_2, fx47_9, fx49_0, fx49_1, fx49_2, fx49_9]); try simp only [Nat.reduceAdd])
               refine And.intro ?_ (hKK _ _ (Wk.refl _ _ _) ?_)
               ·
                subst hall
                clear hKK KK
                first | decide +kernel | (simp [printsOk, apartP, clash, meet]; try (first | done | decide +kernel | (repeat (first | exact Or.inr (by decide +kernel) | (refine And.intro (Or.inr (by decide +kernel)) ?_)))))
               ·
                clear hKK KK hall all
                refine awp_nr [1,3,9,12] (fun _ => rfl) fun tz => ?_
                refine awp_regDW fun KK hKK all hall => ?_
                refine xd_id ?_
                try simp only [List.toList_toArray, List.map_cons, List.map_nil, List.size_toArray, List.length_cons, List.length_nil, Nat.zero_add]
                try simp only [Nat.reduceAdd]
                obtain ⟨x51, bx51, h0⟩ := bnd h0
                obtain ⟨fx51_0, fx51_1, fx51_2, fx51_3⟩ := idx_some bx51
                simp only [Int.reduceToNat] at fx51_2 fx51_3
                have fx51_9 : (List.map S_vu x48.2.1)[0]? = some (S_vu x51) := by rw [List.getElem?_map, fx51_2]; rfl
                obtain ⟨x52, bx52, h0⟩ := bnd h0
                iterate 3 ((try simp only [go_sem, fx43_0, fx43_1, fx43_2, fx43_9, fx47_0, fx47_1, fx47_2, fx47_9, fx49_0, fx49_1, fx49_2, fx49_9, fx51_0, fx51_1, fx51_2, fx51_9]); try simp only [Nat.reduceAdd])
                refine xcallD_p (auth_Handle_p x44.1 x51 0 bx52) ?_; try dsimp only
                try refine xd_id ?_
                iterate 3 ((try simp only [go_sem, fx43_0, fx43_1, fx43_2, fx43_9, fx47_0, fx47_1, fx47_2, fx47_9, fx49_0, fx49_1, fx49_2, fx49_9, fx51_0, fx51_1, fx51_2, fx51_9]); try simp only [Nat.reduceAdd])
                refine And.intro ?_ (hKK _ (hotspotlaw29_alive_S4 x50 x52) (Wk.canonD [] [] [some 0, some 1] rfl trivial rfl (tmOU 1 (tmOU 0 tmO0 rfl List.not_mem_nil rfl (TmL.clean (e_Auth_clean _))) rfl List.not_mem_nil rfl (TmL.clean (e_Auth_clean _))) (tmAllU 14 (tmAllU 12 (tmAllU 3 (tmAllU 1 tmAll0 (Tm.ptr rfl)) (Tm.ptr rfl)) (Tm.v _)) (Tm.v _))) ?_)
                ·
                 subst hall
                 clear hKK KK
                 first | decide +kernel | (simp [printsOk, apartP, clash, meet]; try (first | done | decide +kernel | (repeat (first | exact Or.inr (by decide +kernel) | (refine And.intro (Or.inr (by decide +kernel)) ?_)))))
                ·
                 clear hKK KK hall all
                 unfold hotspotlaw29_alive_S4
                 refine awp_nr [1,3,12,14] (fun _ => rfl) fun tz => ?_
                 refine awp_regW fun KK hKK => ?_
                 refine xw_id ?_
                 try simp only [List.append_eq, Array.toList_append, List.append_toArray, List.toList_toArray, List.cons_append, List.nil_append]
                 refine xw_stop 3 (by (try simp only [go_sem]); rfl) (by (try simp only [go_sem]); rfl) (by rfl) fun K1 hK1 => ?_
                 refine xw_id ?_
                 try simp only [go_sem, Nat.reduceAdd, fx43_0, fx43_1, fx43_2, fx43_9, fx47_0, fx47_1, fx47_2, fx47_9, fx49_0, fx49_1, fx49_2, fx49_9, fx51_0, fx51_1, fx51_2, fx51_9]
                 refine hK1 _ ?_; clear hK1 K1
                 refine xw_cut 3 [(1, (.ptr 0 0)), (3, (.ptr 1 0)), (123, (vb ((x50.2.2 == 0) && (x52.2.2 == 0))))] (by (try simp only [go_sem]); rfl) (by (try simp only [go_sem]); rfl) (by rfl) (fun K1 hK1 => ?_) fun tz => ?_
                 ·
                  refine xw_id ?_
                  rcases Bool.eq_false_or_eq_true (x50.2.2 == 0) with h15 | h15
                  ·
                   try simp only [go_sem, Nat.reduceAdd, fx43_0, fx43_1, fx43_2, fx43_9, fx47_0, fx47_1, fx47_2, fx47_9, fx49_0, fx49_1, fx49_2, fx49_9, fx51_0, fx51_1, fx51_2, fx51_9, h15]
                   exact hK1 _ ⟨rfl, rfl, rfl, (by first | rfl | (rw [h15]; rfl) | (simp only [h15, Bool.true_and, Bool.false_and, Bool.true_or, Bool.false_or, cond_true, cond_false] <;> rfl)), trivial⟩
                  ·
                   try simp only [go_sem, Nat.reduceAdd, fx43_0, fx43_1, fx43_2, fx43_9, fx47_0, fx47_1, fx47_2, fx47_9, fx49_0, fx49_1, fx49_2, fx49_9, fx51_0, fx51_1, fx51_2, fx51_9, h15]
                   exact hK1 _ ⟨rfl, rfl, rfl, (by first | rfl | (rw [h15]; rfl) | (simp only [h15, Bool.true_and, Bool.false_and, Bool.true_or, Bool.false_or, cond_true, cond_false] <;> rfl)), trivial⟩
                 ·
                  refine xw_id ?_
                  refine xw_stop 1 (by (try simp only [go_sem]); rfl) (by (try simp only [go_sem]); rfl) (by rfl) fun K1 hK1 => ?_
                  refine xw_id ?_
                  try simp only [go_sem, Nat.reduceAdd, fx43_0, fx43_1, fx43_2, fx43_9, fx47_0, fx47_1, fx47_2, fx47_9, fx49_0, fx49_1, fx49_2, fx49_9, fx51_0, fx51_1, fx51_2, fx51_9]
                  refine hK1 _ ?_; clear hK1 K1
                  refine xw_cut 4 [(1, (.ptr 0 0)), (3, (.ptr 1 0)), (128, (vb (((x50.2.2 == 0) && (x52.2.2 == 0)) && (x50.1.Stage == 3))))] (by (try simp only [go_sem]); rfl) (by (try simp only [go_sem]); rfl) (by rfl) (fun K1 hK1 => ?_) fun tz => ?_
                  ·
                   refine xw_id ?_
                   rcases Bool.eq_false_or_eq_true ((x50.2.2 == 0) && (x52.2.2 == 0)) with h16 | h16
                   ·
                    have h16_0 : (x50.2.2 == 0) = true := by simp only [Bool.and_eq_true] at h16; exact h16.1
                    have h16_1 : (x52.2.2 == 0) = true := by simp only [Bool.and_eq_true] at h16; exact h16.2
                    try simp only [go_sem, Nat.reduceAdd, fx43_0, fx43_1, fx43_2, fx43_9, fx47_0, fx47_1, fx47_2, fx47_9, fx49_0, fx49_1, fx49_2, fx49_9, fx51_0, fx51_1, fx51_2, fx51_9, h16, h16_0, h16_1]
                    exact hK1 _ ⟨rfl, rfl, rfl, (by first | rfl | (rw [h16]; rfl) | (simp only [h16, Bool.true_and, Bool.false_and, Bool.true_or, Bool.false_or, cond_true, cond_false] <;> rfl)), trivial⟩
                   ·
                    try simp only [go_sem, Nat.reduceAdd, fx43_0, fx43_1, fx43_2, fx43_9, fx47_0, fx47_1, fx47_2, fx47_9, fx49_0, fx49_1, fx49_2, fx49_9, fx51_0, fx51_1, fx51_2, fx51_9, h16]
                    exact hK1 _ ⟨rfl, rfl, rfl, (by first | rfl | (rw [h16]; rfl) | (simp only [h16, Bool.true_and, Bool.false_and, Bool.true_or, Bool.false_or, cond_true, cond_false] <;> rfl)), trivial⟩
                  ·
                   refine xw_id ?_
                   refine xw_stop 1 (by (try simp only [go_sem]); rfl) (by (try simp only [go_sem]); rfl) (by rfl) fun K1 hK1 => ?_
                   refine xw_id ?_
                   try simp only [go_sem, Nat.reduceAdd, fx43_0, fx43_1, fx43_2, fx43_9, fx47_0, fx47_1, fx47_2, fx47_9, fx49_0, fx49_1, fx49_2, fx49_9, fx51_0, fx51_1, fx51_2, fx51_9]
                   refine hK1 _ ?_; clear hK1 K1
                   refine xw_cut 4 [(1, (.ptr 0 0)), (3, (.ptr 1 0)), (133, (vb ((((x50.2.2 == 0) && (x52.2.2 == 0)) && (x50.1.Stage == 3)) && (x52.1.Stage == 3))))] (by (try simp only [go_sem]); rfl) (by (try simp only [go_sem]); rfl) (by rfl) (fun K1 hK1 => ?_) fun tz => ?_
                   ·
                    refine xw_id ?_
                    rcases Bool.eq_false_or_eq_true (((x50.2.2 == 0) && (x52.2.2 == 0)) && (x50.1.Stage == 3)) with h17 | h17
                    ·
                     have h17_0 : (x50.2.2 == 0) = true := by simp only [Bool.and_eq_true] at h17; exact h17.1.1
                     have h17_1 : (x52.2.2 == 0) = true := by simp only [Bool.and_eq_true] at h17; exact h17.1.2
                     have h17_2 : (x50.1.Stage == 3) = true := by simp only [Bool.and_eq_true] at h17; exact h17.2
                     try simp only [go_sem, Nat.reduceAdd, fx43_0, fx43_1, fx43_2, fx43_9, fx47_0, fx47_1, fx47_2, fx47_9, fx49_0, fx49_1, fx49_2, fx49_9, fx51_0, fx51_1, fx51_2, fx51_9, h17, h17_0, h17_1, h17_2]
                     exact hK1 _ ⟨rfl, rfl, rfl, (by first | rfl | (rw [h17]; rfl) | (simp only [h17, Bool.true_and, Bool.false_and, Bool.true_or, Bool.false_or, cond_true, cond_false] <;> rfl)), trivial⟩
                    ·
                     try simp only [go_sem, Nat.reduceAdd, fx43_0, fx43_1, fx43_2, fx43_9, fx47_0, fx47_1, fx47_2, fx47_9, fx49_0, fx49_1, fx49_2, fx49_9, fx51_0, fx51_1, fx51_2, fx51_9, h17]
                     exact hK1 _ ⟨rfl, rfl, rfl, (by first | rfl | (rw [h17]; rfl) | (simp only [h17, Bool.true_and, Bool.false_and, Bool.true_or, Bool.false_or, cond_true, cond_false] <;> rfl)), trivial⟩
                   ·
                    refine xw_id ?_
                    refine xw_stop 1 (by (try simp only [go_sem]); rfl) (by (try simp only [go_sem]); rfl) (by rfl) fun K1 hK1 => ?_
                    refine xw_id ?_
                    try simp only [go_sem, Nat.reduceAdd, fx43_0, fx43_1, fx43_2, fx43_9, fx47_0, fx47_1, fx47_2, fx47_9, fx49_0, fx49_1, fx49_2, fx49_9, fx51_0, fx51_1, fx51_2, fx51_9]
                    refine hK1 _ ?_; clear hK1 K1
                    refine xw_cut 6 [(1, (.ptr 0 0)), (3, (.ptr 1 0)), (140, (vb (((((x50.2.2 == 0) && (x52.2.2 == 0)) && (x50.1.Stage == 3)) && (x52.1.Stage == 3)) && (decide (x50.1.Master = x52.1.Master)))))] (by (try simp only [go_sem]); rfl) (by (try simp only [go_sem]); rfl) (by rfl) (fun K1 hK1 => ?_) fun tz => ?_
                    ·
                     refine xw_id ?_
                     rcases Bool.eq_false_or_eq_true ((((x50.2.2 == 0) && (x52.2.2 == 0)) && (x50.1.Stage == 3)) && (x52.1.Stage == 3)) with h18 | h18
                     ·
                      have h18_0 : (x50.2.2 == 0) = true := by simp only [Bool.and_eq_true] at h18; exact h18.1.1.1
                      have h18_1 : (x52.2.2 == 0) = true := by simp only [Bool.and_eq_true] at h18; exact h18.1.1.2
                      have h18_2 : (x50.1.Stage == 3) = true := by simp only [Bool.and_eq_true] at h18; exact h18.1.2
                      have h18_3 : (x52.1.Stage == 3) = true := by simp only [Bool.and_eq_true] at h18; exact h18.2
                      try simp only [go_sem, Nat.reduceAdd, fx43_0, fx43_1, fx43_2, fx43_9, fx47_0, fx47_1, fx47_2, fx47_9, fx49_0, fx49_1, fx49_2, fx49_9, fx51_0, fx51_1, fx51_2, fx51_9, h18, h18_0, h18_1, h18_2, h18_3]
                      exact hK1 _ ⟨rfl, rfl, rfl, (by first | rfl | (rw [h18]; rfl) | (simp only [h18, Bool.true_and, Bool.false_and, Bool.true_or, Bool.false_or, cond_true, cond_false] <;> rfl)), trivial⟩
                     ·
                      try simp only [go_sem, Nat.reduceAdd, fx43_0, fx43_1, fx43_2, fx43_9, fx47_0, fx47_1, fx47_2, fx47_9, fx49_0, fx49_1, fx49_2, fx49_9, fx51_0, fx51_1, fx51_2, fx51_9, h18]
                      exact hK1 _ ⟨rfl, rfl, rfl, (by first | rfl | (rw [h18]; rfl) | (simp only [h18, Bool.true_and, Bool.false_and, Bool.true_or, Bool.false_or, cond_true, cond_false] <;> rfl)), trivial⟩
                    ·
                     refine xw_id ?_
                     refine xw_stop 1 (by (try simp only [go_sem]); rfl) (by (try simp only [go_sem]); rfl) (by rfl) fun K1 hK1 => ?_
                     refine xw_id ?_
                     try simp only [go_sem, Nat.reduceAdd, fx43_0, fx43_1, fx43_2, fx43_9, fx47_0, fx47_1, fx47_2, fx47_9, fx49_0, fx49_1, fx49_2, fx49_9, fx51_0, fx51_1, fx51_2, fx51_9]
                     refine hK1 _ ?_; clear hK1 K1
                     refine xw_cut 6 [(147, (vb ((((((x50.2.2 == 0) && (x52.2.2 == 0)) && (x50.1.Stage == 3)) && (x52.1.Stage == 3)) && (decide (x50.1.Master = x52.1.Master))) && (decide (x50.1.Confirm = x52.1.Confirm)))))] (by (try simp only [go_sem]); rfl) (by (try simp only [go_sem]); rfl) (by rfl) (fun K1 hK1 => ?_) fun tz => ?_
                     ·
                      refine xw_id ?_
                      rcases Bool.eq_false_or_eq_true (((((x50.2.2 == 0) && (x52.2.2 == 0)) && (x50.1.Stage == 3)) && (x52.1.Stage == 3)) && (decide (x50.1.Master = x52.1.Master))) with h19 | h19
                      ·
                       have h19_0 : (x50.2.2 == 0) = true := by simp only [Bool.and_eq_true] at h19; exact h19.1.1.1.1
                       have h19_1 : (x52.2.2 == 0) = true := by simp only [Bool.and_eq_true] at h19; exact h19.1.1.1.2
                       have h19_2 : (x50.1.Stage == 3) = true := by simp only [Bool.and_eq_true] at h19; exact h19.1.1.2
                       have h19_3 : (x52.1.Stage == 3) = true := by simp only [Bool.and_eq_true] at h19; exact h19.1.2
                       have h19_4 : (decide (x50.1.Master = x52.1.Master)) = true := by simp only [Bool.and_eq_true] at h19; exact h19.2
                       try simp only [go_sem, Nat.reduceAdd, fx43_0, fx43_1, fx43_2, fx43_9, fx47_0, fx47_1, fx47_2, fx47_9, fx49_0, fx49_1, fx49_2, fx49_9, fx51_0, fx51_1, fx51_2, fx51_9, h19, h19_0, h19_1, h19_2, h19_3, h19_4]
                       exact hK1 _ ⟨rfl, (by first | rfl | (rw [h19]; rfl) | (simp only [h19, Bool.true_and, Bool.false_and, Bool.true_or, Bool.false_or, cond_true, cond_false] <;> rfl)), trivial⟩
                      ·
                       try simp only [go_sem, Nat.reduceAdd, fx43_0, fx43_1, fx43_2, fx43_9, fx47_0, fx47_1, fx47_2, fx47_9, fx49_0, fx49_1, fx49_2, fx49_9, fx51_0, fx51_1, fx51_2, fx51_9, h19]
                       exact hK1 _ ⟨rfl, (by first | rfl | (rw [h19]; rfl) | (simp only [h19, Bool.true_and, Bool.false_and, Bool.true_or, Bool.false_or, cond_true, cond_false] <;> rfl)), trivial⟩
                     ·
                      refine xw_id ?_
                      try simp only [go_sem, Nat.reduceAdd, fx43_0, fx43_1, fx43_2, fx43_9, fx47_0, fx47_1, fx47_2, fx47_9, fx49_0, fx49_1, fx49_2, fx49_9, fx51_0, fx51_1, fx51_2, fx51_9]
                      refine hKK _ _ (Wk.refl _ _ _) ?_; clear hKK KK
                      refine awp_ret1 ?_
                      obtain rfl := someInj h0
                      refine endW_i ?_
                      refine end_ret0 rs20 (rfl) ?_
                      try simp only [go_sem, Nat.reduceAdd, fz, nilS, packR, List.take_nil, List.take_length, List.length_map, List.length_append, cond_true, cond_false, Nat.ble_eq, ble_self]
                      all_goals first | rfl | (simp only [go_sem, Nat.reduceAdd, fz, nilS, packR, List.take_nil, List.take_length, List.length_map, List.length_append, cond_true, cond_false, Nat.ble_eq, ble_self, List.map_append] <;> rfl)

end Go.AX.Z.TV

/-! (TVW hotspotref29 SameDoor) -/

set_option linter.unusedSimpArgs false
set_option linter.unusedVariables false
set_option maxHeartbeats 4000000
set_option maxRecDepth 20000
namespace Go.AX.Z.TV
open Go.AX Go.Proofs
attribute [local irreducible] awp xw xop xcall gsp ob xd xdop xcallD seqQ loopQ blkQ endQ

def hotspotref29_SameDoor_S0 (d62 : Unit) : AS :=
 { objs := (fun _ => .dead), next := 0, tmps := (fun _ => .unk) }

def hotspotref29_SameDoor_S1 (a0 : AuthDoor) (a1 : AuthDoor) (d64 : Int) : AS :=
 { objs := (upd (upd (fun _ => .dead) 0 (.live (e_AuthDoor a0 (.imm (List.flatMap e_A6vu a0.Open) a0.Open.length)))) 1 (.live (e_AuthDoor a1 (.imm (List.flatMap e_A6vu a1.Open) a1.Open.length)))), next := 2, tmps := (upd (upd (upd (fun _ => .unk) 2 (.ptr 0 0)) 3 (.ptr 1 0)) 5 (vi d64)) }

theorem hotspotref29_SameDoor_p (a0 : AuthDoor) (a1 : AuthDoor) {r : Bool} (h0 : hotspotref29_SameDoor a0 a1 = some r) : SndP K 10 [(.agg (E_AuthDoor a0)), (.agg (E_AuthDoor a1))] (vb r) := by
 refine SndP.of_walkW hC (Clean.v _) (clean_cons (Clean.agg (E_AuthDoor_clean _)) (clean_cons (Clean.agg (E_AuthDoor_clean _)) clean_nil)) (show K.P.funcs[10]? = some Try.f10 from Try.func10) rfl rfl (by decide +kernel) (Nat.le_of_ble_eq_true rfl) ?_
 unfold hotspotref29_SameDoor at h0
 refine awp_nr [0,1] (fun _ => rfl) fun tz => ?_
 refine awp_regW fun KK hKK => ?_
 refine xw_id ?_
 try simp only [go_sem, Nat.reduceAdd]
 refine hKK _ _ (Wk.refl _ _ _) ?_; clear hKK KK
 refine awp_assoc ?_
 refine awp_nr [2,3] (fun _ => rfl) fun tz => ?_
 refine awp_regW fun KK hKK => ?_
 refine xw_id ?_
 refine xw_stop 6 (by (try simp only [go_sem]); rfl) (by (try simp only [go_sem]); rfl) (by rfl) fun K1 hK1 => ?_
 refine xw_id ?_
 try simp only [go_sem, Nat.reduceAdd]
 refine hK1 _ ?_; clear hK1 K1
 refine xw_cut 8 [(2, (.ptr 0 0)), (3, (.ptr 1 0)), (19, (vb ((!decide (a0.Secret = a1.Secret)) || ((a0.Open.length : Int) != (a1.Open.length : Int)))))] (by (try simp only [go_sem]); rfl) (by (try simp only [go_sem]); rfl) (by rfl) (fun K1 hK1 => ?_) fun tz => ?_
 ·
  refine xw_id ?_
  rcases Bool.eq_false_or_eq_true (!decide (a0.Secret = a1.Secret)) with h1 | h1
  ·
   try simp only [go_sem, Nat.reduceAdd, h1]
   exact hK1 _ ⟨rfl, rfl, rfl, (by first | rfl | (rw [h1]; rfl) | (simp only [h1, Bool.true_and, Bool.false_and, Bool.true_or, Bool.false_or, cond_true, cond_false] <;> rfl)), trivial⟩
  ·
   try simp only [go_sem, Nat.reduceAdd, h1]
   exact hK1 _ ⟨rfl, rfl, rfl, (by first | rfl | (rw [h1]; rfl) | (simp only [h1, Bool.true_and, Bool.false_and, Bool.true_or, Bool.false_or, cond_true, cond_false] <;> rfl)), trivial⟩
 ·
  refine xw_id ?_
  try simp only [go_sem, Nat.reduceAdd]
  refine hKK _ _ (Wk.refl _ _ _) ?_; clear hKK KK
  refine awp_cond (b := ((!decide (a0.Secret = a1.Secret)) || ((a0.Open.length : Int) != (a1.Open.length : Int)))) rfl (fun h2 => ?_) (fun h2 => ?_)
  ·
   have h0 := cT h0 h2
   refine awp_assoc ?_
   refine awp_nr [] (fun _ => rfl) fun tz => ?_
   refine awp_regW fun KK hKK => ?_
   refine xw_id ?_
   try simp only [go_sem, Nat.reduceAdd]
   refine hKK _ _ (Wk.refl _ _ _) ?_; clear hKK KK
   refine awp_ret ?_
   obtain rfl := someInj h0
   refine endW_i ?_
   refine end_ret0 rs10 (rfl) ?_
   try simp only [go_sem, Nat.reduceAdd, fz, nilS, packR, List.take_nil, List.take_length, List.length_map, List.length_append, cond_true, cond_false, Nat.ble_eq, ble_self]
   all_goals first | rfl | (simp only [go_sem, Nat.reduceAdd, fz, nilS, packR, List.take_nil, List.take_length, List.length_map, List.length_append, cond_true, cond_false, Nat.ble_eq, ble_self, List.map_append] <;> rfl)
  ·
   have h0 := cF h0 h2
   refine awp_skip ?_
   refine awp_assoc ?_
   refine awp_nr [2,3] (fun _ => rfl) fun tz => ?_
   refine awp_regW fun KK hKK => ?_
   refine xw_id ?_
   try simp only [go_sem, Nat.reduceAdd]
   refine hKK _ _ (Wk.refl _ _ _) ?_; clear hKK KK
   obtain ⟨o63, hi3, h0⟩ := bnd h0
   refine awp_cut (fun d62 : Unit => o63 = Ex.go d62) (fun d62 : Unit => hotspotref29_SameDoor_S0 d62) ?_ ?_
   ·
    refine awp_block1 ?_
    refine awp_loopS (fun n (d64 : Int) => hotspotref29_SameDoor_L2 a0 a1 n d64 = some o63) (fun d64 : Int => hotspotref29_SameDoor_S1 a0 a1 d64) big 0 (Wk.canonD [] [] [some 0, some 1] rfl trivial rfl (tmOU 1 (tmOU 0 tmO0 rfl List.not_mem_nil rfl (e_AuthDoor_tmx (by rfl) (Tm.clean (Clean.imm (c_A6vu _))))) rfl List.not_mem_nil rfl (e_AuthDoor_tmx (by rfl) (Tm.clean (Clean.imm (c_A6vu _))))) (tmAllU 5 (tmAllU 3 (tmAllU 2 tmAll0 (Tm.ptr rfl)) (Tm.ptr rfl)) (Tm.v _))) hi3 ?_
    clear hi3
    rintro n d64 hl5
    rcases n with _ | n4
    ·
     (rw [hotspotref29_SameDoor_L2] at hl5; cases hl5)
    ·
     rw [hotspotref29_SameDoor_L2] at hl5
     unfold hotspotref29_SameDoor_S1
     refine awp_assoc ?_
     refine awp_nr [2,3,5] (fun _ => rfl) fun tz => ?_
     refine awp_regW fun KK hKK => ?_
     refine xw_id ?_
     try simp only [go_sem, Nat.reduceAdd]
     refine hKK _ _ (Wk.refl _ _ _) ?_; clear hKK KK
     refine awp_cond (b := (decide (d64 < (a0.Open.length : Int)))) rfl (fun h6 => ?_) (fun h6 => ?_)
     ·
      have hl5 := cT hl5 h6
      refine awp_skip ?_
      refine awp_blockW ?_
      refine awp_nr [2,3,5] (fun _ => rfl) fun tz => ?_
      refine awp_regW fun KK hKK => ?_
      refine xw_id ?_
      obtain ⟨x65, bx65, hl5⟩ := bnd hl5
      obtain ⟨fx65_0, fx65_1, fx65_2, fx65_3⟩ := idx_some bx65
      obtain ⟨x66, bx66, hl5⟩ := bnd hl5
      obtain ⟨fx66_0, fx66_1, fx66_2, fx66_3⟩ := idx_some bx66
      try simp only [go_sem, Nat.reduceAdd, fx65_0, fx65_1, fx65_2, fx66_0, fx66_1, fx66_2]
      refine hKK _ _ (Wk.refl _ _ _) ?_; clear hKK KK
      refine awp_cond1 (b := (!decide (x65 = x66))) rfl (fun h7 => ?_) (fun h7 => ?_)
      ·
       have hl5 := cT hl5 h7
       refine awp_nr [] (fun _ => rfl) fun tz => ?_
       refine awp_regW fun KK hKK => ?_
       refine xw_id ?_
       try simp only [go_sem, Nat.reduceAdd, fx65_0, fx65_1, fx65_2, fx66_0, fx66_1, fx66_2]
       refine hKK _ _ (Wk.refl _ _ _) ?_; clear hKK KK
       refine awp_ret1 ?_
       refine bq_r ?_
       refine sq_r ?_
       refine lq_r ?_
       refine bq_r ?_
       refine sq_r ?_
       obtain rfl := someInj hl5
       obtain rfl := Ex.k_ret h0
       refine endW_i ?_
       refine end_ret0 rs10 (rfl) ?_
       try simp only [go_sem, Nat.reduceAdd, fz, nilS, packR, List.take_nil, List.take_length, List.length_map, List.length_append, cond_true, cond_false, Nat.ble_eq, ble_self]
       all_goals first | rfl | (simp only [go_sem, Nat.reduceAdd, fz, nilS, packR, List.take_nil, List.take_length, List.length_map, List.length_append, cond_true, cond_false, Nat.ble_eq, ble_self, List.map_append] <;> rfl)
      ·
       have hl5 := cF hl5 h7
       refine awp_skip1 ?_
       refine bq_n ?_
       refine seqW_i ?_
       refine awp_nr1 [2,3,5] (fun _ => rfl) fun tz => ?_
       refine awp_reg1 fun KK hKK => ?_
       refine xw_id ?_
       try simp only [go_sem, Nat.reduceAdd, fx65_0, fx65_1, fx65_2, fx66_0, fx66_1, fx66_2]
       refine hKK _ ?_; clear hKK KK
       refine lq_n ?_
       exact ⟨n4, IntKind.wrap .i64 (d64 + 1), rfl, hl5, (Wk.canonD [] [] [some 0, some 1] rfl trivial rfl (tmOU 1 (tmOU 0 tmO0 rfl List.not_mem_nil rfl (e_AuthDoor_tmx (by rfl) (Tm.clean (Clean.imm (c_A6vu _))))) rfl List.not_mem_nil rfl (e_AuthDoor_tmx (by rfl) (Tm.clean (Clean.imm (c_A6vu _))))) (tmAllU 5 (tmAllU 3 (tmAllU 2 tmAll0 (Tm.ptr rfl)) (Tm.ptr rfl)) (Tm.v _)))⟩
     ·
      have hl5 := cF hl5 h6
      refine awp_exit ?_
      refine lq_e ?_
      refine bq_e ?_
      refine sq_n ?_
      obtain rfl := someInj hl5
      exact ⟨_, rfl, (Wk.canonD [] [] [] rfl trivial rfl tmO0 tmAll0)⟩
   ·
    rintro d62 rfl
    have h0 := Ex.k_go h0
    clear hi3
    unfold hotspotref29_SameDoor_S0
    refine awp_nr [] (fun _ => rfl) fun tz => ?_
    refine awp_regW fun KK hKK => ?_
    refine xw_id ?_
    try simp only [go_sem, Nat.reduceAdd]
    refine hKK _ _ (Wk.refl _ _ _) ?_; clear hKK KK
    refine awp_ret1 ?_
    obtain rfl := someInj h0
    refine endW_i ?_
    refine end_ret0 rs10 (rfl) ?_
    try simp only [go_sem, Nat.reduceAdd, fz, nilS, packR, List.take_nil, List.take_length, List.length_map, List.length_append, cond_true, cond_false, Nat.ble_eq, ble_self]
    all_goals first | rfl | (simp only [go_sem, Nat.reduceAdd, fz, nilS, packR, List.take_nil, List.take_length, List.length_map, List.length_append, cond_true, cond_false, Nat.ble_eq, ble_self, List.map_append] <;> rfl)

end Go.AX.Z.TV
