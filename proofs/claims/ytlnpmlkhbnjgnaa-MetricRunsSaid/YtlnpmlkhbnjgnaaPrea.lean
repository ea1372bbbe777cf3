/- A part of the proof: the types, the facts of the program and the functions, read plainly. -/
import Derived.Test.YtlnpmlkhbnjgnaaCorec
import Derived.Test.YtlnpmlkhbnjgnaaProg
import Derived.KernelRfl
set_option linter.unusedVariables false
set_option linter.unusedSimpArgs false

/-! (TMS) -/

set_option linter.unusedSimpArgs false
set_option linter.unusedVariables false
namespace Go.AX.Z.TM
open Go.AX
structure Addr where
  a0 : Int
  a1 : Int
  a2 : Int
  a3 : Int
  a4 : Int
  a5 : Int
  deriving DecidableEq

def Addr.z : Addr := ⟨0, 0, 0, 0, 0, 0⟩

def e_Addr (x : Addr) : List AV := [vu x.a0, vu x.a1, vu x.a2, vu x.a3, vu x.a4, vu x.a5]

theorem e_Addr_len (x : Addr) : (e_Addr x).length = 6 := by rfl
theorem e_Addr_sub (x : Addr) : sub? (e_Addr x) 0 6 = some (e_Addr x) := by rfl
theorem e_Addr_take (x : Addr) : (e_Addr x).take 6 = (e_Addr x) := by rfl
theorem e_Addr_all (x : Addr) (y : Addr) : putAt (e_Addr x) 0 (e_Addr y) = e_Addr y := by rfl
theorem e_Addr_g_a0 (x : Addr) : (e_Addr x)[0]? = some (vu x.a0) := by rfl
theorem e_Addr_s_a0 (x : Addr) (v : Int) : (e_Addr x).set 0 (vu v) = e_Addr { x with a0 := v } := by rfl
theorem e_Addr_g_a1 (x : Addr) : (e_Addr x)[1]? = some (vu x.a1) := by rfl
theorem e_Addr_s_a1 (x : Addr) (v : Int) : (e_Addr x).set 1 (vu v) = e_Addr { x with a1 := v } := by rfl
theorem e_Addr_g_a2 (x : Addr) : (e_Addr x)[2]? = some (vu x.a2) := by rfl
theorem e_Addr_s_a2 (x : Addr) (v : Int) : (e_Addr x).set 2 (vu v) = e_Addr { x with a2 := v } := by rfl
theorem e_Addr_g_a3 (x : Addr) : (e_Addr x)[3]? = some (vu x.a3) := by rfl
theorem e_Addr_s_a3 (x : Addr) (v : Int) : (e_Addr x).set 3 (vu v) = e_Addr { x with a3 := v } := by rfl
theorem e_Addr_g_a4 (x : Addr) : (e_Addr x)[4]? = some (vu x.a4) := by rfl
theorem e_Addr_s_a4 (x : Addr) (v : Int) : (e_Addr x).set 4 (vu v) = e_Addr { x with a4 := v } := by rfl
theorem e_Addr_g_a5 (x : Addr) : (e_Addr x)[5]? = some (vu x.a5) := by rfl
theorem e_Addr_s_a5 (x : Addr) (v : Int) : (e_Addr x).set 5 (vu v) = e_Addr { x with a5 := v } := by rfl
theorem e_Addr_fz (x : Addr) (o : Nat → Ob) (n : Nat) : (e_Addr x).map (fz o (n + 1)) = e_Addr x := by rfl
theorem e_Addr_reach (x : Addr) (o : Nat → Ob) (n : Nat) : (e_Addr x).flatMap (reach o (n + 1)) = [] := by
  simp only [e_Addr, List.cons_append, List.nil_append, List.append_nil, List.flatMap_cons, List.flatMap_nil, reach_v]
theorem e_Addr_clean (x : Addr) : ∀ c ∈ (e_Addr x), Clean c := by
  simp only [e_Addr, List.cons_append, List.nil_append]
  repeat' (first | exact Clean.v _ | assumption | exact List.forall_mem_nil _ | refine List.forall_mem_cons.2 ⟨?_, ?_⟩)
theorem e_Addr_tm {st : AS} {F : List Nat} {σ : List (Option Nat)} (x : Addr) : TmL st F σ (e_Addr x) (e_Addr x) := by
  simp only [e_Addr, List.cons_append, List.nil_append]
  repeat' (first | exact TmL.nil | (refine TmL.cons (Tm.v _) ?_) | (refine TmL.cons (by assumption) ?_))
theorem f_Addr (x : Addr) (o : Nat → Ob) (n : Nat) : (e_Addr x).map (fz o (n + 1)) = e_Addr x := by simp only [e_Addr_fz]
theorem q_Addr (x : Addr) (o : Nat → Ob) (n : Nat) : (e_Addr x).flatMap (reach o (n + 1)) = [] := by simp only [e_Addr_reach, List.append_nil]
theorem e_Addr_kinds (x : Addr) : kindsOk [some .u8, some .u8, some .u8, some .u8, some .u8, some .u8] (e_Addr x) = true := by rfl
theorem e_Addr_eq (x y : Addr) : eqCells (e_Addr x) (e_Addr y) = decide (x = y) := by
  rw [Bool.eq_iff_iff]
  simp only [e_Addr, List.cons_append, List.nil_append, List.append_nil, eqCells, eqv, Bool.and_eq_true, beq_iff_eq, decide_eq_true_eq, and_true]
  constructor
  · intro h
    obtain ⟨v1, v2, v3, v4, v5, v6⟩ := x
    obtain ⟨v7', v8', v9', v10', v11', v12'⟩ := y
    simp_all
  · rintro rfl
    simp
attribute [go_sem] e_Addr_len e_Addr_sub e_Addr_take e_Addr_all e_Addr_g_a0 e_Addr_s_a0 e_Addr_g_a1 e_Addr_s_a1 e_Addr_g_a2 e_Addr_s_a2 e_Addr_g_a3 e_Addr_s_a3 e_Addr_g_a4 e_Addr_s_a4 e_Addr_g_a5 e_Addr_s_a5 e_Addr_fz e_Addr_reach e_Addr_kinds e_Addr_eq f_Addr q_Addr

structure MetricLink where
  Peer : Addr
  Rate : Int
  Loss : Int
  Heard : Int
  deriving DecidableEq

def MetricLink.z : MetricLink := ⟨Addr.z, 0, 0, 0⟩

def e_MetricLink (x : MetricLink) : List AV := (e_Addr x.Peer) ++ [vi x.Rate, vi x.Loss, vi x.Heard]

theorem e_MetricLink_len (x : MetricLink) : (e_MetricLink x).length = 9 := by rfl
theorem e_MetricLink_sub (x : MetricLink) : sub? (e_MetricLink x) 0 9 = some (e_MetricLink x) := by rfl
theorem e_MetricLink_take (x : MetricLink) : (e_MetricLink x).take 9 = (e_MetricLink x) := by rfl
theorem e_MetricLink_all (x : MetricLink) (y : MetricLink) : putAt (e_MetricLink x) 0 (e_MetricLink y) = e_MetricLink y := by rfl
theorem e_MetricLink_g_Peer_a0 (x : MetricLink) : (e_MetricLink x)[0]? = some (vu x.Peer.a0) := by rfl
theorem e_MetricLink_s_Peer_a0 (x : MetricLink) (v : Int) : (e_MetricLink x).set 0 (vu v) = e_MetricLink { x with Peer.a0 := v } := by rfl
theorem e_MetricLink_g_Peer_a1 (x : MetricLink) : (e_MetricLink x)[1]? = some (vu x.Peer.a1) := by rfl
theorem e_MetricLink_s_Peer_a1 (x : MetricLink) (v : Int) : (e_MetricLink x).set 1 (vu v) = e_MetricLink { x with Peer.a1 := v } := by rfl
theorem e_MetricLink_g_Peer_a2 (x : MetricLink) : (e_MetricLink x)[2]? = some (vu x.Peer.a2) := by rfl
theorem e_MetricLink_s_Peer_a2 (x : MetricLink) (v : Int) : (e_MetricLink x).set 2 (vu v) = e_MetricLink { x with Peer.a2 := v } := by rfl
theorem e_MetricLink_g_Peer_a3 (x : MetricLink) : (e_MetricLink x)[3]? = some (vu x.Peer.a3) := by rfl
theorem e_MetricLink_s_Peer_a3 (x : MetricLink) (v : Int) : (e_MetricLink x).set 3 (vu v) = e_MetricLink { x with Peer.a3 := v } := by rfl
theorem e_MetricLink_g_Peer_a4 (x : MetricLink) : (e_MetricLink x)[4]? = some (vu x.Peer.a4) := by rfl
theorem e_MetricLink_s_Peer_a4 (x : MetricLink) (v : Int) : (e_MetricLink x).set 4 (vu v) = e_MetricLink { x with Peer.a4 := v } := by rfl
theorem e_MetricLink_g_Peer_a5 (x : MetricLink) : (e_MetricLink x)[5]? = some (vu x.Peer.a5) := by rfl
theorem e_MetricLink_s_Peer_a5 (x : MetricLink) (v : Int) : (e_MetricLink x).set 5 (vu v) = e_MetricLink { x with Peer.a5 := v } := by rfl
theorem e_MetricLink_g_Rate (x : MetricLink) : (e_MetricLink x)[6]? = some (vi x.Rate) := by rfl
theorem e_MetricLink_s_Rate (x : MetricLink) (v : Int) : (e_MetricLink x).set 6 (vi v) = e_MetricLink { x with Rate := v } := by rfl
theorem e_MetricLink_g_Loss (x : MetricLink) : (e_MetricLink x)[7]? = some (vi x.Loss) := by rfl
theorem e_MetricLink_s_Loss (x : MetricLink) (v : Int) : (e_MetricLink x).set 7 (vi v) = e_MetricLink { x with Loss := v } := by rfl
theorem e_MetricLink_g_Heard (x : MetricLink) : (e_MetricLink x)[8]? = some (vi x.Heard) := by rfl
theorem e_MetricLink_s_Heard (x : MetricLink) (v : Int) : (e_MetricLink x).set 8 (vi v) = e_MetricLink { x with Heard := v } := by rfl
theorem e_MetricLink_d_Peer (x : MetricLink) : sub? (e_MetricLink x) 0 6 = some (e_Addr x.Peer) := by rfl
theorem e_MetricLink_p_Peer (x : MetricLink) (v : Addr) : putAt (e_MetricLink x) 0 (e_Addr v) = e_MetricLink { x with Peer := v } := by rfl
theorem e_MetricLink_fz (x : MetricLink) (o : Nat → Ob) (n : Nat) : (e_MetricLink x).map (fz o (n + 1)) = e_MetricLink x := by rfl
theorem e_MetricLink_reach (x : MetricLink) (o : Nat → Ob) (n : Nat) : (e_MetricLink x).flatMap (reach o (n + 1)) = [] := by
  simp only [e_MetricLink, e_Addr, List.cons_append, List.nil_append, List.append_nil, List.flatMap_cons, List.flatMap_nil, reach_v]
theorem e_MetricLink_clean (x : MetricLink) : ∀ c ∈ (e_MetricLink x), Clean c := by
  simp only [e_MetricLink, e_Addr, List.cons_append, List.nil_append]
  repeat' (first | exact Clean.v _ | assumption | exact List.forall_mem_nil _ | refine List.forall_mem_cons.2 ⟨?_, ?_⟩)
theorem e_MetricLink_tm {st : AS} {F : List Nat} {σ : List (Option Nat)} (x : MetricLink) : TmL st F σ (e_MetricLink x) (e_MetricLink x) := by
  simp only [e_MetricLink, e_Addr, List.cons_append, List.nil_append]
  repeat' (first | exact TmL.nil | (refine TmL.cons (Tm.v _) ?_) | (refine TmL.cons (by assumption) ?_))
theorem f_MetricLink (x : MetricLink) (o : Nat → Ob) (n : Nat) : (e_MetricLink x).map (fz o (n + 1)) = e_MetricLink x := by simp only [e_MetricLink_fz]
theorem q_MetricLink (x : MetricLink) (o : Nat → Ob) (n : Nat) : (e_MetricLink x).flatMap (reach o (n + 1)) = [] := by simp only [e_MetricLink_reach, List.append_nil]
theorem e_MetricLink_kinds (x : MetricLink) : kindsOk [some .u8, some .u8, some .u8, some .u8, some .u8, some .u8, some .i64, some .i64, some .i64] (e_MetricLink x) = true := by rfl
theorem e_MetricLink_eq (x y : MetricLink) : eqCells (e_MetricLink x) (e_MetricLink y) = decide (x = y) := by
  rw [Bool.eq_iff_iff]
  simp only [e_MetricLink, e_Addr, List.cons_append, List.nil_append, List.append_nil, eqCells, eqv, Bool.and_eq_true, beq_iff_eq, decide_eq_true_eq, and_true]
  constructor
  · intro h
    obtain ⟨⟨v1, v2, v3, v4, v5, v6⟩, v7, v8, v9⟩ := x
    obtain ⟨⟨v10', v11', v12', v13', v14', v15'⟩, v16', v17', v18'⟩ := y
    simp_all
  · rintro rfl
    simp
attribute [go_sem] e_MetricLink_len e_MetricLink_sub e_MetricLink_take e_MetricLink_all e_MetricLink_g_Peer_a0 e_MetricLink_s_Peer_a0 e_MetricLink_g_Peer_a1 e_MetricLink_s_Peer_a1 e_MetricLink_g_Peer_a2 e_MetricLink_s_Peer_a2 e_MetricLink_g_Peer_a3 e_MetricLink_s_Peer_a3 e_MetricLink_g_Peer_a4 e_MetricLink_s_Peer_a4 e_MetricLink_g_Peer_a5 e_MetricLink_s_Peer_a5 e_MetricLink_g_Rate e_MetricLink_s_Rate e_MetricLink_g_Loss e_MetricLink_s_Loss e_MetricLink_g_Heard e_MetricLink_s_Heard e_MetricLink_d_Peer e_MetricLink_p_Peer e_MetricLink_fz e_MetricLink_reach e_MetricLink_kinds e_MetricLink_eq f_MetricLink q_MetricLink

def S_MetricLink (l : List MetricLink) : AV := .imm (List.flatMap e_MetricLink l) l.length
theorem S_MetricLink_eq (l : List MetricLink) : S_MetricLink l = .imm (List.flatMap e_MetricLink l) l.length := rfl
theorem l_MetricLink (x : MetricLink) : (e_MetricLink x).length = 9 := by rfl
theorem S_MetricLink_clean (l : List MetricLink) : Clean (S_MetricLink l) := Clean.imm (rows_clean e_MetricLink_clean l)
theorem c_MetricLink (l : List MetricLink) : ∀ c ∈ l.flatMap e_MetricLink, Clean c := rows_clean e_MetricLink_clean l
theorem r_MetricLink_len (l : List MetricLink) : (l.flatMap e_MetricLink).length = l.length * 9 := flat_len l_MetricLink l
theorem r_MetricLink_get (l : List MetricLink) (i o : Nat) (ho : o < 9) : (l.flatMap e_MetricLink)[i * 9 + o]? = l[i]?.bind fun a => (e_MetricLink a)[o]? := rows_get l_MetricLink l i o ho
theorem r_MetricLink_get0 (l : List MetricLink) (i : Nat) : (l.flatMap e_MetricLink)[i * 9]? = l[i]?.bind fun a => (e_MetricLink a)[0]? := rows_get l_MetricLink l i 0 (by decide)
theorem r_MetricLink_sub (l : List MetricLink) (i o n : Nat) (ho : o + n ≤ 9) (hn : 0 < n) : sub? (l.flatMap e_MetricLink) (i * 9 + o) n = l[i]?.bind fun a => sub? (e_MetricLink a) o n := rows_sub l_MetricLink l i o n ho hn
theorem r_MetricLink_sub0 (l : List MetricLink) (i n : Nat) (ho : n ≤ 9) (hn : 0 < n) : sub? (l.flatMap e_MetricLink) (i * 9) n = l[i]?.bind fun a => sub? (e_MetricLink a) 0 n := rows_sub l_MetricLink l i 0 n (by omega) hn
theorem r_MetricLink_getL (l : List MetricLink) (o : Nat) : (l.flatMap e_MetricLink)[o]? = l[o / 9]?.bind fun a => (e_MetricLink a)[o % 9]? := rows_getL l_MetricLink (by decide) l o
theorem r_MetricLink_subL (l : List MetricLink) (o n : Nat) (ho : o % 9 + n ≤ 9) (hn : 0 < n) : sub? (l.flatMap e_MetricLink) o n = l[o / 9]?.bind fun a => sub? (e_MetricLink a) (o % 9) n := rows_subL l_MetricLink l o n ho hn
theorem r_MetricLink_subw (l : List MetricLink) : sub? (l.flatMap e_MetricLink) 0 (l.length * 9) = some (l.flatMap e_MetricLink) := rows_subw l_MetricLink l
theorem r_MetricLink_take (l : List MetricLink) (n : Nat) : (l.flatMap e_MetricLink).take (n * 9) = (l.take n).flatMap e_MetricLink := rows_take l_MetricLink l n
theorem r_MetricLink_drop (l : List MetricLink) (n : Nat) : (l.flatMap e_MetricLink).drop (n * 9) = (l.drop n).flatMap e_MetricLink := rows_drop l_MetricLink l n
theorem r_MetricLink_fz (l : List MetricLink) (o : Nat → Ob) (n : Nat) : (l.flatMap e_MetricLink).map (fz o (n + 1)) = (l.flatMap e_MetricLink) := rows_fz (fun a => f_MetricLink a o n) l
theorem r_MetricLink_rch (l : List MetricLink) (o : Nat → Ob) (n : Nat) : (l.flatMap e_MetricLink).flatMap (reach o (n + 1)) = [] := rows_reach (fun a => q_MetricLink a o n) l
theorem r_MetricLink_s_Peer_a0 (l : List MetricLink) (i : Nat) (v : Int) : (l.flatMap e_MetricLink).set (i * 9) (vu v) = (l.modify i (fun y => { y with Peer.a0 := v })).flatMap e_MetricLink := rows_set l_MetricLink l i 0 _ (fun y => { y with Peer.a0 := v }) (by decide) (fun _ => by rfl)
theorem r_MetricLink_s_Peer_a1 (l : List MetricLink) (i : Nat) (v : Int) : (l.flatMap e_MetricLink).set (i * 9 + 1) (vu v) = (l.modify i (fun y => { y with Peer.a1 := v })).flatMap e_MetricLink := rows_set l_MetricLink l i 1 _ (fun y => { y with Peer.a1 := v }) (by decide) (fun _ => by rfl)
theorem r_MetricLink_s_Peer_a2 (l : List MetricLink) (i : Nat) (v : Int) : (l.flatMap e_MetricLink).set (i * 9 + 2) (vu v) = (l.modify i (fun y => { y with Peer.a2 := v })).flatMap e_MetricLink := rows_set l_MetricLink l i 2 _ (fun y => { y with Peer.a2 := v }) (by decide) (fun _ => by rfl)
theorem r_MetricLink_s_Peer_a3 (l : List MetricLink) (i : Nat) (v : Int) : (l.flatMap e_MetricLink).set (i * 9 + 3) (vu v) = (l.modify i (fun y => { y with Peer.a3 := v })).flatMap e_MetricLink := rows_set l_MetricLink l i 3 _ (fun y => { y with Peer.a3 := v }) (by decide) (fun _ => by rfl)
theorem r_MetricLink_s_Peer_a4 (l : List MetricLink) (i : Nat) (v : Int) : (l.flatMap e_MetricLink).set (i * 9 + 4) (vu v) = (l.modify i (fun y => { y with Peer.a4 := v })).flatMap e_MetricLink := rows_set l_MetricLink l i 4 _ (fun y => { y with Peer.a4 := v }) (by decide) (fun _ => by rfl)
theorem r_MetricLink_s_Peer_a5 (l : List MetricLink) (i : Nat) (v : Int) : (l.flatMap e_MetricLink).set (i * 9 + 5) (vu v) = (l.modify i (fun y => { y with Peer.a5 := v })).flatMap e_MetricLink := rows_set l_MetricLink l i 5 _ (fun y => { y with Peer.a5 := v }) (by decide) (fun _ => by rfl)
theorem r_MetricLink_s_Rate (l : List MetricLink) (i : Nat) (v : Int) : (l.flatMap e_MetricLink).set (i * 9 + 6) (vi v) = (l.modify i (fun y => { y with Rate := v })).flatMap e_MetricLink := rows_set l_MetricLink l i 6 _ (fun y => { y with Rate := v }) (by decide) (fun _ => by rfl)
theorem r_MetricLink_s_Loss (l : List MetricLink) (i : Nat) (v : Int) : (l.flatMap e_MetricLink).set (i * 9 + 7) (vi v) = (l.modify i (fun y => { y with Loss := v })).flatMap e_MetricLink := rows_set l_MetricLink l i 7 _ (fun y => { y with Loss := v }) (by decide) (fun _ => by rfl)
theorem r_MetricLink_s_Heard (l : List MetricLink) (i : Nat) (v : Int) : (l.flatMap e_MetricLink).set (i * 9 + 8) (vi v) = (l.modify i (fun y => { y with Heard := v })).flatMap e_MetricLink := rows_set l_MetricLink l i 8 _ (fun y => { y with Heard := v }) (by decide) (fun _ => by rfl)
theorem r_MetricLink_put (l : List MetricLink) (i : Nat) (x : MetricLink) : putAt (l.flatMap e_MetricLink) (i * 9) (e_MetricLink x) = (l.set i x).flatMap e_MetricLink := rows_put l_MetricLink (by decide) l i x
theorem r_MetricLink_app (l : List MetricLink) (x : MetricLink) : (l.flatMap e_MetricLink) ++ e_MetricLink x = (l ++ [x]).flatMap e_MetricLink := by simp
theorem r_MetricLink_cat (l : List MetricLink) (m : List MetricLink) : (l.flatMap e_MetricLink) ++ m.flatMap e_MetricLink = (l ++ m).flatMap e_MetricLink := List.flatMap_append.symm
theorem f_S_MetricLink (l : List MetricLink) (o : Nat → Ob) (n : Nat) : fz o (n + 2) (S_MetricLink l) = S_MetricLink l := by simp only [S_MetricLink_eq, fz, r_MetricLink_fz]
theorem q_S_MetricLink (l : List MetricLink) (o : Nat → Ob) (n : Nat) : reach o (n + 2) (S_MetricLink l) = [] := by simp only [S_MetricLink_eq, reach, r_MetricLink_rch]
attribute [go_sem] S_MetricLink_eq l_MetricLink r_MetricLink_len r_MetricLink_get r_MetricLink_get0 r_MetricLink_sub r_MetricLink_sub0 r_MetricLink_subw r_MetricLink_take r_MetricLink_drop r_MetricLink_fz r_MetricLink_rch r_MetricLink_s_Peer_a0 r_MetricLink_s_Peer_a1 r_MetricLink_s_Peer_a2 r_MetricLink_s_Peer_a3 r_MetricLink_s_Peer_a4 r_MetricLink_s_Peer_a5 r_MetricLink_s_Rate r_MetricLink_s_Loss r_MetricLink_s_Heard r_MetricLink_put r_MetricLink_app r_MetricLink_cat f_S_MetricLink q_S_MetricLink

structure MetricTable where
  Links : (List MetricLink)
  deriving DecidableEq

def MetricTable.z : MetricTable := ⟨[]⟩

def e_MetricTable (x : MetricTable) (s0 : AV) : List AV := [s0]

theorem e_MetricTable_len (x : MetricTable) (s0 : AV) : (e_MetricTable x s0).length = 1 := by rfl
theorem e_MetricTable_sub (x : MetricTable) (s0 : AV) : sub? (e_MetricTable x s0) 0 1 = some (e_MetricTable x s0) := by rfl
theorem e_MetricTable_take (x : MetricTable) (s0 : AV) : (e_MetricTable x s0).take 1 = (e_MetricTable x s0) := by rfl
theorem e_MetricTable_all (x : MetricTable) (s0 : AV) (y : MetricTable) (s02 : AV) : putAt (e_MetricTable x s0) 0 (e_MetricTable y s02) = e_MetricTable y s02 := by rfl
theorem e_MetricTable_g_Links (x : MetricTable) (s0 : AV) : (e_MetricTable x s0)[0]? = some s0 := by rfl
theorem e_MetricTable_s_Links (x : MetricTable) (s0 : AV) (v : AV) : (e_MetricTable x s0).set 0 v = e_MetricTable x v := by rfl
theorem e_MetricTable_fz (x : MetricTable) (s0 : AV) (o : Nat → Ob) (n : Nat) : (e_MetricTable x s0).map (fz o (n + 1)) = e_MetricTable x (fz o (n + 1) s0) := by rfl
theorem e_MetricTable_reach (x : MetricTable) (s0 : AV) (o : Nat → Ob) (n : Nat) : (e_MetricTable x s0).flatMap (reach o (n + 1)) = reach o (n + 1) s0 := by
  simp only [e_MetricTable, List.cons_append, List.nil_append, List.append_nil, List.flatMap_cons, List.flatMap_nil, reach_v]
theorem e_MetricTable_clean (x : MetricTable) (s0 : AV) (h_s0 : Clean s0) : ∀ c ∈ (e_MetricTable x s0), Clean c := by
  simp only [e_MetricTable, List.cons_append, List.nil_append]
  repeat' (first | exact Clean.v _ | assumption | exact List.forall_mem_nil _ | refine List.forall_mem_cons.2 ⟨?_, ?_⟩)
theorem e_MetricTable_tm {st : AS} {F : List Nat} {σ : List (Option Nat)} (x : MetricTable) (s0 : AV) (s02 : AV) (h_s0 : Tm st F σ s0 s02) : TmL st F σ (e_MetricTable x s0) (e_MetricTable x s02) := by
  simp only [e_MetricTable, List.cons_append, List.nil_append]
  repeat' (first | exact TmL.nil | (refine TmL.cons (Tm.v _) ?_) | (refine TmL.cons (by assumption) ?_))
theorem e_MetricTable_tmx {st : AS} {F : List Nat} {σ : List (Option Nat)} {x y : MetricTable} {s0 s02 : AV} (hxy : e_MetricTable y s02 = e_MetricTable x s02) (h_s0 : Tm st F σ s0 s02) : TmL st F σ (e_MetricTable x s0) (e_MetricTable y s02) := by
  rw [hxy]; exact e_MetricTable_tm x s0 s02 h_s0
theorem e_MetricTable_ren (x : MetricTable) {s0 : (Nat → Nat) → AV} (h_s0 : RenM s0) : RenML fun q => e_MetricTable x (s0 q) := by
  simp only [e_MetricTable, List.cons_append, List.nil_append]
  repeat' (first | exact RenML.nil | (refine RenML.cons (RenM.const (Clean.v _)) ?_) | (refine RenML.cons (by assumption) ?_))
def E_MetricTable (x : MetricTable) : List AV := e_MetricTable x (S_MetricLink x.Links)
theorem E_MetricTable_eq (x : MetricTable) : E_MetricTable x = e_MetricTable x (S_MetricLink x.Links) := rfl
theorem E_MetricTable_clean (x : MetricTable) : ∀ c ∈ E_MetricTable x, Clean c := e_MetricTable_clean x _ (S_MetricLink_clean _)
theorem f_MetricTable (x : MetricTable) (o : Nat → Ob) (n : Nat) : (E_MetricTable x).map (fz o (n + 2)) = E_MetricTable x := by simp only [E_MetricTable_eq, e_MetricTable_fz, f_S_MetricLink]
theorem q_MetricTable (x : MetricTable) (o : Nat → Ob) (n : Nat) : (E_MetricTable x).flatMap (reach o (n + 2)) = [] := by simp only [E_MetricTable_eq, e_MetricTable_reach, q_S_MetricLink, List.append_nil]
attribute [go_sem] e_MetricTable_len e_MetricTable_sub e_MetricTable_take e_MetricTable_all e_MetricTable_g_Links e_MetricTable_s_Links e_MetricTable_fz e_MetricTable_reach E_MetricTable_eq f_MetricTable q_MetricTable

structure Hotspotlaw38_Told where
  Peer : Addr
  Rate : Int
  Ok : Bool
  Wait : Int
  deriving DecidableEq

def Hotspotlaw38_Told.z : Hotspotlaw38_Told := ⟨Addr.z, 0, false, 0⟩

def e_Hotspotlaw38_Told (x : Hotspotlaw38_Told) : List AV := (e_Addr x.Peer) ++ [vi x.Rate, vb x.Ok, vi x.Wait]

theorem e_Hotspotlaw38_Told_len (x : Hotspotlaw38_Told) : (e_Hotspotlaw38_Told x).length = 9 := by rfl
theorem e_Hotspotlaw38_Told_sub (x : Hotspotlaw38_Told) : sub? (e_Hotspotlaw38_Told x) 0 9 = some (e_Hotspotlaw38_Told x) := by rfl
theorem e_Hotspotlaw38_Told_take (x : Hotspotlaw38_Told) : (e_Hotspotlaw38_Told x).take 9 = (e_Hotspotlaw38_Told x) := by rfl
theorem e_Hotspotlaw38_Told_all (x : Hotspotlaw38_Told) (y : Hotspotlaw38_Told) : putAt (e_Hotspotlaw38_Told x) 0 (e_Hotspotlaw38_Told y) = e_Hotspotlaw38_Told y := by rfl
theorem e_Hotspotlaw38_Told_g_Peer_a0 (x : Hotspotlaw38_Told) : (e_Hotspotlaw38_Told x)[0]? = some (vu x.Peer.a0) := by rfl
theorem e_Hotspotlaw38_Told_s_Peer_a0 (x : Hotspotlaw38_Told) (v : Int) : (e_Hotspotlaw38_Told x).set 0 (vu v) = e_Hotspotlaw38_Told { x with Peer.a0 := v } := by rfl
theorem e_Hotspotlaw38_Told_g_Peer_a1 (x : Hotspotlaw38_Told) : (e_Hotspotlaw38_Told x)[1]? = some (vu x.Peer.a1) := by rfl
theorem e_Hotspotlaw38_Told_s_Peer_a1 (x : Hotspotlaw38_Told) (v : Int) : (e_Hotspotlaw38_Told x).set 1 (vu v) = e_Hotspotlaw38_Told { x with Peer.a1 := v } := by rfl
theorem e_Hotspotlaw38_Told_g_Peer_a2 (x : Hotspotlaw38_Told) : (e_Hotspotlaw38_Told x)[2]? = some (vu x.Peer.a2) := by rfl
theorem e_Hotspotlaw38_Told_s_Peer_a2 (x : Hotspotlaw38_Told) (v : Int) : (e_Hotspotlaw38_Told x).set 2 (vu v) = e_Hotspotlaw38_Told { x with Peer.a2 := v } := by rfl
theorem e_Hotspotlaw38_Told_g_Peer_a3 (x : Hotspotlaw38_Told) : (e_Hotspotlaw38_Told x)[3]? = some (vu x.Peer.a3) := by rfl
theorem e_Hotspotlaw38_Told_s_Peer_a3 (x : Hotspotlaw38_Told) (v : Int) : (e_Hotspotlaw38_Told x).set 3 (vu v) = e_Hotspotlaw38_Told { x with Peer.a3 := v } := by rfl
theorem e_Hotspotlaw38_Told_g_Peer_a4 (x : Hotspotlaw38_Told) : (e_Hotspotlaw38_Told x)[4]? = some (vu x.Peer.a4) := by rfl
theorem e_Hotspotlaw38_Told_s_Peer_a4 (x : Hotspotlaw38_Told) (v : Int) : (e_Hotspotlaw38_Told x).set 4 (vu v) = e_Hotspotlaw38_Told { x with Peer.a4 := v } := by rfl
theorem e_Hotspotlaw38_Told_g_Peer_a5 (x : Hotspotlaw38_Told) : (e_Hotspotlaw38_Told x)[5]? = some (vu x.Peer.a5) := by rfl
theorem e_Hotspotlaw38_Told_s_Peer_a5 (x : Hotspotlaw38_Told) (v : Int) : (e_Hotspotlaw38_Told x).set 5 (vu v) = e_Hotspotlaw38_Told { x with Peer.a5 := v } := by rfl
theorem e_Hotspotlaw38_Told_g_Rate (x : Hotspotlaw38_Told) : (e_Hotspotlaw38_Told x)[6]? = some (vi x.Rate) := by rfl
theorem e_Hotspotlaw38_Told_s_Rate (x : Hotspotlaw38_Told) (v : Int) : (e_Hotspotlaw38_Told x).set 6 (vi v) = e_Hotspotlaw38_Told { x with Rate := v } := by rfl
theorem e_Hotspotlaw38_Told_g_Ok (x : Hotspotlaw38_Told) : (e_Hotspotlaw38_Told x)[7]? = some (vb x.Ok) := by rfl
theorem e_Hotspotlaw38_Told_s_Ok (x : Hotspotlaw38_Told) (v : Bool) : (e_Hotspotlaw38_Told x).set 7 (vb v) = e_Hotspotlaw38_Told { x with Ok := v } := by rfl
theorem e_Hotspotlaw38_Told_g_Wait (x : Hotspotlaw38_Told) : (e_Hotspotlaw38_Told x)[8]? = some (vi x.Wait) := by rfl
theorem e_Hotspotlaw38_Told_s_Wait (x : Hotspotlaw38_Told) (v : Int) : (e_Hotspotlaw38_Told x).set 8 (vi v) = e_Hotspotlaw38_Told { x with Wait := v } := by rfl
theorem e_Hotspotlaw38_Told_d_Peer (x : Hotspotlaw38_Told) : sub? (e_Hotspotlaw38_Told x) 0 6 = some (e_Addr x.Peer) := by rfl
theorem e_Hotspotlaw38_Told_p_Peer (x : Hotspotlaw38_Told) (v : Addr) : putAt (e_Hotspotlaw38_Told x) 0 (e_Addr v) = e_Hotspotlaw38_Told { x with Peer := v } := by rfl
theorem e_Hotspotlaw38_Told_fz (x : Hotspotlaw38_Told) (o : Nat → Ob) (n : Nat) : (e_Hotspotlaw38_Told x).map (fz o (n + 1)) = e_Hotspotlaw38_Told x := by rfl
theorem e_Hotspotlaw38_Told_reach (x : Hotspotlaw38_Told) (o : Nat → Ob) (n : Nat) : (e_Hotspotlaw38_Told x).flatMap (reach o (n + 1)) = [] := by
  simp only [e_Hotspotlaw38_Told, e_Addr, List.cons_append, List.nil_append, List.append_nil, List.flatMap_cons, List.flatMap_nil, reach_v]
theorem e_Hotspotlaw38_Told_clean (x : Hotspotlaw38_Told) : ∀ c ∈ (e_Hotspotlaw38_Told x), Clean c := by
  simp only [e_Hotspotlaw38_Told, e_Addr, List.cons_append, List.nil_append]
  repeat' (first | exact Clean.v _ | assumption | exact List.forall_mem_nil _ | refine List.forall_mem_cons.2 ⟨?_, ?_⟩)
theorem e_Hotspotlaw38_Told_tm {st : AS} {F : List Nat} {σ : List (Option Nat)} (x : Hotspotlaw38_Told) : TmL st F σ (e_Hotspotlaw38_Told x) (e_Hotspotlaw38_Told x) := by
  simp only [e_Hotspotlaw38_Told, e_Addr, List.cons_append, List.nil_append]
  repeat' (first | exact TmL.nil | (refine TmL.cons (Tm.v _) ?_) | (refine TmL.cons (by assumption) ?_))
theorem f_Hotspotlaw38_Told (x : Hotspotlaw38_Told) (o : Nat → Ob) (n : Nat) : (e_Hotspotlaw38_Told x).map (fz o (n + 1)) = e_Hotspotlaw38_Told x := by simp only [e_Hotspotlaw38_Told_fz]
theorem q_Hotspotlaw38_Told (x : Hotspotlaw38_Told) (o : Nat → Ob) (n : Nat) : (e_Hotspotlaw38_Told x).flatMap (reach o (n + 1)) = [] := by simp only [e_Hotspotlaw38_Told_reach, List.append_nil]
attribute [go_sem] e_Hotspotlaw38_Told_len e_Hotspotlaw38_Told_sub e_Hotspotlaw38_Told_take e_Hotspotlaw38_Told_all e_Hotspotlaw38_Told_g_Peer_a0 e_Hotspotlaw38_Told_s_Peer_a0 e_Hotspotlaw38_Told_g_Peer_a1 e_Hotspotlaw38_Told_s_Peer_a1 e_Hotspotlaw38_Told_g_Peer_a2 e_Hotspotlaw38_Told_s_Peer_a2 e_Hotspotlaw38_Told_g_Peer_a3 e_Hotspotlaw38_Told_s_Peer_a3 e_Hotspotlaw38_Told_g_Peer_a4 e_Hotspotlaw38_Told_s_Peer_a4 e_Hotspotlaw38_Told_g_Peer_a5 e_Hotspotlaw38_Told_s_Peer_a5 e_Hotspotlaw38_Told_g_Rate e_Hotspotlaw38_Told_s_Rate e_Hotspotlaw38_Told_g_Ok e_Hotspotlaw38_Told_s_Ok e_Hotspotlaw38_Told_g_Wait e_Hotspotlaw38_Told_s_Wait e_Hotspotlaw38_Told_d_Peer e_Hotspotlaw38_Told_p_Peer e_Hotspotlaw38_Told_fz e_Hotspotlaw38_Told_reach f_Hotspotlaw38_Told q_Hotspotlaw38_Told

def S_Hotspotlaw38_Told (l : List Hotspotlaw38_Told) : AV := .imm (List.flatMap e_Hotspotlaw38_Told l) l.length
theorem S_Hotspotlaw38_Told_eq (l : List Hotspotlaw38_Told) : S_Hotspotlaw38_Told l = .imm (List.flatMap e_Hotspotlaw38_Told l) l.length := rfl
theorem l_Hotspotlaw38_Told (x : Hotspotlaw38_Told) : (e_Hotspotlaw38_Told x).length = 9 := by rfl
theorem S_Hotspotlaw38_Told_clean (l : List Hotspotlaw38_Told) : Clean (S_Hotspotlaw38_Told l) := Clean.imm (rows_clean e_Hotspotlaw38_Told_clean l)
theorem c_Hotspotlaw38_Told (l : List Hotspotlaw38_Told) : ∀ c ∈ l.flatMap e_Hotspotlaw38_Told, Clean c := rows_clean e_Hotspotlaw38_Told_clean l
theorem r_Hotspotlaw38_Told_len (l : List Hotspotlaw38_Told) : (l.flatMap e_Hotspotlaw38_Told).length = l.length * 9 := flat_len l_Hotspotlaw38_Told l
theorem r_Hotspotlaw38_Told_get (l : List Hotspotlaw38_Told) (i o : Nat) (ho : o < 9) : (l.flatMap e_Hotspotlaw38_Told)[i * 9 + o]? = l[i]?.bind fun a => (e_Hotspotlaw38_Told a)[o]? := rows_get l_Hotspotlaw38_Told l i o ho
theorem r_Hotspotlaw38_Told_get0 (l : List Hotspotlaw38_Told) (i : Nat) : (l.flatMap e_Hotspotlaw38_Told)[i * 9]? = l[i]?.bind fun a => (e_Hotspotlaw38_Told a)[0]? := rows_get l_Hotspotlaw38_Told l i 0 (by decide)
theorem r_Hotspotlaw38_Told_sub (l : List Hotspotlaw38_Told) (i o n : Nat) (ho : o + n ≤ 9) (hn : 0 < n) : sub? (l.flatMap e_Hotspotlaw38_Told) (i * 9 + o) n = l[i]?.bind fun a => sub? (e_Hotspotlaw38_Told a) o n := rows_sub l_Hotspotlaw38_Told l i o n ho hn
theorem r_Hotspotlaw38_Told_sub0 (l : List Hotspotlaw38_Told) (i n : Nat) (ho : n ≤ 9) (hn : 0 < n) : sub? (l.flatMap e_Hotspotlaw38_Told) (i * 9) n = l[i]?.bind fun a => sub? (e_Hotspotlaw38_Told a) 0 n := rows_sub l_Hotspotlaw38_Told l i 0 n (by omega) hn
theorem r_Hotspotlaw38_Told_getL (l : List Hotspotlaw38_Told) (o : Nat) : (l.flatMap e_Hotspotlaw38_Told)[o]? = l[o / 9]?.bind fun a => (e_Hotspotlaw38_Told a)[o % 9]? := rows_getL l_Hotspotlaw38_Told (by decide) l o
theorem r_Hotspotlaw38_Told_subL (l : List Hotspotlaw38_Told) (o n : Nat) (ho : o % 9 + n ≤ 9) (hn : 0 < n) : sub? (l.flatMap e_Hotspotlaw38_Told) o n = l[o / 9]?.bind fun a => sub? (e_Hotspotlaw38_Told a) (o % 9) n := rows_subL l_Hotspotlaw38_Told l o n ho hn
theorem r_Hotspotlaw38_Told_subw (l : List Hotspotlaw38_Told) : sub? (l.flatMap e_Hotspotlaw38_Told) 0 (l.length * 9) = some (l.flatMap e_Hotspotlaw38_Told) := rows_subw l_Hotspotlaw38_Told l
theorem r_Hotspotlaw38_Told_take (l : List Hotspotlaw38_Told) (n : Nat) : (l.flatMap e_Hotspotlaw38_Told).take (n * 9) = (l.take n).flatMap e_Hotspotlaw38_Told := rows_take l_Hotspotlaw38_Told l n
theorem r_Hotspotlaw38_Told_drop (l : List Hotspotlaw38_Told) (n : Nat) : (l.flatMap e_Hotspotlaw38_Told).drop (n * 9) = (l.drop n).flatMap e_Hotspotlaw38_Told := rows_drop l_Hotspotlaw38_Told l n
theorem r_Hotspotlaw38_Told_fz (l : List Hotspotlaw38_Told) (o : Nat → Ob) (n : Nat) : (l.flatMap e_Hotspotlaw38_Told).map (fz o (n + 1)) = (l.flatMap e_Hotspotlaw38_Told) := rows_fz (fun a => f_Hotspotlaw38_Told a o n) l
theorem r_Hotspotlaw38_Told_rch (l : List Hotspotlaw38_Told) (o : Nat → Ob) (n : Nat) : (l.flatMap e_Hotspotlaw38_Told).flatMap (reach o (n + 1)) = [] := rows_reach (fun a => q_Hotspotlaw38_Told a o n) l
theorem r_Hotspotlaw38_Told_s_Peer_a0 (l : List Hotspotlaw38_Told) (i : Nat) (v : Int) : (l.flatMap e_Hotspotlaw38_Told).set (i * 9) (vu v) = (l.modify i (fun y => { y with Peer.a0 := v })).flatMap e_Hotspotlaw38_Told := rows_set l_Hotspotlaw38_Told l i 0 _ (fun y => { y with Peer.a0 := v }) (by decide) (fun _ => by rfl)
theorem r_Hotspotlaw38_Told_s_Peer_a1 (l : List Hotspotlaw38_Told) (i : Nat) (v : Int) : (l.flatMap e_Hotspotlaw38_Told).set (i * 9 + 1) (vu v) = (l.modify i (fun y => { y with Peer.a1 := v })).flatMap e_Hotspotlaw38_Told := rows_set l_Hotspotlaw38_Told l i 1 _ (fun y => { y with Peer.a1 := v }) (by decide) (fun _ => by rfl)
theorem r_Hotspotlaw38_Told_s_Peer_a2 (l : List Hotspotlaw38_Told) (i : Nat) (v : Int) : (l.flatMap e_Hotspotlaw38_Told).set (i * 9 + 2) (vu v) = (l.modify i (fun y => { y with Peer.a2 := v })).flatMap e_Hotspotlaw38_Told := rows_set l_Hotspotlaw38_Told l i 2 _ (fun y => { y with Peer.a2 := v }) (by decide) (fun _ => by rfl)
theorem r_Hotspotlaw38_Told_s_Peer_a3 (l : List Hotspotlaw38_Told) (i : Nat) (v : Int) : (l.flatMap e_Hotspotlaw38_Told).set (i * 9 + 3) (vu v) = (l.modify i (fun y => { y with Peer.a3 := v })).flatMap e_Hotspotlaw38_Told := rows_set l_Hotspotlaw38_Told l i 3 _ (fun y => { y with Peer.a3 := v }) (by decide) (fun _ => by rfl)
theorem r_Hotspotlaw38_Told_s_Peer_a4 (l : List Hotspotlaw38_Told) (i : Nat) (v : Int) : (l.flatMap e_Hotspotlaw38_Told).set (i * 9 + 4) (vu v) = (l.modify i (fun y => { y with Peer.a4 := v })).flatMap e_Hotspotlaw38_Told := rows_set l_Hotspotlaw38_Told l i 4 _ (fun y => { y with Peer.a4 := v }) (by decide) (fun _ => by rfl)
theorem r_Hotspotlaw38_Told_s_Peer_a5 (l : List Hotspotlaw38_Told) (i : Nat) (v : Int) : (l.flatMap e_Hotspotlaw38_Told).set (i * 9 + 5) (vu v) = (l.modify i (fun y => { y with Peer.a5 := v })).flatMap e_Hotspotlaw38_Told := rows_set l_Hotspotlaw38_Told l i 5 _ (fun y => { y with Peer.a5 := v }) (by decide) (fun _ => by rfl)
theorem r_Hotspotlaw38_Told_s_Rate (l : List Hotspotlaw38_Told) (i : Nat) (v : Int) : (l.flatMap e_Hotspotlaw38_Told).set (i * 9 + 6) (vi v) = (l.modify i (fun y => { y with Rate := v })).flatMap e_Hotspotlaw38_Told := rows_set l_Hotspotlaw38_Told l i 6 _ (fun y => { y with Rate := v }) (by decide) (fun _ => by rfl)
theorem r_Hotspotlaw38_Told_s_Ok (l : List Hotspotlaw38_Told) (i : Nat) (v : Bool) : (l.flatMap e_Hotspotlaw38_Told).set (i * 9 + 7) (vb v) = (l.modify i (fun y => { y with Ok := v })).flatMap e_Hotspotlaw38_Told := rows_set l_Hotspotlaw38_Told l i 7 _ (fun y => { y with Ok := v }) (by decide) (fun _ => by rfl)
theorem r_Hotspotlaw38_Told_s_Wait (l : List Hotspotlaw38_Told) (i : Nat) (v : Int) : (l.flatMap e_Hotspotlaw38_Told).set (i * 9 + 8) (vi v) = (l.modify i (fun y => { y with Wait := v })).flatMap e_Hotspotlaw38_Told := rows_set l_Hotspotlaw38_Told l i 8 _ (fun y => { y with Wait := v }) (by decide) (fun _ => by rfl)
theorem r_Hotspotlaw38_Told_put (l : List Hotspotlaw38_Told) (i : Nat) (x : Hotspotlaw38_Told) : putAt (l.flatMap e_Hotspotlaw38_Told) (i * 9) (e_Hotspotlaw38_Told x) = (l.set i x).flatMap e_Hotspotlaw38_Told := rows_put l_Hotspotlaw38_Told (by decide) l i x
theorem r_Hotspotlaw38_Told_app (l : List Hotspotlaw38_Told) (x : Hotspotlaw38_Told) : (l.flatMap e_Hotspotlaw38_Told) ++ e_Hotspotlaw38_Told x = (l ++ [x]).flatMap e_Hotspotlaw38_Told := by simp
theorem r_Hotspotlaw38_Told_cat (l : List Hotspotlaw38_Told) (m : List Hotspotlaw38_Told) : (l.flatMap e_Hotspotlaw38_Told) ++ m.flatMap e_Hotspotlaw38_Told = (l ++ m).flatMap e_Hotspotlaw38_Told := List.flatMap_append.symm
theorem f_S_Hotspotlaw38_Told (l : List Hotspotlaw38_Told) (o : Nat → Ob) (n : Nat) : fz o (n + 2) (S_Hotspotlaw38_Told l) = S_Hotspotlaw38_Told l := by simp only [S_Hotspotlaw38_Told_eq, fz, r_Hotspotlaw38_Told_fz]
theorem q_S_Hotspotlaw38_Told (l : List Hotspotlaw38_Told) (o : Nat → Ob) (n : Nat) : reach o (n + 2) (S_Hotspotlaw38_Told l) = [] := by simp only [S_Hotspotlaw38_Told_eq, reach, r_Hotspotlaw38_Told_rch]
attribute [go_sem] S_Hotspotlaw38_Told_eq l_Hotspotlaw38_Told r_Hotspotlaw38_Told_len r_Hotspotlaw38_Told_get r_Hotspotlaw38_Told_get0 r_Hotspotlaw38_Told_sub r_Hotspotlaw38_Told_sub0 r_Hotspotlaw38_Told_subw r_Hotspotlaw38_Told_take r_Hotspotlaw38_Told_drop r_Hotspotlaw38_Told_fz r_Hotspotlaw38_Told_rch r_Hotspotlaw38_Told_s_Peer_a0 r_Hotspotlaw38_Told_s_Peer_a1 r_Hotspotlaw38_Told_s_Peer_a2 r_Hotspotlaw38_Told_s_Peer_a3 r_Hotspotlaw38_Told_s_Peer_a4 r_Hotspotlaw38_Told_s_Peer_a5 r_Hotspotlaw38_Told_s_Rate r_Hotspotlaw38_Told_s_Ok r_Hotspotlaw38_Told_s_Wait r_Hotspotlaw38_Told_put r_Hotspotlaw38_Told_app r_Hotspotlaw38_Told_cat f_S_Hotspotlaw38_Told q_S_Hotspotlaw38_Told

def S_Addr (l : List Addr) : AV := .imm (List.flatMap e_Addr l) l.length
theorem S_Addr_eq (l : List Addr) : S_Addr l = .imm (List.flatMap e_Addr l) l.length := rfl
theorem l_Addr (x : Addr) : (e_Addr x).length = 6 := by rfl
theorem S_Addr_clean (l : List Addr) : Clean (S_Addr l) := Clean.imm (rows_clean e_Addr_clean l)
theorem c_Addr (l : List Addr) : ∀ c ∈ l.flatMap e_Addr, Clean c := rows_clean e_Addr_clean l
theorem r_Addr_len (l : List Addr) : (l.flatMap e_Addr).length = l.length * 6 := flat_len l_Addr l
theorem r_Addr_get (l : List Addr) (i o : Nat) (ho : o < 6) : (l.flatMap e_Addr)[i * 6 + o]? = l[i]?.bind fun a => (e_Addr a)[o]? := rows_get l_Addr l i o ho
theorem r_Addr_get0 (l : List Addr) (i : Nat) : (l.flatMap e_Addr)[i * 6]? = l[i]?.bind fun a => (e_Addr a)[0]? := rows_get l_Addr l i 0 (by decide)
theorem r_Addr_sub (l : List Addr) (i o n : Nat) (ho : o + n ≤ 6) (hn : 0 < n) : sub? (l.flatMap e_Addr) (i * 6 + o) n = l[i]?.bind fun a => sub? (e_Addr a) o n := rows_sub l_Addr l i o n ho hn
theorem r_Addr_sub0 (l : List Addr) (i n : Nat) (ho : n ≤ 6) (hn : 0 < n) : sub? (l.flatMap e_Addr) (i * 6) n = l[i]?.bind fun a => sub? (e_Addr a) 0 n := rows_sub l_Addr l i 0 n (by omega) hn
theorem r_Addr_getL (l : List Addr) (o : Nat) : (l.flatMap e_Addr)[o]? = l[o / 6]?.bind fun a => (e_Addr a)[o % 6]? := rows_getL l_Addr (by decide) l o
theorem r_Addr_subL (l : List Addr) (o n : Nat) (ho : o % 6 + n ≤ 6) (hn : 0 < n) : sub? (l.flatMap e_Addr) o n = l[o / 6]?.bind fun a => sub? (e_Addr a) (o % 6) n := rows_subL l_Addr l o n ho hn
theorem r_Addr_subw (l : List Addr) : sub? (l.flatMap e_Addr) 0 (l.length * 6) = some (l.flatMap e_Addr) := rows_subw l_Addr l
theorem r_Addr_take (l : List Addr) (n : Nat) : (l.flatMap e_Addr).take (n * 6) = (l.take n).flatMap e_Addr := rows_take l_Addr l n
theorem r_Addr_drop (l : List Addr) (n : Nat) : (l.flatMap e_Addr).drop (n * 6) = (l.drop n).flatMap e_Addr := rows_drop l_Addr l n
theorem r_Addr_fz (l : List Addr) (o : Nat → Ob) (n : Nat) : (l.flatMap e_Addr).map (fz o (n + 1)) = (l.flatMap e_Addr) := rows_fz (fun a => f_Addr a o n) l
theorem r_Addr_rch (l : List Addr) (o : Nat → Ob) (n : Nat) : (l.flatMap e_Addr).flatMap (reach o (n + 1)) = [] := rows_reach (fun a => q_Addr a o n) l
theorem r_Addr_s_a0 (l : List Addr) (i : Nat) (v : Int) : (l.flatMap e_Addr).set (i * 6) (vu v) = (l.modify i (fun y => { y with a0 := v })).flatMap e_Addr := rows_set l_Addr l i 0 _ (fun y => { y with a0 := v }) (by decide) (fun _ => by rfl)
theorem r_Addr_s_a1 (l : List Addr) (i : Nat) (v : Int) : (l.flatMap e_Addr).set (i * 6 + 1) (vu v) = (l.modify i (fun y => { y with a1 := v })).flatMap e_Addr := rows_set l_Addr l i 1 _ (fun y => { y with a1 := v }) (by decide) (fun _ => by rfl)
theorem r_Addr_s_a2 (l : List Addr) (i : Nat) (v : Int) : (l.flatMap e_Addr).set (i * 6 + 2) (vu v) = (l.modify i (fun y => { y with a2 := v })).flatMap e_Addr := rows_set l_Addr l i 2 _ (fun y => { y with a2 := v }) (by decide) (fun _ => by rfl)
theorem r_Addr_s_a3 (l : List Addr) (i : Nat) (v : Int) : (l.flatMap e_Addr).set (i * 6 + 3) (vu v) = (l.modify i (fun y => { y with a3 := v })).flatMap e_Addr := rows_set l_Addr l i 3 _ (fun y => { y with a3 := v }) (by decide) (fun _ => by rfl)
theorem r_Addr_s_a4 (l : List Addr) (i : Nat) (v : Int) : (l.flatMap e_Addr).set (i * 6 + 4) (vu v) = (l.modify i (fun y => { y with a4 := v })).flatMap e_Addr := rows_set l_Addr l i 4 _ (fun y => { y with a4 := v }) (by decide) (fun _ => by rfl)
theorem r_Addr_s_a5 (l : List Addr) (i : Nat) (v : Int) : (l.flatMap e_Addr).set (i * 6 + 5) (vu v) = (l.modify i (fun y => { y with a5 := v })).flatMap e_Addr := rows_set l_Addr l i 5 _ (fun y => { y with a5 := v }) (by decide) (fun _ => by rfl)
theorem r_Addr_put (l : List Addr) (i : Nat) (x : Addr) : putAt (l.flatMap e_Addr) (i * 6) (e_Addr x) = (l.set i x).flatMap e_Addr := rows_put l_Addr (by decide) l i x
theorem r_Addr_app (l : List Addr) (x : Addr) : (l.flatMap e_Addr) ++ e_Addr x = (l ++ [x]).flatMap e_Addr := by simp
theorem r_Addr_cat (l : List Addr) (m : List Addr) : (l.flatMap e_Addr) ++ m.flatMap e_Addr = (l ++ m).flatMap e_Addr := List.flatMap_append.symm
theorem f_S_Addr (l : List Addr) (o : Nat → Ob) (n : Nat) : fz o (n + 2) (S_Addr l) = S_Addr l := by simp only [S_Addr_eq, fz, r_Addr_fz]
theorem q_S_Addr (l : List Addr) (o : Nat → Ob) (n : Nat) : reach o (n + 2) (S_Addr l) = [] := by simp only [S_Addr_eq, reach, r_Addr_rch]
attribute [go_sem] S_Addr_eq l_Addr r_Addr_len r_Addr_get r_Addr_get0 r_Addr_sub r_Addr_sub0 r_Addr_subw r_Addr_take r_Addr_drop r_Addr_fz r_Addr_rch r_Addr_s_a0 r_Addr_s_a1 r_Addr_s_a2 r_Addr_s_a3 r_Addr_s_a4 r_Addr_s_a5 r_Addr_put r_Addr_app r_Addr_cat f_S_Addr q_S_Addr

end Go.AX.Z.TM

/-! (TMD) -/

set_option linter.unusedSimpArgs false
set_option linter.unusedVariables false
set_option maxHeartbeats 4000000
namespace Go.AX.Z.TM
open Go.AX

def rate_Total (a0 : Int) (a1 : Int) : Option (Int × Int) :=
  bif (a0 == 0) && (a1 == 1024) then some (1452, 0) else (bif (a0 == 1) && (a1 == 1024) then some (996, 0) else (bif (a0 == 2) && (a1 == 1024) then some (756, 0) else (bif (a0 == 3) && (a1 == 1024) then some (528, 0) else (bif (a0 == 4) && (a1 == 1024) then some (396, 0) else (bif (a0 == 5) && (a1 == 1024) then some (288, 0) else (bif (a0 == 6) && (a1 == 1024) then some (232, 0) else (bif (a0 == 7) && (a1 == 1024) then some (216, 0) else (bif (a0 == 8) && (a1 == 1024) then some (192, 0) else (bif (a0 == 9) && (a1 == 1024) then some (168, 0) else (bif (a0 == 10) && (a1 == 1024) then some (148, 0) else (bif (a0 == 11) && (a1 == 1024) then some (136, 0) else (bif (a0 == 12) && (a1 == 1024) then some (0, 2) else (none)))))))))))))

def metric_Cost (a0 : Int) (a1 : Int) : Option (Int × Int) :=
  ((rate_Total a0 1024).bind fun x1 =>
  bif (((x1.2 != 0) || (decide (a1 < 0))) || (decide (1000 < a1))) then
    some (0, 2)
  else
    bif ((IntKind.wrap .i64 (1000 - a1)) == 0) then
      some (1099511627776, 0)
    else
      ((chk (decide (IntKind.wrap .i64 (1000 - a1) ≠ 0))).bind fun x2 =>
      some (IntKind.wrap .i64 (((IntKind.wrap .i64 ((IntKind.wrap .i64 ((IntKind.wrap .i64 ((IntKind.wrap .i64 (x1.1 * 100)) * 1000)) + (IntKind.wrap .i64 (1000 - a1)))) - 1))).tdiv (IntKind.wrap .i64 (1000 - a1))), 0)))

def rate_Count : Option Int :=
  bif true then some 12 else (none)

def metric_valid (a0 : MetricLink) : Option Bool :=
  ((
    bif decide (0 ≤ a0.Rate) then
      (rate_Count.bind fun x7 =>
      some (decide (a0.Rate < x7)))
    else
      some false).bind fun x8 =>
  some ((((x8 && (decide (0 ≤ a0.Loss))) && (decide (a0.Loss ≤ 1000))) && (decide (0 ≤ a0.Heard))) && (decide (a0.Heard ≤ 1099511627776))))

def bytealg_Compare (a0 : List Int) (a1 : List Int) : Option Int := some (cmpL a0 a1)

def bytes_Compare (a0 : (List Int)) (a1 : (List Int)) : Option Int :=
  ((bytealg_Compare a0 a1).bind fun x9 =>
  some x9)

def address_Compare (a0 : Addr) (a1 : Addr) : Option Int :=
  ((bytes_Compare [a0.a0, a0.a1, a0.a2, a0.a3, a0.a4, a0.a5] [a1.a0, a1.a1, a1.a2, a1.a3, a1.a4, a1.a5]).bind fun x9 =>
  some x9)

def metric_Check_L2 (a0 : MetricTable) : Nat → Int → Option (Ex Int Unit)
  | 0, _ => none
  | n3 + 1, d7 =>
    bif decide (d7 < (a0.Links.length : Int)) then
      ((idx a0.Links d7).bind fun x8 =>
      ((metric_valid x8).bind fun x9 =>
      ((
        bif (!x9) then
          some true
        else
          ((
            bif decide (0 < d7) then
              ((idx a0.Links (IntKind.wrap .i64 (d7 - 1))).bind fun x10 =>
              ((address_Compare x10.Peer x8.Peer).bind fun x11 =>
              some (decide (0 ≤ x11))))
            else
              some false).bind fun x12 =>
          some x12)).bind fun x13 =>
      bif x13 then
        some (Ex.ret 8)
      else
        metric_Check_L2 a0 n3 (IntKind.wrap .i64 (d7 + 1)))))
    else
      some (Ex.go ())

def metric_Check (a0 : MetricTable) : Option Int :=
  bif decide (32 < (a0.Links.length : Int)) then
    some 8
  else
    ((
      metric_Check_L2 a0 big 0).bind fun o6 =>
    (o6.k fun d5 =>
    some 0))

def metric_checked (a0 : MetricTable) (a1 : Int) : Option Int :=
  ((metric_Check a0).bind fun x5 =>
  bif (x5 != 0) then
    some x5
  else
    bif ((decide (a1 < 0)) || (decide (1099511627776 < a1))) then
      some 2
    else
      some 0)

def metric_find_1 (a0 : MetricLink) (a1 : Addr) : Option Int :=
  ((address_Compare a0.Peer a1).bind fun x11 =>
  some x11)

def slices_BinarySearchFunc_api_MetricLink_api_MetricLink_api_Addr_L2 (a0 : (List MetricLink)) (a1 : Addr) : Nat → (Int × Int) → Option (Int)
  | 0, _ => none
  | n2 + 1, d10 =>
    bif decide (d10.1 < d10.2) then
      ((idx a0 (IntKind.wrap .i64 (((IntKind.wrap .u64 (IntKind.wrap .i64 (d10.1 + d10.2)))).fdiv (2 ^ (min 1 64))))).bind fun x11 =>
      ((metric_find_1 x11 a1).bind fun x12 =>
      bif decide (x12 < 0) then
        slices_BinarySearchFunc_api_MetricLink_api_MetricLink_api_Addr_L2 a0 a1 n2 (IntKind.wrap .i64 ((IntKind.wrap .i64 (((IntKind.wrap .u64 (IntKind.wrap .i64 (d10.1 + d10.2)))).fdiv (2 ^ (min 1 64)))) + 1), d10.2)
      else
        slices_BinarySearchFunc_api_MetricLink_api_MetricLink_api_Addr_L2 a0 a1 n2 (d10.1, IntKind.wrap .i64 (((IntKind.wrap .u64 (IntKind.wrap .i64 (d10.1 + d10.2)))).fdiv (2 ^ (min 1 64))))))
    else
      some d10.1

def slices_BinarySearchFunc_api_MetricLink_api_MetricLink_api_Addr (a0 : (List MetricLink)) (a1 : Addr) : Option (Int × Bool) :=
  ((
    slices_BinarySearchFunc_api_MetricLink_api_MetricLink_api_Addr_L2 a0 a1 big (0, (a0.length : Int))).bind fun d9 =>
  ((
    bif decide (d9 < (a0.length : Int)) then
      ((idx a0 d9).bind fun x13 =>
      ((metric_find_1 x13 a1).bind fun x14 =>
      some (x14 == 0)))
    else
      some false).bind fun x15 =>
  some (d9, x15)))

def metric_find (a0 : MetricTable) (a1 : Addr) : Option (Int × Bool) :=
  ((slices_BinarySearchFunc_api_MetricLink_api_MetricLink_api_Addr a0.Links a1).bind fun x9 =>
  some (x9.1, x9.2))

def slices_Clone_api_MetricLink_api_MetricLink (a0 : (List MetricLink)) : Option (List MetricLink) :=
  ((chk (decide (a0.length * 32 ≤ 140737488355328))).bind fun x11 =>
  some a0)

def slices_Insert_api_MetricLink_api_MetricLink_0 (a0 : Int) (a1 : List MetricLink) (a2 : List MetricLink) : Option (List MetricLink) :=
  ((chk (decide (0 ≤ a0) && decide (a0 ≤ (a1.length : Int)))).bind fun x13 =>
  bif (((a2.length : Nat) : Int) == 0) then
    some a1
  else
    bif (a0 == ((a1.length : Nat) : Int)) then
      ((chk (decide ((a1.length + a2.length) * 32 ≤ 140737488355328))).bind fun x14 =>
      some (a1 ++ a2))
    else
      none)

def slices_Insert_api_MetricLink_api_MetricLink (a0 : Int) (a1 : List MetricLink) (a2 : List MetricLink) : Option (List MetricLink) :=
  ((chk (decide (0 ≤ a0) && decide (a0 ≤ (a1.length : Int)))).bind fun x13 =>
  bif (((a2.length : Nat) : Int) == 0) then
    some a1
  else
    bif (a0 == ((a1.length : Nat) : Int)) then
      ((chk (decide ((a1.length + a2.length) * 32 ≤ 140737488355328))).bind fun x14 =>
      some (a1 ++ a2))
    else
      ((chk (decide (a2.length = 1) && decide ((a1.length + 1) * 32 ≤ 140737488355328))).bind fun x15 =>
      some (a1.take a0.toNat ++ a2 ++ a1.drop a0.toNat)))

def metric_Heard (a0 : MetricTable) (a1 : Addr) (a2 : Int) (a3 : Bool) (a4 : Int) : Option (MetricTable × Int) :=
  ((metric_checked a0 a4).bind fun x5 =>
  bif (x5 != 0) then
    some (MetricTable.z, x5)
  else
    ((
      bif decide (a2 < 0) then
        some true
      else
        (rate_Count.bind fun x6 =>
        some (decide (x6 ≤ a2)))).bind fun x7 =>
    bif x7 then
      some (MetricTable.z, 2)
    else
      ((metric_find a0 a1).bind fun x8 =>
      bif ((!x8.2) && (!a3)) then
        some (MetricTable.z, 6)
      else
        bif ((!x8.2) && ((a0.Links.length : Int) == 32)) then
          some (MetricTable.z, 22)
        else
          ((slices_Clone_api_MetricLink_api_MetricLink a0.Links).bind fun x9 =>
          bif (!x8.2) then
            ((slices_Insert_api_MetricLink_api_MetricLink x8.1 x9 [{ MetricLink.z with Heard := a4, Peer := a1, Rate := a2 }]).bind fun x10 =>
            some ({ a0 with Links := x10 }, 0))
          else
            ((idx x9 x8.1).bind fun x11 =>
            bif a3 then
              some ({ a0 with Links := (((x9.modify ((x8.1).toNat) fun y => { y with Rate := a2 }).modify ((x8.1).toNat) fun y => { y with Loss := IntKind.wrap .i64 (((IntKind.wrap .i64 (7 * (({ x11 with Rate := a2 }).Loss)))).tdiv 8) }).modify ((x8.1).toNat) fun y => { y with Heard := (if ({ x11 with Rate := a2 }).Heard < a4 then a4 else ({ x11 with Rate := a2 }).Heard) }) }, 0)
            else
              some ({ a0 with Links := ((x9.modify ((x8.1).toNat) fun y => { y with Rate := a2 }).modify ((x8.1).toNat) fun y => { y with Loss := IntKind.wrap .i64 (((IntKind.wrap .i64 ((IntKind.wrap .i64 (7 * (({ x11 with Rate := a2 }).Loss))) + 1007))).tdiv 8) }) }, 0))))))

def hotspotlaw38_alive : Option Bool :=
  ((metric_Cost 11 0).bind fun x1 =>
  ((metric_Cost 11 500).bind fun x2 =>
  ((metric_Heard MetricTable.z { Addr.z with a0 := 2, a1 := 1 } 3 true 5).bind fun x3 =>
  ((metric_Heard x3.1 { Addr.z with a0 := 2, a1 := 1 } 4 false 6).bind fun x4 =>
  ((metric_Heard x4.1 { Addr.z with a0 := 2, a1 := 1 } 4 true 7).bind fun x5 =>
  ((
    bif ((((((((((x1.2 == 0) && (x1.1 == 13600)) && (x2.2 == 0)) && (x2.1 == 27200)) && (x3.2 == 0)) && (x4.2 == 0)) && (x5.2 == 0)) && ((x3.1.Links.length : Int) == 1)) && ((x4.1.Links.length : Int) == 1)) && ((x5.1.Links.length : Int) == 1)) then
      ((idx x3.1.Links 0).bind fun x6 =>
      some (decide (x6 = { MetricLink.z with Heard := 5, Peer := { Addr.z with a0 := 2, a1 := 1 }, Rate := 3 })))
    else
      some false).bind fun x7 =>
  ((
    bif x7 then
      ((idx x4.1.Links 0).bind fun x8 =>
      some (decide (x8 = { MetricLink.z with Heard := 5, Loss := 125, Peer := { Addr.z with a0 := 2, a1 := 1 }, Rate := 4 })))
    else
      some false).bind fun x9 =>
  ((
    bif x9 then
      ((idx x5.1.Links 0).bind fun x10 =>
      some (decide (x10 = { MetricLink.z with Heard := 7, Loss := 109, Peer := { Addr.z with a0 := 2, a1 := 1 }, Rate := 4 })))
    else
      some false).bind fun x11 =>
  some x11))))))))

def metric_old (a0 : Int) : Option Int :=
  some a0

def metric_old_1 (a0 : MetricLink) (a1 : Int) : Option Bool :=
  some (decide (5000000 < (IntKind.wrap .i64 (a1 - a0.Heard))))

def metric_split_L2 (a0 : (List MetricLink)) (a1 : Int) : Nat → (List MetricLink × List Addr × Int) → Option ((List MetricLink × List Addr))
  | 0, _ => none
  | n2 + 1, d17 =>
    bif decide (d17.2.2 < (a0.length : Int)) then
      ((idx a0 d17.2.2).bind fun x18 =>
      ((metric_old_1 x18 a1).bind fun x19 =>
      bif x19 then
        ((chk (decide (((d17.2.1).length + 1) * 6 ≤ 140737488355328))).bind fun x20 =>
        metric_split_L2 a0 a1 n2 (d17.1, (d17.2.1 ++ [x18.Peer]), IntKind.wrap .i64 (d17.2.2 + 1)))
      else
        ((chk (decide (((d17.1).length + 1) * 32 ≤ 140737488355328))).bind fun x21 =>
        metric_split_L2 a0 a1 n2 ((d17.1 ++ [x18]), d17.2.1, IntKind.wrap .i64 (d17.2.2 + 1)))))
    else
      some (d17.1, d17.2.1)

def metric_split (a0 : (List MetricLink)) (a1 : Int) : Option ((List MetricLink) × (List Addr)) :=
  ((
    metric_split_L2 a0 a1 big ([], [], 0)).bind fun d16 =>
  some (d16.1, d16.2))

def metric_Age (a0 : MetricTable) (a1 : Int) : Option (MetricTable × (List Addr) × Int) :=
  ((metric_checked a0 a1).bind fun x14 =>
  bif (x14 != 0) then
    some (MetricTable.z, [], x14)
  else
    ((metric_old a1).bind fun x15 =>
    ((metric_split a0.Links x15).bind fun x16 =>
    some ({ MetricTable.z with Links := x16.1 }, x16.2, 0))))

def metric_Of (a0 : MetricTable) (a1 : Addr) (a2 : Int) : Option (Int × Int) :=
  ((metric_checked a0 a2).bind fun x22 =>
  bif (x22 != 0) then
    some (0, x22)
  else
    ((metric_find a0 a1).bind fun x23 =>
    ((
      bif (!x23.2) then
        some true
      else
        ((metric_old a2).bind fun x24 =>
        ((idx a0.Links x23.1).bind fun x25 =>
        ((metric_old_1 x25 x24).bind fun x26 =>
        some x26)))).bind fun x27 =>
    bif x27 then
      some (0, 6)
    else
      ((idx a0.Links x23.1).bind fun x28 =>
      ((metric_Cost x28.Rate x28.Loss).bind fun x29 =>
      some (x29.1, x29.2))))))

def hotspotlaw38_MetricAges_L3 (a0 : MetricTable) (a1 : Int) (x3 : (MetricTable × (List Addr) × Int)) : Nat → (Int × Int × Int) → Option (Ex Bool Unit)
  | 0, _ => none
  | n9 + 1, d8 =>
    bif decide (d8.2.2 < (a0.Links.length : Int)) then
      ((idx a0.Links d8.2.2).bind fun x9 =>
      ((metric_Of a0 x9.Peer a1).bind fun x10 =>
      ((
        bif ((x10.2 == 0) && (decide (d8.1 < (x3.1.Links.length : Int)))) then
          ((idx x3.1.Links d8.1).bind fun x11 =>
          some (decide (x11 = x9)))
        else
          some false).bind fun x12 =>
      bif x12 then
        hotspotlaw38_MetricAges_L3 a0 a1 x3 n9 (IntKind.wrap .i64 (d8.1 + 1), d8.2.1, IntKind.wrap .i64 (d8.2.2 + 1))
      else
        ((
          bif ((x10.2 == 6) && (decide (d8.2.1 < (x3.2.1.length : Int)))) then
            ((idx x3.2.1 d8.2.1).bind fun x13 =>
            some (decide (x13 = x9.Peer)))
          else
            some false).bind fun x14 =>
        bif x14 then
          hotspotlaw38_MetricAges_L3 a0 a1 x3 n9 (d8.1, IntKind.wrap .i64 (d8.2.1 + 1), IntKind.wrap .i64 (d8.2.2 + 1))
        else
          some (Ex.ret false)))))
    else
      some (Ex.go ())

def hotspotlaw38_MetricAges (a0 : MetricTable) (a1 : Int) : Option Bool :=
  (hotspotlaw38_alive.bind fun x1 =>
  ((metric_Check a0).bind fun x2 =>
  bif ((((x2 != 0) || (decide (a1 < 0))) || (decide (1099511627776 < a1))) || (!x1)) then
    some x1
  else
    ((metric_Age a0 a1).bind fun x3 =>
    ((
      bif (x3.2.2 != 0) then
        some true
      else
        ((metric_Check x3.1).bind fun x4 =>
        some (x4 != 0))).bind fun x5 =>
    bif (x5 || ((IntKind.wrap .i64 ((x3.1.Links.length : Int) + (x3.2.1.length : Int))) != (a0.Links.length : Int))) then
      some false
    else
      ((
        hotspotlaw38_MetricAges_L3 a0 a1 x3 big (0, 0, 0)).bind fun o7 =>
      (o7.k fun d6 =>
      some x1))))))

def hotspotref38_Twin (a0 : MetricTable) : Option MetricTable :=
  ((chk (decide (a0.Links.length * 32 ≤ 140737488355328))).bind fun x18 =>
  some { MetricTable.z with Links := a0.Links })

def hotspotref38_Same_L2 (a0 : MetricTable) (a1 : MetricTable) : Nat → Int → Option (Ex Bool Unit)
  | 0, _ => none
  | n3 + 1, d32 =>
    bif decide (d32 < (a0.Links.length : Int)) then
      ((idx a0.Links d32).bind fun x33 =>
      ((idx a1.Links d32).bind fun x34 =>
      bif (!decide (x33 = x34)) then
        some (Ex.ret false)
      else
        hotspotref38_Same_L2 a0 a1 n3 (IntKind.wrap .i64 (d32 + 1))))
    else
      some (Ex.go ())

def hotspotref38_Same (a0 : MetricTable) (a1 : MetricTable) : Option Bool :=
  bif ((a0.Links.length : Int) != (a1.Links.length : Int)) then
    some false
  else
    ((
      hotspotref38_Same_L2 a0 a1 big 0).bind fun o31 =>
    (o31.k fun d30 =>
    some true))

def hotspotlaw38_MetricConverges_L3 (a0 : MetricTable) (a1 : Int) (a2 : Int) (a3 : Bool) (x17 : MetricLink) : Nat → (MetricTable × List MetricLink × Int) → Option (Ex Bool (MetricTable × List MetricLink))
  | 0, _ => none
  | n8 + 1, d21 =>
    bif decide (d21.2.2 < 60) then
      ((idx a0.Links a1).bind fun x22 =>
      ((metric_Heard { d21.1 with Links := d21.2.1 } x22.Peer a2 a3 x17.Heard).bind fun x23 =>
      bif ((x23.2 != 0) || (((x23.1.Links.length : Nat) : Int) != (a0.Links.length : Int))) then
        some (Ex.ret false)
      else
        ((idx d21.2.1 a1).bind fun x24 =>
        ((idx x23.1.Links a1).bind fun x25 =>
        bif ((a3 && ((decide (x24.Loss < x25.Loss)) || ((x25.Loss == x24.Loss) && (decide (0 < x24.Loss))))) || ((!a3) && ((decide (x25.Loss < x24.Loss)) || ((x25.Loss == x24.Loss) && (decide (x24.Loss < 1000)))))) then
          some (Ex.ret false)
        else
          hotspotlaw38_MetricConverges_L3 a0 a1 a2 a3 x17 n8 (x23.1, x23.1.Links, IntKind.wrap .i64 (d21.2.2 + 1))))))
    else
      some (Ex.go (d21.1, d21.2.1))

def hotspotlaw38_MetricConverges (a0 : MetricTable) (a1 : Int) (a2 : Int) (a3 : Bool) : Option Bool :=
  (hotspotlaw38_alive.bind fun x15 =>
  ((metric_Check a0).bind fun x16 =>
  bif ((((((x16 != 0) || (decide (a1 < 0))) || (decide ((a0.Links.length : Int) ≤ a1))) || (decide (a2 < 0))) || (decide (11 < a2))) || (!x15)) then
    some x15
  else
    ((idx a0.Links a1).bind fun x17 =>
    ((hotspotref38_Twin a0).bind fun x18 =>
    ((
      hotspotlaw38_MetricConverges_L3 a0 a1 a2 a3 x17 big (x18, x18.Links, 0)).bind fun o20 =>
    (o20.k fun d19 =>
    ((
      bif a3 then
        some 0
      else
        some 1000).bind fun d26 =>
    ((idx d19.2 a1).bind fun x27 =>
    ((idx a0.Links a1).bind fun x28 =>
    ((
      bif (x15 && (x27.Loss == d26)) then
        ((hotspotref38_Same { d19.1 with Links := (d19.2.set ((a1).toNat) x28) } a0).bind fun x29 =>
        some x29)
      else
        some false).bind fun x30 =>
    some x30))))))))))

def hotspotlaw38_MetricMonotone (a0 : Int) (a1 : Int) (a2 : Int) (a3 : Int) : Option Bool :=
  (hotspotlaw38_alive.bind fun x31 =>
  bif (((((((decide (a0 < 0)) || (decide (a1 < a0))) || (decide (11 < a1))) || (decide (a2 < 0))) || (decide (a3 < a2))) || (decide (1000 < a3))) || (!x31)) then
    some x31
  else
    ((metric_Cost a0 a2).bind fun x32 =>
    ((metric_Cost a0 a3).bind fun x33 =>
    ((metric_Cost a1 a2).bind fun x34 =>
    some ((((((x31 && (x32.2 == 0)) && (x33.2 == 0)) && (x34.2 == 0)) && (decide (1 ≤ x34.1))) && (decide (x32.1 ≤ x33.1))) && (decide (x34.1 ≤ x32.1)))))))

def metric_Add_1 (a0 : Int) : Option Int :=
  some (if 1099511627776 < (if a0 < 0 then 0 else a0) then 1099511627776 else (if a0 < 0 then 0 else a0))

def metric_Add (a0 : Int) (a1 : Int) : Option Int :=
  ((metric_Add_1 a0).bind fun x46 =>
  ((metric_Add_1 a1).bind fun x47 =>
  ((metric_Add_1 (IntKind.wrap .i64 (x46 + x47))).bind fun x48 =>
  some x48)))

def hotspotlaw38_MetricNames : Option Bool :=
  ((metric_Cost 12 0).bind fun x35 =>
  ((metric_Cost 0 1001).bind fun x36 =>
  ((metric_Cost 0 1000).bind fun x37 =>
  ((metric_Heard MetricTable.z { Addr.z with a0 := 1 } 0 false 0).bind fun x38 =>
  ((metric_Heard MetricTable.z { Addr.z with a0 := 1 } 12 true 0).bind fun x39 =>
  ((metric_Heard MetricTable.z { Addr.z with a0 := 1 } 0 true (-1)).bind fun x40 =>
  ((metric_Heard MetricTable.z { Addr.z with a0 := 1 } 0 true 0).bind fun x41 =>
  ((metric_Of x41.1 { Addr.z with a0 := 1 } 5000000).bind fun x42 =>
  ((metric_Of x41.1 { Addr.z with a0 := 1 } 5000001).bind fun x43 =>
  ((metric_Of x41.1 { Addr.z with a0 := 2 } 0).bind fun x44 =>
  ((metric_Check { MetricTable.z with Links := [MetricLink.z, MetricLink.z] }).bind fun x45 =>
  ((metric_Add (-5) 7).bind fun x46 =>
  ((
    bif (x46 == 7) then
      ((metric_Add 1099511627776 1).bind fun x47 =>
      some (x47 == 1099511627776))
    else
      some false).bind fun x48 =>
  ((
    bif x48 then
      ((metric_Add 4611686018427387904 4611686018427387904).bind fun x49 =>
      some (x49 == 1099511627776))
    else
      some false).bind fun x50 =>
  (hotspotlaw38_alive.bind fun x51 =>
  some (((((((((((((x51 && (x35.2 == 2)) && (x36.2 == 2)) && (x37.2 == 0)) && (x37.1 == 1099511627776)) && (x38.2 == 6)) && (x39.2 == 2)) && (x40.2 == 2)) && (x41.2 == 0)) && (x42.2 == 0)) && (x43.2 == 6)) && (x44.2 == 6)) && (x45 == 8)) && x50))))))))))))))))

def hotspotlaw38_MetricShares (a0 : Int) : Option Bool :=
  (hotspotlaw38_alive.bind fun x52 =>
  bif (((decide (a0 < 0)) || (decide (11 < a0))) || (!x52)) then
    some x52
  else
    ((metric_Cost a0 0).bind fun x53 =>
    ((metric_Cost a0 500).bind fun x54 =>
    ((metric_Cost a0 900).bind fun x55 =>
    some (((((x52 && (x53.2 == 0)) && (x54.2 == 0)) && (x55.2 == 0)) && (x54.1 == (IntKind.wrap .i64 (2 * x53.1)))) && (x55.1 == (IntKind.wrap .i64 (10 * x53.1))))))))

def hotspotlaw38_MetricSums (a0 : Int) (a1 : Int) (a2 : Int) : Option Bool :=
  ((metric_Add a0 a1).bind fun x56 =>
  (hotspotlaw38_alive.bind fun x57 =>
  ((
    bif x57 then
      ((metric_Add a1 a0).bind fun x58 =>
      some (x56 == x58))
    else
      some false).bind fun x59 =>
  ((
    bif x59 then
      ((metric_Add x56 a2).bind fun x60 =>
      ((metric_Add a1 a2).bind fun x61 =>
      ((metric_Add a0 x61).bind fun x62 =>
      some (x60 == x62))))
    else
      some false).bind fun x63 =>
  ((
    bif ((x63 && (decide (0 ≤ x56))) && (decide (x56 ≤ 1099511627776))) then
      ((
        bif decide (a2 < a1) then
          some true
        else
          ((metric_Add a0 a2).bind fun x64 =>
          some (decide (x56 ≤ x64)))).bind fun x65 =>
      some x65)
    else
      some false).bind fun x66 =>
  some x66)))))

def hotspotref23_Smaller_L2 (a0 : Addr) (a1 : Addr) : Nat → Int → Option (Ex Bool Unit)
  | 0, _ => none
  | n2 + 1, d74 =>
    bif decide (d74 < 6) then
      ((idxA 6 [a0.a0, a0.a1, a0.a2, a0.a3, a0.a4, a0.a5] d74).bind fun x75 =>
      ((idxA 6 [a1.a0, a1.a1, a1.a2, a1.a3, a1.a4, a1.a5] d74).bind fun x76 =>
      bif (x75 != x76) then
        some (Ex.ret (decide (x75 < x76)))
      else
        hotspotref23_Smaller_L2 a0 a1 n2 (IntKind.wrap .i64 (d74 + 1))))
    else
      some (Ex.go ())

def hotspotref23_Smaller (a0 : Addr) (a1 : Addr) : Option Bool :=
  ((
    hotspotref23_Smaller_L2 a0 a1 big 0).bind fun o73 =>
  (o73.k fun d72 =>
  some false))

def hotspotref38_Check_L2 (a0 : MetricTable) : Nat → Int → Option (Ex Int Unit)
  | 0, _ => none
  | n3 + 1, d71 =>
    bif decide (d71 < (a0.Links.length : Int)) then
      ((idx a0.Links d71).bind fun x72 =>
      bif ((((((decide (x72.Rate < 0)) || (decide (12 ≤ x72.Rate))) || (decide (x72.Loss < 0))) || (decide (1000 < x72.Loss))) || (decide (x72.Heard < 0))) || (decide (1099511627776 < x72.Heard))) then
        some (Ex.ret 8)
      else
        ((
          bif decide (0 < d71) then
            ((idx a0.Links (IntKind.wrap .i64 (d71 - 1))).bind fun x73 =>
            ((hotspotref23_Smaller x73.Peer x72.Peer).bind fun x74 =>
            some (!x74)))
          else
            some false).bind fun x75 =>
        bif x75 then
          some (Ex.ret 8)
        else
          hotspotref38_Check_L2 a0 n3 (IntKind.wrap .i64 (d71 + 1))))
    else
      some (Ex.go ())

def hotspotref38_Check (a0 : MetricTable) : Option Int :=
  bif decide (32 < (a0.Links.length : Int)) then
    some 8
  else
    ((
      hotspotref38_Check_L2 a0 big 0).bind fun o70 =>
    (o70.k fun d69 =>
    some 0))

def hotspotref38_before (a0 : MetricTable) (a1 : Int) : Option Int :=
  ((hotspotref38_Check a0).bind fun x69 =>
  bif (x69 != 0) then
    some 8
  else
    bif ((decide (a1 < 0)) || (decide (1099511627776 < a1))) then
      some 2
    else
      some 0)

def hotspotref38_Heard_L4 (a0 : MetricTable) (a1 : Addr) (a3 : Bool) (a4 : Int) (a2 : Int) : Nat → (MetricTable × List MetricLink × Bool × Int) → Option ((MetricTable × List MetricLink × Bool))
  | 0, _ => none
  | n7 + 1, d72 =>
    bif decide (d72.2.2.2 < (a0.Links.length : Int)) then
      ((idx a0.Links d72.2.2.2).bind fun x73 =>
      ((
        bif decide (x73.Peer = a1) then
          bif a3 then
            some (true, { x73 with Heard := (if x73.Heard < a4 then a4 else x73.Heard), Loss := IntKind.wrap .i64 (((IntKind.wrap .i64 (7 * x73.Loss))).tdiv 8), Rate := a2 })
          else
            some (true, { x73 with Loss := IntKind.wrap .i64 (((IntKind.wrap .i64 ((IntKind.wrap .i64 (7 * x73.Loss)) + 1007))).tdiv 8), Rate := a2 })
        else
          some (d72.2.2.1, x73)).bind fun d74 =>
      ((chk (decide ((d72.2.1.length + 1) * 32 ≤ 140737488355328))).bind fun x75 =>
      hotspotref38_Heard_L4 a0 a1 a3 a4 a2 n7 (d72.1, (d72.2.1 ++ [d74.2]), d74.1, IntKind.wrap .i64 (d72.2.2.2 + 1)))))
    else
      some (d72.1, d72.2.1, d72.2.2.1)

def hotspotref38_Heard_L9 (a0 : MetricTable) (a1 : Addr) (a4 : Int) (a2 : Int) : Nat → (MetricTable × List MetricLink × Bool × Int) → Option ((MetricTable × List MetricLink × Bool))
  | 0, _ => none
  | n17 + 1, d77 =>
    bif decide (d77.2.2.2 < (a0.Links.length : Int)) then
      ((
        bif (!d77.2.2.1) then
          ((idx a0.Links d77.2.2.2).bind fun x78 =>
          ((hotspotref23_Smaller a1 x78.Peer).bind fun x79 =>
          some x79))
        else
          some false).bind fun x80 =>
      ((
        bif x80 then
          ((chk (decide (((d77.2.1).length + 1) * 32 ≤ 140737488355328))).bind fun x82 =>
          some ((d77.2.1 ++ [{ MetricLink.z with Heard := a4, Peer := a1, Rate := a2 }]), true))
        else
          some (d77.2.1, d77.2.2.1)).bind fun d81 =>
      ((idx a0.Links d77.2.2.2).bind fun x83 =>
      ((chk (decide (((d81.1).length + 1) * 32 ≤ 140737488355328))).bind fun x84 =>
      hotspotref38_Heard_L9 a0 a1 a4 a2 n17 (d77.1, (d81.1 ++ [x83]), d81.2, IntKind.wrap .i64 (d77.2.2.2 + 1))))))
    else
      some (d77.1, d77.2.1, d77.2.2.1)

def hotspotref38_Heard (a0 : MetricTable) (a1 : Addr) (a2 : Int) (a3 : Bool) (a4 : Int) : Option (MetricTable × Int) :=
  ((hotspotref38_before a0 a4).bind fun x69 =>
  ((
    bif ((x69 == 0) && ((decide (a2 < 0)) || (decide (12 ≤ a2)))) then
      some 2
    else
      some x69).bind fun d70 =>
  bif (d70 != 0) then
    some (MetricTable.z, d70)
  else
    ((
      hotspotref38_Heard_L4 a0 a1 a3 a4 a2 big (MetricTable.z, [], false, 0)).bind fun d71 =>
    bif d71.2.2 then
      some ({ d71.1 with Links := d71.2.1 }, 0)
    else
      bif (!a3) then
        some (MetricTable.z, 6)
      else
        bif decide (32 ≤ (a0.Links.length : Int)) then
          some (MetricTable.z, 22)
        else
          ((
            hotspotref38_Heard_L9 a0 a1 a4 a2 big (MetricTable.z, [], false, 0)).bind fun d76 =>
          bif (!d76.2.2) then
            ((chk (decide (((d76.2.1).length + 1) * 32 ≤ 140737488355328))).bind fun x85 =>
            some ({ d76.1 with Links := (d76.2.1 ++ [{ MetricLink.z with Heard := a4, Peer := a1, Rate := a2 }]) }, 0))
          else
            some ({ d76.1 with Links := d76.2.1 }, 0)))))

def hotspotref09_Total (a0 : Int) (a1 : Int) : Option (Int × Int) :=
  bif (a0 == 0) && (a1 == 1024) then some (1452, 0) else (bif (a0 == 1) && (a1 == 1024) then some (996, 0) else (bif (a0 == 2) && (a1 == 1024) then some (756, 0) else (bif (a0 == 3) && (a1 == 1024) then some (528, 0) else (bif (a0 == 4) && (a1 == 1024) then some (396, 0) else (bif (a0 == 5) && (a1 == 1024) then some (288, 0) else (bif (a0 == 6) && (a1 == 1024) then some (232, 0) else (bif (a0 == 7) && (a1 == 1024) then some (216, 0) else (bif (a0 == 8) && (a1 == 1024) then some (192, 0) else (bif (a0 == 9) && (a1 == 1024) then some (168, 0) else (bif (a0 == 10) && (a1 == 1024) then some (148, 0) else (bif (a0 == 11) && (a1 == 1024) then some (136, 0) else (none))))))))))))

def hotspotref38_Cost (a0 : Int) (a1 : Int) : Option (Int × Int) :=
  bif ((((decide (a0 < 0)) || (decide (12 ≤ a0))) || (decide (a1 < 0))) || (decide (1000 < a1))) then
    some (0, 2)
  else
    bif (a1 == 1000) then
      some (1099511627776, 0)
    else
      ((hotspotref09_Total a0 1024).bind fun x91 =>
      ((chk (decide (IntKind.wrap .i64 (1000 - a1) ≠ 0))).bind fun x92 =>
      bif decide ((IntKind.wrap .i64 ((IntKind.wrap .i64 (((IntKind.wrap .i64 ((IntKind.wrap .i64 (x91.1 * 100)) * 1000))).tdiv (IntKind.wrap .i64 (1000 - a1)))) * (IntKind.wrap .i64 (1000 - a1)))) < (IntKind.wrap .i64 ((IntKind.wrap .i64 (x91.1 * 100)) * 1000))) then
        some (IntKind.wrap .i64 ((IntKind.wrap .i64 (((IntKind.wrap .i64 ((IntKind.wrap .i64 (x91.1 * 100)) * 1000))).tdiv (IntKind.wrap .i64 (1000 - a1)))) + 1), 0)
      else
        some (IntKind.wrap .i64 (((IntKind.wrap .i64 ((IntKind.wrap .i64 (x91.1 * 100)) * 1000))).tdiv (IntKind.wrap .i64 (1000 - a1))), 0)))

def hotspotref38_Of_L2 (a0 : MetricTable) (a1 : Addr) (a2 : Int) : Nat → Int → Option (Ex (Int × Int) Unit)
  | 0, _ => none
  | n3 + 1, d91 =>
    bif decide (d91 < (a0.Links.length : Int)) then
      ((idx a0.Links d91).bind fun x92 =>
      bif ((decide (x92.Peer = a1)) && (decide (a2 ≤ (IntKind.wrap .i64 (x92.Heard + 5000000))))) then
        ((hotspotref38_Cost x92.Rate x92.Loss).bind fun x93 =>
        some (Ex.ret (x93.1, x93.2)))
      else
        hotspotref38_Of_L2 a0 a1 a2 n3 (IntKind.wrap .i64 (d91 + 1)))
    else
      some (Ex.go ())

def hotspotref38_Of (a0 : MetricTable) (a1 : Addr) (a2 : Int) : Option (Int × Int) :=
  ((hotspotref38_before a0 a2).bind fun x88 =>
  bif (x88 != 0) then
    some (0, x88)
  else
    ((
      hotspotref38_Of_L2 a0 a1 a2 big 0).bind fun o90 =>
    (o90.k fun d89 =>
    some (0, 6))))

def hotspotref38_Age_L3 (a0 : MetricTable) (a1 : Int) : Nat → (MetricTable × List MetricLink × List Addr × Int) → Option ((MetricTable × List MetricLink × List Addr))
  | 0, _ => none
  | n3 + 1, d98 =>
    bif decide (d98.2.2.2 < (a0.Links.length : Int)) then
      ((idx a0.Links d98.2.2.2).bind fun x99 =>
      bif decide ((IntKind.wrap .i64 (x99.Heard + 5000000)) < a1) then
        ((chk (decide (((d98.2.2.1).length + 1) * 6 ≤ 140737488355328))).bind fun x100 =>
        hotspotref38_Age_L3 a0 a1 n3 (d98.1, d98.2.1, (d98.2.2.1 ++ [x99.Peer]), IntKind.wrap .i64 (d98.2.2.2 + 1)))
      else
        ((chk (decide (((d98.2.1).length + 1) * 32 ≤ 140737488355328))).bind fun x101 =>
        hotspotref38_Age_L3 a0 a1 n3 (d98.1, (d98.2.1 ++ [x99]), d98.2.2.1, IntKind.wrap .i64 (d98.2.2.2 + 1))))
    else
      some (d98.1, d98.2.1, d98.2.2.1)

def hotspotref38_Age (a0 : MetricTable) (a1 : Int) : Option (MetricTable × (List Addr) × Int) :=
  ((hotspotref38_before a0 a1).bind fun x96 =>
  bif (x96 != 0) then
    some (MetricTable.z, [], x96)
  else
    ((
      hotspotref38_Age_L3 a0 a1 big (MetricTable.z, [], [], 0)).bind fun d97 =>
    some ({ d97.1 with Links := d97.2.1 }, d97.2.2, 0)))

def hotspotref38_SameAddrs_L2 (a0 : (List Addr)) (a1 : (List Addr)) : Nat → Int → Option (Ex Bool Unit)
  | 0, _ => none
  | n3 + 1, d108 =>
    bif decide (d108 < (a0.length : Int)) then
      ((idx a0 d108).bind fun x109 =>
      ((idx a1 d108).bind fun x110 =>
      bif (!decide (x109 = x110)) then
        some (Ex.ret false)
      else
        hotspotref38_SameAddrs_L2 a0 a1 n3 (IntKind.wrap .i64 (d108 + 1))))
    else
      some (Ex.go ())

def hotspotref38_SameAddrs (a0 : (List Addr)) (a1 : (List Addr)) : Option Bool :=
  bif ((a0.length : Int) != (a1.length : Int)) then
    some false
  else
    ((
      hotspotref38_SameAddrs_L2 a0 a1 big 0).bind fun o107 =>
    (o107.k fun d106 =>
    some true))

def hotspotlaw38_MetricTables_L6 : Nat → (List MetricLink × Int) → Option (Unit)
  | 0, _ => none
  | n10 + 1, d83 =>
    bif decide (d83.2 < (((d83.1).length : Nat) : Int)) then
      ((idx d83.1 d83.2).bind fun x84 =>
      hotspotlaw38_MetricTables_L6 n10 ((d83.1.modify ((d83.2).toNat) fun y => { y with Rate := IntKind.wrap .i64 (x84.Rate + 1) }), IntKind.wrap .i64 (d83.2 + 1)))
    else
      some ()

def hotspotlaw38_MetricTables_L9 : Nat → (List MetricLink × Int) → Option (Unit)
  | 0, _ => none
  | n16 + 1, d86 =>
    bif decide (d86.2 < (((d86.1).length : Nat) : Int)) then
      ((idx d86.1 d86.2).bind fun x87 =>
      hotspotlaw38_MetricTables_L9 n16 ((d86.1.modify ((d86.2).toNat) fun y => { y with Rate := IntKind.wrap .i64 (x87.Rate + 1) }), IntKind.wrap .i64 (d86.2 + 1)))
    else
      some ()

def hotspotlaw38_MetricTables (a0 : MetricTable) (a1 : Addr) (a2 : Int) (a3 : Bool) (a4 : Int) : Option Bool :=
  bif decide (40 < (a0.Links.length : Int)) then
    some true
  else
    ((hotspotref38_Twin a0).bind fun x67 =>
    ((metric_Heard x67 a1 a2 a3 a4).bind fun x68 =>
    ((hotspotref38_Heard a0 a1 a2 a3 a4).bind fun x69 =>
    ((metric_Of x67 a1 a4).bind fun x70 =>
    ((hotspotref38_Of a0 a1 a4).bind fun x71 =>
    ((metric_Age x67 a4).bind fun x72 =>
    ((hotspotref38_Age a0 a4).bind fun x73 =>
    ((hotspotref38_Same x68.1 x69.1).bind fun x74 =>
    ((
      bif (((x74 && (x68.2 == x69.2)) && (x70.1 == x71.1)) && (x70.2 == x71.2)) then
        ((hotspotref38_Same x72.1 x73.1).bind fun x75 =>
        some x75)
      else
        some false).bind fun x76 =>
    ((
      bif x76 then
        ((hotspotref38_SameAddrs x72.2.1 x73.2.1).bind fun x77 =>
        some x77)
      else
        some false).bind fun x78 =>
    ((
      bif (x78 && (x72.2.2 == x73.2.2)) then
        ((metric_Check x67).bind fun x79 =>
        ((hotspotref38_Check a0).bind fun x80 =>
        some (x79 == x80)))
      else
        some false).bind fun x81 =>
    ((
      hotspotlaw38_MetricTables_L6 big (x68.1.Links, 0)).bind fun d82 =>
    ((
      hotspotlaw38_MetricTables_L9 big (x72.1.Links, 0)).bind fun d85 =>
    ((
      bif x81 then
        ((hotspotref38_Same x67 a0).bind fun x88 =>
        some x88)
      else
        some false).bind fun x89 =>
    some x89))))))))))))))

def hotspotlaw38_MetricRuns_L2 (a0 : (List Hotspotlaw38_Told)) : Nat → (MetricTable × MetricTable × Int × Int) → Option (Ex Bool Unit)
  | 0, _ => none
  | n3 + 1, d92 =>
    bif decide (d92.2.2.2 < (a0.length : Int)) then
      ((idx a0 d92.2.2.2).bind fun x93 =>
      bif ((decide (x93.Wait < 0)) || (decide (10000000 < x93.Wait))) then
        some (Ex.ret true)
      else
        ((metric_Heard { d92.1 with Links := (d92.1).Links } x93.Peer x93.Rate x93.Ok (IntKind.wrap .i64 (d92.2.2.1 + x93.Wait))).bind fun x94 =>
        ((hotspotref38_Heard { d92.2.1 with Links := (d92.2.1).Links } x93.Peer x93.Rate x93.Ok (IntKind.wrap .i64 (d92.2.2.1 + x93.Wait))).bind fun x95 =>
        ((
          bif (x94.2 != x95.2) then
            some true
          else
            ((hotspotref38_Same x94.1 x95.1).bind fun x96 =>
            some (!x96))).bind fun x97 =>
        bif x97 then
          some (Ex.ret false)
        else
          ((
            bif (x94.2 == 0) then
              some (x94.1, x95.1)
            else
              some ({ d92.1 with Links := (d92.1).Links }, { d92.2.1 with Links := (d92.2.1).Links })).bind fun d98 =>
          ((idx a0 d92.2.2.2).bind fun x99 =>
          ((metric_Of { d98.1 with Links := (d98.1).Links } x99.Peer (IntKind.wrap .i64 ((IntKind.wrap .i64 (d92.2.2.1 + x93.Wait)) + 5000000))).bind fun x100 =>
          ((hotspotref38_Of { d98.2 with Links := (d98.2).Links } x99.Peer (IntKind.wrap .i64 ((IntKind.wrap .i64 (d92.2.2.1 + x93.Wait)) + 5000000))).bind fun x101 =>
          ((
            bif ((x100.1 != x101.1) || (x100.2 != x101.2)) then
              some true
            else
              ((metric_Check { d98.1 with Links := (d98.1).Links }).bind fun x102 =>
              some (x102 != 0))).bind fun x103 =>
          bif x103 then
            some (Ex.ret false)
          else
            hotspotlaw38_MetricRuns_L2 a0 n3 ({ d98.1 with Links := (d98.1).Links }, { d98.2 with Links := (d98.2).Links }, IntKind.wrap .i64 (d92.2.2.1 + x93.Wait), IntKind.wrap .i64 (d92.2.2.2 + 1)))))))))))
    else
      some (Ex.go ())

def hotspotlaw38_MetricRuns (a0 : (List Hotspotlaw38_Told)) : Option Bool :=
  bif decide (100 < (a0.length : Int)) then
    some true
  else
    ((
      hotspotlaw38_MetricRuns_L2 a0 big (MetricTable.z, MetricTable.z, 0, 0)).bind fun o91 =>
    (o91.k fun d90 =>
    some true))

end Go.AX.Z.TM

/-! (TMF) -/

namespace Go.AX.Z.TM
open Go.AX Go.Proofs

/-- The types that are compared by their cells. -/
def tab : List (TypeId × List (Option IntKind)) :=
  [(36, [some .u8, some .u8, some .u8, some .u8, some .u8, some .u8]),
   (38, [some .u8, some .u8, some .u8, some .u8, some .u8, some .u8, some .i64, some .i64, some .i64])]

noncomputable def K : Ctx := ⟨Try.prog, fun _ => none, tabK tab⟩

theorem ag3 : agB K.P 3 = some false := by kernel_rfl
theorem ag31 : agB K.P 31 = some false := by kernel_rfl
theorem ag33 : agB K.P 33 = some true := by kernel_rfl
theorem ag36 : agB K.P 36 = some true := by kernel_rfl
theorem ag38 : agB K.P 38 = some true := by kernel_rfl
theorem ag4 : agB K.P 4 = some false := by kernel_rfl
theorem ag5 : agB K.P 5 = some false := by kernel_rfl
theorem ar36 : arE K.P 36 = some (6, 5) := by kernel_rfl
theorem bl33 : bldS K.P 33 = some [(0, 1)] := by kernel_rfl
theorem bl36 : bldS K.P 36 = none := by kernel_rfl
theorem bl38 : bldS K.P 38 = some [(0, 6), (6, 1), (7, 1), (8, 1)] := by kernel_rfl
theorem by36 : byOf K.P 36 = some 6 := by kernel_rfl
theorem by38 : byOf K.P 38 = some 32 := by kernel_rfl
theorem by47 : byOf K.P 47 = some 32 := by kernel_rfl
theorem ek36 : K.eqk 36 = some [some .u8, some .u8, some .u8, some .u8, some .u8, some .u8] := by kernel_rfl
theorem ek38 : K.eqk 38 = some [some .u8, some .u8, some .u8, some .u8, some .u8, some .u8, some .i64, some .i64, some .i64] := by kernel_rfl
theorem el31 : elS K.P 31 = some 38 := by kernel_rfl
theorem el45 : elS K.P 45 = some 47 := by kernel_rfl
theorem el53 : elS K.P 53 = some 36 := by kernel_rfl
theorem fl33_0 : flE K.P 33 0 = some (0, 31) := by kernel_rfl
theorem fl38_0 : flE K.P 38 0 = some (0, 36) := by kernel_rfl
theorem fl38_1 : flE K.P 38 1 = some (6, 3) := by kernel_rfl
theorem fl38_2 : flE K.P 38 2 = some (7, 3) := by kernel_rfl
theorem fl38_3 : flE K.P 38 3 = some (8, 3) := by kernel_rfl
theorem fl47_0 : flE K.P 47 0 = some (0, 36) := by kernel_rfl
theorem fl47_1 : flE K.P 47 1 = some (6, 3) := by kernel_rfl
theorem fl47_2 : flE K.P 47 2 = some (7, 4) := by kernel_rfl
theorem fl47_3 : flE K.P 47 3 = some (8, 3) := by kernel_rfl
theorem in3 : inK K.P 3 = some .i64 := by kernel_rfl
theorem in92 : inK K.P 92 = some .u64 := by kernel_rfl
theorem sz3 : szOf K.P 3 = some 1 := by kernel_rfl
theorem sz31 : szOf K.P 31 = some 1 := by kernel_rfl
theorem sz33 : szOf K.P 33 = some 1 := by kernel_rfl
theorem sz36 : szOf K.P 36 = some 6 := by kernel_rfl
theorem sz38 : szOf K.P 38 = some 9 := by kernel_rfl
theorem sz4 : szOf K.P 4 = some 1 := by kernel_rfl
theorem sz47 : szOf K.P 47 = some 9 := by kernel_rfl
theorem sz5 : szOf K.P 5 = some 1 := by kernel_rfl
theorem un3 : K.P.underlying 3 = some (.int .i64) := by kernel_rfl
theorem un31 : K.P.underlying 31 = some (.slice 38) := by kernel_rfl
theorem un36 : K.P.underlying 36 = some (.array 6 5) := by kernel_rfl
theorem un45 : K.P.underlying 45 = some (.slice 47) := by kernel_rfl
theorem un53 : K.P.underlying 53 = some (.slice 36) := by kernel_rfl
theorem un92 : K.P.underlying 92 = some (.int .u64) := by kernel_rfl
theorem ze33 : zer K.P 33 = some (e_MetricTable MetricTable.z vnil) := by kernel_rfl
theorem ze36 : zer K.P 36 = some (e_Addr Addr.z) := by kernel_rfl
theorem ze38 : zer K.P 38 = some (e_MetricLink MetricLink.z) := by kernel_rfl
theorem ze47 : zer K.P 47 = some (e_Hotspotlaw38_Told Hotspotlaw38_Told.z) := by kernel_rfl
attribute [go_sem] ag3 ag31 ag33 ag36 ag38 ag4 ag5 ar36 bl33 bl36 bl38 by36 by38 by47 ek36 ek38 el31 el45 el53 fl33_0 fl38_0 fl38_1 fl38_2 fl38_3 fl47_0 fl47_1 fl47_2 fl47_3 in3 in92 sz3 sz31 sz33 sz36 sz38 sz4 sz47 sz5 un3 un31 un36 un45 un53 un92 ze33 ze36 ze38 ze47
theorem mixed : K.P.follows .mixedOrders = true := by kernel_rfl
theorem hC : COk K := ⟨EqOk.of_tab (tab := tab) rfl (by kernel_rfl), mixed⟩
theorem rs12 : Try.f12.results = #[.tmp 4, .tmp 5] := rfl
theorem rs32 : Try.f32.results = #[.tmp 2] := rfl
theorem rs47 : Try.f47.results = #[.tmp 4] := rfl
theorem rs33 : Try.f33.results = #[.tmp 4] := rfl
theorem rs17 : Try.f17.results = #[.tmp 2] := rfl
theorem rs34 : Try.f34.results = #[.tmp 4] := rfl
theorem rs50 : Try.f50.results = #[.tmp 4] := rfl
theorem rs49 : Try.f49.results = #[.tmp 6, .tmp 7] := rfl
theorem rs36 : Try.f36.results = #[.tmp 4, .tmp 5] := rfl
theorem rs37 : Try.f37.results = #[.tmp 2] := rfl
theorem rs38 : Try.f38.results = #[.tmp 6] := rfl
theorem rs19 : Try.f19.results = #[.cell 10 33, .tmp 11] := rfl
theorem rs16 : Try.f16.results = #[.tmp 0] := rfl
theorem rs41 : Try.f41.results = #[.tmp 2] := rfl
theorem rs53 : Try.f53.results = #[.tmp 3] := rfl
theorem rs42 : Try.f42.results = #[.tmp 4, .tmp 5] := rfl
theorem rs24 : Try.f24.results = #[.cell 4 33, .tmp 5, .tmp 6] := rfl
theorem rs22 : Try.f22.results = #[.tmp 6, .tmp 7] := rfl
theorem rs11 : Try.f11.results = #[.tmp 4] := rfl
theorem rs18 : Try.f18.results = #[.cell 2 33] := rfl
theorem rs20 : Try.f20.results = #[.tmp 4] := rfl
theorem rs6 : Try.f6.results = #[.tmp 8] := rfl
theorem rs4 : Try.f4.results = #[.tmp 8] := rfl
theorem rs30 : Try.f30.results = #[.tmp 2] := rfl
theorem rs14 : Try.f14.results = #[.tmp 4] := rfl
theorem rs9 : Try.f9.results = #[.tmp 0] := rfl
theorem rs5 : Try.f5.results = #[.tmp 2] := rfl
theorem rs7 : Try.f7.results = #[.tmp 6] := rfl
theorem rs40 : Try.f40.results = #[.tmp 4] := rfl
theorem rs27 : Try.f27.results = #[.tmp 2] := rfl
theorem rs39 : Try.f39.results = #[.tmp 4] := rfl
theorem rs21 : Try.f21.results = #[.cell 10 33, .tmp 11] := rfl
theorem rs13 : Try.f13.results = #[.tmp 4, .tmp 5] := rfl
theorem rs23 : Try.f23.results = #[.tmp 6, .tmp 7] := rfl
theorem rs25 : Try.f25.results = #[.cell 4 33, .tmp 5, .tmp 6] := rfl
theorem rs26 : Try.f26.results = #[.tmp 4] := rfl
theorem rs10 : Try.f10.results = #[.tmp 10] := rfl
theorem rs8 : Try.f8.results = #[.tmp 2] := rfl

end Go.AX.Z.TM
