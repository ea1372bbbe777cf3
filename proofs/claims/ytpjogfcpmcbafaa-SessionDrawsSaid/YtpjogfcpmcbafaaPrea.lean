/- A part of the proof: the types, the facts of the program and the functions, read plainly. -/
import Derived.Test.YtpjogfcpmcbafaaCorec
import Derived.Test.YtpjogfcpmcbafaaProg
import Derived.KernelRfl
set_option linter.unusedVariables false
set_option linter.unusedSimpArgs false

/-! (TNS) -/

set_option linter.unusedSimpArgs false
set_option linter.unusedVariables false
namespace Go.AX.Z.TN
open Go.AX
structure SessionPlan where
  Start : Int
  Size : Int
  Limit : Int
  Life : Int
  Hold : Int
  Burst : Int
  Round : Int
  deriving DecidableEq

def SessionPlan.z : SessionPlan := ⟨0, 0, 0, 0, 0, 0, 0⟩

def e_SessionPlan (x : SessionPlan) : List AV := [vi x.Start, vi x.Size, vi x.Limit, vi x.Life, vi x.Hold, vi x.Burst, vi x.Round]

theorem e_SessionPlan_len (x : SessionPlan) : (e_SessionPlan x).length = 7 := by rfl
theorem e_SessionPlan_sub (x : SessionPlan) : sub? (e_SessionPlan x) 0 7 = some (e_SessionPlan x) := by rfl
theorem e_SessionPlan_take (x : SessionPlan) : (e_SessionPlan x).take 7 = (e_SessionPlan x) := by rfl
theorem e_SessionPlan_all (x : SessionPlan) (y : SessionPlan) : putAt (e_SessionPlan x) 0 (e_SessionPlan y) = e_SessionPlan y := by rfl
theorem e_SessionPlan_g_Start (x : SessionPlan) : (e_SessionPlan x)[0]? = some (vi x.Start) := by rfl
theorem e_SessionPlan_s_Start (x : SessionPlan) (v : Int) : (e_SessionPlan x).set 0 (vi v) = e_SessionPlan { x with Start := v } := by rfl
theorem e_SessionPlan_g_Size (x : SessionPlan) : (e_SessionPlan x)[1]? = some (vi x.Size) := by rfl
theorem e_SessionPlan_s_Size (x : SessionPlan) (v : Int) : (e_SessionPlan x).set 1 (vi v) = e_SessionPlan { x with Size := v } := by rfl
theorem e_SessionPlan_g_Limit (x : SessionPlan) : (e_SessionPlan x)[2]? = some (vi x.Limit) := by rfl
theorem e_SessionPlan_s_Limit (x : SessionPlan) (v : Int) : (e_SessionPlan x).set 2 (vi v) = e_SessionPlan { x with Limit := v } := by rfl
theorem e_SessionPlan_g_Life (x : SessionPlan) : (e_SessionPlan x)[3]? = some (vi x.Life) := by rfl
theorem e_SessionPlan_s_Life (x : SessionPlan) (v : Int) : (e_SessionPlan x).set 3 (vi v) = e_SessionPlan { x with Life := v } := by rfl
theorem e_SessionPlan_g_Hold (x : SessionPlan) : (e_SessionPlan x)[4]? = some (vi x.Hold) := by rfl
theorem e_SessionPlan_s_Hold (x : SessionPlan) (v : Int) : (e_SessionPlan x).set 4 (vi v) = e_SessionPlan { x with Hold := v } := by rfl
theorem e_SessionPlan_g_Burst (x : SessionPlan) : (e_SessionPlan x)[5]? = some (vi x.Burst) := by rfl
theorem e_SessionPlan_s_Burst (x : SessionPlan) (v : Int) : (e_SessionPlan x).set 5 (vi v) = e_SessionPlan { x with Burst := v } := by rfl
theorem e_SessionPlan_g_Round (x : SessionPlan) : (e_SessionPlan x)[6]? = some (vi x.Round) := by rfl
theorem e_SessionPlan_s_Round (x : SessionPlan) (v : Int) : (e_SessionPlan x).set 6 (vi v) = e_SessionPlan { x with Round := v } := by rfl
theorem e_SessionPlan_fz (x : SessionPlan) (o : Nat → Ob) (n : Nat) : (e_SessionPlan x).map (fz o (n + 1)) = e_SessionPlan x := by rfl
theorem e_SessionPlan_reach (x : SessionPlan) (o : Nat → Ob) (n : Nat) : (e_SessionPlan x).flatMap (reach o (n + 1)) = [] := by
  simp only [e_SessionPlan, List.cons_append, List.nil_append, List.append_nil, List.flatMap_cons, List.flatMap_nil, reach_v]
theorem e_SessionPlan_clean (x : SessionPlan) : ∀ c ∈ (e_SessionPlan x), Clean c := by
  simp only [e_SessionPlan, List.cons_append, List.nil_append]
  repeat' (first | exact Clean.v _ | assumption | exact List.forall_mem_nil _ | refine List.forall_mem_cons.2 ⟨?_, ?_⟩)
theorem f_SessionPlan (x : SessionPlan) (o : Nat → Ob) (n : Nat) : (e_SessionPlan x).map (fz o (n + 1)) = e_SessionPlan x := by simp only [e_SessionPlan_fz]
theorem q_SessionPlan (x : SessionPlan) (o : Nat → Ob) (n : Nat) : (e_SessionPlan x).flatMap (reach o (n + 1)) = [] := by simp only [e_SessionPlan_reach, List.append_nil]
attribute [go_sem] e_SessionPlan_len e_SessionPlan_sub e_SessionPlan_take e_SessionPlan_all e_SessionPlan_g_Start e_SessionPlan_s_Start e_SessionPlan_g_Size e_SessionPlan_s_Size e_SessionPlan_g_Limit e_SessionPlan_s_Limit e_SessionPlan_g_Life e_SessionPlan_s_Life e_SessionPlan_g_Hold e_SessionPlan_s_Hold e_SessionPlan_g_Burst e_SessionPlan_s_Burst e_SessionPlan_g_Round e_SessionPlan_s_Round e_SessionPlan_fz e_SessionPlan_reach f_SessionPlan q_SessionPlan

structure SessionResult where
  Delivered : (List Int)
  Acked : (List Int)
  Dropped : (List Int)
  Rounds : Int
  deriving DecidableEq

def SessionResult.z : SessionResult := ⟨[], [], [], 0⟩

def e_SessionResult (x : SessionResult) (s0 : AV) (s1 : AV) (s2 : AV) : List AV := [s0, s1, s2, vi x.Rounds]

theorem e_SessionResult_len (x : SessionResult) (s0 : AV) (s1 : AV) (s2 : AV) : (e_SessionResult x s0 s1 s2).length = 4 := by rfl
theorem e_SessionResult_sub (x : SessionResult) (s0 : AV) (s1 : AV) (s2 : AV) : sub? (e_SessionResult x s0 s1 s2) 0 4 = some (e_SessionResult x s0 s1 s2) := by rfl
theorem e_SessionResult_take (x : SessionResult) (s0 : AV) (s1 : AV) (s2 : AV) : (e_SessionResult x s0 s1 s2).take 4 = (e_SessionResult x s0 s1 s2) := by rfl
theorem e_SessionResult_all (x : SessionResult) (s0 : AV) (s1 : AV) (s2 : AV) (y : SessionResult) (s02 : AV) (s12 : AV) (s22 : AV) : putAt (e_SessionResult x s0 s1 s2) 0 (e_SessionResult y s02 s12 s22) = e_SessionResult y s02 s12 s22 := by rfl
theorem e_SessionResult_g_Delivered (x : SessionResult) (s0 : AV) (s1 : AV) (s2 : AV) : (e_SessionResult x s0 s1 s2)[0]? = some s0 := by rfl
theorem e_SessionResult_s_Delivered (x : SessionResult) (s0 : AV) (s1 : AV) (s2 : AV) (v : AV) : (e_SessionResult x s0 s1 s2).set 0 v = e_SessionResult x v s1 s2 := by rfl
theorem e_SessionResult_g_Acked (x : SessionResult) (s0 : AV) (s1 : AV) (s2 : AV) : (e_SessionResult x s0 s1 s2)[1]? = some s1 := by rfl
theorem e_SessionResult_s_Acked (x : SessionResult) (s0 : AV) (s1 : AV) (s2 : AV) (v : AV) : (e_SessionResult x s0 s1 s2).set 1 v = e_SessionResult x s0 v s2 := by rfl
theorem e_SessionResult_g_Dropped (x : SessionResult) (s0 : AV) (s1 : AV) (s2 : AV) : (e_SessionResult x s0 s1 s2)[2]? = some s2 := by rfl
theorem e_SessionResult_s_Dropped (x : SessionResult) (s0 : AV) (s1 : AV) (s2 : AV) (v : AV) : (e_SessionResult x s0 s1 s2).set 2 v = e_SessionResult x s0 s1 v := by rfl
theorem e_SessionResult_g_Rounds (x : SessionResult) (s0 : AV) (s1 : AV) (s2 : AV) : (e_SessionResult x s0 s1 s2)[3]? = some (vi x.Rounds) := by rfl
theorem e_SessionResult_s_Rounds (x : SessionResult) (s0 : AV) (s1 : AV) (s2 : AV) (v : Int) : (e_SessionResult x s0 s1 s2).set 3 (vi v) = e_SessionResult { x with Rounds := v } s0 s1 s2 := by rfl
theorem e_SessionResult_fz (x : SessionResult) (s0 : AV) (s1 : AV) (s2 : AV) (o : Nat → Ob) (n : Nat) : (e_SessionResult x s0 s1 s2).map (fz o (n + 1)) = e_SessionResult x (fz o (n + 1) s0) (fz o (n + 1) s1) (fz o (n + 1) s2) := by rfl
theorem e_SessionResult_reach (x : SessionResult) (s0 : AV) (s1 : AV) (s2 : AV) (o : Nat → Ob) (n : Nat) : (e_SessionResult x s0 s1 s2).flatMap (reach o (n + 1)) = reach o (n + 1) s0 ++ (reach o (n + 1) s1 ++ reach o (n + 1) s2) := by
  simp only [e_SessionResult, List.cons_append, List.nil_append, List.append_nil, List.flatMap_cons, List.flatMap_nil, reach_v]
theorem e_SessionResult_clean (x : SessionResult) (s0 : AV) (s1 : AV) (s2 : AV) (h_s0 : Clean s0) (h_s1 : Clean s1) (h_s2 : Clean s2) : ∀ c ∈ (e_SessionResult x s0 s1 s2), Clean c := by
  simp only [e_SessionResult, List.cons_append, List.nil_append]
  repeat' (first | exact Clean.v _ | assumption | exact List.forall_mem_nil _ | refine List.forall_mem_cons.2 ⟨?_, ?_⟩)
theorem e_SessionResult_tm {st : AS} {F : List Nat} {σ : List (Option Nat)} (x : SessionResult) (s0 : AV) (s1 : AV) (s2 : AV) (s02 : AV) (s12 : AV) (s22 : AV) (h_s0 : Tm st F σ s0 s02) (h_s1 : Tm st F σ s1 s12) (h_s2 : Tm st F σ s2 s22) : TmL st F σ (e_SessionResult x s0 s1 s2) (e_SessionResult x s02 s12 s22) := by
  simp only [e_SessionResult, List.cons_append, List.nil_append]
  repeat' (first | exact TmL.nil | (refine TmL.cons (Tm.v _) ?_) | (refine TmL.cons (by assumption) ?_))
theorem e_SessionResult_tmx {st : AS} {F : List Nat} {σ : List (Option Nat)} {x y : SessionResult} {s0 s1 s2 s02 s12 s22 : AV} (hxy : e_SessionResult y s02 s12 s22 = e_SessionResult x s02 s12 s22) (h_s0 : Tm st F σ s0 s02) (h_s1 : Tm st F σ s1 s12) (h_s2 : Tm st F σ s2 s22) : TmL st F σ (e_SessionResult x s0 s1 s2) (e_SessionResult y s02 s12 s22) := by
  rw [hxy]; exact e_SessionResult_tm x s0 s1 s2 s02 s12 s22 h_s0 h_s1 h_s2
theorem e_SessionResult_ren (x : SessionResult) {s0 s1 s2 : (Nat → Nat) → AV} (h_s0 : RenM s0) (h_s1 : RenM s1) (h_s2 : RenM s2) : RenML fun q => e_SessionResult x (s0 q) (s1 q) (s2 q) := by
  simp only [e_SessionResult, List.cons_append, List.nil_append]
  repeat' (first | exact RenML.nil | (refine RenML.cons (RenM.const (Clean.v _)) ?_) | (refine RenML.cons (by assumption) ?_))
def E_SessionResult (x : SessionResult) : List AV := e_SessionResult x (S_vi x.Delivered) (S_vi x.Acked) (S_vi x.Dropped)
theorem E_SessionResult_eq (x : SessionResult) : E_SessionResult x = e_SessionResult x (S_vi x.Delivered) (S_vi x.Acked) (S_vi x.Dropped) := rfl
theorem E_SessionResult_clean (x : SessionResult) : ∀ c ∈ E_SessionResult x, Clean c := e_SessionResult_clean x _ _ _ (S_vi_clean _) (S_vi_clean _) (S_vi_clean _)
theorem f_SessionResult (x : SessionResult) (o : Nat → Ob) (n : Nat) : (E_SessionResult x).map (fz o (n + 2)) = E_SessionResult x := by simp only [E_SessionResult_eq, e_SessionResult_fz, f_S_vi, f_S_vi, f_S_vi]
theorem q_SessionResult (x : SessionResult) (o : Nat → Ob) (n : Nat) : (E_SessionResult x).flatMap (reach o (n + 2)) = [] := by simp only [E_SessionResult_eq, e_SessionResult_reach, q_S_vi, q_S_vi, q_S_vi, List.append_nil]
attribute [go_sem] e_SessionResult_len e_SessionResult_sub e_SessionResult_take e_SessionResult_all e_SessionResult_g_Delivered e_SessionResult_s_Delivered e_SessionResult_g_Acked e_SessionResult_s_Acked e_SessionResult_g_Dropped e_SessionResult_s_Dropped e_SessionResult_g_Rounds e_SessionResult_s_Rounds e_SessionResult_fz e_SessionResult_reach E_SessionResult_eq f_SessionResult q_SessionResult

def S_SessionPlan (l : List SessionPlan) : AV := .imm (List.flatMap e_SessionPlan l) l.length
theorem S_SessionPlan_eq (l : List SessionPlan) : S_SessionPlan l = .imm (List.flatMap e_SessionPlan l) l.length := rfl
theorem l_SessionPlan (x : SessionPlan) : (e_SessionPlan x).length = 7 := by rfl
theorem r_SessionPlan_len (l : List SessionPlan) : (l.flatMap e_SessionPlan).length = l.length * 7 := flat_len l_SessionPlan l
theorem r_SessionPlan_get (l : List SessionPlan) (i o : Nat) (ho : o < 7) : (l.flatMap e_SessionPlan)[i * 7 + o]? = l[i]?.bind fun a => (e_SessionPlan a)[o]? := rows_get l_SessionPlan l i o ho
theorem r_SessionPlan_get0 (l : List SessionPlan) (i : Nat) : (l.flatMap e_SessionPlan)[i * 7]? = l[i]?.bind fun a => (e_SessionPlan a)[0]? := rows_get l_SessionPlan l i 0 (by decide)
theorem r_SessionPlan_sub (l : List SessionPlan) (i o n : Nat) (ho : o + n ≤ 7) (hn : 0 < n) : sub? (l.flatMap e_SessionPlan) (i * 7 + o) n = l[i]?.bind fun a => sub? (e_SessionPlan a) o n := rows_sub l_SessionPlan l i o n ho hn
theorem r_SessionPlan_sub0 (l : List SessionPlan) (i n : Nat) (ho : n ≤ 7) (hn : 0 < n) : sub? (l.flatMap e_SessionPlan) (i * 7) n = l[i]?.bind fun a => sub? (e_SessionPlan a) 0 n := rows_sub l_SessionPlan l i 0 n (by omega) hn
theorem r_SessionPlan_subw (l : List SessionPlan) : sub? (l.flatMap e_SessionPlan) 0 (l.length * 7) = some (l.flatMap e_SessionPlan) := rows_subw l_SessionPlan l
theorem r_SessionPlan_take (l : List SessionPlan) (n : Nat) : (l.flatMap e_SessionPlan).take (n * 7) = (l.take n).flatMap e_SessionPlan := rows_take l_SessionPlan l n
theorem r_SessionPlan_drop (l : List SessionPlan) (n : Nat) : (l.flatMap e_SessionPlan).drop (n * 7) = (l.drop n).flatMap e_SessionPlan := rows_drop l_SessionPlan l n
theorem r_SessionPlan_fz (l : List SessionPlan) (o : Nat → Ob) (n : Nat) : (l.flatMap e_SessionPlan).map (fz o (n + 1)) = (l.flatMap e_SessionPlan) := rows_fz (fun a => f_SessionPlan a o n) l
theorem r_SessionPlan_rch (l : List SessionPlan) (o : Nat → Ob) (n : Nat) : (l.flatMap e_SessionPlan).flatMap (reach o (n + 1)) = [] := rows_reach (fun a => q_SessionPlan a o n) l
theorem r_SessionPlan_s_Start (l : List SessionPlan) (i : Nat) (v : Int) : (l.flatMap e_SessionPlan).set (i * 7) (vi v) = (l.modify i (fun y => { y with Start := v })).flatMap e_SessionPlan := rows_set l_SessionPlan l i 0 _ (fun y => { y with Start := v }) (by decide) (fun _ => by rfl)
theorem r_SessionPlan_s_Size (l : List SessionPlan) (i : Nat) (v : Int) : (l.flatMap e_SessionPlan).set (i * 7 + 1) (vi v) = (l.modify i (fun y => { y with Size := v })).flatMap e_SessionPlan := rows_set l_SessionPlan l i 1 _ (fun y => { y with Size := v }) (by decide) (fun _ => by rfl)
theorem r_SessionPlan_s_Limit (l : List SessionPlan) (i : Nat) (v : Int) : (l.flatMap e_SessionPlan).set (i * 7 + 2) (vi v) = (l.modify i (fun y => { y with Limit := v })).flatMap e_SessionPlan := rows_set l_SessionPlan l i 2 _ (fun y => { y with Limit := v }) (by decide) (fun _ => by rfl)
theorem r_SessionPlan_s_Life (l : List SessionPlan) (i : Nat) (v : Int) : (l.flatMap e_SessionPlan).set (i * 7 + 3) (vi v) = (l.modify i (fun y => { y with Life := v })).flatMap e_SessionPlan := rows_set l_SessionPlan l i 3 _ (fun y => { y with Life := v }) (by decide) (fun _ => by rfl)
theorem r_SessionPlan_s_Hold (l : List SessionPlan) (i : Nat) (v : Int) : (l.flatMap e_SessionPlan).set (i * 7 + 4) (vi v) = (l.modify i (fun y => { y with Hold := v })).flatMap e_SessionPlan := rows_set l_SessionPlan l i 4 _ (fun y => { y with Hold := v }) (by decide) (fun _ => by rfl)
theorem r_SessionPlan_s_Burst (l : List SessionPlan) (i : Nat) (v : Int) : (l.flatMap e_SessionPlan).set (i * 7 + 5) (vi v) = (l.modify i (fun y => { y with Burst := v })).flatMap e_SessionPlan := rows_set l_SessionPlan l i 5 _ (fun y => { y with Burst := v }) (by decide) (fun _ => by rfl)
theorem r_SessionPlan_s_Round (l : List SessionPlan) (i : Nat) (v : Int) : (l.flatMap e_SessionPlan).set (i * 7 + 6) (vi v) = (l.modify i (fun y => { y with Round := v })).flatMap e_SessionPlan := rows_set l_SessionPlan l i 6 _ (fun y => { y with Round := v }) (by decide) (fun _ => by rfl)
theorem r_SessionPlan_put (l : List SessionPlan) (i : Nat) (x : SessionPlan) : putAt (l.flatMap e_SessionPlan) (i * 7) (e_SessionPlan x) = (l.set i x).flatMap e_SessionPlan := rows_put l_SessionPlan (by decide) l i x
theorem r_SessionPlan_app (l : List SessionPlan) (x : SessionPlan) : (l.flatMap e_SessionPlan) ++ e_SessionPlan x = (l ++ [x]).flatMap e_SessionPlan := by simp
theorem r_SessionPlan_cat (l : List SessionPlan) (m : List SessionPlan) : (l.flatMap e_SessionPlan) ++ m.flatMap e_SessionPlan = (l ++ m).flatMap e_SessionPlan := List.flatMap_append.symm
theorem f_S_SessionPlan (l : List SessionPlan) (o : Nat → Ob) (n : Nat) : fz o (n + 2) (S_SessionPlan l) = S_SessionPlan l := by simp only [S_SessionPlan_eq, fz, r_SessionPlan_fz]
theorem q_S_SessionPlan (l : List SessionPlan) (o : Nat → Ob) (n : Nat) : reach o (n + 2) (S_SessionPlan l) = [] := by simp only [S_SessionPlan_eq, reach, r_SessionPlan_rch]
attribute [go_sem] S_SessionPlan_eq l_SessionPlan r_SessionPlan_len r_SessionPlan_get r_SessionPlan_get0 r_SessionPlan_sub r_SessionPlan_sub0 r_SessionPlan_subw r_SessionPlan_take r_SessionPlan_drop r_SessionPlan_fz r_SessionPlan_rch r_SessionPlan_s_Start r_SessionPlan_s_Size r_SessionPlan_s_Limit r_SessionPlan_s_Life r_SessionPlan_s_Hold r_SessionPlan_s_Burst r_SessionPlan_s_Round r_SessionPlan_put r_SessionPlan_app r_SessionPlan_cat f_S_SessionPlan q_S_SessionPlan

structure Addr where
  a0 : Int
  a1 : Int
  a2 : Int
  a3 : Int
  a4 : Int
  a5 : Int
  deriving DecidableEq

def Addr.z : Addr := ⟨0, 0, 0, 0, 0, 0⟩

def e_Addr (x : Addr) : List AV := [vu x.a0, vu x.a1, vu x.a2, vu x.a3, vu x.a4, vu x.a5]

theorem e_Addr_len (x : Addr) : (e_Addr x).length = 6 := by rfl
theorem e_Addr_sub (x : Addr) : sub? (e_Addr x) 0 6 = some (e_Addr x) := by rfl
theorem e_Addr_take (x : Addr) : (e_Addr x).take 6 = (e_Addr x) := by rfl
theorem e_Addr_all (x : Addr) (y : Addr) : putAt (e_Addr x) 0 (e_Addr y) = e_Addr y := by rfl
theorem e_Addr_fz (x : Addr) (o : Nat → Ob) (n : Nat) : (e_Addr x).map (fz o (n + 1)) = e_Addr x := by rfl
theorem e_Addr_reach (x : Addr) (o : Nat → Ob) (n : Nat) : (e_Addr x).flatMap (reach o (n + 1)) = [] := by
  simp only [e_Addr, List.cons_append, List.nil_append, List.append_nil, List.flatMap_cons, List.flatMap_nil, reach_v]
theorem f_Addr (x : Addr) (o : Nat → Ob) (n : Nat) : (e_Addr x).map (fz o (n + 1)) = e_Addr x := by simp only [e_Addr_fz]
theorem q_Addr (x : Addr) (o : Nat → Ob) (n : Nat) : (e_Addr x).flatMap (reach o (n + 1)) = [] := by simp only [e_Addr_reach, List.append_nil]
attribute [go_sem] e_Addr_len e_Addr_sub e_Addr_take e_Addr_all e_Addr_fz e_Addr_reach f_Addr q_Addr

structure Header where
  Kind : Int
  Sub : Int
  ToDs : Bool
  FromDs : Bool
  More : Bool
  Retry : Bool
  Sleep : Bool
  MoreData : Bool
  Protected : Bool
  Duration : Int
  A1 : Addr
  A2 : Addr
  A3 : Addr
  A4 : Addr
  Seq : Int
  Frag : Int
  Tid : Int
  Ack : Int
  Amsdu : Bool
  Eosp : Bool
  deriving DecidableEq

def Header.z : Header := ⟨0, 0, false, false, false, false, false, false, false, 0, Addr.z, Addr.z, Addr.z, Addr.z, 0, 0, 0, 0, false, false⟩

def e_Header (x : Header) : List AV := [vu x.Kind, vu x.Sub, vb x.ToDs, vb x.FromDs, vb x.More, vb x.Retry, vb x.Sleep, vb x.MoreData, vb x.Protected, vi x.Duration] ++ (e_Addr x.A1) ++ (e_Addr x.A2) ++ (e_Addr x.A3) ++ (e_Addr x.A4) ++ [vi x.Seq, vi x.Frag, vi x.Tid, vu x.Ack, vb x.Amsdu, vb x.Eosp]

theorem e_Header_len (x : Header) : (e_Header x).length = 40 := by rfl
theorem e_Header_sub (x : Header) : sub? (e_Header x) 0 40 = some (e_Header x) := by rfl
theorem e_Header_take (x : Header) : (e_Header x).take 40 = (e_Header x) := by rfl
theorem e_Header_all (x : Header) (y : Header) : putAt (e_Header x) 0 (e_Header y) = e_Header y := by rfl
theorem e_Header_fz (x : Header) (o : Nat → Ob) (n : Nat) : (e_Header x).map (fz o (n + 1)) = e_Header x := by rfl
theorem e_Header_reach (x : Header) (o : Nat → Ob) (n : Nat) : (e_Header x).flatMap (reach o (n + 1)) = [] := by
  simp only [e_Header, e_Addr, List.cons_append, List.nil_append, List.append_nil, List.flatMap_cons, List.flatMap_nil, reach_v]
theorem f_Header (x : Header) (o : Nat → Ob) (n : Nat) : (e_Header x).map (fz o (n + 1)) = e_Header x := by simp only [e_Header_fz]
theorem q_Header (x : Header) (o : Nat → Ob) (n : Nat) : (e_Header x).flatMap (reach o (n + 1)) = [] := by simp only [e_Header_reach, List.append_nil]
attribute [go_sem] e_Header_len e_Header_sub e_Header_take e_Header_all e_Header_fz e_Header_reach f_Header q_Header

structure Frame where
  Head : Header
  Body : (List Int)
  deriving DecidableEq

def Frame.z : Frame := ⟨Header.z, []⟩

def e_Frame (x : Frame) (s0 : AV) : List AV := (e_Header x.Head) ++ [s0]

theorem e_Frame_len (x : Frame) (s0 : AV) : (e_Frame x s0).length = 41 := by rfl
theorem e_Frame_sub (x : Frame) (s0 : AV) : sub? (e_Frame x s0) 0 41 = some (e_Frame x s0) := by rfl
theorem e_Frame_take (x : Frame) (s0 : AV) : (e_Frame x s0).take 41 = (e_Frame x s0) := by rfl
theorem e_Frame_all (x : Frame) (s0 : AV) (y : Frame) (s02 : AV) : putAt (e_Frame x s0) 0 (e_Frame y s02) = e_Frame y s02 := by rfl
theorem e_Frame_s_Head_Retry (x : Frame) (s0 : AV) (v : Bool) : (e_Frame x s0).set 5 (vb v) = e_Frame { x with Head.Retry := v } s0 := by rfl
theorem e_Frame_g_Head_Seq (x : Frame) (s0 : AV) : (e_Frame x s0)[34]? = some (vi x.Head.Seq) := by rfl
theorem e_Frame_s_Head_Seq (x : Frame) (s0 : AV) (v : Int) : (e_Frame x s0).set 34 (vi v) = e_Frame { x with Head.Seq := v } s0 := by rfl
theorem e_Frame_s_Head_Tid (x : Frame) (s0 : AV) (v : Int) : (e_Frame x s0).set 36 (vi v) = e_Frame { x with Head.Tid := v } s0 := by rfl
theorem e_Frame_g_Body (x : Frame) (s0 : AV) : (e_Frame x s0)[40]? = some s0 := by rfl
theorem e_Frame_s_Body (x : Frame) (s0 : AV) (v : AV) : (e_Frame x s0).set 40 v = e_Frame x v := by rfl
theorem e_Frame_fz (x : Frame) (s0 : AV) (o : Nat → Ob) (n : Nat) : (e_Frame x s0).map (fz o (n + 1)) = e_Frame x (fz o (n + 1) s0) := by rfl
theorem e_Frame_reach (x : Frame) (s0 : AV) (o : Nat → Ob) (n : Nat) : (e_Frame x s0).flatMap (reach o (n + 1)) = reach o (n + 1) s0 := by
  simp only [e_Frame, e_Header, e_Addr, List.cons_append, List.nil_append, List.append_nil, List.flatMap_cons, List.flatMap_nil, reach_v]
theorem e_Frame_clean (x : Frame) (s0 : AV) (h_s0 : Clean s0) : ∀ c ∈ (e_Frame x s0), Clean c := by
  simp only [e_Frame, e_Header, e_Addr, List.cons_append, List.nil_append]
  repeat' (first | exact Clean.v _ | assumption | exact List.forall_mem_nil _ | refine List.forall_mem_cons.2 ⟨?_, ?_⟩)
theorem e_Frame_tm {st : AS} {F : List Nat} {σ : List (Option Nat)} (x : Frame) (s0 : AV) (s02 : AV) (h_s0 : Tm st F σ s0 s02) : TmL st F σ (e_Frame x s0) (e_Frame x s02) := by
  simp only [e_Frame, e_Header, e_Addr, List.cons_append, List.nil_append]
  repeat' (first | exact TmL.nil | (refine TmL.cons (Tm.v _) ?_) | (refine TmL.cons (by assumption) ?_))
theorem e_Frame_tmx {st : AS} {F : List Nat} {σ : List (Option Nat)} {x y : Frame} {s0 s02 : AV} (hxy : e_Frame y s02 = e_Frame x s02) (h_s0 : Tm st F σ s0 s02) : TmL st F σ (e_Frame x s0) (e_Frame y s02) := by
  rw [hxy]; exact e_Frame_tm x s0 s02 h_s0
def E_Frame (x : Frame) : List AV := e_Frame x (S_vu x.Body)
theorem E_Frame_eq (x : Frame) : E_Frame x = e_Frame x (S_vu x.Body) := rfl
theorem E_Frame_clean (x : Frame) : ∀ c ∈ E_Frame x, Clean c := e_Frame_clean x _ (S_vu_clean _)
theorem f_Frame (x : Frame) (o : Nat → Ob) (n : Nat) : (E_Frame x).map (fz o (n + 2)) = E_Frame x := by simp only [E_Frame_eq, e_Frame_fz, f_S_vu]
theorem q_Frame (x : Frame) (o : Nat → Ob) (n : Nat) : (E_Frame x).flatMap (reach o (n + 2)) = [] := by simp only [E_Frame_eq, e_Frame_reach, q_S_vu, List.append_nil]
attribute [go_sem] e_Frame_len e_Frame_sub e_Frame_take e_Frame_all e_Frame_s_Head_Retry e_Frame_g_Head_Seq e_Frame_s_Head_Seq e_Frame_s_Head_Tid e_Frame_g_Body e_Frame_s_Body e_Frame_fz e_Frame_reach E_Frame_eq f_Frame q_Frame

structure Unacked where
  At : Int
  Tries : Int
  Flying : Bool
  Frame : Frame
  deriving DecidableEq

def Unacked.z : Unacked := ⟨0, 0, false, Frame.z⟩

def e_Unacked (x : Unacked) (s0 : AV) : List AV := [vi x.At, vi x.Tries, vb x.Flying] ++ (e_Frame x.Frame s0)

theorem e_Unacked_len (x : Unacked) (s0 : AV) : (e_Unacked x s0).length = 44 := by rfl
theorem e_Unacked_sub (x : Unacked) (s0 : AV) : sub? (e_Unacked x s0) 0 44 = some (e_Unacked x s0) := by rfl
theorem e_Unacked_take (x : Unacked) (s0 : AV) : (e_Unacked x s0).take 44 = (e_Unacked x s0) := by rfl
theorem e_Unacked_all (x : Unacked) (s0 : AV) (y : Unacked) (s02 : AV) : putAt (e_Unacked x s0) 0 (e_Unacked y s02) = e_Unacked y s02 := by rfl
theorem e_Unacked_g_At (x : Unacked) (s0 : AV) : (e_Unacked x s0)[0]? = some (vi x.At) := by rfl
theorem e_Unacked_s_At (x : Unacked) (s0 : AV) (v : Int) : (e_Unacked x s0).set 0 (vi v) = e_Unacked { x with At := v } s0 := by rfl
theorem e_Unacked_g_Tries (x : Unacked) (s0 : AV) : (e_Unacked x s0)[1]? = some (vi x.Tries) := by rfl
theorem e_Unacked_g_Flying (x : Unacked) (s0 : AV) : (e_Unacked x s0)[2]? = some (vb x.Flying) := by rfl
theorem e_Unacked_g_Frame_Head_Seq (x : Unacked) (s0 : AV) : (e_Unacked x s0)[37]? = some (vi x.Frame.Head.Seq) := by rfl
theorem e_Unacked_d_Frame (x : Unacked) (s0 : AV) : sub? (e_Unacked x s0) 3 41 = some (e_Frame x.Frame s0) := by rfl
theorem e_Unacked_p_Frame (x : Unacked) (s0 : AV) (v : Frame) (w0 : AV) : putAt (e_Unacked x s0) 3 (e_Frame v w0) = e_Unacked { x with Frame := v } w0 := by rfl
theorem e_Unacked_fz (x : Unacked) (s0 : AV) (o : Nat → Ob) (n : Nat) : (e_Unacked x s0).map (fz o (n + 1)) = e_Unacked x (fz o (n + 1) s0) := by rfl
theorem e_Unacked_reach (x : Unacked) (s0 : AV) (o : Nat → Ob) (n : Nat) : (e_Unacked x s0).flatMap (reach o (n + 1)) = reach o (n + 1) s0 := by
  simp only [e_Unacked, e_Frame, e_Header, e_Addr, List.cons_append, List.nil_append, List.append_nil, List.flatMap_cons, List.flatMap_nil, reach_v]
theorem e_Unacked_clean (x : Unacked) (s0 : AV) (h_s0 : Clean s0) : ∀ c ∈ (e_Unacked x s0), Clean c := by
  simp only [e_Unacked, e_Frame, e_Header, e_Addr, List.cons_append, List.nil_append]
  repeat' (first | exact Clean.v _ | assumption | exact List.forall_mem_nil _ | refine List.forall_mem_cons.2 ⟨?_, ?_⟩)
theorem e_Unacked_tm {st : AS} {F : List Nat} {σ : List (Option Nat)} (x : Unacked) (s0 : AV) (s02 : AV) (h_s0 : Tm st F σ s0 s02) : TmL st F σ (e_Unacked x s0) (e_Unacked x s02) := by
  simp only [e_Unacked, e_Frame, e_Header, e_Addr, List.cons_append, List.nil_append]
  repeat' (first | exact TmL.nil | (refine TmL.cons (Tm.v _) ?_) | (refine TmL.cons (by assumption) ?_))
theorem e_Unacked_tmx {st : AS} {F : List Nat} {σ : List (Option Nat)} {x y : Unacked} {s0 s02 : AV} (hxy : e_Unacked y s02 = e_Unacked x s02) (h_s0 : Tm st F σ s0 s02) : TmL st F σ (e_Unacked x s0) (e_Unacked y s02) := by
  rw [hxy]; exact e_Unacked_tm x s0 s02 h_s0
theorem e_Unacked_ren (x : Unacked) {s0 : (Nat → Nat) → AV} (h_s0 : RenM s0) : RenML fun q => e_Unacked x (s0 q) := by
  simp only [e_Unacked, e_Frame, e_Header, e_Addr, List.cons_append, List.nil_append]
  repeat' (first | exact RenML.nil | (refine RenML.cons (RenM.const (Clean.v _)) ?_) | (refine RenML.cons (by assumption) ?_))
def E_Unacked (x : Unacked) : List AV := e_Unacked x (S_vu x.Frame.Body)
theorem E_Unacked_eq (x : Unacked) : E_Unacked x = e_Unacked x (S_vu x.Frame.Body) := rfl
theorem E_Unacked_clean (x : Unacked) : ∀ c ∈ E_Unacked x, Clean c := e_Unacked_clean x _ (S_vu_clean _)
theorem f_Unacked (x : Unacked) (o : Nat → Ob) (n : Nat) : (E_Unacked x).map (fz o (n + 2)) = E_Unacked x := by simp only [E_Unacked_eq, e_Unacked_fz, f_S_vu]
theorem q_Unacked (x : Unacked) (o : Nat → Ob) (n : Nat) : (E_Unacked x).flatMap (reach o (n + 2)) = [] := by simp only [E_Unacked_eq, e_Unacked_reach, q_S_vu, List.append_nil]
attribute [go_sem] e_Unacked_len e_Unacked_sub e_Unacked_take e_Unacked_all e_Unacked_g_At e_Unacked_s_At e_Unacked_g_Tries e_Unacked_g_Flying e_Unacked_g_Frame_Head_Seq e_Unacked_d_Frame e_Unacked_p_Frame e_Unacked_fz e_Unacked_reach E_Unacked_eq f_Unacked q_Unacked

def S_Unacked (l : List Unacked) : AV := .imm (List.flatMap E_Unacked l) l.length
theorem S_Unacked_eq (l : List Unacked) : S_Unacked l = .imm (List.flatMap E_Unacked l) l.length := rfl
theorem l_Unacked (x : Unacked) : (E_Unacked x).length = 44 := by rfl
theorem S_Unacked_clean (l : List Unacked) : Clean (S_Unacked l) := Clean.imm (rows_clean E_Unacked_clean l)
theorem c_Unacked (l : List Unacked) : ∀ c ∈ l.flatMap E_Unacked, Clean c := rows_clean E_Unacked_clean l
theorem r_Unacked_len (l : List Unacked) : (l.flatMap E_Unacked).length = l.length * 44 := flat_len l_Unacked l
theorem r_Unacked_get (l : List Unacked) (i o : Nat) (ho : o < 44) : (l.flatMap E_Unacked)[i * 44 + o]? = l[i]?.bind fun a => (E_Unacked a)[o]? := rows_get l_Unacked l i o ho
theorem r_Unacked_get0 (l : List Unacked) (i : Nat) : (l.flatMap E_Unacked)[i * 44]? = l[i]?.bind fun a => (E_Unacked a)[0]? := rows_get l_Unacked l i 0 (by decide)
theorem r_Unacked_sub (l : List Unacked) (i o n : Nat) (ho : o + n ≤ 44) (hn : 0 < n) : sub? (l.flatMap E_Unacked) (i * 44 + o) n = l[i]?.bind fun a => sub? (E_Unacked a) o n := rows_sub l_Unacked l i o n ho hn
theorem r_Unacked_sub0 (l : List Unacked) (i n : Nat) (ho : n ≤ 44) (hn : 0 < n) : sub? (l.flatMap E_Unacked) (i * 44) n = l[i]?.bind fun a => sub? (E_Unacked a) 0 n := rows_sub l_Unacked l i 0 n (by omega) hn
theorem r_Unacked_getL (l : List Unacked) (o : Nat) : (l.flatMap E_Unacked)[o]? = l[o / 44]?.bind fun a => (E_Unacked a)[o % 44]? := rows_getL l_Unacked (by decide) l o
theorem r_Unacked_subL (l : List Unacked) (o n : Nat) (ho : o % 44 + n ≤ 44) (hn : 0 < n) : sub? (l.flatMap E_Unacked) o n = l[o / 44]?.bind fun a => sub? (E_Unacked a) (o % 44) n := rows_subL l_Unacked l o n ho hn
theorem r_Unacked_subw (l : List Unacked) : sub? (l.flatMap E_Unacked) 0 (l.length * 44) = some (l.flatMap E_Unacked) := rows_subw l_Unacked l
theorem r_Unacked_take (l : List Unacked) (n : Nat) : (l.flatMap E_Unacked).take (n * 44) = (l.take n).flatMap E_Unacked := rows_take l_Unacked l n
theorem r_Unacked_drop (l : List Unacked) (n : Nat) : (l.flatMap E_Unacked).drop (n * 44) = (l.drop n).flatMap E_Unacked := rows_drop l_Unacked l n
theorem r_Unacked_fz (l : List Unacked) (o : Nat → Ob) (n : Nat) : (l.flatMap E_Unacked).map (fz o (n + 2)) = (l.flatMap E_Unacked) := rows_fz (fun a => f_Unacked a o n) l
theorem r_Unacked_rch (l : List Unacked) (o : Nat → Ob) (n : Nat) : (l.flatMap E_Unacked).flatMap (reach o (n + 2)) = [] := rows_reach (fun a => q_Unacked a o n) l
theorem r_Unacked_s_At (l : List Unacked) (i : Nat) (v : Int) : (l.flatMap E_Unacked).set (i * 44) (vi v) = (l.modify i (fun y => { y with At := v })).flatMap E_Unacked := rows_set l_Unacked l i 0 _ (fun y => { y with At := v }) (by decide) (fun _ => by rfl)
theorem r_Unacked_s_Tries (l : List Unacked) (i : Nat) (v : Int) : (l.flatMap E_Unacked).set (i * 44 + 1) (vi v) = (l.modify i (fun y => { y with Tries := v })).flatMap E_Unacked := rows_set l_Unacked l i 1 _ (fun y => { y with Tries := v }) (by decide) (fun _ => by rfl)
theorem r_Unacked_s_Flying (l : List Unacked) (i : Nat) (v : Bool) : (l.flatMap E_Unacked).set (i * 44 + 2) (vb v) = (l.modify i (fun y => { y with Flying := v })).flatMap E_Unacked := rows_set l_Unacked l i 2 _ (fun y => { y with Flying := v }) (by decide) (fun _ => by rfl)
theorem r_Unacked_s_Frame_Head_Retry (l : List Unacked) (i : Nat) (v : Bool) : (l.flatMap E_Unacked).set (i * 44 + 8) (vb v) = (l.modify i (fun y => { y with Frame.Head.Retry := v })).flatMap E_Unacked := rows_set l_Unacked l i 8 _ (fun y => { y with Frame.Head.Retry := v }) (by decide) (fun _ => by rfl)
theorem r_Unacked_s_Frame_Head_Seq (l : List Unacked) (i : Nat) (v : Int) : (l.flatMap E_Unacked).set (i * 44 + 37) (vi v) = (l.modify i (fun y => { y with Frame.Head.Seq := v })).flatMap E_Unacked := rows_set l_Unacked l i 37 _ (fun y => { y with Frame.Head.Seq := v }) (by decide) (fun _ => by rfl)
theorem r_Unacked_s_Frame_Head_Tid (l : List Unacked) (i : Nat) (v : Int) : (l.flatMap E_Unacked).set (i * 44 + 39) (vi v) = (l.modify i (fun y => { y with Frame.Head.Tid := v })).flatMap E_Unacked := rows_set l_Unacked l i 39 _ (fun y => { y with Frame.Head.Tid := v }) (by decide) (fun _ => by rfl)
theorem r_Unacked_put (l : List Unacked) (i : Nat) (x : Unacked) (b0 : (List Int)) : putAt (l.flatMap E_Unacked) (i * 44) (e_Unacked x (.imm (List.map vu b0) b0.length)) = (l.set i { x with Frame.Body := b0 }).flatMap E_Unacked := rows_put l_Unacked (by decide) l i { x with Frame.Body := b0 }
theorem r_Unacked_app (l : List Unacked) (x : Unacked) (b0 : (List Int)) : (l.flatMap E_Unacked) ++ e_Unacked x (S_vu b0) = (l ++ [{ x with Frame.Body := b0 }]).flatMap E_Unacked := by rw [List.flatMap_append]; simp only [List.flatMap_cons, List.flatMap_nil, List.append_nil]; rfl
theorem r_Unacked_cat (l : List Unacked) (m : List Unacked) : (l.flatMap E_Unacked) ++ m.flatMap E_Unacked = (l ++ m).flatMap E_Unacked := List.flatMap_append.symm
theorem f_S_Unacked (l : List Unacked) (o : Nat → Ob) (n : Nat) : fz o (n + 3) (S_Unacked l) = S_Unacked l := by simp only [S_Unacked_eq, fz, r_Unacked_fz]
theorem q_S_Unacked (l : List Unacked) (o : Nat → Ob) (n : Nat) : reach o (n + 3) (S_Unacked l) = [] := by simp only [S_Unacked_eq, reach, r_Unacked_rch]
attribute [go_sem] S_Unacked_eq l_Unacked r_Unacked_len r_Unacked_get r_Unacked_get0 r_Unacked_sub r_Unacked_sub0 r_Unacked_subw r_Unacked_take r_Unacked_drop r_Unacked_fz r_Unacked_rch r_Unacked_s_At r_Unacked_s_Tries r_Unacked_s_Flying r_Unacked_s_Frame_Head_Retry r_Unacked_s_Frame_Head_Seq r_Unacked_s_Frame_Head_Tid r_Unacked_put r_Unacked_app r_Unacked_cat f_S_Unacked q_S_Unacked

structure Sender where
  Tid : Int
  Phase : Int
  Token : Int
  Next : Int
  Size : Int
  Limit : Int
  Life : Int
  Out : (List Unacked)
  Bar : Bool
  deriving DecidableEq

def Sender.z : Sender := ⟨0, 0, 0, 0, 0, 0, 0, [], false⟩

def e_Sender (x : Sender) (s0 : AV) : List AV := [vi x.Tid, vu x.Phase, vi x.Token, vi x.Next, vi x.Size, vi x.Limit, vi x.Life, s0, vb x.Bar]

theorem e_Sender_len (x : Sender) (s0 : AV) : (e_Sender x s0).length = 9 := by rfl
theorem e_Sender_sub (x : Sender) (s0 : AV) : sub? (e_Sender x s0) 0 9 = some (e_Sender x s0) := by rfl
theorem e_Sender_take (x : Sender) (s0 : AV) : (e_Sender x s0).take 9 = (e_Sender x s0) := by rfl
theorem e_Sender_all (x : Sender) (s0 : AV) (y : Sender) (s02 : AV) : putAt (e_Sender x s0) 0 (e_Sender y s02) = e_Sender y s02 := by rfl
theorem e_Sender_g_Tid (x : Sender) (s0 : AV) : (e_Sender x s0)[0]? = some (vi x.Tid) := by rfl
theorem e_Sender_s_Tid (x : Sender) (s0 : AV) (v : Int) : (e_Sender x s0).set 0 (vi v) = e_Sender { x with Tid := v } s0 := by rfl
theorem e_Sender_g_Phase (x : Sender) (s0 : AV) : (e_Sender x s0)[1]? = some (vu x.Phase) := by rfl
theorem e_Sender_s_Phase (x : Sender) (s0 : AV) (v : Int) : (e_Sender x s0).set 1 (vu v) = e_Sender { x with Phase := v } s0 := by rfl
theorem e_Sender_g_Token (x : Sender) (s0 : AV) : (e_Sender x s0)[2]? = some (vi x.Token) := by rfl
theorem e_Sender_s_Token (x : Sender) (s0 : AV) (v : Int) : (e_Sender x s0).set 2 (vi v) = e_Sender { x with Token := v } s0 := by rfl
theorem e_Sender_g_Next (x : Sender) (s0 : AV) : (e_Sender x s0)[3]? = some (vi x.Next) := by rfl
theorem e_Sender_s_Next (x : Sender) (s0 : AV) (v : Int) : (e_Sender x s0).set 3 (vi v) = e_Sender { x with Next := v } s0 := by rfl
theorem e_Sender_g_Size (x : Sender) (s0 : AV) : (e_Sender x s0)[4]? = some (vi x.Size) := by rfl
theorem e_Sender_s_Size (x : Sender) (s0 : AV) (v : Int) : (e_Sender x s0).set 4 (vi v) = e_Sender { x with Size := v } s0 := by rfl
theorem e_Sender_g_Limit (x : Sender) (s0 : AV) : (e_Sender x s0)[5]? = some (vi x.Limit) := by rfl
theorem e_Sender_s_Limit (x : Sender) (s0 : AV) (v : Int) : (e_Sender x s0).set 5 (vi v) = e_Sender { x with Limit := v } s0 := by rfl
theorem e_Sender_g_Life (x : Sender) (s0 : AV) : (e_Sender x s0)[6]? = some (vi x.Life) := by rfl
theorem e_Sender_s_Life (x : Sender) (s0 : AV) (v : Int) : (e_Sender x s0).set 6 (vi v) = e_Sender { x with Life := v } s0 := by rfl
theorem e_Sender_g_Out (x : Sender) (s0 : AV) : (e_Sender x s0)[7]? = some s0 := by rfl
theorem e_Sender_s_Out (x : Sender) (s0 : AV) (v : AV) : (e_Sender x s0).set 7 v = e_Sender x v := by rfl
theorem e_Sender_g_Bar (x : Sender) (s0 : AV) : (e_Sender x s0)[8]? = some (vb x.Bar) := by rfl
theorem e_Sender_s_Bar (x : Sender) (s0 : AV) (v : Bool) : (e_Sender x s0).set 8 (vb v) = e_Sender { x with Bar := v } s0 := by rfl
theorem e_Sender_fz (x : Sender) (s0 : AV) (o : Nat → Ob) (n : Nat) : (e_Sender x s0).map (fz o (n + 1)) = e_Sender x (fz o (n + 1) s0) := by rfl
theorem e_Sender_reach (x : Sender) (s0 : AV) (o : Nat → Ob) (n : Nat) : (e_Sender x s0).flatMap (reach o (n + 1)) = reach o (n + 1) s0 := by
  simp only [e_Sender, List.cons_append, List.nil_append, List.append_nil, List.flatMap_cons, List.flatMap_nil, reach_v]
theorem e_Sender_clean (x : Sender) (s0 : AV) (h_s0 : Clean s0) : ∀ c ∈ (e_Sender x s0), Clean c := by
  simp only [e_Sender, List.cons_append, List.nil_append]
  repeat' (first | exact Clean.v _ | assumption | exact List.forall_mem_nil _ | refine List.forall_mem_cons.2 ⟨?_, ?_⟩)
theorem e_Sender_tm {st : AS} {F : List Nat} {σ : List (Option Nat)} (x : Sender) (s0 : AV) (s02 : AV) (h_s0 : Tm st F σ s0 s02) : TmL st F σ (e_Sender x s0) (e_Sender x s02) := by
  simp only [e_Sender, List.cons_append, List.nil_append]
  repeat' (first | exact TmL.nil | (refine TmL.cons (Tm.v _) ?_) | (refine TmL.cons (by assumption) ?_))
theorem e_Sender_tmx {st : AS} {F : List Nat} {σ : List (Option Nat)} {x y : Sender} {s0 s02 : AV} (hxy : e_Sender y s02 = e_Sender x s02) (h_s0 : Tm st F σ s0 s02) : TmL st F σ (e_Sender x s0) (e_Sender y s02) := by
  rw [hxy]; exact e_Sender_tm x s0 s02 h_s0
theorem e_Sender_ren (x : Sender) {s0 : (Nat → Nat) → AV} (h_s0 : RenM s0) : RenML fun q => e_Sender x (s0 q) := by
  simp only [e_Sender, List.cons_append, List.nil_append]
  repeat' (first | exact RenML.nil | (refine RenML.cons (RenM.const (Clean.v _)) ?_) | (refine RenML.cons (by assumption) ?_))
def E_Sender (x : Sender) : List AV := e_Sender x (S_Unacked x.Out)
theorem E_Sender_eq (x : Sender) : E_Sender x = e_Sender x (S_Unacked x.Out) := rfl
theorem E_Sender_clean (x : Sender) : ∀ c ∈ E_Sender x, Clean c := e_Sender_clean x _ (S_Unacked_clean _)
theorem f_Sender (x : Sender) (o : Nat → Ob) (n : Nat) : (E_Sender x).map (fz o (n + 3)) = E_Sender x := by simp only [E_Sender_eq, e_Sender_fz, f_S_Unacked]
theorem q_Sender (x : Sender) (o : Nat → Ob) (n : Nat) : (E_Sender x).flatMap (reach o (n + 3)) = [] := by simp only [E_Sender_eq, e_Sender_reach, q_S_Unacked, List.append_nil]
attribute [go_sem] e_Sender_len e_Sender_sub e_Sender_take e_Sender_all e_Sender_g_Tid e_Sender_s_Tid e_Sender_g_Phase e_Sender_s_Phase e_Sender_g_Token e_Sender_s_Token e_Sender_g_Next e_Sender_s_Next e_Sender_g_Size e_Sender_s_Size e_Sender_g_Limit e_Sender_s_Limit e_Sender_g_Life e_Sender_s_Life e_Sender_g_Out e_Sender_s_Out e_Sender_g_Bar e_Sender_s_Bar e_Sender_fz e_Sender_reach E_Sender_eq f_Sender q_Sender

structure HeldSeq where
  At : Int
  Frame : Frame
  deriving DecidableEq

def HeldSeq.z : HeldSeq := ⟨0, Frame.z⟩

def e_HeldSeq (x : HeldSeq) (s0 : AV) : List AV := [vi x.At] ++ (e_Frame x.Frame s0)

theorem e_HeldSeq_len (x : HeldSeq) (s0 : AV) : (e_HeldSeq x s0).length = 42 := by rfl
theorem e_HeldSeq_sub (x : HeldSeq) (s0 : AV) : sub? (e_HeldSeq x s0) 0 42 = some (e_HeldSeq x s0) := by rfl
theorem e_HeldSeq_take (x : HeldSeq) (s0 : AV) : (e_HeldSeq x s0).take 42 = (e_HeldSeq x s0) := by rfl
theorem e_HeldSeq_all (x : HeldSeq) (s0 : AV) (y : HeldSeq) (s02 : AV) : putAt (e_HeldSeq x s0) 0 (e_HeldSeq y s02) = e_HeldSeq y s02 := by rfl
theorem e_HeldSeq_g_At (x : HeldSeq) (s0 : AV) : (e_HeldSeq x s0)[0]? = some (vi x.At) := by rfl
theorem e_HeldSeq_s_At (x : HeldSeq) (s0 : AV) (v : Int) : (e_HeldSeq x s0).set 0 (vi v) = e_HeldSeq { x with At := v } s0 := by rfl
theorem e_HeldSeq_g_Frame_Head_Seq (x : HeldSeq) (s0 : AV) : (e_HeldSeq x s0)[35]? = some (vi x.Frame.Head.Seq) := by rfl
theorem e_HeldSeq_d_Frame (x : HeldSeq) (s0 : AV) : sub? (e_HeldSeq x s0) 1 41 = some (e_Frame x.Frame s0) := by rfl
theorem e_HeldSeq_p_Frame (x : HeldSeq) (s0 : AV) (v : Frame) (w0 : AV) : putAt (e_HeldSeq x s0) 1 (e_Frame v w0) = e_HeldSeq { x with Frame := v } w0 := by rfl
theorem e_HeldSeq_fz (x : HeldSeq) (s0 : AV) (o : Nat → Ob) (n : Nat) : (e_HeldSeq x s0).map (fz o (n + 1)) = e_HeldSeq x (fz o (n + 1) s0) := by rfl
theorem e_HeldSeq_reach (x : HeldSeq) (s0 : AV) (o : Nat → Ob) (n : Nat) : (e_HeldSeq x s0).flatMap (reach o (n + 1)) = reach o (n + 1) s0 := by
  simp only [e_HeldSeq, e_Frame, e_Header, e_Addr, List.cons_append, List.nil_append, List.append_nil, List.flatMap_cons, List.flatMap_nil, reach_v]
theorem e_HeldSeq_clean (x : HeldSeq) (s0 : AV) (h_s0 : Clean s0) : ∀ c ∈ (e_HeldSeq x s0), Clean c := by
  simp only [e_HeldSeq, e_Frame, e_Header, e_Addr, List.cons_append, List.nil_append]
  repeat' (first | exact Clean.v _ | assumption | exact List.forall_mem_nil _ | refine List.forall_mem_cons.2 ⟨?_, ?_⟩)
def E_HeldSeq (x : HeldSeq) : List AV := e_HeldSeq x (S_vu x.Frame.Body)
theorem E_HeldSeq_eq (x : HeldSeq) : E_HeldSeq x = e_HeldSeq x (S_vu x.Frame.Body) := rfl
theorem E_HeldSeq_clean (x : HeldSeq) : ∀ c ∈ E_HeldSeq x, Clean c := e_HeldSeq_clean x _ (S_vu_clean _)
theorem f_HeldSeq (x : HeldSeq) (o : Nat → Ob) (n : Nat) : (E_HeldSeq x).map (fz o (n + 2)) = E_HeldSeq x := by simp only [E_HeldSeq_eq, e_HeldSeq_fz, f_S_vu]
theorem q_HeldSeq (x : HeldSeq) (o : Nat → Ob) (n : Nat) : (E_HeldSeq x).flatMap (reach o (n + 2)) = [] := by simp only [E_HeldSeq_eq, e_HeldSeq_reach, q_S_vu, List.append_nil]
attribute [go_sem] e_HeldSeq_len e_HeldSeq_sub e_HeldSeq_take e_HeldSeq_all e_HeldSeq_g_At e_HeldSeq_s_At e_HeldSeq_g_Frame_Head_Seq e_HeldSeq_d_Frame e_HeldSeq_p_Frame e_HeldSeq_fz e_HeldSeq_reach E_HeldSeq_eq f_HeldSeq q_HeldSeq

def S_HeldSeq (l : List HeldSeq) : AV := .imm (List.flatMap E_HeldSeq l) l.length
theorem S_HeldSeq_eq (l : List HeldSeq) : S_HeldSeq l = .imm (List.flatMap E_HeldSeq l) l.length := rfl
theorem l_HeldSeq (x : HeldSeq) : (E_HeldSeq x).length = 42 := by rfl
theorem S_HeldSeq_clean (l : List HeldSeq) : Clean (S_HeldSeq l) := Clean.imm (rows_clean E_HeldSeq_clean l)
theorem c_HeldSeq (l : List HeldSeq) : ∀ c ∈ l.flatMap E_HeldSeq, Clean c := rows_clean E_HeldSeq_clean l
theorem r_HeldSeq_len (l : List HeldSeq) : (l.flatMap E_HeldSeq).length = l.length * 42 := flat_len l_HeldSeq l
theorem r_HeldSeq_get (l : List HeldSeq) (i o : Nat) (ho : o < 42) : (l.flatMap E_HeldSeq)[i * 42 + o]? = l[i]?.bind fun a => (E_HeldSeq a)[o]? := rows_get l_HeldSeq l i o ho
theorem r_HeldSeq_get0 (l : List HeldSeq) (i : Nat) : (l.flatMap E_HeldSeq)[i * 42]? = l[i]?.bind fun a => (E_HeldSeq a)[0]? := rows_get l_HeldSeq l i 0 (by decide)
theorem r_HeldSeq_sub (l : List HeldSeq) (i o n : Nat) (ho : o + n ≤ 42) (hn : 0 < n) : sub? (l.flatMap E_HeldSeq) (i * 42 + o) n = l[i]?.bind fun a => sub? (E_HeldSeq a) o n := rows_sub l_HeldSeq l i o n ho hn
theorem r_HeldSeq_sub0 (l : List HeldSeq) (i n : Nat) (ho : n ≤ 42) (hn : 0 < n) : sub? (l.flatMap E_HeldSeq) (i * 42) n = l[i]?.bind fun a => sub? (E_HeldSeq a) 0 n := rows_sub l_HeldSeq l i 0 n (by omega) hn
theorem r_HeldSeq_getL (l : List HeldSeq) (o : Nat) : (l.flatMap E_HeldSeq)[o]? = l[o / 42]?.bind fun a => (E_HeldSeq a)[o % 42]? := rows_getL l_HeldSeq (by decide) l o
theorem r_HeldSeq_subL (l : List HeldSeq) (o n : Nat) (ho : o % 42 + n ≤ 42) (hn : 0 < n) : sub? (l.flatMap E_HeldSeq) o n = l[o / 42]?.bind fun a => sub? (E_HeldSeq a) (o % 42) n := rows_subL l_HeldSeq l o n ho hn
theorem r_HeldSeq_subw (l : List HeldSeq) : sub? (l.flatMap E_HeldSeq) 0 (l.length * 42) = some (l.flatMap E_HeldSeq) := rows_subw l_HeldSeq l
theorem r_HeldSeq_take (l : List HeldSeq) (n : Nat) : (l.flatMap E_HeldSeq).take (n * 42) = (l.take n).flatMap E_HeldSeq := rows_take l_HeldSeq l n
theorem r_HeldSeq_drop (l : List HeldSeq) (n : Nat) : (l.flatMap E_HeldSeq).drop (n * 42) = (l.drop n).flatMap E_HeldSeq := rows_drop l_HeldSeq l n
theorem r_HeldSeq_fz (l : List HeldSeq) (o : Nat → Ob) (n : Nat) : (l.flatMap E_HeldSeq).map (fz o (n + 2)) = (l.flatMap E_HeldSeq) := rows_fz (fun a => f_HeldSeq a o n) l
theorem r_HeldSeq_rch (l : List HeldSeq) (o : Nat → Ob) (n : Nat) : (l.flatMap E_HeldSeq).flatMap (reach o (n + 2)) = [] := rows_reach (fun a => q_HeldSeq a o n) l
theorem r_HeldSeq_s_At (l : List HeldSeq) (i : Nat) (v : Int) : (l.flatMap E_HeldSeq).set (i * 42) (vi v) = (l.modify i (fun y => { y with At := v })).flatMap E_HeldSeq := rows_set l_HeldSeq l i 0 _ (fun y => { y with At := v }) (by decide) (fun _ => by rfl)
theorem r_HeldSeq_s_Frame_Head_Retry (l : List HeldSeq) (i : Nat) (v : Bool) : (l.flatMap E_HeldSeq).set (i * 42 + 6) (vb v) = (l.modify i (fun y => { y with Frame.Head.Retry := v })).flatMap E_HeldSeq := rows_set l_HeldSeq l i 6 _ (fun y => { y with Frame.Head.Retry := v }) (by decide) (fun _ => by rfl)
theorem r_HeldSeq_s_Frame_Head_Seq (l : List HeldSeq) (i : Nat) (v : Int) : (l.flatMap E_HeldSeq).set (i * 42 + 35) (vi v) = (l.modify i (fun y => { y with Frame.Head.Seq := v })).flatMap E_HeldSeq := rows_set l_HeldSeq l i 35 _ (fun y => { y with Frame.Head.Seq := v }) (by decide) (fun _ => by rfl)
theorem r_HeldSeq_s_Frame_Head_Tid (l : List HeldSeq) (i : Nat) (v : Int) : (l.flatMap E_HeldSeq).set (i * 42 + 37) (vi v) = (l.modify i (fun y => { y with Frame.Head.Tid := v })).flatMap E_HeldSeq := rows_set l_HeldSeq l i 37 _ (fun y => { y with Frame.Head.Tid := v }) (by decide) (fun _ => by rfl)
theorem r_HeldSeq_put (l : List HeldSeq) (i : Nat) (x : HeldSeq) (b0 : (List Int)) : putAt (l.flatMap E_HeldSeq) (i * 42) (e_HeldSeq x (.imm (List.map vu b0) b0.length)) = (l.set i { x with Frame.Body := b0 }).flatMap E_HeldSeq := rows_put l_HeldSeq (by decide) l i { x with Frame.Body := b0 }
theorem r_HeldSeq_app (l : List HeldSeq) (x : HeldSeq) (b0 : (List Int)) : (l.flatMap E_HeldSeq) ++ e_HeldSeq x (S_vu b0) = (l ++ [{ x with Frame.Body := b0 }]).flatMap E_HeldSeq := by rw [List.flatMap_append]; simp only [List.flatMap_cons, List.flatMap_nil, List.append_nil]; rfl
theorem r_HeldSeq_cat (l : List HeldSeq) (m : List HeldSeq) : (l.flatMap E_HeldSeq) ++ m.flatMap E_HeldSeq = (l ++ m).flatMap E_HeldSeq := List.flatMap_append.symm
theorem f_S_HeldSeq (l : List HeldSeq) (o : Nat → Ob) (n : Nat) : fz o (n + 3) (S_HeldSeq l) = S_HeldSeq l := by simp only [S_HeldSeq_eq, fz, r_HeldSeq_fz]
theorem q_S_HeldSeq (l : List HeldSeq) (o : Nat → Ob) (n : Nat) : reach o (n + 3) (S_HeldSeq l) = [] := by simp only [S_HeldSeq_eq, reach, r_HeldSeq_rch]
attribute [go_sem] S_HeldSeq_eq l_HeldSeq r_HeldSeq_len r_HeldSeq_get r_HeldSeq_get0 r_HeldSeq_sub r_HeldSeq_sub0 r_HeldSeq_subw r_HeldSeq_take r_HeldSeq_drop r_HeldSeq_fz r_HeldSeq_rch r_HeldSeq_s_At r_HeldSeq_s_Frame_Head_Retry r_HeldSeq_s_Frame_Head_Seq r_HeldSeq_s_Frame_Head_Tid r_HeldSeq_put r_HeldSeq_app r_HeldSeq_cat f_S_HeldSeq q_S_HeldSeq

structure Window where
  Start : Int
  Bits : Int
  deriving DecidableEq

def Window.z : Window := ⟨0, 0⟩

def e_Window (x : Window) : List AV := [vi x.Start, vq x.Bits]

theorem e_Window_len (x : Window) : (e_Window x).length = 2 := by rfl
theorem e_Window_sub (x : Window) : sub? (e_Window x) 0 2 = some (e_Window x) := by rfl
theorem e_Window_take (x : Window) : (e_Window x).take 2 = (e_Window x) := by rfl
theorem e_Window_all (x : Window) (y : Window) : putAt (e_Window x) 0 (e_Window y) = e_Window y := by rfl
theorem e_Window_g_Start (x : Window) : (e_Window x)[0]? = some (vi x.Start) := by rfl
theorem e_Window_s_Start (x : Window) (v : Int) : (e_Window x).set 0 (vi v) = e_Window { x with Start := v } := by rfl
theorem e_Window_g_Bits (x : Window) : (e_Window x)[1]? = some (vq x.Bits) := by rfl
theorem e_Window_s_Bits (x : Window) (v : Int) : (e_Window x).set 1 (vq v) = e_Window { x with Bits := v } := by rfl
theorem e_Window_fz (x : Window) (o : Nat → Ob) (n : Nat) : (e_Window x).map (fz o (n + 1)) = e_Window x := by rfl
theorem e_Window_reach (x : Window) (o : Nat → Ob) (n : Nat) : (e_Window x).flatMap (reach o (n + 1)) = [] := by
  simp only [e_Window, List.cons_append, List.nil_append, List.append_nil, List.flatMap_cons, List.flatMap_nil, reach_v]
theorem e_Window_clean (x : Window) : ∀ c ∈ (e_Window x), Clean c := by
  simp only [e_Window, List.cons_append, List.nil_append]
  repeat' (first | exact Clean.v _ | assumption | exact List.forall_mem_nil _ | refine List.forall_mem_cons.2 ⟨?_, ?_⟩)
theorem f_Window (x : Window) (o : Nat → Ob) (n : Nat) : (e_Window x).map (fz o (n + 1)) = e_Window x := by simp only [e_Window_fz]
theorem q_Window (x : Window) (o : Nat → Ob) (n : Nat) : (e_Window x).flatMap (reach o (n + 1)) = [] := by simp only [e_Window_reach, List.append_nil]
attribute [go_sem] e_Window_len e_Window_sub e_Window_take e_Window_all e_Window_g_Start e_Window_s_Start e_Window_g_Bits e_Window_s_Bits e_Window_fz e_Window_reach f_Window q_Window

structure Reorder where
  Start : Int
  Size : Int
  Hold : Int
  Held : (List HeldSeq)
  Seen : Window
  deriving DecidableEq

def Reorder.z : Reorder := ⟨0, 0, 0, [], Window.z⟩

def e_Reorder (x : Reorder) (s0 : AV) : List AV := [vi x.Start, vi x.Size, vi x.Hold, s0] ++ (e_Window x.Seen)

theorem e_Reorder_len (x : Reorder) (s0 : AV) : (e_Reorder x s0).length = 6 := by rfl
theorem e_Reorder_sub (x : Reorder) (s0 : AV) : sub? (e_Reorder x s0) 0 6 = some (e_Reorder x s0) := by rfl
theorem e_Reorder_take (x : Reorder) (s0 : AV) : (e_Reorder x s0).take 6 = (e_Reorder x s0) := by rfl
theorem e_Reorder_all (x : Reorder) (s0 : AV) (y : Reorder) (s02 : AV) : putAt (e_Reorder x s0) 0 (e_Reorder y s02) = e_Reorder y s02 := by rfl
theorem e_Reorder_g_Start (x : Reorder) (s0 : AV) : (e_Reorder x s0)[0]? = some (vi x.Start) := by rfl
theorem e_Reorder_s_Start (x : Reorder) (s0 : AV) (v : Int) : (e_Reorder x s0).set 0 (vi v) = e_Reorder { x with Start := v } s0 := by rfl
theorem e_Reorder_g_Size (x : Reorder) (s0 : AV) : (e_Reorder x s0)[1]? = some (vi x.Size) := by rfl
theorem e_Reorder_s_Size (x : Reorder) (s0 : AV) (v : Int) : (e_Reorder x s0).set 1 (vi v) = e_Reorder { x with Size := v } s0 := by rfl
theorem e_Reorder_g_Hold (x : Reorder) (s0 : AV) : (e_Reorder x s0)[2]? = some (vi x.Hold) := by rfl
theorem e_Reorder_s_Hold (x : Reorder) (s0 : AV) (v : Int) : (e_Reorder x s0).set 2 (vi v) = e_Reorder { x with Hold := v } s0 := by rfl
theorem e_Reorder_g_Held (x : Reorder) (s0 : AV) : (e_Reorder x s0)[3]? = some s0 := by rfl
theorem e_Reorder_s_Held (x : Reorder) (s0 : AV) (v : AV) : (e_Reorder x s0).set 3 v = e_Reorder x v := by rfl
theorem e_Reorder_d_Seen (x : Reorder) (s0 : AV) : sub? (e_Reorder x s0) 4 2 = some (e_Window x.Seen) := by rfl
theorem e_Reorder_p_Seen (x : Reorder) (s0 : AV) (v : Window) : putAt (e_Reorder x s0) 4 (e_Window v) = e_Reorder { x with Seen := v } s0 := by rfl
theorem e_Reorder_fz (x : Reorder) (s0 : AV) (o : Nat → Ob) (n : Nat) : (e_Reorder x s0).map (fz o (n + 1)) = e_Reorder x (fz o (n + 1) s0) := by rfl
theorem e_Reorder_reach (x : Reorder) (s0 : AV) (o : Nat → Ob) (n : Nat) : (e_Reorder x s0).flatMap (reach o (n + 1)) = reach o (n + 1) s0 := by
  simp only [e_Reorder, e_Window, List.cons_append, List.nil_append, List.append_nil, List.flatMap_cons, List.flatMap_nil, reach_v]
theorem e_Reorder_clean (x : Reorder) (s0 : AV) (h_s0 : Clean s0) : ∀ c ∈ (e_Reorder x s0), Clean c := by
  simp only [e_Reorder, e_Window, List.cons_append, List.nil_append]
  repeat' (first | exact Clean.v _ | assumption | exact List.forall_mem_nil _ | refine List.forall_mem_cons.2 ⟨?_, ?_⟩)
theorem e_Reorder_tm {st : AS} {F : List Nat} {σ : List (Option Nat)} (x : Reorder) (s0 : AV) (s02 : AV) (h_s0 : Tm st F σ s0 s02) : TmL st F σ (e_Reorder x s0) (e_Reorder x s02) := by
  simp only [e_Reorder, e_Window, List.cons_append, List.nil_append]
  repeat' (first | exact TmL.nil | (refine TmL.cons (Tm.v _) ?_) | (refine TmL.cons (by assumption) ?_))
theorem e_Reorder_tmx {st : AS} {F : List Nat} {σ : List (Option Nat)} {x y : Reorder} {s0 s02 : AV} (hxy : e_Reorder y s02 = e_Reorder x s02) (h_s0 : Tm st F σ s0 s02) : TmL st F σ (e_Reorder x s0) (e_Reorder y s02) := by
  rw [hxy]; exact e_Reorder_tm x s0 s02 h_s0
theorem e_Reorder_ren (x : Reorder) {s0 : (Nat → Nat) → AV} (h_s0 : RenM s0) : RenML fun q => e_Reorder x (s0 q) := by
  simp only [e_Reorder, e_Window, List.cons_append, List.nil_append]
  repeat' (first | exact RenML.nil | (refine RenML.cons (RenM.const (Clean.v _)) ?_) | (refine RenML.cons (by assumption) ?_))
theorem e_Reorder_frl {q nx off : Nat} (x : Reorder) {s0 : AV} {s02 : AV} (h_s0 : Fr q nx off s0 s02) : FrL q nx off (e_Reorder x s0) (e_Reorder x s02) := by
  simp only [e_Reorder, e_Window, List.cons_append, List.nil_append]
  repeat' (first | exact FrL.nil | (refine FrL.cons _ _ _ _ (by assumption) ?_) | (refine FrL.cons _ _ _ _ (Fr.same _) ?_))
def E_Reorder (x : Reorder) : List AV := e_Reorder x (S_HeldSeq x.Held)
theorem E_Reorder_eq (x : Reorder) : E_Reorder x = e_Reorder x (S_HeldSeq x.Held) := rfl
theorem E_Reorder_clean (x : Reorder) : ∀ c ∈ E_Reorder x, Clean c := e_Reorder_clean x _ (S_HeldSeq_clean _)
theorem f_Reorder (x : Reorder) (o : Nat → Ob) (n : Nat) : (E_Reorder x).map (fz o (n + 3)) = E_Reorder x := by simp only [E_Reorder_eq, e_Reorder_fz, f_S_HeldSeq]
theorem q_Reorder (x : Reorder) (o : Nat → Ob) (n : Nat) : (E_Reorder x).flatMap (reach o (n + 3)) = [] := by simp only [E_Reorder_eq, e_Reorder_reach, q_S_HeldSeq, List.append_nil]
attribute [go_sem] e_Reorder_len e_Reorder_sub e_Reorder_take e_Reorder_all e_Reorder_g_Start e_Reorder_s_Start e_Reorder_g_Size e_Reorder_s_Size e_Reorder_g_Hold e_Reorder_s_Hold e_Reorder_g_Held e_Reorder_s_Held e_Reorder_d_Seen e_Reorder_p_Seen e_Reorder_fz e_Reorder_reach E_Reorder_eq f_Reorder q_Reorder

structure Session_sides where
  Sender : Sender
  Reorder : Reorder
  deriving DecidableEq

def Session_sides.z : Session_sides := ⟨Sender.z, Reorder.z⟩

def e_Session_sides (x : Session_sides) (s0 : AV) (s1 : AV) : List AV := (e_Sender x.Sender s0) ++ (e_Reorder x.Reorder s1)

theorem e_Session_sides_len (x : Session_sides) (s0 : AV) (s1 : AV) : (e_Session_sides x s0 s1).length = 15 := by rfl
theorem e_Session_sides_sub (x : Session_sides) (s0 : AV) (s1 : AV) : sub? (e_Session_sides x s0 s1) 0 15 = some (e_Session_sides x s0 s1) := by rfl
theorem e_Session_sides_take (x : Session_sides) (s0 : AV) (s1 : AV) : (e_Session_sides x s0 s1).take 15 = (e_Session_sides x s0 s1) := by rfl
theorem e_Session_sides_all (x : Session_sides) (s0 : AV) (s1 : AV) (y : Session_sides) (s02 : AV) (s12 : AV) : putAt (e_Session_sides x s0 s1) 0 (e_Session_sides y s02 s12) = e_Session_sides y s02 s12 := by rfl
theorem e_Session_sides_fz (x : Session_sides) (s0 : AV) (s1 : AV) (o : Nat → Ob) (n : Nat) : (e_Session_sides x s0 s1).map (fz o (n + 1)) = e_Session_sides x (fz o (n + 1) s0) (fz o (n + 1) s1) := by rfl
theorem e_Session_sides_reach (x : Session_sides) (s0 : AV) (s1 : AV) (o : Nat → Ob) (n : Nat) : (e_Session_sides x s0 s1).flatMap (reach o (n + 1)) = reach o (n + 1) s0 ++ reach o (n + 1) s1 := by
  simp only [e_Session_sides, e_Sender, e_Reorder, e_Window, List.cons_append, List.nil_append, List.append_nil, List.flatMap_cons, List.flatMap_nil, reach_v]
def E_Session_sides (x : Session_sides) : List AV := e_Session_sides x (S_Unacked x.Sender.Out) (S_HeldSeq x.Reorder.Held)
theorem E_Session_sides_eq (x : Session_sides) : E_Session_sides x = e_Session_sides x (S_Unacked x.Sender.Out) (S_HeldSeq x.Reorder.Held) := rfl
theorem f_Session_sides (x : Session_sides) (o : Nat → Ob) (n : Nat) : (E_Session_sides x).map (fz o (n + 3)) = E_Session_sides x := by simp only [E_Session_sides_eq, e_Session_sides_fz, f_S_Unacked, f_S_HeldSeq]
theorem q_Session_sides (x : Session_sides) (o : Nat → Ob) (n : Nat) : (E_Session_sides x).flatMap (reach o (n + 3)) = [] := by simp only [E_Session_sides_eq, e_Session_sides_reach, q_S_Unacked, q_S_HeldSeq, List.append_nil]
attribute [go_sem] e_Session_sides_len e_Session_sides_sub e_Session_sides_take e_Session_sides_all e_Session_sides_fz e_Session_sides_reach E_Session_sides_eq f_Session_sides q_Session_sides

structure Session_session where
  sides : Session_sides
  plan : SessionPlan
  many : Int
  accepted : Int
  lost : Unit
  out : SessionResult
  err : Int
  deriving DecidableEq

def Session_session.z : Session_session := ⟨Session_sides.z, SessionPlan.z, 0, 0, (), SessionResult.z, 0⟩

def e_Session_session (x : Session_session) (s0 : AV) (s1 : AV) (s2 : AV) (s3 : AV) (s4 : AV) (s5 : AV) : List AV := (e_Session_sides x.sides s0 s1) ++ (e_SessionPlan x.plan) ++ [vi x.many, vi x.accepted, s2] ++ (e_SessionResult x.out s3 s4 s5) ++ [vi x.err]

theorem e_Session_session_len (x : Session_session) (s0 : AV) (s1 : AV) (s2 : AV) (s3 : AV) (s4 : AV) (s5 : AV) : (e_Session_session x s0 s1 s2 s3 s4 s5).length = 30 := by rfl
theorem e_Session_session_sub (x : Session_session) (s0 : AV) (s1 : AV) (s2 : AV) (s3 : AV) (s4 : AV) (s5 : AV) : sub? (e_Session_session x s0 s1 s2 s3 s4 s5) 0 30 = some (e_Session_session x s0 s1 s2 s3 s4 s5) := by rfl
theorem e_Session_session_take (x : Session_session) (s0 : AV) (s1 : AV) (s2 : AV) (s3 : AV) (s4 : AV) (s5 : AV) : (e_Session_session x s0 s1 s2 s3 s4 s5).take 30 = (e_Session_session x s0 s1 s2 s3 s4 s5) := by rfl
theorem e_Session_session_all (x : Session_session) (s0 : AV) (s1 : AV) (s2 : AV) (s3 : AV) (s4 : AV) (s5 : AV) (y : Session_session) (s02 : AV) (s12 : AV) (s22 : AV) (s32 : AV) (s42 : AV) (s52 : AV) : putAt (e_Session_session x s0 s1 s2 s3 s4 s5) 0 (e_Session_session y s02 s12 s22 s32 s42 s52) = e_Session_session y s02 s12 s22 s32 s42 s52 := by rfl
theorem e_Session_session_g_sides_Sender_Next (x : Session_session) (s0 : AV) (s1 : AV) (s2 : AV) (s3 : AV) (s4 : AV) (s5 : AV) : (e_Session_session x s0 s1 s2 s3 s4 s5)[3]? = some (vi x.sides.Sender.Next) := by rfl
theorem e_Session_session_g_sides_Sender_Out (x : Session_session) (s0 : AV) (s1 : AV) (s2 : AV) (s3 : AV) (s4 : AV) (s5 : AV) : (e_Session_session x s0 s1 s2 s3 s4 s5)[7]? = some s0 := by rfl
theorem e_Session_session_g_sides_Sender_Bar (x : Session_session) (s0 : AV) (s1 : AV) (s2 : AV) (s3 : AV) (s4 : AV) (s5 : AV) : (e_Session_session x s0 s1 s2 s3 s4 s5)[8]? = some (vb x.sides.Sender.Bar) := by rfl
theorem e_Session_session_g_plan_Start (x : Session_session) (s0 : AV) (s1 : AV) (s2 : AV) (s3 : AV) (s4 : AV) (s5 : AV) : (e_Session_session x s0 s1 s2 s3 s4 s5)[15]? = some (vi x.plan.Start) := by rfl
theorem e_Session_session_g_plan_Burst (x : Session_session) (s0 : AV) (s1 : AV) (s2 : AV) (s3 : AV) (s4 : AV) (s5 : AV) : (e_Session_session x s0 s1 s2 s3 s4 s5)[20]? = some (vi x.plan.Burst) := by rfl
theorem e_Session_session_g_plan_Round (x : Session_session) (s0 : AV) (s1 : AV) (s2 : AV) (s3 : AV) (s4 : AV) (s5 : AV) : (e_Session_session x s0 s1 s2 s3 s4 s5)[21]? = some (vi x.plan.Round) := by rfl
theorem e_Session_session_g_many (x : Session_session) (s0 : AV) (s1 : AV) (s2 : AV) (s3 : AV) (s4 : AV) (s5 : AV) : (e_Session_session x s0 s1 s2 s3 s4 s5)[22]? = some (vi x.many) := by rfl
theorem e_Session_session_s_many (x : Session_session) (s0 : AV) (s1 : AV) (s2 : AV) (s3 : AV) (s4 : AV) (s5 : AV) (v : Int) : (e_Session_session x s0 s1 s2 s3 s4 s5).set 22 (vi v) = e_Session_session { x with many := v } s0 s1 s2 s3 s4 s5 := by rfl
theorem e_Session_session_g_accepted (x : Session_session) (s0 : AV) (s1 : AV) (s2 : AV) (s3 : AV) (s4 : AV) (s5 : AV) : (e_Session_session x s0 s1 s2 s3 s4 s5)[23]? = some (vi x.accepted) := by rfl
theorem e_Session_session_s_accepted (x : Session_session) (s0 : AV) (s1 : AV) (s2 : AV) (s3 : AV) (s4 : AV) (s5 : AV) (v : Int) : (e_Session_session x s0 s1 s2 s3 s4 s5).set 23 (vi v) = e_Session_session { x with accepted := v } s0 s1 s2 s3 s4 s5 := by rfl
theorem e_Session_session_g_lost (x : Session_session) (s0 : AV) (s1 : AV) (s2 : AV) (s3 : AV) (s4 : AV) (s5 : AV) : (e_Session_session x s0 s1 s2 s3 s4 s5)[24]? = some s2 := by rfl
theorem e_Session_session_s_lost (x : Session_session) (s0 : AV) (s1 : AV) (s2 : AV) (s3 : AV) (s4 : AV) (s5 : AV) (v : AV) : (e_Session_session x s0 s1 s2 s3 s4 s5).set 24 v = e_Session_session x s0 s1 v s3 s4 s5 := by rfl
theorem e_Session_session_g_out_Delivered (x : Session_session) (s0 : AV) (s1 : AV) (s2 : AV) (s3 : AV) (s4 : AV) (s5 : AV) : (e_Session_session x s0 s1 s2 s3 s4 s5)[25]? = some s3 := by rfl
theorem e_Session_session_s_out_Delivered (x : Session_session) (s0 : AV) (s1 : AV) (s2 : AV) (s3 : AV) (s4 : AV) (s5 : AV) (v : AV) : (e_Session_session x s0 s1 s2 s3 s4 s5).set 25 v = e_Session_session x s0 s1 s2 v s4 s5 := by rfl
theorem e_Session_session_g_out_Acked (x : Session_session) (s0 : AV) (s1 : AV) (s2 : AV) (s3 : AV) (s4 : AV) (s5 : AV) : (e_Session_session x s0 s1 s2 s3 s4 s5)[26]? = some s4 := by rfl
theorem e_Session_session_s_out_Acked (x : Session_session) (s0 : AV) (s1 : AV) (s2 : AV) (s3 : AV) (s4 : AV) (s5 : AV) (v : AV) : (e_Session_session x s0 s1 s2 s3 s4 s5).set 26 v = e_Session_session x s0 s1 s2 s3 v s5 := by rfl
theorem e_Session_session_g_out_Dropped (x : Session_session) (s0 : AV) (s1 : AV) (s2 : AV) (s3 : AV) (s4 : AV) (s5 : AV) : (e_Session_session x s0 s1 s2 s3 s4 s5)[27]? = some s5 := by rfl
theorem e_Session_session_s_out_Dropped (x : Session_session) (s0 : AV) (s1 : AV) (s2 : AV) (s3 : AV) (s4 : AV) (s5 : AV) (v : AV) : (e_Session_session x s0 s1 s2 s3 s4 s5).set 27 v = e_Session_session x s0 s1 s2 s3 s4 v := by rfl
theorem e_Session_session_g_out_Rounds (x : Session_session) (s0 : AV) (s1 : AV) (s2 : AV) (s3 : AV) (s4 : AV) (s5 : AV) : (e_Session_session x s0 s1 s2 s3 s4 s5)[28]? = some (vi x.out.Rounds) := by rfl
theorem e_Session_session_s_out_Rounds (x : Session_session) (s0 : AV) (s1 : AV) (s2 : AV) (s3 : AV) (s4 : AV) (s5 : AV) (v : Int) : (e_Session_session x s0 s1 s2 s3 s4 s5).set 28 (vi v) = e_Session_session { x with out.Rounds := v } s0 s1 s2 s3 s4 s5 := by rfl
theorem e_Session_session_g_err (x : Session_session) (s0 : AV) (s1 : AV) (s2 : AV) (s3 : AV) (s4 : AV) (s5 : AV) : (e_Session_session x s0 s1 s2 s3 s4 s5)[29]? = some (vi x.err) := by rfl
theorem e_Session_session_s_err (x : Session_session) (s0 : AV) (s1 : AV) (s2 : AV) (s3 : AV) (s4 : AV) (s5 : AV) (v : Int) : (e_Session_session x s0 s1 s2 s3 s4 s5).set 29 (vi v) = e_Session_session { x with err := v } s0 s1 s2 s3 s4 s5 := by rfl
theorem e_Session_session_d_sides_Sender (x : Session_session) (s0 : AV) (s1 : AV) (s2 : AV) (s3 : AV) (s4 : AV) (s5 : AV) : sub? (e_Session_session x s0 s1 s2 s3 s4 s5) 0 9 = some (e_Sender x.sides.Sender s0) := by rfl
theorem e_Session_session_p_sides_Sender (x : Session_session) (s0 : AV) (s1 : AV) (s2 : AV) (s3 : AV) (s4 : AV) (s5 : AV) (v : Sender) (w0 : AV) : putAt (e_Session_session x s0 s1 s2 s3 s4 s5) 0 (e_Sender v w0) = e_Session_session { x with sides.Sender := v } w0 s1 s2 s3 s4 s5 := by rfl
theorem e_Session_session_d_sides_Reorder (x : Session_session) (s0 : AV) (s1 : AV) (s2 : AV) (s3 : AV) (s4 : AV) (s5 : AV) : sub? (e_Session_session x s0 s1 s2 s3 s4 s5) 9 6 = some (e_Reorder x.sides.Reorder s1) := by rfl
theorem e_Session_session_p_sides_Reorder (x : Session_session) (s0 : AV) (s1 : AV) (s2 : AV) (s3 : AV) (s4 : AV) (s5 : AV) (v : Reorder) (w0 : AV) : putAt (e_Session_session x s0 s1 s2 s3 s4 s5) 9 (e_Reorder v w0) = e_Session_session { x with sides.Reorder := v } s0 w0 s2 s3 s4 s5 := by rfl
theorem e_Session_session_d_plan (x : Session_session) (s0 : AV) (s1 : AV) (s2 : AV) (s3 : AV) (s4 : AV) (s5 : AV) : sub? (e_Session_session x s0 s1 s2 s3 s4 s5) 15 7 = some (e_SessionPlan x.plan) := by rfl
theorem e_Session_session_p_plan (x : Session_session) (s0 : AV) (s1 : AV) (s2 : AV) (s3 : AV) (s4 : AV) (s5 : AV) (v : SessionPlan) : putAt (e_Session_session x s0 s1 s2 s3 s4 s5) 15 (e_SessionPlan v) = e_Session_session { x with plan := v } s0 s1 s2 s3 s4 s5 := by rfl
theorem e_Session_session_d_out (x : Session_session) (s0 : AV) (s1 : AV) (s2 : AV) (s3 : AV) (s4 : AV) (s5 : AV) : sub? (e_Session_session x s0 s1 s2 s3 s4 s5) 25 4 = some (e_SessionResult x.out s3 s4 s5) := by rfl
theorem e_Session_session_fz (x : Session_session) (s0 : AV) (s1 : AV) (s2 : AV) (s3 : AV) (s4 : AV) (s5 : AV) (o : Nat → Ob) (n : Nat) : (e_Session_session x s0 s1 s2 s3 s4 s5).map (fz o (n + 1)) = e_Session_session x (fz o (n + 1) s0) (fz o (n + 1) s1) (fz o (n + 1) s2) (fz o (n + 1) s3) (fz o (n + 1) s4) (fz o (n + 1) s5) := by rfl
theorem e_Session_session_reach (x : Session_session) (s0 : AV) (s1 : AV) (s2 : AV) (s3 : AV) (s4 : AV) (s5 : AV) (o : Nat → Ob) (n : Nat) : (e_Session_session x s0 s1 s2 s3 s4 s5).flatMap (reach o (n + 1)) = reach o (n + 1) s0 ++ (reach o (n + 1) s1 ++ (reach o (n + 1) s2 ++ (reach o (n + 1) s3 ++ (reach o (n + 1) s4 ++ reach o (n + 1) s5)))) := by
  simp only [e_Session_session, e_Session_sides, e_Sender, e_Reorder, e_Window, e_SessionPlan, e_SessionResult, List.cons_append, List.nil_append, List.append_nil, List.flatMap_cons, List.flatMap_nil, reach_v]
theorem e_Session_session_clean (x : Session_session) (s0 : AV) (s1 : AV) (s2 : AV) (s3 : AV) (s4 : AV) (s5 : AV) (h_s0 : Clean s0) (h_s1 : Clean s1) (h_s2 : Clean s2) (h_s3 : Clean s3) (h_s4 : Clean s4) (h_s5 : Clean s5) : ∀ c ∈ (e_Session_session x s0 s1 s2 s3 s4 s5), Clean c := by
  simp only [e_Session_session, e_Session_sides, e_Sender, e_Reorder, e_Window, e_SessionPlan, e_SessionResult, List.cons_append, List.nil_append]
  repeat' (first | exact Clean.v _ | assumption | exact List.forall_mem_nil _ | refine List.forall_mem_cons.2 ⟨?_, ?_⟩)
theorem e_Session_session_tm {st : AS} {F : List Nat} {σ : List (Option Nat)} (x : Session_session) (s0 : AV) (s1 : AV) (s2 : AV) (s3 : AV) (s4 : AV) (s5 : AV) (s02 : AV) (s12 : AV) (s22 : AV) (s32 : AV) (s42 : AV) (s52 : AV) (h_s0 : Tm st F σ s0 s02) (h_s1 : Tm st F σ s1 s12) (h_s2 : Tm st F σ s2 s22) (h_s3 : Tm st F σ s3 s32) (h_s4 : Tm st F σ s4 s42) (h_s5 : Tm st F σ s5 s52) : TmL st F σ (e_Session_session x s0 s1 s2 s3 s4 s5) (e_Session_session x s02 s12 s22 s32 s42 s52) := by
  simp only [e_Session_session, e_Session_sides, e_Sender, e_Reorder, e_Window, e_SessionPlan, e_SessionResult, List.cons_append, List.nil_append]
  repeat' (first | exact TmL.nil | (refine TmL.cons (Tm.v _) ?_) | (refine TmL.cons (by assumption) ?_))
theorem e_Session_session_tmx {st : AS} {F : List Nat} {σ : List (Option Nat)} {x y : Session_session} {s0 s1 s2 s3 s4 s5 s02 s12 s22 s32 s42 s52 : AV} (hxy : e_Session_session y s02 s12 s22 s32 s42 s52 = e_Session_session x s02 s12 s22 s32 s42 s52) (h_s0 : Tm st F σ s0 s02) (h_s1 : Tm st F σ s1 s12) (h_s2 : Tm st F σ s2 s22) (h_s3 : Tm st F σ s3 s32) (h_s4 : Tm st F σ s4 s42) (h_s5 : Tm st F σ s5 s52) : TmL st F σ (e_Session_session x s0 s1 s2 s3 s4 s5) (e_Session_session y s02 s12 s22 s32 s42 s52) := by
  rw [hxy]; exact e_Session_session_tm x s0 s1 s2 s3 s4 s5 s02 s12 s22 s32 s42 s52 h_s0 h_s1 h_s2 h_s3 h_s4 h_s5
theorem e_Session_session_ren (x : Session_session) {s0 s1 s2 s3 s4 s5 : (Nat → Nat) → AV} (h_s0 : RenM s0) (h_s1 : RenM s1) (h_s2 : RenM s2) (h_s3 : RenM s3) (h_s4 : RenM s4) (h_s5 : RenM s5) : RenML fun q => e_Session_session x (s0 q) (s1 q) (s2 q) (s3 q) (s4 q) (s5 q) := by
  simp only [e_Session_session, e_Session_sides, e_Sender, e_Reorder, e_Window, e_SessionPlan, e_SessionResult, List.cons_append, List.nil_append]
  repeat' (first | exact RenML.nil | (refine RenML.cons (RenM.const (Clean.v _)) ?_) | (refine RenML.cons (by assumption) ?_))
attribute [go_sem] e_Session_session_len e_Session_session_sub e_Session_session_take e_Session_session_all e_Session_session_g_sides_Sender_Next e_Session_session_g_sides_Sender_Out e_Session_session_g_sides_Sender_Bar e_Session_session_g_plan_Start e_Session_session_g_plan_Burst e_Session_session_g_plan_Round e_Session_session_g_many e_Session_session_s_many e_Session_session_g_accepted e_Session_session_s_accepted e_Session_session_g_lost e_Session_session_s_lost e_Session_session_g_out_Delivered e_Session_session_s_out_Delivered e_Session_session_g_out_Acked e_Session_session_s_out_Acked e_Session_session_g_out_Dropped e_Session_session_s_out_Dropped e_Session_session_g_out_Rounds e_Session_session_s_out_Rounds e_Session_session_g_err e_Session_session_s_err e_Session_session_d_sides_Sender e_Session_session_p_sides_Sender e_Session_session_d_sides_Reorder e_Session_session_p_sides_Reorder e_Session_session_d_plan e_Session_session_p_plan e_Session_session_d_out e_Session_session_fz e_Session_session_reach

structure BlockAsk where
  Token : Int
  Tid : Int
  Size : Int
  Start : Int
  deriving DecidableEq

def BlockAsk.z : BlockAsk := ⟨0, 0, 0, 0⟩

def e_BlockAsk (x : BlockAsk) : List AV := [vi x.Token, vi x.Tid, vi x.Size, vi x.Start]

theorem e_BlockAsk_len (x : BlockAsk) : (e_BlockAsk x).length = 4 := by rfl
theorem e_BlockAsk_sub (x : BlockAsk) : sub? (e_BlockAsk x) 0 4 = some (e_BlockAsk x) := by rfl
theorem e_BlockAsk_take (x : BlockAsk) : (e_BlockAsk x).take 4 = (e_BlockAsk x) := by rfl
theorem e_BlockAsk_all (x : BlockAsk) (y : BlockAsk) : putAt (e_BlockAsk x) 0 (e_BlockAsk y) = e_BlockAsk y := by rfl
theorem e_BlockAsk_g_Token (x : BlockAsk) : (e_BlockAsk x)[0]? = some (vi x.Token) := by rfl
theorem e_BlockAsk_s_Token (x : BlockAsk) (v : Int) : (e_BlockAsk x).set 0 (vi v) = e_BlockAsk { x with Token := v } := by rfl
theorem e_BlockAsk_s_Tid (x : BlockAsk) (v : Int) : (e_BlockAsk x).set 1 (vi v) = e_BlockAsk { x with Tid := v } := by rfl
theorem e_BlockAsk_s_Size (x : BlockAsk) (v : Int) : (e_BlockAsk x).set 2 (vi v) = e_BlockAsk { x with Size := v } := by rfl
theorem e_BlockAsk_s_Start (x : BlockAsk) (v : Int) : (e_BlockAsk x).set 3 (vi v) = e_BlockAsk { x with Start := v } := by rfl
theorem e_BlockAsk_fz (x : BlockAsk) (o : Nat → Ob) (n : Nat) : (e_BlockAsk x).map (fz o (n + 1)) = e_BlockAsk x := by rfl
theorem e_BlockAsk_reach (x : BlockAsk) (o : Nat → Ob) (n : Nat) : (e_BlockAsk x).flatMap (reach o (n + 1)) = [] := by
  simp only [e_BlockAsk, List.cons_append, List.nil_append, List.append_nil, List.flatMap_cons, List.flatMap_nil, reach_v]
theorem e_BlockAsk_clean (x : BlockAsk) : ∀ c ∈ (e_BlockAsk x), Clean c := by
  simp only [e_BlockAsk, List.cons_append, List.nil_append]
  repeat' (first | exact Clean.v _ | assumption | exact List.forall_mem_nil _ | refine List.forall_mem_cons.2 ⟨?_, ?_⟩)
theorem f_BlockAsk (x : BlockAsk) (o : Nat → Ob) (n : Nat) : (e_BlockAsk x).map (fz o (n + 1)) = e_BlockAsk x := by simp only [e_BlockAsk_fz]
theorem q_BlockAsk (x : BlockAsk) (o : Nat → Ob) (n : Nat) : (e_BlockAsk x).flatMap (reach o (n + 1)) = [] := by simp only [e_BlockAsk_reach, List.append_nil]
attribute [go_sem] e_BlockAsk_len e_BlockAsk_sub e_BlockAsk_take e_BlockAsk_all e_BlockAsk_g_Token e_BlockAsk_s_Token e_BlockAsk_s_Tid e_BlockAsk_s_Size e_BlockAsk_s_Start e_BlockAsk_fz e_BlockAsk_reach f_BlockAsk q_BlockAsk

structure BlockAnswer where
  Token : Int
  Tid : Int
  Status : Int
  Size : Int
  deriving DecidableEq

def BlockAnswer.z : BlockAnswer := ⟨0, 0, 0, 0⟩

def e_BlockAnswer (x : BlockAnswer) : List AV := [vi x.Token, vi x.Tid, vi x.Status, vi x.Size]

theorem e_BlockAnswer_len (x : BlockAnswer) : (e_BlockAnswer x).length = 4 := by rfl
theorem e_BlockAnswer_sub (x : BlockAnswer) : sub? (e_BlockAnswer x) 0 4 = some (e_BlockAnswer x) := by rfl
theorem e_BlockAnswer_take (x : BlockAnswer) : (e_BlockAnswer x).take 4 = (e_BlockAnswer x) := by rfl
theorem e_BlockAnswer_all (x : BlockAnswer) (y : BlockAnswer) : putAt (e_BlockAnswer x) 0 (e_BlockAnswer y) = e_BlockAnswer y := by rfl
theorem e_BlockAnswer_g_Token (x : BlockAnswer) : (e_BlockAnswer x)[0]? = some (vi x.Token) := by rfl
theorem e_BlockAnswer_s_Token (x : BlockAnswer) (v : Int) : (e_BlockAnswer x).set 0 (vi v) = e_BlockAnswer { x with Token := v } := by rfl
theorem e_BlockAnswer_g_Tid (x : BlockAnswer) : (e_BlockAnswer x)[1]? = some (vi x.Tid) := by rfl
theorem e_BlockAnswer_g_Status (x : BlockAnswer) : (e_BlockAnswer x)[2]? = some (vi x.Status) := by rfl
theorem e_BlockAnswer_g_Size (x : BlockAnswer) : (e_BlockAnswer x)[3]? = some (vi x.Size) := by rfl
theorem e_BlockAnswer_s_Size (x : BlockAnswer) (v : Int) : (e_BlockAnswer x).set 3 (vi v) = e_BlockAnswer { x with Size := v } := by rfl
theorem e_BlockAnswer_fz (x : BlockAnswer) (o : Nat → Ob) (n : Nat) : (e_BlockAnswer x).map (fz o (n + 1)) = e_BlockAnswer x := by rfl
theorem e_BlockAnswer_reach (x : BlockAnswer) (o : Nat → Ob) (n : Nat) : (e_BlockAnswer x).flatMap (reach o (n + 1)) = [] := by
  simp only [e_BlockAnswer, List.cons_append, List.nil_append, List.append_nil, List.flatMap_cons, List.flatMap_nil, reach_v]
theorem e_BlockAnswer_clean (x : BlockAnswer) : ∀ c ∈ (e_BlockAnswer x), Clean c := by
  simp only [e_BlockAnswer, List.cons_append, List.nil_append]
  repeat' (first | exact Clean.v _ | assumption | exact List.forall_mem_nil _ | refine List.forall_mem_cons.2 ⟨?_, ?_⟩)
theorem f_BlockAnswer (x : BlockAnswer) (o : Nat → Ob) (n : Nat) : (e_BlockAnswer x).map (fz o (n + 1)) = e_BlockAnswer x := by simp only [e_BlockAnswer_fz]
theorem q_BlockAnswer (x : BlockAnswer) (o : Nat → Ob) (n : Nat) : (e_BlockAnswer x).flatMap (reach o (n + 1)) = [] := by simp only [e_BlockAnswer_reach, List.append_nil]
attribute [go_sem] e_BlockAnswer_len e_BlockAnswer_sub e_BlockAnswer_take e_BlockAnswer_all e_BlockAnswer_g_Token e_BlockAnswer_s_Token e_BlockAnswer_g_Tid e_BlockAnswer_g_Status e_BlockAnswer_g_Size e_BlockAnswer_s_Size e_BlockAnswer_fz e_BlockAnswer_reach f_BlockAnswer q_BlockAnswer

def S_Frame (l : List Frame) : AV := .imm (List.flatMap E_Frame l) l.length
theorem S_Frame_eq (l : List Frame) : S_Frame l = .imm (List.flatMap E_Frame l) l.length := rfl
theorem l_Frame (x : Frame) : (E_Frame x).length = 41 := by rfl
theorem S_Frame_clean (l : List Frame) : Clean (S_Frame l) := Clean.imm (rows_clean E_Frame_clean l)
theorem c_Frame (l : List Frame) : ∀ c ∈ l.flatMap E_Frame, Clean c := rows_clean E_Frame_clean l
theorem r_Frame_len (l : List Frame) : (l.flatMap E_Frame).length = l.length * 41 := flat_len l_Frame l
theorem r_Frame_get (l : List Frame) (i o : Nat) (ho : o < 41) : (l.flatMap E_Frame)[i * 41 + o]? = l[i]?.bind fun a => (E_Frame a)[o]? := rows_get l_Frame l i o ho
theorem r_Frame_get0 (l : List Frame) (i : Nat) : (l.flatMap E_Frame)[i * 41]? = l[i]?.bind fun a => (E_Frame a)[0]? := rows_get l_Frame l i 0 (by decide)
theorem r_Frame_sub (l : List Frame) (i o n : Nat) (ho : o + n ≤ 41) (hn : 0 < n) : sub? (l.flatMap E_Frame) (i * 41 + o) n = l[i]?.bind fun a => sub? (E_Frame a) o n := rows_sub l_Frame l i o n ho hn
theorem r_Frame_sub0 (l : List Frame) (i n : Nat) (ho : n ≤ 41) (hn : 0 < n) : sub? (l.flatMap E_Frame) (i * 41) n = l[i]?.bind fun a => sub? (E_Frame a) 0 n := rows_sub l_Frame l i 0 n (by omega) hn
theorem r_Frame_subw (l : List Frame) : sub? (l.flatMap E_Frame) 0 (l.length * 41) = some (l.flatMap E_Frame) := rows_subw l_Frame l
theorem r_Frame_take (l : List Frame) (n : Nat) : (l.flatMap E_Frame).take (n * 41) = (l.take n).flatMap E_Frame := rows_take l_Frame l n
theorem r_Frame_drop (l : List Frame) (n : Nat) : (l.flatMap E_Frame).drop (n * 41) = (l.drop n).flatMap E_Frame := rows_drop l_Frame l n
theorem r_Frame_fz (l : List Frame) (o : Nat → Ob) (n : Nat) : (l.flatMap E_Frame).map (fz o (n + 2)) = (l.flatMap E_Frame) := rows_fz (fun a => f_Frame a o n) l
theorem r_Frame_rch (l : List Frame) (o : Nat → Ob) (n : Nat) : (l.flatMap E_Frame).flatMap (reach o (n + 2)) = [] := rows_reach (fun a => q_Frame a o n) l
theorem r_Frame_s_Head_Retry (l : List Frame) (i : Nat) (v : Bool) : (l.flatMap E_Frame).set (i * 41 + 5) (vb v) = (l.modify i (fun y => { y with Head.Retry := v })).flatMap E_Frame := rows_set l_Frame l i 5 _ (fun y => { y with Head.Retry := v }) (by decide) (fun _ => by rfl)
theorem r_Frame_s_Head_Seq (l : List Frame) (i : Nat) (v : Int) : (l.flatMap E_Frame).set (i * 41 + 34) (vi v) = (l.modify i (fun y => { y with Head.Seq := v })).flatMap E_Frame := rows_set l_Frame l i 34 _ (fun y => { y with Head.Seq := v }) (by decide) (fun _ => by rfl)
theorem r_Frame_s_Head_Tid (l : List Frame) (i : Nat) (v : Int) : (l.flatMap E_Frame).set (i * 41 + 36) (vi v) = (l.modify i (fun y => { y with Head.Tid := v })).flatMap E_Frame := rows_set l_Frame l i 36 _ (fun y => { y with Head.Tid := v }) (by decide) (fun _ => by rfl)
theorem r_Frame_put (l : List Frame) (i : Nat) (x : Frame) (b0 : (List Int)) : putAt (l.flatMap E_Frame) (i * 41) (e_Frame x (.imm (List.map vu b0) b0.length)) = (l.set i { x with Body := b0 }).flatMap E_Frame := rows_put l_Frame (by decide) l i { x with Body := b0 }
theorem r_Frame_app (l : List Frame) (x : Frame) (b0 : (List Int)) : (l.flatMap E_Frame) ++ e_Frame x (S_vu b0) = (l ++ [{ x with Body := b0 }]).flatMap E_Frame := by rw [List.flatMap_append]; simp only [List.flatMap_cons, List.flatMap_nil, List.append_nil]; rfl
theorem r_Frame_cat (l : List Frame) (m : List Frame) : (l.flatMap E_Frame) ++ m.flatMap E_Frame = (l ++ m).flatMap E_Frame := List.flatMap_append.symm
theorem f_S_Frame (l : List Frame) (o : Nat → Ob) (n : Nat) : fz o (n + 3) (S_Frame l) = S_Frame l := by simp only [S_Frame_eq, fz, r_Frame_fz]
theorem q_S_Frame (l : List Frame) (o : Nat → Ob) (n : Nat) : reach o (n + 3) (S_Frame l) = [] := by simp only [S_Frame_eq, reach, r_Frame_rch]
attribute [go_sem] S_Frame_eq l_Frame r_Frame_len r_Frame_get r_Frame_get0 r_Frame_sub r_Frame_sub0 r_Frame_subw r_Frame_take r_Frame_drop r_Frame_fz r_Frame_rch r_Frame_s_Head_Retry r_Frame_s_Head_Seq r_Frame_s_Head_Tid r_Frame_put r_Frame_app r_Frame_cat f_S_Frame q_S_Frame

end Go.AX.Z.TN

/-! (TND) -/

set_option linter.unusedSimpArgs false
set_option linter.unusedVariables false
set_option maxHeartbeats 4000000
set_option maxRecDepth 20000
namespace Go.AX.Z.TN
open Go.AX

def hotspotlaw20_example : Option SessionPlan :=
  some { SessionPlan.z with Burst := 2, Hold := 16777216, Life := 1073741824, Limit := 2, Round := 10, Size := 2, Start := 4095 }

def session_within (a0 : Int) (a1 : Int) (a2 : Int) : Option Bool :=
  some ((decide (a1 ≤ a0)) && (decide (a0 ≤ a2)))

def session_Check (a0 : SessionPlan) : Option Int :=
  ((session_within a0.Start 0 4095).bind fun x2 =>
  ((
    bif x2 then
      ((session_within a0.Size 1 64).bind fun x3 =>
      some x3)
    else
      some false).bind fun x4 =>
  ((
    bif x4 then
      ((session_within a0.Limit 1 16).bind fun x5 =>
      some x5)
    else
      some false).bind fun x6 =>
  ((
    bif x6 then
      ((session_within a0.Burst 1 64).bind fun x7 =>
      some x7)
    else
      some false).bind fun x8 =>
  ((session_within a0.Life 1 1073741824).bind fun x9 =>
  ((
    bif x9 then
      ((session_within a0.Hold 0 16777216).bind fun x10 =>
      some x10)
    else
      some false).bind fun x11 =>
  ((
    bif x11 then
      ((session_within a0.Round 1 1000000).bind fun x12 =>
      some x12)
    else
      some false).bind fun x13 =>
  bif ((!x8) || (!x13)) then
    some 8
  else
    some 0)))))))

def sender_within (a0 : Int) (a1 : Int) (a2 : Int) : Option Bool :=
  some ((decide (a1 ≤ a0)) && (decide (a0 ≤ a2)))

def sender_start (a0 : Sender) : Option Int :=
  bif decide (0 < (a0.Out.length : Int)) then
    ((idx a0.Out 0).bind fun x27 =>
    some x27.Frame.Head.Seq)
  else
    some a0.Next

def window_Dist (a0 : Int) (a1 : Int) : Option Int :=
  some (IntKind.wrap .i64 (band .u64 (IntKind.wrap .u64 ((IntKind.wrap .u64 a1) - (IntKind.wrap .u64 a0))) 4095))

def sender_Check_L4 (a0 : Sender) (x27 : Int) (x28 : Int) : Nat → (Int × Int × Int) → Option (Ex Int Unit)
  | 0, _ => none
  | n15 + 1, d31 =>
    bif decide (d31.2.2 < (a0.Out.length : Int)) then
      ((idx a0.Out d31.2.2).bind fun x32 =>
      ((window_Dist x27 x32.Frame.Head.Seq).bind fun x33 =>
      ((sender_within x32.Frame.Head.Seq 0 4095).bind fun x34 =>
      ((
        bif (((!x34) || (decide (x33 ≤ d31.1))) || (decide (x28 ≤ x33))) then
          some true
        else
          ((sender_within x32.At d31.2.1 1099511627776).bind fun x35 =>
          some (!x35))).bind fun x36 =>
      ((
        bif x36 then
          some true
        else
          ((sender_within x32.Tries 0 a0.Limit).bind fun x37 =>
          some (!x37))).bind fun x38 =>
      bif (x38 || (x32.Flying && (x32.Tries == 0))) then
        some (Ex.ret 8)
      else
        sender_Check_L4 a0 x27 x28 n15 (x33, x32.At, IntKind.wrap .i64 (d31.2.2 + 1)))))))
    else
      some (Ex.go ())

def sender_Check (a0 : Sender) : Option Int :=
  ((sender_within a0.Tid 0 7).bind fun x16 =>
  ((
    bif (x16 && (decide (a0.Phase ≤ 2))) then
      ((sender_within a0.Token 0 255).bind fun x17 =>
      some x17)
    else
      some false).bind fun x18 =>
  ((
    bif x18 then
      ((sender_within a0.Next 0 4095).bind fun x19 =>
      some x19)
    else
      some false).bind fun x20 =>
  ((
    bif x20 then
      ((sender_within a0.Limit 1 16).bind fun x21 =>
      some x21)
    else
      some false).bind fun x22 =>
  ((
    bif x22 then
      ((sender_within a0.Life 1 1073741824).bind fun x23 =>
      some x23)
    else
      some false).bind fun x24 =>
  ((sender_within a0.Size 1 64).bind fun x25 =>
  ((
    bif (a0.Phase == 0) then
      some (a0.Size == 0)
    else
      some x25).bind fun d26 =>
  bif (((!x24) || (!d26)) || ((a0.Phase != 2) && ((decide (0 < (a0.Out.length : Int))) || a0.Bar))) then
    some 8
  else
    ((sender_start a0).bind fun x27 =>
    ((window_Dist x27 a0.Next).bind fun x28 =>
    bif decide (a0.Size < x28) then
      some 8
    else
      ((
        sender_Check_L4 a0 x27 x28 big ((-1), 0, 0)).bind fun o30 =>
      (o30.k fun d29 =>
      some 0)))))))))))

def sender_New (a0 : Int) (a1 : Int) (a2 : Int) (a3 : Int) : Option (Sender × Int) :=
  ((sender_Check { Sender.z with Life := a3, Limit := a2, Next := a1, Tid := a0 }).bind fun x16 =>
  bif (x16 != 0) then
    some (Sender.z, 2)
  else
    some ({ Sender.z with Life := a3, Limit := a2, Next := a1, Tid := a0 }, 0))

def session_session_keep (a0 : Int) (a1 : Session_session) (a2 : (List Bool)) : Option Session_session :=
  bif (a1.err == 0) then
    some { a1 with err := a0 }
  else
    some a1

def header_Twin (a0 : Frame) : Option Frame :=
  ((chk (decide (a0.Body.length ≤ 140737488355328))).bind fun x23 =>
  some a0)

def sender_twin_L2 (a0 : Sender) : Nat → (List Unacked × Int) → Option ((List Unacked))
  | 0, _ => none
  | n2 + 1, d22 =>
    bif decide (d22.2 < (a0.Out.length : Int)) then
      ((idx a0.Out d22.2).bind fun x23 =>
      ((header_Twin x23.Frame).bind fun x24 =>
      ((chk (decide ((d22.1.length + 1) * 128 ≤ 140737488355328))).bind fun x25 =>
      sender_twin_L2 a0 n2 ((d22.1 ++ [{ x23 with Frame := x24 }]), IntKind.wrap .i64 (d22.2 + 1)))))
    else
      some d22.1

def sender_twin (a0 : Sender) : Option Sender :=
  ((
    sender_twin_L2 a0 big ([], 0)).bind fun d21 =>
  some { a0 with Out := d21 })

def sender_Ask (a0 : Sender) (a1 : Int) : Option (BlockAsk × Sender × Int) :=
  ((sender_Check a0).bind fun x19 =>
  bif (x19 != 0) then
    some (BlockAsk.z, Sender.z, x19)
  else
    ((sender_within a1 1 64).bind fun x20 =>
    bif (!x20) then
      some (BlockAsk.z, Sender.z, 2)
    else
      bif (a0.Phase == 2) then
        some (BlockAsk.z, Sender.z, 20)
      else
        ((sender_twin { a0 with Phase := 1, Size := a1, Token := IntKind.wrap .i64 ((a0.Token.tmod 255) + 1) }).bind fun x21 =>
        some ({ BlockAsk.z with Size := a1, Start := a0.Next, Tid := a0.Tid, Token := IntKind.wrap .i64 ((a0.Token.tmod 255) + 1) }, x21, 0))))

def sender_Answer (a0 : Sender) (a1 : BlockAnswer) : Option (Sender × Int) :=
  ((sender_Check a0).bind fun x24 =>
  ((
    bif (x24 != 0) then
      some (Ex.ret (Sender.z, x24))
    else
      bif (a0.Phase != 1) then
        some (Ex.ret (Sender.z, 20))
      else
        bif ((a1.Token != a0.Token) || (a1.Tid != a0.Tid)) then
          some (Ex.ret (Sender.z, 21))
        else
          bif (a1.Status != 0) then
            some (Ex.go { a0 with Phase := 0, Size := 0 })
          else
            ((sender_within a1.Size 1 a0.Size).bind fun x27 =>
            bif (!x27) then
              some (Ex.ret (Sender.z, 2))
            else
              some (Ex.go { a0 with Phase := 2, Size := a1.Size }))).bind fun o26 =>
  (o26.k fun d25 =>
  ((sender_twin d25).bind fun x28 =>
  some (x28, 0)))))

def reorder_number (a0 : Int) : Option Bool :=
  some ((decide (0 ≤ a0)) && (decide (a0 < 4096)))

def window_number (a0 : Int) : Option Bool :=
  some ((decide (0 ≤ a0)) && (decide (a0 < 4096)))

def window_Check (a0 : Window) : Option Int :=
  ((window_number a0.Start).bind fun x32 =>
  bif (!x32) then
    some 8
  else
    some 0)

def reorder_moment (a0 : Int) : Option Bool :=
  some ((decide (0 ≤ a0)) && (decide (a0 ≤ 1099511627776)))

def reorder_Check_L2 (a0 : Reorder) : Nat → (Int × Int) → Option (Ex Int Unit)
  | 0, _ => none
  | n8 + 1, d36 =>
    bif decide (d36.2 < (a0.Held.length : Int)) then
      ((idx a0.Held d36.2).bind fun x37 =>
      ((window_Dist a0.Start x37.Frame.Head.Seq).bind fun x38 =>
      ((reorder_number x37.Frame.Head.Seq).bind fun x39 =>
      ((
        bif (!x39) then
          some true
        else
          ((reorder_moment x37.At).bind fun x40 =>
          some (!x40))).bind fun x41 =>
      bif ((x41 || (decide (x38 ≤ d36.1))) || (decide (a0.Size ≤ x38))) then
        some (Ex.ret 8)
      else
        reorder_Check_L2 a0 n8 (x38, IntKind.wrap .i64 (d36.2 + 1))))))
    else
      some (Ex.go ())

def reorder_Check (a0 : Reorder) : Option Int :=
  ((reorder_number a0.Start).bind fun x31 =>
  ((
    bif (((((!x31) || (decide (a0.Size < 1))) || (decide (64 < a0.Size))) || (decide (a0.Hold < 0))) || (decide (16777216 < a0.Hold))) then
      some true
    else
      ((window_Check a0.Seen).bind fun x32 =>
      some (x32 != 0))).bind fun x33 =>
  bif x33 then
    some 8
  else
    ((
      reorder_Check_L2 a0 big (0, 0)).bind fun o35 =>
    (o35.k fun d34 =>
    some 0))))

def reorder_New (a0 : Int) (a1 : Int) (a2 : Int) : Option (Reorder × Int) :=
  ((reorder_Check { Reorder.z with Hold := a2, Seen := { Window.z with Start := a0 }, Size := a1, Start := a0 }).bind fun x31 =>
  bif (x31 != 0) then
    some (Reorder.z, 2)
  else
    some ({ Reorder.z with Hold := a2, Seen := { Window.z with Start := a0 }, Size := a1, Start := a0 }, 0))

def session_session_begin (a0 : Session_session) (a1 : (List Bool)) : Option Session_session :=
  ((sender_New 0 a0.plan.Start a0.plan.Limit a0.plan.Life).bind fun x16 =>
  ((session_session_keep x16.2 a0 a1).bind fun x17 =>
  ((sender_Ask x16.1 a0.plan.Size).bind fun x18 =>
  ((session_session_keep x18.2.2 { x17 with out.Acked := a0.out.Acked, out.Delivered := a0.out.Delivered, out.Dropped := a0.out.Dropped } a1).bind fun x19 =>
  ((sender_Answer x18.2.1 { BlockAnswer.z with Size := a0.plan.Size, Token := x18.1.Token }).bind fun x20 =>
  ((session_session_keep x20.2 { x19 with out.Acked := a0.out.Acked, out.Delivered := a0.out.Delivered, out.Dropped := a0.out.Dropped, sides.Sender := x20.1 } a1).bind fun x21 =>
  ((reorder_New a0.plan.Start a0.plan.Size a0.plan.Hold).bind fun x22 =>
  ((session_session_keep x22.2 { x21 with out.Acked := a0.out.Acked, out.Delivered := a0.out.Delivered, out.Dropped := a0.out.Dropped, sides.Reorder := x22.1 } a1).bind fun x23 =>
  some x23))))))))

def sender_Close_L2 (a0 : Sender) : Nat → (List Int × Int) → Option ((List Int))
  | 0, _ => none
  | n3 + 1, d28 =>
    bif decide (d28.2 < (a0.Out.length : Int)) then
      ((idx a0.Out d28.2).bind fun x29 =>
      ((chk (decide ((d28.1.length + 1) * 8 ≤ 140737488355328))).bind fun x30 =>
      sender_Close_L2 a0 n3 ((d28.1 ++ [x29.Frame.Head.Seq]), IntKind.wrap .i64 (d28.2 + 1))))
    else
      some d28.1

def sender_Close (a0 : Sender) : Option ((List Int) × Sender × Int) :=
  ((sender_Check a0).bind fun x26 =>
  bif (x26 != 0) then
    some ([], Sender.z, x26)
  else
    ((
      sender_Close_L2 a0 big ([], 0)).bind fun d27 =>
    some (d27, { a0 with Bar := false, Out := [], Phase := 0, Size := 0 }, 0)))

def session_session_indices_L2 (a2 : (List Int)) (a0 : Session_session) : Nat → (List Int × Int) → Option ((List Int))
  | 0, _ => none
  | n2 + 1, d34 =>
    bif decide (d34.2 < (a2.length : Int)) then
      ((idx a2 d34.2).bind fun x35 =>
      ((window_Dist a0.plan.Start x35).bind fun x36 =>
      ((chk (decide ((d34.1.length + 1) * 8 ≤ 140737488355328))).bind fun x37 =>
      session_session_indices_L2 a2 a0 n2 ((d34.1 ++ [x36]), IntKind.wrap .i64 (d34.2 + 1)))))
    else
      some d34.1

def session_session_indices (a0 : Session_session) (a1 : (List Bool)) (a2 : (List Int)) : Option (List Int) :=
  ((
    session_session_indices_L2 a2 a0 big ([], 0)).bind fun d33 =>
  some d33)

def reorder_twin_L2 (a0 : (List HeldSeq)) : Nat → (List HeldSeq × Int) → Option ((List HeldSeq))
  | 0, _ => none
  | n2 + 1, d46 =>
    bif decide (d46.2 < (a0.length : Int)) then
      ((idx a0 d46.2).bind fun x47 =>
      ((header_Twin x47.Frame).bind fun x48 =>
      ((chk (decide ((d46.1.length + 1) * 112 ≤ 140737488355328))).bind fun x49 =>
      reorder_twin_L2 a0 n2 ((d46.1 ++ [{ HeldSeq.z with At := x47.At, Frame := x48 }]), IntKind.wrap .i64 (d46.2 + 1)))))
    else
      some d46.1

def reorder_twin (a0 : (List HeldSeq)) : Option (List HeldSeq) :=
  ((
    reorder_twin_L2 a0 big ([], 0)).bind fun d45 =>
  some d45)

def reorder_place_1 (a0 : HeldSeq) (a1 : Int) (a2 : Reorder) : Option Int :=
  ((window_Dist a2.Start a0.Frame.Head.Seq).bind fun x55 =>
  some (IntKind.wrap .i64 (x55 - a1)))

def slices_BinarySearchFunc_api_HeldSeq_api_HeldSeq_int_L2 (a0 : (List HeldSeq)) (a1 : Int) (a2 : Reorder) : Nat → (Int × Int) → Option (Int)
  | 0, _ => none
  | n2 + 1, d54 =>
    bif decide (d54.1 < d54.2) then
      ((idx a0 (IntKind.wrap .i64 (((IntKind.wrap .u64 (IntKind.wrap .i64 (d54.1 + d54.2)))).fdiv (2 ^ (min 1 64))))).bind fun x55 =>
      ((reorder_place_1 x55 a1 a2).bind fun x56 =>
      bif decide (x56 < 0) then
        slices_BinarySearchFunc_api_HeldSeq_api_HeldSeq_int_L2 a0 a1 a2 n2 (IntKind.wrap .i64 ((IntKind.wrap .i64 (((IntKind.wrap .u64 (IntKind.wrap .i64 (d54.1 + d54.2)))).fdiv (2 ^ (min 1 64)))) + 1), d54.2)
      else
        slices_BinarySearchFunc_api_HeldSeq_api_HeldSeq_int_L2 a0 a1 a2 n2 (d54.1, IntKind.wrap .i64 (((IntKind.wrap .u64 (IntKind.wrap .i64 (d54.1 + d54.2)))).fdiv (2 ^ (min 1 64))))))
    else
      some d54.1

def slices_BinarySearchFunc_api_HeldSeq_api_HeldSeq_int (a0 : (List HeldSeq)) (a1 : Int) (a2 : Reorder) : Option (Int × Bool) :=
  ((
    slices_BinarySearchFunc_api_HeldSeq_api_HeldSeq_int_L2 a0 a1 a2 big (0, (a0.length : Int))).bind fun d53 =>
  bif decide (d53 < (a0.length : Int)) then
    ((idx a0 d53).bind fun x57 =>
    ((reorder_place_1 x57 a1 a2).bind fun x58 =>
    some (d53, (x58 == 0))))
  else
    some (d53, false))

def reorder_place (a0 : Reorder) (a1 : Int) : Option (Int × Bool) :=
  ((window_Dist a0.Start a1).bind fun x52 =>
  ((slices_BinarySearchFunc_api_HeldSeq_api_HeldSeq_int a0.Held x52 a0).bind fun x53 =>
  some (x53.1, x53.2)))

def window_Add (a0 : Int) (a1 : Int) : Option Int :=
  some (IntKind.wrap .i64 (band .u64 (IntKind.wrap .u64 ((IntKind.wrap .u64 a0) + (IntKind.wrap .u64 a1))) 4095))

def reorder_move_L2 (a0 : Reorder) : Nat → (List Frame × Nat × Int × Int) → Option ((List Frame))
  | 0, _ => none
  | n2 + 1, d55 =>
    bif decide (d55.2.2.2 < d55.2.2.1) then
      ((chk (decide (d55.2.2.2 < (d55.2.1 : Int)))).bind fun x56 =>
      ((idx a0.Held d55.2.2.2).bind fun x57 =>
      ((chk (decide ((d55.1.length + 1) * 104 ≤ 140737488355328))).bind fun x58 =>
      reorder_move_L2 a0 n2 ((d55.1 ++ [x57.Frame]), d55.2.1, d55.2.2.1, IntKind.wrap .i64 (d55.2.2.2 + 1)))))
    else
      some d55.1

def reorder_move_L5 : Nat → (Reorder × List HeldSeq × List Frame) → Option ((Reorder × List HeldSeq × List Frame))
  | 0, _ => none
  | n7 + 1, d61 =>
    ((
      bif decide (0 < ((d61.2.1.length : Nat) : Int)) then
        ((idx d61.2.1 0).bind fun x62 =>
        some (x62.Frame.Head.Seq == d61.1.Start))
      else
        some false).bind fun x63 =>
    bif x63 then
      ((idx d61.2.1 0).bind fun x64 =>
      ((chk (decide ((d61.2.2.length + 1) * 104 ≤ 140737488355328))).bind fun x65 =>
      ((window_Add d61.1.Start 1).bind fun x66 =>
      ((chk (decide (1 ≤ (d61.2.1.length : Int)))).bind fun x67 =>
      reorder_move_L5 n7 ({ d61.1 with Start := x66 }, (List.drop 1 d61.2.1), (d61.2.2 ++ [x64.Frame]))))))
    else
      some (d61.1, d61.2.1, d61.2.2))

def reorder_move (a0 : Reorder) (a1 : Int) : Option (List Frame × Reorder × List HeldSeq) :=
  ((reorder_place a0 a1).bind fun x52 =>
  ((chk (decide (0 ≤ x52.1) && decide (x52.1 ≤ (a0.Held.length : Int)))).bind fun x53 =>
  ((
    reorder_move_L2 a0 big ([], (x52.1).toNat, (((x52.1).toNat : Nat) : Int), 0)).bind fun d54 =>
  ((chk (decide (0 ≤ x52.1) && decide (x52.1 ≤ (a0.Held.length : Int)))).bind fun x59 =>
  ((
    reorder_move_L5 big ({ a0 with Start := a1 }, (List.drop ((x52.1).toNat) a0.Held), d54)).bind fun d60 =>
  some (d60.2.2, d60.1, d60.2.1))))))

def reorder_Bar (a0 : Reorder) (a1 : Int) : Option ((List Frame) × Reorder × Int) :=
  ((reorder_Check a0).bind fun x43 =>
  bif (x43 != 0) then
    some ([], Reorder.z, x43)
  else
    ((reorder_number a1).bind fun x44 =>
    bif (!x44) then
      some ([], Reorder.z, 2)
    else
      ((reorder_twin a0.Held).bind fun x45 =>
      ((window_Dist a0.Start a1).bind fun x46 =>
      bif decide (2048 ≤ x46) then
        some ([], { a0 with Held := x45 }, 0)
      else
        ((reorder_move { a0 with Held := x45 } a1).bind fun x47 =>
        some (x47.1, { x47.2.1 with Held := x47.2.2 }, 0))))))

def session_session_released_L2 (a0 : (List Frame)) (a1 : Session_session) : Nat → (List Int × Int) → Option ((List Int))
  | 0, _ => none
  | n2 + 1, d51 =>
    bif decide (d51.2 < (a0.length : Int)) then
      ((idx a0 d51.2).bind fun x52 =>
      ((window_Dist a1.plan.Start x52.Head.Seq).bind fun x53 =>
      ((chk (decide ((d51.1.length + 1) * 8 ≤ 140737488355328))).bind fun x54 =>
      session_session_released_L2 a0 a1 n2 ((d51.1 ++ [x53]), IntKind.wrap .i64 (d51.2 + 1)))))
    else
      some d51.1

def session_session_released (a0 : (List Frame)) (a1 : Session_session) (a2 : (List Bool)) : Option (List Int) :=
  ((
    session_session_released_L2 a0 a1 big (a1.out.Delivered, 0)).bind fun d50 =>
  some d50)

def session_session_move (a0 : Int) (a1 : Session_session) (a2 : (List Bool)) : Option (Session_session × List Int) :=
  ((reorder_Bar a1.sides.Reorder a0).bind fun x43 =>
  ((session_session_keep x43.2.2 a1 a2).bind fun x44 =>
  ((session_session_released x43.1 { x44 with out.Acked := a1.out.Acked, out.Delivered := a1.out.Delivered, out.Dropped := a1.out.Dropped, sides.Reorder := x43.2.1 } a2).bind fun x45 =>
  some ({ x44 with out.Acked := a1.out.Acked, out.Delivered := a1.out.Delivered, out.Dropped := a1.out.Dropped, sides.Reorder := x43.2.1 }, x45))))

def session_session_close_L4 (x27 : Session_session) : Nat → (List Int × Int) → Option ((List Int))
  | 0, _ => none
  | n2 + 1, d31 =>
    bif decide (d31.2 < x27.many) then
      ((chk (decide ((d31.1.length + 1) * 8 ≤ 140737488355328))).bind fun x32 =>
      session_session_close_L4 x27 n2 ((d31.1 ++ [d31.2]), IntKind.wrap .i64 (d31.2 + 1)))
    else
      some d31.1

def session_session_close (a0 : Session_session) (a1 : (List Bool)) : Option (Session_session × List Int × List Int) :=
  ((sender_Close a0.sides.Sender).bind fun x26 =>
  ((session_session_keep x26.2.2 a0 a1).bind fun x27 =>
  ((session_session_indices { x27 with out.Acked := a0.out.Acked, out.Delivered := a0.out.Delivered, out.Dropped := a0.out.Dropped, sides.Sender := x26.2.1 } a1 x26.1).bind fun x28 =>
  ((chk (decide ((a0.out.Dropped.length + x28.length) * 8 ≤ 140737488355328))).bind fun x29 =>
  ((
    session_session_close_L4 x27 big ((a0.out.Dropped ++ x28), x27.accepted)).bind fun d30 =>
  ((session_session_move x26.2.1.Next { x27 with out.Acked := a0.out.Acked, out.Delivered := a0.out.Delivered, out.Dropped := d30, sides.Sender := x26.2.1 } a1).bind fun x33 =>
  some (x33.1, x33.2, d30)))))))

def sender_open (a0 : Sender) (a1 : Bool) : Option (Sender × Int) :=
  ((sender_Check a0).bind fun x36 =>
  bif (x36 != 0) then
    some (Sender.z, x36)
  else
    bif (!a1) then
      some (Sender.z, 2)
    else
      bif (a0.Phase != 2) then
        some (Sender.z, 20)
      else
        ((sender_twin a0).bind fun x37 =>
        some (x37, 0)))

def sender_Expire_1 (a0 : Unacked) (a1 : Sender) (a2 : Int) : Option Bool :=
  some ((!a0.Flying) && ((a0.Tries == a1.Limit) || (decide ((IntKind.wrap .i64 (a0.At + a1.Life)) ≤ a2))))

def sender_remove_1_2 (a0 : Unacked) (a1 : Sender) (a2 : Int) (a3 : List Int) : Option (Bool × List Int) :=
  ((sender_Expire_1 a0 a1 a2).bind fun x41 =>
  bif x41 then
    ((chk (decide ((a3.length + 1) * 8 ≤ 140737488355328))).bind fun x42 =>
    some (x41, (a3 ++ [a0.Frame.Head.Seq])))
  else
    some (x41, a3))

def slices_IndexFunc_api_Unacked_api_Unacked_L2 (a0 : Sender) (a1 : Int) : Nat → (List Int × Int) → Option (Ex (Int × List Int) (List Int))
  | 0, _ => none
  | n2 + 1, d41 =>
    bif decide (d41.2 < ((a0.Out.length : Nat) : Int)) then
      ((idx a0.Out d41.2).bind fun x42 =>
      ((sender_remove_1_2 x42 a0 a1 d41.1).bind fun x43 =>
      bif x43.1 then
        some (Ex.ret (d41.2, x43.2))
      else
        slices_IndexFunc_api_Unacked_api_Unacked_L2 a0 a1 n2 (x43.2, IntKind.wrap .i64 (d41.2 + 1))))
    else
      some (Ex.go d41.1)

def slices_IndexFunc_api_Unacked_api_Unacked (a0 : Sender) (a1 : Int) : Option (Int × List Int) :=
  ((
    slices_IndexFunc_api_Unacked_api_Unacked_L2 a0 a1 big ([], 0)).bind fun o40 =>
  (o40.k fun d39 =>
  some ((-1), d39)))

def slices_DeleteFunc_api_Unacked_api_Unacked_L2 (a1 : Int) : Nat → (List Unacked × Sender × List Int × Int × Int) → Option ((List Unacked × Int × Sender × List Int))
  | 0, _ => none
  | n3 + 1, d41 =>
    bif decide (d41.2.2.2.2 < ((d41.1.length : Nat) : Int)) then
      ((idx d41.1 d41.2.2.2.2).bind fun x42 =>
      ((sender_remove_1_2 x42 { d41.2.1 with Out := d41.1 } a1 d41.2.2.1).bind fun x43 =>
      bif (!x43.1) then
        ((idx d41.1 d41.2.2.2.1).bind fun x44 =>
        slices_DeleteFunc_api_Unacked_api_Unacked_L2 a1 n3 ((d41.1.set ((d41.2.2.2.1).toNat) x42), { d41.2.1 with Out := d41.1 }, x43.2, IntKind.wrap .i64 (d41.2.2.2.1 + 1), IntKind.wrap .i64 (d41.2.2.2.2 + 1)))
      else
        slices_DeleteFunc_api_Unacked_api_Unacked_L2 a1 n3 (d41.1, { d41.2.1 with Out := d41.1 }, x43.2, d41.2.2.2.1, IntKind.wrap .i64 (d41.2.2.2.2 + 1))))
    else
      some (d41.1, d41.2.2.2.1, d41.2.1, d41.2.2.1)

def slices_DeleteFunc_api_Unacked_api_Unacked (a0 : Sender) (a1 : Int) : Option (List Unacked × Sender × List Int) :=
  ((slices_IndexFunc_api_Unacked_api_Unacked a0 a1).bind fun x39 =>
  bif (x39.1 == (-1)) then
    some (a0.Out, a0, x39.2)
  else
    ((
      slices_DeleteFunc_api_Unacked_api_Unacked_L2 a1 big (a0.Out, a0, x39.2, x39.1, IntKind.wrap .i64 (x39.1 + 1))).bind fun d40 =>
    ((chk (decide (0 ≤ d40.2.1) && decide (d40.2.1 ≤ (d40.1.length : Int)))).bind fun x45 =>
    ((chk (decide (0 ≤ d40.2.1) && decide (d40.2.1 ≤ (d40.1.length : Int)))).bind fun x46 =>
    some ((List.take ((d40.2.1).toNat) d40.1), d40.2.2.1, d40.2.2.2)))))

def sender_remove (a0 : Sender) (a1 : Int) : Option (List Int × Sender × List Unacked) :=
  ((slices_DeleteFunc_api_Unacked_api_Unacked a0 a1).bind fun x39 =>
  some (x39.2.2, x39.2.1, x39.1))

def sender_Expire (a0 : Sender) (a1 : Int) : Option ((List Int) × Sender × Int) :=
  ((sender_within a1 0 1099511627776).bind fun x35 =>
  ((sender_open a0 x35).bind fun x36 =>
  bif (x36.2 != 0) then
    some ([], Sender.z, x36.2)
  else
    ((sender_remove x36.1 a1).bind fun x37 =>
    some (x37.1, { x37.2.1 with Bar := (x37.2.1.Bar || (decide (0 < ((x37.1.length : Nat) : Int)))), Out := x37.2.2 }, 0))))

def session_Run_1 (a0 : (List Bool)) : Option (Bool × List Bool) :=
  bif ((a0.length : Int) == 0) then
    some (false, a0)
  else
    ((idx a0 0).bind fun x42 =>
    ((chk (decide (1 ≤ (a0.length : Int)))).bind fun x43 =>
    some (x42, (List.drop 1 a0))))

def sender_Start (a0 : Sender) : Option Int :=
  ((sender_Check a0).bind fun x45 =>
  bif (x45 != 0) then
    some 0
  else
    ((sender_start a0).bind fun x46 =>
    some x46))

def sender_Barred (a0 : Sender) : Option (Sender × Int) :=
  ((sender_open a0 true).bind fun x49 =>
  bif (x49.2 != 0) then
    some (Sender.z, x49.2)
  else
    bif (!x49.1.Bar) then
      some (Sender.z, 20)
    else
      some ({ x49.1 with Bar := false }, 0))

def sender_Offer (a0 : Sender) (a1 : Frame) (a2 : Int) : Option (Frame × Sender × Int) :=
  ((sender_within a2 0 1099511627776).bind fun x51 =>
  ((sender_open a0 x51).bind fun x52 =>
  bif (x52.2 != 0) then
    some (Frame.z, Sender.z, x52.2)
  else
    ((
      bif decide (0 < ((x52.1.Out.length : Nat) : Int)) then
        ((idx x52.1.Out (IntKind.wrap .i64 (((x52.1.Out.length : Nat) : Int) - 1))).bind fun x53 =>
        some (decide (a2 < x53.At)))
      else
        some false).bind fun x54 =>
    bif x54 then
      some (Frame.z, Sender.z, 20)
    else
      ((sender_start x52.1).bind fun x55 =>
      ((window_Dist x55 x52.1.Next).bind fun x56 =>
      bif decide (x52.1.Size ≤ x56) then
        some (Frame.z, Sender.z, 22)
      else
        ((header_Twin a1).bind fun x57 =>
        ((chk (decide ((x52.1.Out.length + 1) * 128 ≤ 140737488355328))).bind fun x58 =>
        ((window_Add x52.1.Next 1).bind fun x59 =>
        ((header_Twin { x57 with Head.Retry := false, Head.Seq := x52.1.Next, Head.Tid := x52.1.Tid }).bind fun x60 =>
        some (x60, { x52.1 with Next := x59, Out := (x52.1.Out ++ [{ Unacked.z with At := a2, Frame := { x57 with Head.Retry := false, Head.Seq := x52.1.Next, Head.Tid := x52.1.Tid } }]) }, 0))))))))))

def session_session_offer_L2 (a0 : Int) (a1 : Session_session) (a2 : (List Bool)) : Nat → Session_session → Option (Ex Session_session Session_session)
  | 0, _ => none
  | n2 + 1, d52 =>
    bif ((decide (d52.accepted < d52.many)) && (d52.err == 0)) then
      ((sender_Offer d52.sides.Sender Frame.z a0).bind fun x53 =>
      bif (x53.2.2 == 22) then
        some (Ex.ret d52)
      else
        ((session_session_keep x53.2.2 { d52 with out.Acked := a1.out.Acked, out.Delivered := a1.out.Delivered, out.Dropped := a1.out.Dropped } a2).bind fun x54 =>
        session_session_offer_L2 a0 a1 a2 n2 { x54 with accepted := IntKind.wrap .i64 (x54.accepted + 1), sides.Sender := x53.2.1 }))
    else
      some (Ex.go d52)

def session_session_offer (a0 : Int) (a1 : Session_session) (a2 : (List Bool)) : Option Session_session :=
  ((
    session_session_offer_L2 a0 a1 a2 big a1).bind fun o51 =>
  (o51.k fun d50 =>
  some d50))

def sender_Pick_L3 (x56 : (Sender × Int)) (a1 : Int) : Nat → (List Unacked × List Frame × Int) → Option ((List Unacked × List Frame))
  | 0, _ => none
  | n3 + 1, d58 =>
    bif decide (d58.2.2 < ((x56.1.Out.length : Nat) : Int)) then
      ((idx d58.1 d58.2.2).bind fun x59 =>
      bif (((d58.2.1.length : Nat) : Int) == a1) then
        some (d58.1, d58.2.1)
      else
        bif (x59.Flying || (x59.Tries == x56.1.Limit)) then
          sender_Pick_L3 x56 a1 n3 (d58.1, d58.2.1, IntKind.wrap .i64 (d58.2.2 + 1))
        else
          ((header_Twin x59.Frame).bind fun x60 =>
          ((chk (decide ((d58.2.1.length + 1) * 104 ≤ 140737488355328))).bind fun x61 =>
          sender_Pick_L3 x56 a1 n3 (((d58.1.modify (d58.2.2.toNat) fun y => { y with Tries := IntKind.wrap .i64 (x59.Tries + 1) }).modify (d58.2.2.toNat) fun y => { y with Flying := true }), (d58.2.1 ++ [{ x60 with Head.Retry := decide (0 < x59.Tries) }]), IntKind.wrap .i64 (d58.2.2 + 1)))))
    else
      some (d58.1, d58.2.1)

def sender_Pick (a0 : Sender) (a1 : Int) : Option ((List Frame) × Sender × Int) :=
  ((sender_open a0 (decide (0 ≤ a1))).bind fun x56 =>
  bif (x56.2 != 0) then
    some ([], Sender.z, x56.2)
  else
    ((
      sender_Pick_L3 x56 a1 big (x56.1.Out, [], 0)).bind fun d57 =>
    some (d57.2, { x56.1 with Out := d57.1 }, 0)))

def window_check (a0 : Window) (a1 : Int) : Option Int :=
  ((window_Check a0).bind fun x75 =>
  bif (x75 != 0) then
    some x75
  else
    ((window_number a1).bind fun x76 =>
    bif (!x76) then
      some 2
    else
      some 0))

def window_Move (a0 : Window) (a1 : Int) : Option (Window × Int) :=
  ((window_check a0 a1).bind fun x75 =>
  bif (x75 != 0) then
    some (Window.z, x75)
  else
    ((window_Dist a0.Start a1).bind fun x76 =>
    bif decide (x76 < 2048) then
      ((chk (decide (¬ x76 < 0))).bind fun x77 =>
      some ({ Window.z with Bits := (a0.Bits).fdiv (2 ^ (min (x76).toNat 64)), Start := a1 }, 0))
    else
      ((chk (decide (¬ (IntKind.wrap .i64 (4096 - x76)) < 0))).bind fun x78 =>
      some ({ Window.z with Bits := IntKind.wrap .u64 (a0.Bits * 2 ^ (min ((IntKind.wrap .i64 (4096 - x76))).toNat 64)), Start := a1 }, 0))))

def window_Mark (a0 : Window) (a1 : Int) : Option (Window × Int) :=
  ((window_check a0 a1).bind fun x77 =>
  bif (x77 != 0) then
    some (Window.z, x77)
  else
    ((window_Dist a0.Start a1).bind fun x78 =>
    bif decide (64 ≤ x78) then
      some (Window.z, 21)
    else
      ((chk (decide (¬ x78 < 0))).bind fun x79 =>
      some ({ a0 with Bits := bor .u64 a0.Bits (IntKind.wrap .u64 (1 * 2 ^ (min (x78).toNat 64))) }, 0))))

def reorder_note (a0 : Window) (a1 : Int) : Option Window :=
  ((window_Dist a0.Start a1).bind fun x73 =>
  bif decide (2048 ≤ x73) then
    some a0
  else
    ((
      bif decide (64 ≤ x73) then
        ((window_Add a1 (-63)).bind fun x75 =>
        ((window_Move a0 x75).bind fun x76 =>
        some x76.1))
      else
        some a0).bind fun d74 =>
    ((window_Mark d74 a1).bind fun x77 =>
    some x77.1)))

def slices_Insert_api_HeldSeq_api_HeldSeq_0 (a0 : Int) (a1 : List HeldSeq) (a2 : List HeldSeq) : Option (List HeldSeq) :=
  ((chk (decide (0 ≤ a0) && decide (a0 ≤ (a1.length : Int)))).bind fun x81 =>
  bif (((a2.length : Nat) : Int) == 0) then
    some a1
  else
    bif (a0 == ((a1.length : Nat) : Int)) then
      ((chk (decide ((a1.length + a2.length) * 112 ≤ 140737488355328))).bind fun x82 =>
      some (a1 ++ a2))
    else
      none)

def slices_Insert_api_HeldSeq_api_HeldSeq (a0 : Int) (a1 : List HeldSeq) (a2 : List HeldSeq) : Option (List HeldSeq) :=
  ((chk (decide (0 ≤ a0) && decide (a0 ≤ (a1.length : Int)))).bind fun x13 =>
  bif (((a2.length : Nat) : Int) == 0) then
    some a1
  else
    bif (a0 == ((a1.length : Nat) : Int)) then
      ((chk (decide ((a1.length + a2.length) * 112 ≤ 140737488355328))).bind fun x14 =>
      some (a1 ++ a2))
    else
      ((chk (decide (a2.length = 1) && decide ((a1.length + 1) * 112 ≤ 140737488355328))).bind fun x15 =>
      some (a1.take a0.toNat ++ a2 ++ a1.drop a0.toNat)))

def reorder_Put (a0 : Reorder) (a1 : Frame) (a2 : Int) : Option ((List Frame) × Reorder × Int) :=
  ((reorder_Check a0).bind fun x67 =>
  bif (x67 != 0) then
    some ([], Reorder.z, x67)
  else
    ((reorder_moment a2).bind fun x68 =>
    ((
      bif (!x68) then
        some true
      else
        ((reorder_number a1.Head.Seq).bind fun x69 =>
        some (!x69))).bind fun x70 =>
    bif x70 then
      some ([], Reorder.z, 2)
    else
      ((window_Dist a0.Start a1.Head.Seq).bind fun x71 =>
      ((reorder_place a0 a1.Head.Seq).bind fun x72 =>
      bif ((decide (2048 ≤ x71)) || x72.2) then
        some ([], Reorder.z, 21)
      else
        ((reorder_note a0.Seen a1.Head.Seq).bind fun x73 =>
        ((reorder_twin a0.Held).bind fun x74 =>
        ((header_Twin a1).bind fun x75 =>
        ((slices_Insert_api_HeldSeq_api_HeldSeq x72.1 x74 [{ HeldSeq.z with At := a2, Frame := x75 }]).bind fun x76 =>
        ((
          bif decide (a0.Size ≤ x71) then
            ((window_Add a1.Head.Seq (IntKind.wrap .i64 (1 - a0.Size))).bind fun x78 =>
            some x78)
          else
            some a0.Start).bind fun d77 =>
        ((reorder_move { a0 with Held := x76, Seen := x73 } d77).bind fun x79 =>
        some (x79.1, { x79.2.1 with Held := x79.2.2 }, 0))))))))))))

def session_session_send_L3 (x56 : ((List Frame) × Sender × Int)) (a0 : Int) (a1 : Session_session) : Nat → (Session_session × List Bool × List Int × Int) → Option ((Session_session × List Bool × List Int))
  | 0, _ => none
  | n2 + 1, d59 =>
    bif decide (d59.2.2.2 < (x56.1.length : Int)) then
      ((idx x56.1 d59.2.2.2).bind fun x60 =>
      ((session_Run_1 d59.2.1).bind fun x61 =>
      bif x61.1 then
        session_session_send_L3 x56 a0 a1 n2 (d59.1, x61.2, d59.2.2.1, IntKind.wrap .i64 (d59.2.2.2 + 1))
      else
        ((reorder_Put d59.1.sides.Reorder x60 a0).bind fun x62 =>
        bif (x62.2.2 == 0) then
          ((session_session_released x62.1 { d59.1 with out.Acked := a1.out.Acked, out.Delivered := d59.2.2.1, out.Dropped := a1.out.Dropped, sides.Reorder := x62.2.1 } x61.2).bind fun x63 =>
          session_session_send_L3 x56 a0 a1 n2 ({ d59.1 with out.Acked := a1.out.Acked, out.Delivered := d59.2.2.1, out.Dropped := a1.out.Dropped, sides.Reorder := x62.2.1 }, x61.2, x63, IntKind.wrap .i64 (d59.2.2.2 + 1)))
        else
          session_session_send_L3 x56 a0 a1 n2 (d59.1, x61.2, d59.2.2.1, IntKind.wrap .i64 (d59.2.2.2 + 1)))))
    else
      some (d59.1, d59.2.1, d59.2.2.1)

def session_session_send (a0 : Int) (a1 : Session_session) (a2 : (List Bool)) : Option (Int × Session_session × List Bool × List Int) :=
  ((sender_Pick a1.sides.Sender a1.plan.Burst).bind fun x56 =>
  ((session_session_keep x56.2.2 a1 a2).bind fun x57 =>
  ((
    session_session_send_L3 x56 a0 a1 big ({ x57 with sides.Sender := x56.2.1 }, a2, a1.out.Delivered, 0)).bind fun d58 =>
  some ((x56.1.length : Int), d58.1, d58.2.1, d58.2.2))))

def sender_land_L2 (a0 : Sender) : Nat → (List Unacked × Int) → Option ((List Unacked))
  | 0, _ => none
  | n2 + 1, d68 =>
    bif decide (d68.2 < ((a0.Out.length : Nat) : Int)) then
      ((idx d68.1 d68.2).bind fun x69 =>
      sender_land_L2 a0 n2 ((d68.1.modify ((d68.2).toNat) fun y => { y with Flying := false }), IntKind.wrap .i64 (d68.2 + 1)))
    else
      some d68.1

def sender_land (a0 : Sender) : Option (List Unacked) :=
  ((
    sender_land_L2 a0 big (a0.Out, 0)).bind fun d67 =>
  some d67)

def sender_Lost (a0 : Sender) : Option (Sender × Int) :=
  ((sender_open a0 true).bind fun x66 =>
  bif (x66.2 != 0) then
    some (Sender.z, x66.2)
  else
    ((sender_land x66.1).bind fun x67 =>
    some ({ x66.1 with Out := x67 }, 0)))

def reorder_Report (a0 : Reorder) : Option (Window × Int) :=
  ((reorder_Check a0).bind fun x70 =>
  bif (x70 != 0) then
    some (Window.z, x70)
  else
    some (a0.Seen, 0))

def window_Has (a0 : Window) (a1 : Int) : Option Bool :=
  ((window_check a0 a1).bind fun x77 =>
  bif (x77 != 0) then
    some false
  else
    ((window_Dist a0.Start a1).bind fun x78 =>
    ((
      bif decide (x78 < 64) then
        ((chk (decide (¬ x78 < 0))).bind fun x79 =>
        some ((band .u64 ((a0.Bits).fdiv (2 ^ (min (x78).toNat 64))) 1) == 1))
      else
        some false).bind fun x80 =>
    some x80)))

def sender_Acked_1 (a0 : Unacked) (a1 : Window) : Option Bool :=
  ((
    bif decide (0 < a0.Tries) then
      ((window_Has a1 a0.Frame.Head.Seq).bind fun x77 =>
      some x77)
    else
      some false).bind fun x78 =>
  some x78)

def sender_remove_1_4 (a0 : Unacked) (a1 : Window) (a2 : List Int) : Option (Bool × List Int) :=
  ((sender_Acked_1 a0 a1).bind fun x77 =>
  bif x77 then
    ((chk (decide ((a2.length + 1) * 8 ≤ 140737488355328))).bind fun x78 =>
    some (x77, (a2 ++ [a0.Frame.Head.Seq])))
  else
    some (x77, a2))

def slices_IndexFunc_api_Unacked_api_Unacked_2_L2 (a1 : List Unacked) (a0 : Window) : Nat → (List Int × Int) → Option (Ex (Int × List Int) (List Int))
  | 0, _ => none
  | n2 + 1, d77 =>
    bif decide (d77.2 < ((a1.length : Nat) : Int)) then
      ((idx a1 d77.2).bind fun x78 =>
      ((sender_remove_1_4 x78 a0 d77.1).bind fun x79 =>
      bif x79.1 then
        some (Ex.ret (d77.2, x79.2))
      else
        slices_IndexFunc_api_Unacked_api_Unacked_2_L2 a1 a0 n2 (x79.2, IntKind.wrap .i64 (d77.2 + 1))))
    else
      some (Ex.go d77.1)

def slices_IndexFunc_api_Unacked_api_Unacked_2 (a0 : Window) (a1 : List Unacked) : Option (Int × List Int) :=
  ((
    slices_IndexFunc_api_Unacked_api_Unacked_2_L2 a1 a0 big ([], 0)).bind fun o76 =>
  (o76.k fun d75 =>
  some ((-1), d75)))

def slices_DeleteFunc_api_Unacked_api_Unacked_2_L2 (a0 : Window) : Nat → (List Unacked × List Int × Int × Int) → Option ((List Unacked × Int × List Int))
  | 0, _ => none
  | n3 + 1, d77 =>
    bif decide (d77.2.2.2 < ((d77.1.length : Nat) : Int)) then
      ((idx d77.1 d77.2.2.2).bind fun x78 =>
      ((sender_remove_1_4 x78 a0 d77.2.1).bind fun x79 =>
      bif (!x79.1) then
        ((idx d77.1 d77.2.2.1).bind fun x80 =>
        slices_DeleteFunc_api_Unacked_api_Unacked_2_L2 a0 n3 ((d77.1.set ((d77.2.2.1).toNat) x78), x79.2, IntKind.wrap .i64 (d77.2.2.1 + 1), IntKind.wrap .i64 (d77.2.2.2 + 1)))
      else
        slices_DeleteFunc_api_Unacked_api_Unacked_2_L2 a0 n3 (d77.1, x79.2, d77.2.2.1, IntKind.wrap .i64 (d77.2.2.2 + 1))))
    else
      some (d77.1, d77.2.2.1, d77.2.1)

def slices_DeleteFunc_api_Unacked_api_Unacked_2 (a0 : Window) (a1 : List Unacked) : Option (List Unacked × List Int) :=
  ((slices_IndexFunc_api_Unacked_api_Unacked_2 a0 a1).bind fun x75 =>
  bif (x75.1 == (-1)) then
    some (a1, x75.2)
  else
    ((
      slices_DeleteFunc_api_Unacked_api_Unacked_2_L2 a0 big (a1, x75.2, x75.1, IntKind.wrap .i64 (x75.1 + 1))).bind fun d76 =>
    ((chk (decide (0 ≤ d76.2.1) && decide (d76.2.1 ≤ (d76.1.length : Int)))).bind fun x81 =>
    ((chk (decide (0 ≤ d76.2.1) && decide (d76.2.1 ≤ (d76.1.length : Int)))).bind fun x82 =>
    some ((List.take ((d76.2.1).toNat) d76.1), d76.2.2)))))

def sender_remove_2 (a0 : Sender) (a1 : Window) : Option (List Int × List Unacked) :=
  ((slices_DeleteFunc_api_Unacked_api_Unacked_2 a1 a0.Out).bind fun x75 =>
  some (x75.2, x75.1))

def sender_Acked (a0 : Sender) (a1 : Window) : Option ((List Int) × Sender × Int) :=
  ((window_Check a1).bind fun x73 =>
  ((sender_open a0 (x73 == 0)).bind fun x74 =>
  bif (x74.2 != 0) then
    some ([], Sender.z, x74.2)
  else
    ((sender_remove_2 x74.1 a1).bind fun x75 =>
    ((sender_land { x74.1 with Out := x75.2 }).bind fun x76 =>
    some (x75.1, { x74.1 with Out := x76 }, 0)))))

def session_session_report (a0 : Session_session) (a1 : (List Bool)) : Option (Session_session × List Bool × List Int) :=
  ((session_Run_1 a1).bind fun x65 =>
  bif x65.1 then
    ((sender_Lost a0.sides.Sender).bind fun x66 =>
    ((session_session_keep x66.2 a0 x65.2).bind fun x67 =>
    some ({ x67 with sides.Sender := x66.1 }, x65.2, a0.out.Acked)))
  else
    ((reorder_Report a0.sides.Reorder).bind fun x68 =>
    ((session_session_keep x68.2 a0 x65.2).bind fun x69 =>
    ((sender_Acked x69.sides.Sender x68.1).bind fun x70 =>
    ((session_session_keep x70.2.2 { x69 with out.Acked := a0.out.Acked, out.Delivered := a0.out.Delivered, out.Dropped := a0.out.Dropped } x65.2).bind fun x71 =>
    ((session_session_indices { x71 with out.Acked := a0.out.Acked, out.Delivered := a0.out.Delivered, out.Dropped := a0.out.Dropped, sides.Sender := x70.2.1 } x65.2 x70.1).bind fun x72 =>
    ((chk (decide ((a0.out.Acked.length + x72.length) * 8 ≤ 140737488355328))).bind fun x73 =>
    some ({ x71 with sides.Sender := x70.2.1 }, x65.2, (a0.out.Acked ++ x72)))))))))

def reorder_Expire_L0 (b : Reorder) (now : Int) (l : List HeldSeq) : Nat → Option (Ex (List Frame × Reorder × Int) Unit)
  | 0 => some (Ex.go ())
  | c + 1 =>
    ((l[c]?).bind fun x =>
    bif decide ((IntKind.wrap .i64 (x.At + b.Hold)) ≤ now) then
      ((window_Add x.Frame.Head.Seq 1).bind fun y =>
      ((reorder_move { b with Held := l } y).bind fun z =>
      some (Ex.ret (z.1, { z.2.1 with Held := z.2.2 }, 0))))
    else
      reorder_Expire_L0 b now l c)

def reorder_Expire (a0 : Reorder) (a1 : Int) : Option ((List Frame) × Reorder × Int) :=
  ((reorder_Check a0).bind fun x67 =>
  bif (x67 != 0) then
    some ([], Reorder.z, x67)
  else
    ((reorder_moment a1).bind fun x68 =>
    bif (!x68) then
      some ([], Reorder.z, 2)
    else
      ((reorder_twin a0.Held).bind fun x69 =>
      ((chk (decide (x69.length < 4611686018427387904))).bind fun x70 =>
      ((reorder_Expire_L0 a0 a1 x69 x69.length).bind fun o71 =>
      (o71.k fun d72 =>
      some ([], { a0 with Held := x69 }, 0)))))))

def session_session_round (a0 : Session_session) (a1 : (List Bool)) : Option (Session_session × List Bool × List Int × List Int × List Int) :=
  ((sender_Expire a0.sides.Sender (IntKind.wrap .i64 (a0.out.Rounds * a0.plan.Round))).bind fun x35 =>
  ((session_session_keep x35.2.2 a0 a1).bind fun x36 =>
  ((session_session_indices { x36 with out.Acked := a0.out.Acked, out.Delivered := a0.out.Delivered, out.Dropped := a0.out.Dropped, sides.Sender := x35.2.1 } a1 x35.1).bind fun x37 =>
  ((chk (decide ((a0.out.Dropped.length + x37.length) * 8 ≤ 140737488355328))).bind fun x38 =>
  bif x35.2.1.Bar then
    ((session_Run_1 a1).bind fun x39 =>
    ((
      bif (!x39.1) then
        ((sender_Start x35.2.1).bind fun x41 =>
        ((session_session_move x41 { x36 with out.Acked := a0.out.Acked, out.Delivered := a0.out.Delivered, out.Dropped := (a0.out.Dropped ++ x37), sides.Sender := x35.2.1 } x39.2).bind fun x42 =>
        ((sender_Barred x42.1.sides.Sender).bind fun x43 =>
        ((session_session_keep x43.2 { x42.1 with out.Acked := a0.out.Acked, out.Delivered := x42.2, out.Dropped := (a0.out.Dropped ++ x37), sides.Sender := x43.1 } x39.2).bind fun x44 =>
        some (x44, x42.2)))))
      else
        some ({ x36 with sides.Sender := x35.2.1 }, a0.out.Delivered)).bind fun d40 =>
    ((session_session_offer (IntKind.wrap .i64 (a0.out.Rounds * a0.plan.Round)) { d40.1 with out.Acked := a0.out.Acked, out.Delivered := d40.2, out.Dropped := (a0.out.Dropped ++ x37) } x39.2).bind fun x45 =>
    ((session_session_send (IntKind.wrap .i64 (a0.out.Rounds * a0.plan.Round)) { x45 with out.Acked := a0.out.Acked, out.Delivered := d40.2, out.Dropped := (a0.out.Dropped ++ x37) } x39.2).bind fun x46 =>
    ((
      bif decide (0 < x46.1) then
        ((session_session_report { x46.2.1 with out.Acked := a0.out.Acked, out.Delivered := x46.2.2.2, out.Dropped := (a0.out.Dropped ++ x37) } x46.2.2.1).bind fun x48 =>
        some (x48.1, x48.2.1, x48.2.2))
      else
        some (x46.2.1, x46.2.2.1, a0.out.Acked)).bind fun d47 =>
    ((reorder_Expire d47.1.sides.Reorder (IntKind.wrap .i64 (a0.out.Rounds * a0.plan.Round))).bind fun x49 =>
    ((session_session_keep x49.2.2 { d47.1 with out.Acked := d47.2.2, out.Delivered := x46.2.2.2, out.Dropped := (a0.out.Dropped ++ x37) } d47.2.1).bind fun x50 =>
    ((session_session_released x49.1 { x50 with out.Acked := d47.2.2, out.Delivered := x46.2.2.2, out.Dropped := (a0.out.Dropped ++ x37), sides.Reorder := x49.2.1 } d47.2.1).bind fun x51 =>
    some ({ x50 with out.Acked := d47.2.2, out.Delivered := x46.2.2.2, out.Dropped := (a0.out.Dropped ++ x37), out.Rounds := IntKind.wrap .i64 (x50.out.Rounds + 1), sides.Reorder := x49.2.1 }, d47.2.1, x51, d47.2.2, (a0.out.Dropped ++ x37))))))))))
  else
    ((session_session_offer (IntKind.wrap .i64 (a0.out.Rounds * a0.plan.Round)) { x36 with out.Acked := a0.out.Acked, out.Delivered := a0.out.Delivered, out.Dropped := (a0.out.Dropped ++ x37), sides.Sender := x35.2.1 } a1).bind fun x52 =>
    ((session_session_send (IntKind.wrap .i64 (a0.out.Rounds * a0.plan.Round)) { x52 with out.Acked := a0.out.Acked, out.Delivered := a0.out.Delivered, out.Dropped := (a0.out.Dropped ++ x37) } a1).bind fun x53 =>
    ((
      bif decide (0 < x53.1) then
        ((session_session_report { x53.2.1 with out.Acked := a0.out.Acked, out.Delivered := x53.2.2.2, out.Dropped := (a0.out.Dropped ++ x37) } x53.2.2.1).bind fun x55 =>
        some (x55.1, x55.2.1, x55.2.2))
      else
        some (x53.2.1, x53.2.2.1, a0.out.Acked)).bind fun d54 =>
    ((reorder_Expire d54.1.sides.Reorder (IntKind.wrap .i64 (a0.out.Rounds * a0.plan.Round))).bind fun x56 =>
    ((session_session_keep x56.2.2 { d54.1 with out.Acked := d54.2.2, out.Delivered := x53.2.2.2, out.Dropped := (a0.out.Dropped ++ x37) } d54.2.1).bind fun x57 =>
    ((session_session_released x56.1 { x57 with out.Acked := d54.2.2, out.Delivered := x53.2.2.2, out.Dropped := (a0.out.Dropped ++ x37), sides.Reorder := x56.2.1 } d54.2.1).bind fun x58 =>
    some ({ x57 with out.Acked := d54.2.2, out.Delivered := x53.2.2.2, out.Dropped := (a0.out.Dropped ++ x37), out.Rounds := IntKind.wrap .i64 (x57.out.Rounds + 1), sides.Reorder := x56.2.1 }, d54.2.1, x58, d54.2.2, (a0.out.Dropped ++ x37))))))))))))

def session_Run_L4 (a1 : Int) : Nat → (Session_session × List Bool × List Int × List Int × List Int) → Option ((Session_session × List Bool × List Int × List Int × List Int))
  | 0, _ => none
  | n4 + 1, d6 =>
    bif ((d6.1.err == 0) && (((decide (d6.1.accepted < a1)) || (decide (0 < (d6.1.sides.Sender.Out.length : Int)))) || d6.1.sides.Sender.Bar)) then
      bif (d6.1.out.Rounds == 2000) then
        ((session_session_close { d6.1 with out.Acked := d6.2.2.2.1, out.Delivered := d6.2.2.1, out.Dropped := d6.2.2.2.2 } d6.2.1).bind fun x7 =>
        some (x7.1, d6.2.1, x7.2.1, d6.2.2.2.1, x7.2.2))
      else
        ((session_session_round { d6.1 with out.Acked := d6.2.2.2.1, out.Delivered := d6.2.2.1, out.Dropped := d6.2.2.2.2 } d6.2.1).bind fun x8 =>
        session_Run_L4 a1 n4 (x8.1, x8.2.1, x8.2.2.1, x8.2.2.2.1, x8.2.2.2.2))
    else
      some (d6.1, d6.2.1, d6.2.2.1, d6.2.2.2.1, d6.2.2.2.2)

def session_Run (a0 : SessionPlan) (a1 : Int) (a2 : (List Bool)) : Option (SessionResult × Int) :=
  ((session_Check a0).bind fun x2 =>
  bif (x2 != 0) then
    some (SessionResult.z, x2)
  else
    ((session_within a1 0 200).bind fun x3 =>
    bif (!x3) then
      some (SessionResult.z, 4)
    else
      ((session_session_begin { Session_session.z with many := a1, out.Acked := ([] : List Int), out.Delivered := ([] : List Int), out.Dropped := ([] : List Int), plan := a0 } a2).bind fun x4 =>
      ((
        session_Run_L4 a1 big (x4, a2, ([] : List Int), ([] : List Int), ([] : List Int))).bind fun d5 =>
      bif (d5.1.err != 0) then
        some (SessionResult.z, d5.1.err)
      else
        some ({ d5.1.out with Acked := d5.2.2.2.1, Delivered := d5.2.2.1, Dropped := d5.2.2.2.2 }, 0)))))

def hotspotref17_SameInts_L2 (a0 : (List Int)) (a1 : (List Int)) : Nat → Int → Option (Ex Bool Unit)
  | 0, _ => none
  | n3 + 1, d26 =>
    bif decide (d26 < (a0.length : Int)) then
      ((idx a0 d26).bind fun x27 =>
      ((idx a1 d26).bind fun x28 =>
      bif (x27 != x28) then
        some (Ex.ret false)
      else
        hotspotref17_SameInts_L2 a0 a1 n3 (IntKind.wrap .i64 (d26 + 1))))
    else
      some (Ex.go ())

def hotspotref17_SameInts (a0 : (List Int)) (a1 : (List Int)) : Option Bool :=
  bif ((a0.length : Int) != (a1.length : Int)) then
    some false
  else
    ((
      hotspotref17_SameInts_L2 a0 a1 big 0).bind fun o25 =>
    (o25.k fun d24 =>
    some true))

def hotspotlaw20_ends (a0 : (List Bool)) (a1 : (List Int)) (a2 : (List Int)) (a3 : (List Int)) : Option (Int × Bool) :=
  (hotspotlaw20_example.bind fun x22 =>
  ((session_Run x22 3 a0).bind fun x23 =>
  ((
    bif (x23.2 == 0) then
      ((hotspotref17_SameInts x23.1.Delivered a1).bind fun x24 =>
      some x24)
    else
      some false).bind fun x25 =>
  ((
    bif x25 then
      ((hotspotref17_SameInts x23.1.Acked a2).bind fun x26 =>
      some x26)
    else
      some false).bind fun x27 =>
  ((
    bif x27 then
      ((hotspotref17_SameInts x23.1.Dropped a3).bind fun x28 =>
      some x28)
    else
      some false).bind fun x29 =>
  some (x23.1.Rounds, x29))))))

def hotspotlaw20_alive : Option Bool :=
  ((hotspotlaw20_ends [] [0, 1, 2] [0, 1, 2] []).bind fun x22 =>
  ((hotspotlaw20_ends [true] [0, 1, 2] [1, 0, 2] []).bind fun x23 =>
  ((hotspotlaw20_ends [true, false, false, true] [1, 2] [1, 2] [0]).bind fun x24 =>
  some ((((x22.2 && (x22.1 == 2)) && x23.2) && (x23.1 == 3)) && x24.2))))

def hotspotref20_Same (a0 : SessionResult) (a1 : SessionResult) : Option Bool :=
  ((
    bif (a0.Rounds == a1.Rounds) then
      ((hotspotref17_SameInts a0.Delivered a1.Delivered).bind fun x26 =>
      some x26)
    else
      some false).bind fun x27 =>
  ((
    bif x27 then
      ((hotspotref17_SameInts a0.Acked a1.Acked).bind fun x28 =>
      some x28)
    else
      some false).bind fun x29 =>
  ((
    bif x29 then
      ((hotspotref17_SameInts a0.Dropped a1.Dropped).bind fun x30 =>
      some x30)
    else
      some false).bind fun x31 =>
  some x31)))

def hotspotlaw20_SessionDraws_L4 (a2 : (List Bool)) : Nat → Int → Option (Unit)
  | 0, _ => none
  | n4 + 1, d72 =>
    bif decide (d72 < (a2.length : Int)) then
      ((idx a2 d72).bind fun x73 =>
      hotspotlaw20_SessionDraws_L4 a2 n4 (IntKind.wrap .i64 (d72 + 1)))
    else
      some ()

def hotspotlaw20_SessionDraws (a0 : SessionPlan) (a1 : Int) (a2 : (List Bool)) : Option Bool :=
  (hotspotlaw20_alive.bind fun x65 =>
  bif ((decide (5000 < (a2.length : Int))) || (!x65)) then
    some x65
  else
    ((chk (decide (a2.length ≤ 140737488355328))).bind fun x66 =>
    ((session_Run a0 a1 a2).bind fun x67 =>
    ((chk (decide (a2.length ≤ 140737488355328))).bind fun x68 =>
    ((chk (decide (a2.length + 3 ≤ 140737488355328))).bind fun x69 =>
    ((session_Run a0 a1 (a2 ++ [false, false, false])).bind fun x70 =>
    ((
      hotspotlaw20_SessionDraws_L4 a2 big 0).bind fun d71 =>
    ((
      bif (x65 && (x67.2 == x70.2)) then
        ((hotspotref20_Same x67.1 x70.1).bind fun x74 =>
        some x74)
      else
        some false).bind fun x75 =>
    some x75))))))))

end Go.AX.Z.TN

/-! (TNF) -/

namespace Go.AX.Z.TN
open Go.AX Go.Proofs

def tab : List (TypeId × List (Option IntKind)) :=
  []

noncomputable def K : Ctx := ⟨Try.prog, fun _ => none, tabK tab⟩

theorem ag113 : agB K.P 113 = some true := by kernel_rfl
theorem ag23 : agB K.P 23 = some true := by kernel_rfl
theorem ag25 : agB K.P 25 = some false := by kernel_rfl
theorem ag27 : agB K.P 27 = some true := by kernel_rfl
theorem ag28 : agB K.P 28 = some false := by kernel_rfl
theorem ag3 : agB K.P 3 = some false := by kernel_rfl
theorem ag31 : agB K.P 31 = some false := by kernel_rfl
theorem ag34 : agB K.P 34 = some false := by kernel_rfl
theorem ag4 : agB K.P 4 = some false := by kernel_rfl
theorem ag43 : agB K.P 43 = some false := by kernel_rfl
theorem ag45 : agB K.P 45 = some true := by kernel_rfl
theorem ag46 : agB K.P 46 = some false := by kernel_rfl
theorem ag47 : agB K.P 47 = some false := by kernel_rfl
theorem ag49 : agB K.P 49 = some true := by kernel_rfl
theorem ag5 : agB K.P 5 = some false := by kernel_rfl
theorem ag51 : agB K.P 51 = some true := by kernel_rfl
theorem ag53 : agB K.P 53 = some true := by kernel_rfl
theorem ag63 : agB K.P 63 = some true := by kernel_rfl
theorem ag79 : agB K.P 79 = some false := by kernel_rfl
theorem ag89 : agB K.P 89 = some true := by kernel_rfl
theorem ag90 : agB K.P 90 = some false := by kernel_rfl
theorem ag92 : agB K.P 92 = some true := by kernel_rfl
theorem ag94 : agB K.P 94 = some true := by kernel_rfl
theorem ag99 : agB K.P 99 = some false := by kernel_rfl
theorem bl113 : bldS K.P 113 = some [(0, 1), (1, 41)] := by kernel_rfl
theorem bl23 : bldS K.P 23 = some [(0, 1), (1, 1), (2, 1), (3, 1), (4, 1), (5, 1), (6, 1)] := by kernel_rfl
theorem bl27 : bldS K.P 27 = some [(0, 1), (1, 1), (2, 1), (3, 1)] := by kernel_rfl
theorem bl45 : bldS K.P 45 = some [(0, 1), (1, 1), (2, 1), (3, 1), (4, 1), (5, 1), (6, 1), (7, 1), (8, 1)] := by kernel_rfl
theorem bl49 : bldS K.P 49 = some [(0, 1), (1, 1)] := by kernel_rfl
theorem bl51 : bldS K.P 51 = some [(0, 1), (1, 1), (2, 1), (3, 1), (4, 2)] := by kernel_rfl
theorem bl55 : bldS K.P 55 = some [(0, 15), (15, 7), (22, 1), (23, 1), (24, 1), (25, 4), (29, 1)] := by kernel_rfl
theorem bl63 : bldS K.P 63 = some [(0, 1), (1, 1), (2, 1), (3, 1)] := by kernel_rfl
theorem bl68 : bldS K.P 68 = some [(0, 1), (1, 1), (2, 1), (3, 1)] := by kernel_rfl
theorem bl92 : bldS K.P 92 = some [(0, 40), (40, 1)] := by kernel_rfl
theorem bl94 : bldS K.P 94 = some [(0, 1), (1, 1), (2, 1), (3, 41)] := by kernel_rfl
theorem by113 : byOf K.P 113 = some 112 := by kernel_rfl
theorem by23 : byOf K.P 23 = some 56 := by kernel_rfl
theorem by3 : byOf K.P 3 = some 8 := by kernel_rfl
theorem by4 : byOf K.P 4 = some 1 := by kernel_rfl
theorem by5 : byOf K.P 5 = some 1 := by kernel_rfl
theorem by92 : byOf K.P 92 = some 104 := by kernel_rfl
theorem by94 : byOf K.P 94 = some 128 := by kernel_rfl
theorem el25 : elS K.P 25 = some 3 := by kernel_rfl
theorem el31 : elS K.P 31 = some 4 := by kernel_rfl
theorem el32 : elS K.P 32 = some 23 := by kernel_rfl
theorem el43 : elS K.P 43 = some 94 := by kernel_rfl
theorem el46 : elS K.P 46 = some 113 := by kernel_rfl
theorem el79 : elS K.P 79 = some 92 := by kernel_rfl
theorem el90 : elS K.P 90 = some 5 := by kernel_rfl
theorem eln3 : elS K.P 3 = none := by kernel_rfl
theorem fl113_0 : flE K.P 113 0 = some (0, 3) := by kernel_rfl
theorem fl113_1 : flE K.P 113 1 = some (1, 92) := by kernel_rfl
theorem fl23_0 : flE K.P 23 0 = some (0, 3) := by kernel_rfl
theorem fl23_1 : flE K.P 23 1 = some (1, 3) := by kernel_rfl
theorem fl23_2 : flE K.P 23 2 = some (2, 3) := by kernel_rfl
theorem fl23_3 : flE K.P 23 3 = some (3, 3) := by kernel_rfl
theorem fl23_4 : flE K.P 23 4 = some (4, 3) := by kernel_rfl
theorem fl23_5 : flE K.P 23 5 = some (5, 3) := by kernel_rfl
theorem fl23_6 : flE K.P 23 6 = some (6, 3) := by kernel_rfl
theorem fl27_0 : flE K.P 27 0 = some (0, 25) := by kernel_rfl
theorem fl27_1 : flE K.P 27 1 = some (1, 25) := by kernel_rfl
theorem fl27_2 : flE K.P 27 2 = some (2, 25) := by kernel_rfl
theorem fl27_3 : flE K.P 27 3 = some (3, 3) := by kernel_rfl
theorem fl45_0 : flE K.P 45 0 = some (0, 3) := by kernel_rfl
theorem fl45_1 : flE K.P 45 1 = some (1, 5) := by kernel_rfl
theorem fl45_2 : flE K.P 45 2 = some (2, 3) := by kernel_rfl
theorem fl45_3 : flE K.P 45 3 = some (3, 3) := by kernel_rfl
theorem fl45_4 : flE K.P 45 4 = some (4, 3) := by kernel_rfl
theorem fl45_5 : flE K.P 45 5 = some (5, 3) := by kernel_rfl
theorem fl45_6 : flE K.P 45 6 = some (6, 3) := by kernel_rfl
theorem fl45_7 : flE K.P 45 7 = some (7, 43) := by kernel_rfl
theorem fl45_8 : flE K.P 45 8 = some (8, 4) := by kernel_rfl
theorem fl49_0 : flE K.P 49 0 = some (0, 3) := by kernel_rfl
theorem fl49_1 : flE K.P 49 1 = some (1, 47) := by kernel_rfl
theorem fl51_0 : flE K.P 51 0 = some (0, 3) := by kernel_rfl
theorem fl51_1 : flE K.P 51 1 = some (1, 3) := by kernel_rfl
theorem fl51_2 : flE K.P 51 2 = some (2, 3) := by kernel_rfl
theorem fl51_3 : flE K.P 51 3 = some (3, 46) := by kernel_rfl
theorem fl51_4 : flE K.P 51 4 = some (4, 49) := by kernel_rfl
theorem fl53_0 : flE K.P 53 0 = some (0, 45) := by kernel_rfl
theorem fl53_1 : flE K.P 53 1 = some (9, 51) := by kernel_rfl
theorem fl55_0 : flE K.P 55 0 = some (0, 53) := by kernel_rfl
theorem fl55_1 : flE K.P 55 1 = some (15, 23) := by kernel_rfl
theorem fl55_2 : flE K.P 55 2 = some (22, 3) := by kernel_rfl
theorem fl55_3 : flE K.P 55 3 = some (23, 3) := by kernel_rfl
theorem fl55_4 : flE K.P 55 4 = some (24, 34) := by kernel_rfl
theorem fl55_5 : flE K.P 55 5 = some (25, 27) := by kernel_rfl
theorem fl55_6 : flE K.P 55 6 = some (29, 28) := by kernel_rfl
theorem fl63_0 : flE K.P 63 0 = some (0, 3) := by kernel_rfl
theorem fl68_0 : flE K.P 68 0 = some (0, 3) := by kernel_rfl
theorem fl68_1 : flE K.P 68 1 = some (1, 3) := by kernel_rfl
theorem fl68_2 : flE K.P 68 2 = some (2, 3) := by kernel_rfl
theorem fl68_3 : flE K.P 68 3 = some (3, 3) := by kernel_rfl
theorem fl89_14 : flE K.P 89 14 = some (34, 3) := by kernel_rfl
theorem fl89_16 : flE K.P 89 16 = some (36, 3) := by kernel_rfl
theorem fl89_5 : flE K.P 89 5 = some (5, 4) := by kernel_rfl
theorem fl92_0 : flE K.P 92 0 = some (0, 89) := by kernel_rfl
theorem fl92_1 : flE K.P 92 1 = some (40, 90) := by kernel_rfl
theorem fl94_0 : flE K.P 94 0 = some (0, 3) := by kernel_rfl
theorem fl94_1 : flE K.P 94 1 = some (1, 3) := by kernel_rfl
theorem fl94_2 : flE K.P 94 2 = some (2, 4) := by kernel_rfl
theorem fl94_3 : flE K.P 94 3 = some (3, 92) := by kernel_rfl
theorem in133 : inK K.P 133 = some .u64 := by kernel_rfl
theorem in3 : inK K.P 3 = some .i64 := by kernel_rfl
theorem in47 : inK K.P 47 = some .u64 := by kernel_rfl
theorem isb4 : isBl K.P 4 = true := by kernel_rfl
theorem sz113 : szOf K.P 113 = some 42 := by kernel_rfl
theorem sz23 : szOf K.P 23 = some 7 := by kernel_rfl
theorem sz25 : szOf K.P 25 = some 1 := by kernel_rfl
theorem sz27 : szOf K.P 27 = some 4 := by kernel_rfl
theorem sz28 : szOf K.P 28 = some 1 := by kernel_rfl
theorem sz3 : szOf K.P 3 = some 1 := by kernel_rfl
theorem sz31 : szOf K.P 31 = some 1 := by kernel_rfl
theorem sz34 : szOf K.P 34 = some 1 := by kernel_rfl
theorem sz4 : szOf K.P 4 = some 1 := by kernel_rfl
theorem sz43 : szOf K.P 43 = some 1 := by kernel_rfl
theorem sz45 : szOf K.P 45 = some 9 := by kernel_rfl
theorem sz46 : szOf K.P 46 = some 1 := by kernel_rfl
theorem sz47 : szOf K.P 47 = some 1 := by kernel_rfl
theorem sz49 : szOf K.P 49 = some 2 := by kernel_rfl
theorem sz5 : szOf K.P 5 = some 1 := by kernel_rfl
theorem sz51 : szOf K.P 51 = some 6 := by kernel_rfl
theorem sz53 : szOf K.P 53 = some 15 := by kernel_rfl
theorem sz63 : szOf K.P 63 = some 4 := by kernel_rfl
theorem sz79 : szOf K.P 79 = some 1 := by kernel_rfl
theorem sz89 : szOf K.P 89 = some 40 := by kernel_rfl
theorem sz90 : szOf K.P 90 = some 1 := by kernel_rfl
theorem sz92 : szOf K.P 92 = some 41 := by kernel_rfl
theorem sz94 : szOf K.P 94 = some 44 := by kernel_rfl
theorem sz99 : szOf K.P 99 = some 1 := by kernel_rfl
theorem un133 : K.P.underlying 133 = some (.int .u64) := by kernel_rfl
theorem un25 : K.P.underlying 25 = some (.slice 3) := by kernel_rfl
theorem un3 : K.P.underlying 3 = some (.int .i64) := by kernel_rfl
theorem un31 : K.P.underlying 31 = some (.slice 4) := by kernel_rfl
theorem un32 : K.P.underlying 32 = some (.slice 23) := by kernel_rfl
theorem un43 : K.P.underlying 43 = some (.slice 94) := by kernel_rfl
theorem un46 : K.P.underlying 46 = some (.slice 113) := by kernel_rfl
theorem un47 : K.P.underlying 47 = some (.int .u64) := by kernel_rfl
theorem un79 : K.P.underlying 79 = some (.slice 92) := by kernel_rfl
theorem un90 : K.P.underlying 90 = some (.slice 5) := by kernel_rfl
theorem ze113 : zer K.P 113 = some (e_HeldSeq HeldSeq.z vnil) := by kernel_rfl
theorem ze23 : zer K.P 23 = some (e_SessionPlan SessionPlan.z) := by kernel_rfl
theorem ze25 : zer K.P 25 = some [.v (.slice none 0 0)] := by kernel_rfl
theorem ze27 : zer K.P 27 = some (e_SessionResult SessionResult.z vnil vnil vnil) := by kernel_rfl
theorem ze28 : zer K.P 28 = some [.v (.int .i64 0)] := by kernel_rfl
theorem ze3 : zer K.P 3 = some [.v (.int .i64 0)] := by kernel_rfl
theorem ze4 : zer K.P 4 = some [.v (.bool false)] := by kernel_rfl
theorem ze45 : zer K.P 45 = some (e_Sender Sender.z vnil) := by kernel_rfl
theorem ze49 : zer K.P 49 = some (e_Window Window.z) := by kernel_rfl
theorem ze5 : zer K.P 5 = some [.v (.int .u8 0)] := by kernel_rfl
theorem ze51 : zer K.P 51 = some (e_Reorder Reorder.z vnil) := by kernel_rfl
theorem ze55 : zer K.P 55 = some (e_Session_session Session_session.z vnil vnil (.v .nilFunc) vnil vnil vnil) := by kernel_rfl
theorem ze63 : zer K.P 63 = some (e_BlockAsk BlockAsk.z) := by kernel_rfl
theorem ze68 : zer K.P 68 = some (e_BlockAnswer BlockAnswer.z) := by kernel_rfl
theorem ze79 : zer K.P 79 = some [.v (.slice none 0 0)] := by kernel_rfl
theorem ze92 : zer K.P 92 = some (e_Frame Frame.z vnil) := by kernel_rfl
theorem ze94 : zer K.P 94 = some (e_Unacked Unacked.z vnil) := by kernel_rfl
attribute [go_sem] ag113 ag23 ag25 ag27 ag28 ag3 ag31 ag34 ag4 ag43 ag45 ag46 ag47 ag49 ag5 ag51 ag53 ag63 ag79 ag89 ag90 ag92 ag94 ag99 bl113 bl23 bl27 bl45 bl49 bl51 bl55 bl63 bl68 bl92 bl94 by113 by23 by3 by4 by5 by92 by94 el25 el31 el32 el43 el46 el79 el90 eln3 fl113_0 fl113_1 fl23_0 fl23_1 fl23_2 fl23_3 fl23_4 fl23_5 fl23_6 fl27_0 fl27_1 fl27_2 fl27_3 fl45_0 fl45_1 fl45_2 fl45_3 fl45_4 fl45_5 fl45_6 fl45_7 fl45_8 fl49_0 fl49_1 fl51_0 fl51_1 fl51_2 fl51_3 fl51_4 fl53_0 fl53_1 fl55_0 fl55_1 fl55_2 fl55_3 fl55_4 fl55_5 fl55_6 fl63_0 fl68_0 fl68_1 fl68_2 fl68_3 fl89_14 fl89_16 fl89_5 fl92_0 fl92_1 fl94_0 fl94_1 fl94_2 fl94_3 in133 in3 in47 isb4 sz113 sz23 sz25 sz27 sz28 sz3 sz31 sz34 sz4 sz43 sz45 sz46 sz47 sz49 sz5 sz51 sz53 sz63 sz79 sz89 sz90 sz92 sz94 sz99 un133 un25 un3 un31 un32 un43 un46 un47 un79 un90 ze113 ze23 ze25 ze27 ze28 ze3 ze4 ze45 ze49 ze5 ze51 ze55 ze63 ze68 ze79 ze92 ze94
theorem mixed : K.P.follows .mixedOrders = true := by kernel_rfl
theorem hC : COk K := ⟨EqOk.of_tab (tab := tab) rfl (by kernel_rfl), mixed⟩
theorem rs9 : Try.f9.results = #[.cell 0 23] := rfl
theorem rs16 : Try.f16.results = #[.tmp 6] := rfl
theorem rs11 : Try.f11.results = #[.tmp 2] := rfl
theorem rs40 : Try.f40.results = #[.tmp 6] := rfl
theorem rs48 : Try.f48.results = #[.tmp 2] := rfl
theorem rs43 : Try.f43.results = #[.tmp 4] := rfl
theorem rs39 : Try.f39.results = #[.tmp 2] := rfl
theorem rs23 : Try.f23.results = #[.cell 8 45, .tmp 9] := rfl
theorem rs24 : Try.f24.results = #[] := rfl
theorem rs60 : Try.f60.results = #[.cell 2 92] := rfl
theorem rs41 : Try.f41.results = #[.cell 2 45] := rfl
theorem rs25 : Try.f25.results = #[.cell 4 63, .cell 5 45, .tmp 6] := rfl
theorem rs26 : Try.f26.results = #[.cell 4 45, .tmp 5] := rfl
theorem rs61 : Try.f61.results = #[.tmp 2] := rfl
theorem rs72 : Try.f72.results = #[.tmp 2] := rfl
theorem rs62 : Try.f62.results = #[.tmp 2] := rfl
theorem rs55 : Try.f55.results = #[.tmp 2] := rfl
theorem rs42 : Try.f42.results = #[.tmp 2] := rfl
theorem rs27 : Try.f27.results = #[.cell 6 51, .tmp 7] := rfl
theorem rs18 : Try.f18.results = #[] := rfl
theorem rs28 : Try.f28.results = #[.tmp 2, .cell 3 45, .tmp 4] := rfl
theorem rs29 : Try.f29.results = #[.tmp 4] := rfl
theorem rs56 : Try.f56.results = #[.tmp 2] := rfl
theorem rs75 : Try.f75.results = #[.tmp 5] := rfl
theorem rs74 : Try.f74.results = #[.tmp 6, .tmp 7] := rfl
theorem rs65 : Try.f65.results = #[.tmp 4, .tmp 5] := rfl
theorem rs59 : Try.f59.results = #[.tmp 4] := rfl
theorem rs58 : Try.f58.results = #[.tmp 4, .cell 5 51] := rfl
theorem rs44 : Try.f44.results = #[.tmp 4, .cell 5 51, .tmp 6] := rfl
theorem rs38 : Try.f38.results = #[] := rfl
theorem rs30 : Try.f30.results = #[] := rfl
theorem rs19 : Try.f19.results = #[] := rfl
theorem rs45 : Try.f45.results = #[.cell 4 45, .tmp 5] := rfl
theorem rs47 : Try.f47.results = #[.tmp 4] := rfl
theorem rs64 : Try.f64.results = #[.tmp 4] := rfl
theorem rs73 : Try.f73.results = #[.tmp 4] := rfl
theorem rs63 : Try.f63.results = #[.tmp 4] := rfl
theorem rs46 : Try.f46.results = #[.cell 4 25] := rfl
theorem rs31 : Try.f31.results = #[.tmp 4, .cell 5 45, .tmp 6] := rfl
theorem rs17 : Try.f17.results = #[.tmp 1] := rfl
theorem rs32 : Try.f32.results = #[.tmp 2] := rfl
theorem rs33 : Try.f33.results = #[.cell 2 45, .tmp 3] := rfl
theorem rs49 : Try.f49.results = #[.cell 6 92, .cell 7 45, .tmp 8] := rfl
theorem rs34 : Try.f34.results = #[] := rfl
theorem rs50 : Try.f50.results = #[.tmp 4, .cell 5 45, .tmp 6] := rfl
theorem rs80 : Try.f80.results = #[.tmp 4] := rfl
theorem rs76 : Try.f76.results = #[.cell 4 49, .tmp 5] := rfl
theorem rs77 : Try.f77.results = #[.cell 4 49, .tmp 5] := rfl
theorem rs66 : Try.f66.results = #[.cell 4 49] := rfl
theorem rs67 : Try.f67.results = #[.tmp 6] := rfl
theorem rs51 : Try.f51.results = #[.tmp 6, .cell 7 51, .tmp 8] := rfl
theorem rs35 : Try.f35.results = #[.tmp 4] := rfl
theorem rs68 : Try.f68.results = #[] := rfl
theorem rs52 : Try.f52.results = #[.cell 2 45, .tmp 3] := rfl
theorem rs53 : Try.f53.results = #[.cell 2 49, .tmp 3] := rfl
theorem rs70 : Try.f70.results = #[.tmp 4] := rfl
theorem rs69 : Try.f69.results = #[.tmp 3] := rfl
theorem rs54 : Try.f54.results = #[.tmp 4, .cell 5 45, .tmp 6] := rfl
theorem rs36 : Try.f36.results = #[] := rfl
theorem rs37 : Try.f37.results = #[.cell 4 79, .cell 5 51, .cell 6 28] := rfl
theorem rs20 : Try.f20.results = #[] := rfl
theorem rs10 : Try.f10.results = #[.cell 6 27, .tmp 7] := rfl
theorem rs22 : Try.f22.results = #[.tmp 4] := rfl
theorem rs21 : Try.f21.results = #[.tmp 8, .tmp 9] := rfl
theorem rs12 : Try.f12.results = #[.tmp 0] := rfl
theorem rs13 : Try.f13.results = #[.tmp 4] := rfl
theorem rs8 : Try.f8.results = #[.tmp 6] := rfl

end Go.AX.Z.TN

/-! (TNI) -/

set_option linter.unusedSimpArgs false
set_option linter.unusedVariables false
set_option maxHeartbeats 1000000
namespace Go.AX.Z.TN
open Go.AX Go.Proofs

/-- What slices.Backward hands out. -/
def backX (l : List HeldSeq) : List (List AV) := (List.range l.length).map fun i => [vi ((l.length - 1 - i : Nat) : Int), match l[l.length - 1 - i]? with | some x => .agg (E_HeldSeq x) | none => .unk]
theorem backX_len (l : List HeldSeq) : (backX l).length = l.length := by simp [backX]
theorem backX_get {l : List HeldSeq} {k i : Nat} {x : HeldSeq} (hk : k + i + 1 = l.length) (hx : l[i]? = some x) : (backX l)[k]? = some [vi (i : Int), .agg (E_HeldSeq x)] := by
  have e : l.length - 1 - k = i := by omega
  have h : (List.range l.length)[k]? = some k := by rw [List.getElem?_range (by omega)]
  unfold backX
  rw [List.getElem?_map, h]
  simp only [Option.map_some, e, hx]
theorem backX_inv {l : List HeldSeq} {k : Nat} {x : List AV} (h : (backX l)[k]? = some x) : ∃ i e, k + i + 1 = l.length ∧ l[i]? = some e ∧ x = [vi (i : Int), .agg (E_HeldSeq e)] := by
  have hk : k < l.length := by rw [← backX_len l]; exact (List.getElem?_eq_some_iff.1 h).1
  have hi : l.length - 1 - k < l.length := by omega
  have := backX_get (k := k) (i := l.length - 1 - k) (by omega) (List.getElem?_eq_getElem hi)
  rw [h] at this
  cases this
  exact ⟨_, _, by omega, List.getElem?_eq_getElem hi, rfl⟩

def tB (y : Value) (q : Nat) : Nat → AV := upd (upd (fun _ => .unk) 1 (.ptr q 0)) 0 (.v y)

theorem back_iter (l : List HeldSeq) (hL : l.length < 4611686018427387904) (p q : Nat) : Iter K 71 [.ptr p 0] (fun hs => hs.objs p = .live [.ref q 0 l.length 42] ∧ hs.objs q = .live (List.flatMap E_HeldSeq l)) (backX l) := by
  intro lo lb ρ0 V0 J Jx hlb hJ hJx hJc hJxc hy ρ V hs W h0
  have hAb : ∀ i, Abides K (J i) := fun i => ⟨fun ρ V hs W h => ⟨(hJ i ρ V hs W h).2.1, (hJ i ρ V hs W h).2.2.1⟩, hJc i⟩
  have hAx : Abides K Jx := ⟨hJx, hJxc⟩
  obtain ⟨loc, hloc, rfl⟩ : ∃ loc, ρ0 p = some loc ∧ lb = #[.pointer (some ⟨loc.b, loc.base + 0, none⟩)] := by
    obtain ⟨e1, e2⟩ := hlb
    obtain ⟨lb⟩ := lb
    match lb, e1, e2 with
    | [y], _, e2 =>
      have := e2 0 _ y rfl rfl
      cases this with
      | ptr _ _ loc h => exact ⟨loc, h, rfl⟩
  obtain ⟨Y, hY⟩ : ∃ Y, Value.func (.yield lo) #[] #[] = Y := ⟨_, rfl⟩
  refine callsIn_of_wp (fn := Try.f71) Try.func71 rfl trivial ?_ rfl
  have hst0 := StJ.start (N := Try.f71.ntmps) (t := tB Y p) (J := J 0) (args := #[.func (.yield lo) #[] #[]] ++ #[.pointer (some ⟨loc.b, loc.base + 0, none⟩)]) (by show 2 ≤ 19; decide) h0 (fun i y hy => by
    match i, hy with
    | 0, hy => cases hy; rw [hY]; exact .v _
    | 1, hy => cases hy; exact .ptr p 0 loc ((hJ 0 _ _ _ _ h0).1.rho _ _ hloc)) (fun i hi => by
    have hi : 2 ≤ i := hi
    unfold tB
    rw [upd_ne _ _ (by omega), upd_ne _ _ (by omega)])
  have hRd : ∀ i ρ V hs W, J i ρ V hs W → hs.objs p = .live [.ref q 0 l.length 42] ∧ hs.objs q = .live (List.flatMap E_HeldSeq l) := fun i ρ V hs W h => (hJ i ρ V hs W h).2.2.2
  refine wpIn_seq ?_
  obtain ⟨r1, r2⟩ := hRd _ _ _ _ _ hst0.j
  refine iter_region hC (hAb 0) (by decide +kernel) (by decide +kernel) (K := fun t => t 0 = .v Y ∧ t 1 = .ptr p 0 ∧ t 3 = vi ((l.length : Int) - 1)) hst0 ?_ ?_
  · unfold tB
    simp only [go_sem, Nat.reduceEqDiff, reduceIte, Nat.reduceAdd, Nat.reduceMul, Nat.reduceSub, Nat.reduceLT, Nat.reduceLeDiff, Int.reduceToNat, Int.reduceBEq, Int.reduceBNe, Int.reduceLT, Int.reduceLE, Int.reduceAdd, Int.reduceSub, Int.reduceMul, Int.reduceNeg, Int.reduceEq, Int.reduceNe, r1, wrapI (show -4611686018427387904 ≤ (l.length : Int) - 1 by omega) (show (l.length : Int) - 1 < 4611686018427387904 by omega)]
    try exact ⟨rfl, rfl, rfl, rfl⟩
  intro ρ1 V1 hs1 a1 W1 t1 ⟨e0, e1, e3⟩ _ hst1
  refine wpIn_block ?_
  refine wpIn_loop (I := fun a w => ∃ (k c : Nat) (ρ : Rho) (V : View) (hs : HS) (t : Nat → AV), k + c = l.length ∧ t 0 = .v Y ∧ t 1 = .ptr p 0 ∧ t 3 = vi ((c : Int) - 1) ∧ StJ Try.f71.ntmps t (J k) ρ V hs a w)
    (fun a _ => (match a.tmps.getD 3 undef with | .int _ n => (n + 1).toNat | _ => 0)) ⟨0, l.length, ρ1, V1, hs1, t1, by omega, e0, e1, e3, hst1⟩ ?_
  rintro a w ⟨k, c, ρ2, V2, hs2, t2, hk, e0, e1, e3, hst2⟩
  have hk3 : a.tmps.getD 3 undef = .int .i64 ((c : Int) - 1) := by
    have := hst2.tm 3
    rw [e3] at this
    exact Rel.v_inv this
  refine wpIn_seq ?_
  refine wpIn_seq ?_
  refine iter_region hC (hAb _) (by decide +kernel) (by decide +kernel) (K := fun t => t 0 = .v Y ∧ t 1 = .ptr p 0 ∧ t 3 = vi ((c : Int) - 1) ∧ t 8 = vb (decide (0 ≤ (c : Int) - 1))) hst2 ?_ ?_
  · simp only [go_sem, Nat.reduceEqDiff, reduceIte, Nat.reduceAdd, Nat.reduceMul, Nat.reduceSub, Nat.reduceLT, Nat.reduceLeDiff, Int.reduceToNat, Int.reduceBEq, Int.reduceBNe, Int.reduceLT, Int.reduceLE, Int.reduceAdd, Int.reduceSub, Int.reduceMul, Int.reduceNeg, Int.reduceEq, Int.reduceNe, e0, e1, e3]
    try exact ⟨rfl, rfl, rfl, rfl, rfl⟩
  intro ρ3 V3 hs3 a3 W3 t3 ⟨e0, e1, e3, e8⟩ _ hst3
  have hc8 : a3.eval (.tmp 8) = .bool (decide (0 ≤ (c : Int) - 1)) := by
    have := ev_rel (C := K) (s := { toHS := hs3, tmps := t3 }) hst3.tm ((hAb _).inv _ _ _ _ hst3.j).2 (.tmp 8)
    rw [show ev K { toHS := hs3, tmps := t3 } (.tmp 8) = t3 8 from rfl, e8] at this
    exact Rel.v_inv this
  refine wpIn_cond_split hc8 (fun hlt => ?_) (fun hge => ?_)
  · obtain ⟨i, rfl⟩ : ∃ i, c = i + 1 := ⟨c - 1, by have := of_decide_eq_true hlt; omega⟩
    have e3 : t3 3 = vi (i : Int) := by rw [e3]; congr 2; omega
    have hil : i < l.length := by omega
    obtain ⟨x, hx⟩ : ∃ x, l[i]? = some x := ⟨_, List.getElem?_eq_getElem hil⟩
    refine wpIn_skip ?_
    refine wpIn_seq ?_
    refine wpIn_block ?_
    refine wpIn_seq ?_
    obtain ⟨r1, r2⟩ := hRd _ _ _ _ _ hst3.j
    obtain ⟨f0, f1, f2, f3⟩ := idx_some (show idx l (i : Int) = some x by rw [idxN]; exact hx)
    rw [Int.toNat_natCast] at f2
    refine iter_yield hC (hAb _) (hAb (k + 1)) hAx (by decide +kernel) (by decide +kernel) 6 _ rfl (l := lo) rfl rfl rfl (x := [vi (i : Int), .agg (E_HeldSeq x)]) (b := true) hst3
      (K1 := fun t => t 0 = .v Y ∧ t 1 = .ptr p 0 ∧ t 3 = vi (i : Int) ∧ t 11 = .v Y ∧ t 12 = vi (i : Int) ∧ t 16 = .agg (E_HeldSeq x))
      (K2 := fun r t => t 0 = .v Y ∧ t 1 = .ptr p 0 ∧ t 3 = vi (i : Int) ∧ t 18 = vb (match r with | some false => true | _ => false)) ?_ ?_ ?_ ?_ ?_ ?_ ?_ ?_
    · simp only [go_sem, Nat.reduceEqDiff, reduceIte, Nat.reduceAdd, Nat.reduceMul, Nat.reduceSub, Nat.reduceLT, Nat.reduceLeDiff, Int.reduceToNat, Int.reduceBEq, Int.reduceBNe, Int.reduceLT, Int.reduceLE, Int.reduceAdd, Int.reduceSub, Int.reduceMul, Int.reduceNeg, Int.reduceEq, Int.reduceNe, e0, e1, e3, r1, r2, f0, f1, f2, Int.toNat_natCast]
      try exact ⟨rfl, rfl, rfl, rfl, rfl, rfl⟩
    · rintro t1 _
      exact .inl ⟨rfl, rfl⟩
    · rintro _ t1 hs' ⟨_, _, _, h11, h12, h16⟩
      exact ⟨by rw [hY]; exact h11, by show [t1 12, t1 16] = _; rw [h12, h16]⟩
    · intro _ ρ' V' hs' W' args' _ hj hargs
      exact hy _ _ _ _ _ _ _ hj (backX_get (by omega) hx) hargs
    · rintro r t1 hs' ⟨e0, e1, e3, _⟩ hr
      cases r with
      | none => cases hr
      | some r =>
        cases r <;> simp only [go_sem, Nat.reduceEqDiff, reduceIte, Nat.reduceAdd, Nat.reduceMul, Nat.reduceSub, Nat.reduceLT, Nat.reduceLeDiff, Int.reduceToNat, Int.reduceBEq, Int.reduceBNe, Int.reduceLT, Int.reduceLE, Int.reduceAdd, Int.reduceSub, Int.reduceMul, Int.reduceNeg, Int.reduceEq, Int.reduceNe, e0, e1, e3] <;> first | rfl | exact ⟨rfl, rfl, rfl, rfl, rfl⟩
    · intro h; cases h
    · rintro _ ρ5 V5 hs5 a5 W5 t5 ⟨e0, e1, e3, e18⟩ _ hst5
      have hc : a5.eval (.tmp 18) = .bool false := by
        have := ev_rel (C := K) (s := { toHS := hs5, tmps := t5 }) hst5.tm ((hAb _).inv _ _ _ _ hst5.j).2 (.tmp 18)
        rw [show ev K { toHS := hs5, tmps := t5 } (.tmp 18) = t5 18 from rfl, e18] at this
        exact Rel.v_inv this
      refine wpIn_cond_false hc (wpIn_skip ?_)
      refine iter_region hC (hAb _) (by decide +kernel) (by decide +kernel) (K := fun t => t 0 = .v Y ∧ t 1 = .ptr p 0 ∧ t 3 = vi ((i : Int) - 1)) hst5 ?_ ?_
      · simp only [go_sem, Nat.reduceEqDiff, reduceIte, Nat.reduceAdd, Nat.reduceMul, Nat.reduceSub, Nat.reduceLT, Nat.reduceLeDiff, Int.reduceToNat, Int.reduceBEq, Int.reduceBNe, Int.reduceLT, Int.reduceLE, Int.reduceAdd, Int.reduceSub, Int.reduceMul, Int.reduceNeg, Int.reduceEq, Int.reduceNe, e0, e1, e3, wrapI (show -4611686018427387904 ≤ (i : Int) - 1 by omega) (show (i : Int) - 1 < 4611686018427387904 by omega)]
        try exact ⟨rfl, rfl, rfl, rfl⟩
      rintro ρ6 V6 hs6 a6 W6 t6 ⟨e0, e1, e3⟩ _ hst6
      refine ⟨⟨k + 1, i, ρ6, V6, hs6, t6, by omega, e0, e1, e3, hst6⟩, ?_⟩
      have h3 : a6.tmps.getD 3 undef = .int .i64 ((i : Int) - 1) := by
        have := hst6.tm 3
        rw [e3] at this
        exact Rel.v_inv this
      show (match a6.tmps.getD 3 undef with | .int _ n => (n + 1).toNat | _ => 0) < (match a.tmps.getD 3 undef with | .int _ n => (n + 1).toNat | _ => 0)
      rw [h3, hk3]
      show ((i : Int) - 1 + 1).toNat < (((i + 1 : Nat) : Int) - 1 + 1).toNat
      omega
    · rintro _ ρ5 V5 hs5 a5 W5 t5 ⟨e0, e1, e3, e18⟩ _ hst5
      have hc : a5.eval (.tmp 18) = .bool true := by
        have := ev_rel (C := K) (s := { toHS := hs5, tmps := t5 }) hst5.tm (hAx.inv _ _ _ _ hst5.j).2 (.tmp 18)
        rw [show ev K { toHS := hs5, tmps := t5 } (.tmp 18) = t5 18 from rfl, e18] at this
        exact Rel.v_inv this
      refine wpIn_cond_true hc (wpIn_ret ?_)
      exact iter_end (R := fun e W' => (∃ v, e = .returned v) ∧ ∃ ρ' V' hs', J (backX l).length ρ' V' hs' W' ∨ Jx ρ' V' hs' W') hst5 rfl (fun v h => ⟨⟨v, rfl⟩, _, _, _, .inr h⟩)
  · have hc0 : c = 0 := by have := of_decide_eq_false hge; omega
    subst hc0
    refine wpIn_exit ?_
    exact iter_end (R := fun e W' => (∃ v, e = .returned v) ∧ ∃ ρ' V' hs', J (backX l).length ρ' V' hs' W' ∨ Jx ρ' V' hs' W') hst3 rfl (fun v h => ⟨⟨v, rfl⟩, _, _, _, .inl (by rw [backX_len, ← hk]; exact h)⟩)

theorem back_snd (n q : Nat) (hs : HS) : Snd K 57 [.ref q 0 n 42] hs (fun r hs' => r = .clo 71 [] [.ptr hs.next 0] ∧ hs'.objs = upd hs.objs hs.next (.live [.ref q 0 n 42]) ∧ hs.next < hs'.next) := by
  obtain ⟨objs, nx⟩ := hs
  refine snd_of_awp hC (fn := Try.f57) Try.func57 rfl rfl (by decide +kernel) (Nat.le_of_ble_eq_true rfl) ?_
  refine awp_reg fun KK hKK => ?_
  refine xw_id ?_
  simp only [init, List.getD_cons_zero, go_sem, Nat.reduceEqDiff, reduceIte, Nat.reduceAdd]
  refine hKK _ ?_; clear hKK KK
  refine awp_reg fun KK hKK => ?_
  refine xw_id ?_
  simp only [go_sem, Nat.reduceEqDiff, reduceIte, Nat.reduceAdd]
  refine hKK _ ?_; clear hKK KK
  refine awp_ret1 ?_
  refine end_ret0 (fn := Try.f57) (rs := #[.tmp 2]) rfl (by simp only [go_sem, resV, resAll, resOf, packR, Nat.reduceEqDiff, reduceIte, Nat.reduceAdd]; rfl) ?_
  exact ⟨rfl, rfl, by show nx < nx + 2 + 2; omega⟩

end Go.AX.Z.TN
