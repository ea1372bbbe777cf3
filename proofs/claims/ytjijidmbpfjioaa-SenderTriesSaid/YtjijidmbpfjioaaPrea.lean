/- A part of the proof: the types, the facts of the program and the functions, read plainly. -/
import Derived.Test.YtjijidmbpfjioaaCoreb
import Derived.Test.YtjijidmbpfjioaaProg
import Derived.KernelRfl
set_option linter.unusedVariables false
set_option linter.unusedSimpArgs false

/-! (TSS) -/

set_option linter.unusedSimpArgs false
set_option linter.unusedVariables false
namespace Go.AX.Z.TS
open Go.AX
structure Addr where
  a0 : Int
  a1 : Int
  a2 : Int
  a3 : Int
  a4 : Int
  a5 : Int
  deriving DecidableEq

def Addr.z : Addr := ⟨0, 0, 0, 0, 0, 0⟩

def e_Addr (x : Addr) : List AV := [vu x.a0, vu x.a1, vu x.a2, vu x.a3, vu x.a4, vu x.a5]

theorem e_Addr_len (x : Addr) : (e_Addr x).length = 6 := by rfl
theorem e_Addr_sub (x : Addr) : sub? (e_Addr x) 0 6 = some (e_Addr x) := by rfl
theorem e_Addr_take (x : Addr) : (e_Addr x).take 6 = (e_Addr x) := by rfl
theorem e_Addr_all (x : Addr) (y : Addr) : putAt (e_Addr x) 0 (e_Addr y) = e_Addr y := by rfl
theorem e_Addr_g_a0 (x : Addr) : (e_Addr x)[0]? = some (vu x.a0) := by rfl
theorem e_Addr_s_a0 (x : Addr) (v : Int) : (e_Addr x).set 0 (vu v) = e_Addr { x with a0 := v } := by rfl
theorem e_Addr_g_a1 (x : Addr) : (e_Addr x)[1]? = some (vu x.a1) := by rfl
theorem e_Addr_s_a1 (x : Addr) (v : Int) : (e_Addr x).set 1 (vu v) = e_Addr { x with a1 := v } := by rfl
theorem e_Addr_g_a2 (x : Addr) : (e_Addr x)[2]? = some (vu x.a2) := by rfl
theorem e_Addr_s_a2 (x : Addr) (v : Int) : (e_Addr x).set 2 (vu v) = e_Addr { x with a2 := v } := by rfl
theorem e_Addr_g_a3 (x : Addr) : (e_Addr x)[3]? = some (vu x.a3) := by rfl
theorem e_Addr_s_a3 (x : Addr) (v : Int) : (e_Addr x).set 3 (vu v) = e_Addr { x with a3 := v } := by rfl
theorem e_Addr_g_a4 (x : Addr) : (e_Addr x)[4]? = some (vu x.a4) := by rfl
theorem e_Addr_s_a4 (x : Addr) (v : Int) : (e_Addr x).set 4 (vu v) = e_Addr { x with a4 := v } := by rfl
theorem e_Addr_g_a5 (x : Addr) : (e_Addr x)[5]? = some (vu x.a5) := by rfl
theorem e_Addr_s_a5 (x : Addr) (v : Int) : (e_Addr x).set 5 (vu v) = e_Addr { x with a5 := v } := by rfl
theorem e_Addr_fz (x : Addr) (o : Nat → Ob) (n : Nat) : (e_Addr x).map (fz o (n + 1)) = e_Addr x := by rfl
theorem e_Addr_reach (x : Addr) (o : Nat → Ob) (n : Nat) : (e_Addr x).flatMap (reach o (n + 1)) = [] := by
  simp only [e_Addr, List.cons_append, List.nil_append, List.append_nil, List.flatMap_cons, List.flatMap_nil, reach_v]
theorem e_Addr_clean (x : Addr) : ∀ c ∈ (e_Addr x), Clean c := by
  simp only [e_Addr, List.cons_append, List.nil_append]
  repeat' (first | exact Clean.v _ | assumption | exact List.forall_mem_nil _ | refine List.forall_mem_cons.2 ⟨?_, ?_⟩)
theorem e_Addr_tm {st : AS} {F : List Nat} {σ : List (Option Nat)} (x : Addr) : TmL st F σ (e_Addr x) (e_Addr x) := by
  simp only [e_Addr, List.cons_append, List.nil_append]
  repeat' (first | exact TmL.nil | (refine TmL.cons (Tm.v _) ?_) | (refine TmL.cons (by assumption) ?_))
theorem f_Addr (x : Addr) (o : Nat → Ob) (n : Nat) : (e_Addr x).map (fz o (n + 1)) = e_Addr x := by simp only [e_Addr_fz]
theorem q_Addr (x : Addr) (o : Nat → Ob) (n : Nat) : (e_Addr x).flatMap (reach o (n + 1)) = [] := by simp only [e_Addr_reach, List.append_nil]
attribute [go_sem] e_Addr_len e_Addr_sub e_Addr_take e_Addr_all e_Addr_g_a0 e_Addr_s_a0 e_Addr_g_a1 e_Addr_s_a1 e_Addr_g_a2 e_Addr_s_a2 e_Addr_g_a3 e_Addr_s_a3 e_Addr_g_a4 e_Addr_s_a4 e_Addr_g_a5 e_Addr_s_a5 e_Addr_fz e_Addr_reach f_Addr q_Addr

structure Header where
  Kind : Int
  Sub : Int
  ToDs : Bool
  FromDs : Bool
  More : Bool
  Retry : Bool
  Sleep : Bool
  MoreData : Bool
  Protected : Bool
  Duration : Int
  A1 : Addr
  A2 : Addr
  A3 : Addr
  A4 : Addr
  Seq : Int
  Frag : Int
  Tid : Int
  Ack : Int
  Amsdu : Bool
  Eosp : Bool
  deriving DecidableEq

def Header.z : Header := ⟨0, 0, false, false, false, false, false, false, false, 0, Addr.z, Addr.z, Addr.z, Addr.z, 0, 0, 0, 0, false, false⟩

def e_Header (x : Header) : List AV := [vu x.Kind, vu x.Sub, vb x.ToDs, vb x.FromDs, vb x.More, vb x.Retry, vb x.Sleep, vb x.MoreData, vb x.Protected, vi x.Duration] ++ (e_Addr x.A1) ++ (e_Addr x.A2) ++ (e_Addr x.A3) ++ (e_Addr x.A4) ++ [vi x.Seq, vi x.Frag, vi x.Tid, vu x.Ack, vb x.Amsdu, vb x.Eosp]

theorem e_Header_len (x : Header) : (e_Header x).length = 40 := by rfl
theorem e_Header_sub (x : Header) : sub? (e_Header x) 0 40 = some (e_Header x) := by rfl
theorem e_Header_take (x : Header) : (e_Header x).take 40 = (e_Header x) := by rfl
theorem e_Header_all (x : Header) (y : Header) : putAt (e_Header x) 0 (e_Header y) = e_Header y := by rfl
theorem e_Header_g_Kind (x : Header) : (e_Header x)[0]? = some (vu x.Kind) := by rfl
theorem e_Header_s_Kind (x : Header) (v : Int) : (e_Header x).set 0 (vu v) = e_Header { x with Kind := v } := by rfl
theorem e_Header_g_Sub (x : Header) : (e_Header x)[1]? = some (vu x.Sub) := by rfl
theorem e_Header_s_Sub (x : Header) (v : Int) : (e_Header x).set 1 (vu v) = e_Header { x with Sub := v } := by rfl
theorem e_Header_g_ToDs (x : Header) : (e_Header x)[2]? = some (vb x.ToDs) := by rfl
theorem e_Header_s_ToDs (x : Header) (v : Bool) : (e_Header x).set 2 (vb v) = e_Header { x with ToDs := v } := by rfl
theorem e_Header_g_FromDs (x : Header) : (e_Header x)[3]? = some (vb x.FromDs) := by rfl
theorem e_Header_s_FromDs (x : Header) (v : Bool) : (e_Header x).set 3 (vb v) = e_Header { x with FromDs := v } := by rfl
theorem e_Header_g_More (x : Header) : (e_Header x)[4]? = some (vb x.More) := by rfl
theorem e_Header_s_More (x : Header) (v : Bool) : (e_Header x).set 4 (vb v) = e_Header { x with More := v } := by rfl
theorem e_Header_g_Retry (x : Header) : (e_Header x)[5]? = some (vb x.Retry) := by rfl
theorem e_Header_s_Retry (x : Header) (v : Bool) : (e_Header x).set 5 (vb v) = e_Header { x with Retry := v } := by rfl
theorem e_Header_g_Sleep (x : Header) : (e_Header x)[6]? = some (vb x.Sleep) := by rfl
theorem e_Header_s_Sleep (x : Header) (v : Bool) : (e_Header x).set 6 (vb v) = e_Header { x with Sleep := v } := by rfl
theorem e_Header_g_MoreData (x : Header) : (e_Header x)[7]? = some (vb x.MoreData) := by rfl
theorem e_Header_s_MoreData (x : Header) (v : Bool) : (e_Header x).set 7 (vb v) = e_Header { x with MoreData := v } := by rfl
theorem e_Header_g_Protected (x : Header) : (e_Header x)[8]? = some (vb x.Protected) := by rfl
theorem e_Header_s_Protected (x : Header) (v : Bool) : (e_Header x).set 8 (vb v) = e_Header { x with Protected := v } := by rfl
theorem e_Header_g_Duration (x : Header) : (e_Header x)[9]? = some (vi x.Duration) := by rfl
theorem e_Header_s_Duration (x : Header) (v : Int) : (e_Header x).set 9 (vi v) = e_Header { x with Duration := v } := by rfl
theorem e_Header_g_A1_a0 (x : Header) : (e_Header x)[10]? = some (vu x.A1.a0) := by rfl
theorem e_Header_s_A1_a0 (x : Header) (v : Int) : (e_Header x).set 10 (vu v) = e_Header { x with A1.a0 := v } := by rfl
theorem e_Header_g_A1_a1 (x : Header) : (e_Header x)[11]? = some (vu x.A1.a1) := by rfl
theorem e_Header_s_A1_a1 (x : Header) (v : Int) : (e_Header x).set 11 (vu v) = e_Header { x with A1.a1 := v } := by rfl
theorem e_Header_g_A1_a2 (x : Header) : (e_Header x)[12]? = some (vu x.A1.a2) := by rfl
theorem e_Header_s_A1_a2 (x : Header) (v : Int) : (e_Header x).set 12 (vu v) = e_Header { x with A1.a2 := v } := by rfl
theorem e_Header_g_A1_a3 (x : Header) : (e_Header x)[13]? = some (vu x.A1.a3) := by rfl
theorem e_Header_s_A1_a3 (x : Header) (v : Int) : (e_Header x).set 13 (vu v) = e_Header { x with A1.a3 := v } := by rfl
theorem e_Header_g_A1_a4 (x : Header) : (e_Header x)[14]? = some (vu x.A1.a4) := by rfl
theorem e_Header_s_A1_a4 (x : Header) (v : Int) : (e_Header x).set 14 (vu v) = e_Header { x with A1.a4 := v } := by rfl
theorem e_Header_g_A1_a5 (x : Header) : (e_Header x)[15]? = some (vu x.A1.a5) := by rfl
theorem e_Header_s_A1_a5 (x : Header) (v : Int) : (e_Header x).set 15 (vu v) = e_Header { x with A1.a5 := v } := by rfl
theorem e_Header_g_A2_a0 (x : Header) : (e_Header x)[16]? = some (vu x.A2.a0) := by rfl
theorem e_Header_s_A2_a0 (x : Header) (v : Int) : (e_Header x).set 16 (vu v) = e_Header { x with A2.a0 := v } := by rfl
theorem e_Header_g_A2_a1 (x : Header) : (e_Header x)[17]? = some (vu x.A2.a1) := by rfl
theorem e_Header_s_A2_a1 (x : Header) (v : Int) : (e_Header x).set 17 (vu v) = e_Header { x with A2.a1 := v } := by rfl
theorem e_Header_g_A2_a2 (x : Header) : (e_Header x)[18]? = some (vu x.A2.a2) := by rfl
theorem e_Header_s_A2_a2 (x : Header) (v : Int) : (e_Header x).set 18 (vu v) = e_Header { x with A2.a2 := v } := by rfl
theorem e_Header_g_A2_a3 (x : Header) : (e_Header x)[19]? = some (vu x.A2.a3) := by rfl
theorem e_Header_s_A2_a3 (x : Header) (v : Int) : (e_Header x).set 19 (vu v) = e_Header { x with A2.a3 := v } := by rfl
theorem e_Header_g_A2_a4 (x : Header) : (e_Header x)[20]? = some (vu x.A2.a4) := by rfl
theorem e_Header_s_A2_a4 (x : Header) (v : Int) : (e_Header x).set 20 (vu v) = e_Header { x with A2.a4 := v } := by rfl
theorem e_Header_g_A2_a5 (x : Header) : (e_Header x)[21]? = some (vu x.A2.a5) := by rfl
theorem e_Header_s_A2_a5 (x : Header) (v : Int) : (e_Header x).set 21 (vu v) = e_Header { x with A2.a5 := v } := by rfl
theorem e_Header_g_A3_a0 (x : Header) : (e_Header x)[22]? = some (vu x.A3.a0) := by rfl
theorem e_Header_s_A3_a0 (x : Header) (v : Int) : (e_Header x).set 22 (vu v) = e_Header { x with A3.a0 := v } := by rfl
theorem e_Header_g_A3_a1 (x : Header) : (e_Header x)[23]? = some (vu x.A3.a1) := by rfl
theorem e_Header_s_A3_a1 (x : Header) (v : Int) : (e_Header x).set 23 (vu v) = e_Header { x with A3.a1 := v } := by rfl
theorem e_Header_g_A3_a2 (x : Header) : (e_Header x)[24]? = some (vu x.A3.a2) := by rfl
theorem e_Header_s_A3_a2 (x : Header) (v : Int) : (e_Header x).set 24 (vu v) = e_Header { x with A3.a2 := v } := by rfl
theorem e_Header_g_A3_a3 (x : Header) : (e_Header x)[25]? = some (vu x.A3.a3) := by rfl
theorem e_Header_s_A3_a3 (x : Header) (v : Int) : (e_Header x).set 25 (vu v) = e_Header { x with A3.a3 := v } := by rfl
theorem e_Header_g_A3_a4 (x : Header) : (e_Header x)[26]? = some (vu x.A3.a4) := by rfl
theorem e_Header_s_A3_a4 (x : Header) (v : Int) : (e_Header x).set 26 (vu v) = e_Header { x with A3.a4 := v } := by rfl
theorem e_Header_g_A3_a5 (x : Header) : (e_Header x)[27]? = some (vu x.A3.a5) := by rfl
theorem e_Header_s_A3_a5 (x : Header) (v : Int) : (e_Header x).set 27 (vu v) = e_Header { x with A3.a5 := v } := by rfl
theorem e_Header_g_A4_a0 (x : Header) : (e_Header x)[28]? = some (vu x.A4.a0) := by rfl
theorem e_Header_s_A4_a0 (x : Header) (v : Int) : (e_Header x).set 28 (vu v) = e_Header { x with A4.a0 := v } := by rfl
theorem e_Header_g_A4_a1 (x : Header) : (e_Header x)[29]? = some (vu x.A4.a1) := by rfl
theorem e_Header_s_A4_a1 (x : Header) (v : Int) : (e_Header x).set 29 (vu v) = e_Header { x with A4.a1 := v } := by rfl
theorem e_Header_g_A4_a2 (x : Header) : (e_Header x)[30]? = some (vu x.A4.a2) := by rfl
theorem e_Header_s_A4_a2 (x : Header) (v : Int) : (e_Header x).set 30 (vu v) = e_Header { x with A4.a2 := v } := by rfl
theorem e_Header_g_A4_a3 (x : Header) : (e_Header x)[31]? = some (vu x.A4.a3) := by rfl
theorem e_Header_s_A4_a3 (x : Header) (v : Int) : (e_Header x).set 31 (vu v) = e_Header { x with A4.a3 := v } := by rfl
theorem e_Header_g_A4_a4 (x : Header) : (e_Header x)[32]? = some (vu x.A4.a4) := by rfl
theorem e_Header_s_A4_a4 (x : Header) (v : Int) : (e_Header x).set 32 (vu v) = e_Header { x with A4.a4 := v } := by rfl
theorem e_Header_g_A4_a5 (x : Header) : (e_Header x)[33]? = some (vu x.A4.a5) := by rfl
theorem e_Header_s_A4_a5 (x : Header) (v : Int) : (e_Header x).set 33 (vu v) = e_Header { x with A4.a5 := v } := by rfl
theorem e_Header_g_Seq (x : Header) : (e_Header x)[34]? = some (vi x.Seq) := by rfl
theorem e_Header_s_Seq (x : Header) (v : Int) : (e_Header x).set 34 (vi v) = e_Header { x with Seq := v } := by rfl
theorem e_Header_g_Frag (x : Header) : (e_Header x)[35]? = some (vi x.Frag) := by rfl
theorem e_Header_s_Frag (x : Header) (v : Int) : (e_Header x).set 35 (vi v) = e_Header { x with Frag := v } := by rfl
theorem e_Header_g_Tid (x : Header) : (e_Header x)[36]? = some (vi x.Tid) := by rfl
theorem e_Header_s_Tid (x : Header) (v : Int) : (e_Header x).set 36 (vi v) = e_Header { x with Tid := v } := by rfl
theorem e_Header_g_Ack (x : Header) : (e_Header x)[37]? = some (vu x.Ack) := by rfl
theorem e_Header_s_Ack (x : Header) (v : Int) : (e_Header x).set 37 (vu v) = e_Header { x with Ack := v } := by rfl
theorem e_Header_g_Amsdu (x : Header) : (e_Header x)[38]? = some (vb x.Amsdu) := by rfl
theorem e_Header_s_Amsdu (x : Header) (v : Bool) : (e_Header x).set 38 (vb v) = e_Header { x with Amsdu := v } := by rfl
theorem e_Header_g_Eosp (x : Header) : (e_Header x)[39]? = some (vb x.Eosp) := by rfl
theorem e_Header_s_Eosp (x : Header) (v : Bool) : (e_Header x).set 39 (vb v) = e_Header { x with Eosp := v } := by rfl
theorem e_Header_d_A1 (x : Header) : sub? (e_Header x) 10 6 = some (e_Addr x.A1) := by rfl
theorem e_Header_p_A1 (x : Header) (v : Addr) : putAt (e_Header x) 10 (e_Addr v) = e_Header { x with A1 := v } := by rfl
theorem e_Header_d_A2 (x : Header) : sub? (e_Header x) 16 6 = some (e_Addr x.A2) := by rfl
theorem e_Header_p_A2 (x : Header) (v : Addr) : putAt (e_Header x) 16 (e_Addr v) = e_Header { x with A2 := v } := by rfl
theorem e_Header_d_A3 (x : Header) : sub? (e_Header x) 22 6 = some (e_Addr x.A3) := by rfl
theorem e_Header_p_A3 (x : Header) (v : Addr) : putAt (e_Header x) 22 (e_Addr v) = e_Header { x with A3 := v } := by rfl
theorem e_Header_d_A4 (x : Header) : sub? (e_Header x) 28 6 = some (e_Addr x.A4) := by rfl
theorem e_Header_p_A4 (x : Header) (v : Addr) : putAt (e_Header x) 28 (e_Addr v) = e_Header { x with A4 := v } := by rfl
theorem e_Header_fz (x : Header) (o : Nat → Ob) (n : Nat) : (e_Header x).map (fz o (n + 1)) = e_Header x := by rfl
theorem e_Header_reach (x : Header) (o : Nat → Ob) (n : Nat) : (e_Header x).flatMap (reach o (n + 1)) = [] := by
  simp only [e_Header, e_Addr, List.cons_append, List.nil_append, List.append_nil, List.flatMap_cons, List.flatMap_nil, reach_v]
theorem e_Header_clean (x : Header) : ∀ c ∈ (e_Header x), Clean c := by
  simp only [e_Header, e_Addr, List.cons_append, List.nil_append]
  repeat' (first | exact Clean.v _ | assumption | exact List.forall_mem_nil _ | refine List.forall_mem_cons.2 ⟨?_, ?_⟩)
theorem e_Header_tm {st : AS} {F : List Nat} {σ : List (Option Nat)} (x : Header) : TmL st F σ (e_Header x) (e_Header x) := by
  simp only [e_Header, e_Addr, List.cons_append, List.nil_append]
  repeat' (first | exact TmL.nil | (refine TmL.cons (Tm.v _) ?_) | (refine TmL.cons (by assumption) ?_))
theorem f_Header (x : Header) (o : Nat → Ob) (n : Nat) : (e_Header x).map (fz o (n + 1)) = e_Header x := by simp only [e_Header_fz]
theorem q_Header (x : Header) (o : Nat → Ob) (n : Nat) : (e_Header x).flatMap (reach o (n + 1)) = [] := by simp only [e_Header_reach, List.append_nil]
attribute [go_sem] e_Header_len e_Header_sub e_Header_take e_Header_all e_Header_g_Kind e_Header_s_Kind e_Header_g_Sub e_Header_s_Sub e_Header_g_ToDs e_Header_s_ToDs e_Header_g_FromDs e_Header_s_FromDs e_Header_g_More e_Header_s_More e_Header_g_Retry e_Header_s_Retry e_Header_g_Sleep e_Header_s_Sleep e_Header_g_MoreData e_Header_s_MoreData e_Header_g_Protected e_Header_s_Protected e_Header_g_Duration e_Header_s_Duration e_Header_g_A1_a0 e_Header_s_A1_a0 e_Header_g_A1_a1 e_Header_s_A1_a1 e_Header_g_A1_a2 e_Header_s_A1_a2 e_Header_g_A1_a3 e_Header_s_A1_a3 e_Header_g_A1_a4 e_Header_s_A1_a4 e_Header_g_A1_a5 e_Header_s_A1_a5 e_Header_g_A2_a0 e_Header_s_A2_a0 e_Header_g_A2_a1 e_Header_s_A2_a1 e_Header_g_A2_a2 e_Header_s_A2_a2 e_Header_g_A2_a3 e_Header_s_A2_a3 e_Header_g_A2_a4 e_Header_s_A2_a4 e_Header_g_A2_a5 e_Header_s_A2_a5 e_Header_g_A3_a0 e_Header_s_A3_a0 e_Header_g_A3_a1 e_Header_s_A3_a1 e_Header_g_A3_a2 e_Header_s_A3_a2 e_Header_g_A3_a3 e_Header_s_A3_a3 e_Header_g_A3_a4 e_Header_s_A3_a4 e_Header_g_A3_a5 e_Header_s_A3_a5 e_Header_g_A4_a0 e_Header_s_A4_a0 e_Header_g_A4_a1 e_Header_s_A4_a1 e_Header_g_A4_a2 e_Header_s_A4_a2 e_Header_g_A4_a3 e_Header_s_A4_a3 e_Header_g_A4_a4 e_Header_s_A4_a4 e_Header_g_A4_a5 e_Header_s_A4_a5 e_Header_g_Seq e_Header_s_Seq e_Header_g_Frag e_Header_s_Frag e_Header_g_Tid e_Header_s_Tid e_Header_g_Ack e_Header_s_Ack e_Header_g_Amsdu e_Header_s_Amsdu e_Header_g_Eosp e_Header_s_Eosp e_Header_d_A1 e_Header_p_A1 e_Header_d_A2 e_Header_p_A2 e_Header_d_A3 e_Header_p_A3 e_Header_d_A4 e_Header_p_A4 e_Header_fz e_Header_reach f_Header q_Header

structure Frame where
  Head : Header
  Body : (List Int)
  deriving DecidableEq

def Frame.z : Frame := ⟨Header.z, []⟩

def e_Frame (x : Frame) (s0 : AV) : List AV := (e_Header x.Head) ++ [s0]

theorem e_Frame_len (x : Frame) (s0 : AV) : (e_Frame x s0).length = 41 := by rfl
theorem e_Frame_sub (x : Frame) (s0 : AV) : sub? (e_Frame x s0) 0 41 = some (e_Frame x s0) := by rfl
theorem e_Frame_take (x : Frame) (s0 : AV) : (e_Frame x s0).take 41 = (e_Frame x s0) := by rfl
theorem e_Frame_all (x : Frame) (s0 : AV) (y : Frame) (s02 : AV) : putAt (e_Frame x s0) 0 (e_Frame y s02) = e_Frame y s02 := by rfl
theorem e_Frame_g_Head_Kind (x : Frame) (s0 : AV) : (e_Frame x s0)[0]? = some (vu x.Head.Kind) := by rfl
theorem e_Frame_s_Head_Kind (x : Frame) (s0 : AV) (v : Int) : (e_Frame x s0).set 0 (vu v) = e_Frame { x with Head.Kind := v } s0 := by rfl
theorem e_Frame_g_Head_Sub (x : Frame) (s0 : AV) : (e_Frame x s0)[1]? = some (vu x.Head.Sub) := by rfl
theorem e_Frame_s_Head_Sub (x : Frame) (s0 : AV) (v : Int) : (e_Frame x s0).set 1 (vu v) = e_Frame { x with Head.Sub := v } s0 := by rfl
theorem e_Frame_g_Head_ToDs (x : Frame) (s0 : AV) : (e_Frame x s0)[2]? = some (vb x.Head.ToDs) := by rfl
theorem e_Frame_s_Head_ToDs (x : Frame) (s0 : AV) (v : Bool) : (e_Frame x s0).set 2 (vb v) = e_Frame { x with Head.ToDs := v } s0 := by rfl
theorem e_Frame_g_Head_FromDs (x : Frame) (s0 : AV) : (e_Frame x s0)[3]? = some (vb x.Head.FromDs) := by rfl
theorem e_Frame_s_Head_FromDs (x : Frame) (s0 : AV) (v : Bool) : (e_Frame x s0).set 3 (vb v) = e_Frame { x with Head.FromDs := v } s0 := by rfl
theorem e_Frame_g_Head_More (x : Frame) (s0 : AV) : (e_Frame x s0)[4]? = some (vb x.Head.More) := by rfl
theorem e_Frame_s_Head_More (x : Frame) (s0 : AV) (v : Bool) : (e_Frame x s0).set 4 (vb v) = e_Frame { x with Head.More := v } s0 := by rfl
theorem e_Frame_g_Head_Retry (x : Frame) (s0 : AV) : (e_Frame x s0)[5]? = some (vb x.Head.Retry) := by rfl
theorem e_Frame_s_Head_Retry (x : Frame) (s0 : AV) (v : Bool) : (e_Frame x s0).set 5 (vb v) = e_Frame { x with Head.Retry := v } s0 := by rfl
theorem e_Frame_g_Head_Sleep (x : Frame) (s0 : AV) : (e_Frame x s0)[6]? = some (vb x.Head.Sleep) := by rfl
theorem e_Frame_s_Head_Sleep (x : Frame) (s0 : AV) (v : Bool) : (e_Frame x s0).set 6 (vb v) = e_Frame { x with Head.Sleep := v } s0 := by rfl
theorem e_Frame_g_Head_MoreData (x : Frame) (s0 : AV) : (e_Frame x s0)[7]? = some (vb x.Head.MoreData) := by rfl
theorem e_Frame_s_Head_MoreData (x : Frame) (s0 : AV) (v : Bool) : (e_Frame x s0).set 7 (vb v) = e_Frame { x with Head.MoreData := v } s0 := by rfl
theorem e_Frame_g_Head_Protected (x : Frame) (s0 : AV) : (e_Frame x s0)[8]? = some (vb x.Head.Protected) := by rfl
theorem e_Frame_s_Head_Protected (x : Frame) (s0 : AV) (v : Bool) : (e_Frame x s0).set 8 (vb v) = e_Frame { x with Head.Protected := v } s0 := by rfl
theorem e_Frame_g_Head_Duration (x : Frame) (s0 : AV) : (e_Frame x s0)[9]? = some (vi x.Head.Duration) := by rfl
theorem e_Frame_s_Head_Duration (x : Frame) (s0 : AV) (v : Int) : (e_Frame x s0).set 9 (vi v) = e_Frame { x with Head.Duration := v } s0 := by rfl
theorem e_Frame_g_Head_A1_a0 (x : Frame) (s0 : AV) : (e_Frame x s0)[10]? = some (vu x.Head.A1.a0) := by rfl
theorem e_Frame_s_Head_A1_a0 (x : Frame) (s0 : AV) (v : Int) : (e_Frame x s0).set 10 (vu v) = e_Frame { x with Head.A1.a0 := v } s0 := by rfl
theorem e_Frame_g_Head_A1_a1 (x : Frame) (s0 : AV) : (e_Frame x s0)[11]? = some (vu x.Head.A1.a1) := by rfl
theorem e_Frame_s_Head_A1_a1 (x : Frame) (s0 : AV) (v : Int) : (e_Frame x s0).set 11 (vu v) = e_Frame { x with Head.A1.a1 := v } s0 := by rfl
theorem e_Frame_g_Head_A1_a2 (x : Frame) (s0 : AV) : (e_Frame x s0)[12]? = some (vu x.Head.A1.a2) := by rfl
theorem e_Frame_s_Head_A1_a2 (x : Frame) (s0 : AV) (v : Int) : (e_Frame x s0).set 12 (vu v) = e_Frame { x with Head.A1.a2 := v } s0 := by rfl
theorem e_Frame_g_Head_A1_a3 (x : Frame) (s0 : AV) : (e_Frame x s0)[13]? = some (vu x.Head.A1.a3) := by rfl
theorem e_Frame_s_Head_A1_a3 (x : Frame) (s0 : AV) (v : Int) : (e_Frame x s0).set 13 (vu v) = e_Frame { x with Head.A1.a3 := v } s0 := by rfl
theorem e_Frame_g_Head_A1_a4 (x : Frame) (s0 : AV) : (e_Frame x s0)[14]? = some (vu x.Head.A1.a4) := by rfl
theorem e_Frame_s_Head_A1_a4 (x : Frame) (s0 : AV) (v : Int) : (e_Frame x s0).set 14 (vu v) = e_Frame { x with Head.A1.a4 := v } s0 := by rfl
theorem e_Frame_g_Head_A1_a5 (x : Frame) (s0 : AV) : (e_Frame x s0)[15]? = some (vu x.Head.A1.a5) := by rfl
theorem e_Frame_s_Head_A1_a5 (x : Frame) (s0 : AV) (v : Int) : (e_Frame x s0).set 15 (vu v) = e_Frame { x with Head.A1.a5 := v } s0 := by rfl
theorem e_Frame_g_Head_A2_a0 (x : Frame) (s0 : AV) : (e_Frame x s0)[16]? = some (vu x.Head.A2.a0) := by rfl
theorem e_Frame_s_Head_A2_a0 (x : Frame) (s0 : AV) (v : Int) : (e_Frame x s0).set 16 (vu v) = e_Frame { x with Head.A2.a0 := v } s0 := by rfl
theorem e_Frame_g_Head_A2_a1 (x : Frame) (s0 : AV) : (e_Frame x s0)[17]? = some (vu x.Head.A2.a1) := by rfl
theorem e_Frame_s_Head_A2_a1 (x : Frame) (s0 : AV) (v : Int) : (e_Frame x s0).set 17 (vu v) = e_Frame { x with Head.A2.a1 := v } s0 := by rfl
theorem e_Frame_g_Head_A2_a2 (x : Frame) (s0 : AV) : (e_Frame x s0)[18]? = some (vu x.Head.A2.a2) := by rfl
theorem e_Frame_s_Head_A2_a2 (x : Frame) (s0 : AV) (v : Int) : (e_Frame x s0).set 18 (vu v) = e_Frame { x with Head.A2.a2 := v } s0 := by rfl
theorem e_Frame_g_Head_A2_a3 (x : Frame) (s0 : AV) : (e_Frame x s0)[19]? = some (vu x.Head.A2.a3) := by rfl
theorem e_Frame_s_Head_A2_a3 (x : Frame) (s0 : AV) (v : Int) : (e_Frame x s0).set 19 (vu v) = e_Frame { x with Head.A2.a3 := v } s0 := by rfl
theorem e_Frame_g_Head_A2_a4 (x : Frame) (s0 : AV) : (e_Frame x s0)[20]? = some (vu x.Head.A2.a4) := by rfl
theorem e_Frame_s_Head_A2_a4 (x : Frame) (s0 : AV) (v : Int) : (e_Frame x s0).set 20 (vu v) = e_Frame { x with Head.A2.a4 := v } s0 := by rfl
theorem e_Frame_g_Head_A2_a5 (x : Frame) (s0 : AV) : (e_Frame x s0)[21]? = some (vu x.Head.A2.a5) := by rfl
theorem e_Frame_s_Head_A2_a5 (x : Frame) (s0 : AV) (v : Int) : (e_Frame x s0).set 21 (vu v) = e_Frame { x with Head.A2.a5 := v } s0 := by rfl
theorem e_Frame_g_Head_A3_a0 (x : Frame) (s0 : AV) : (e_Frame x s0)[22]? = some (vu x.Head.A3.a0) := by rfl
theorem e_Frame_s_Head_A3_a0 (x : Frame) (s0 : AV) (v : Int) : (e_Frame x s0).set 22 (vu v) = e_Frame { x with Head.A3.a0 := v } s0 := by rfl
theorem e_Frame_g_Head_A3_a1 (x : Frame) (s0 : AV) : (e_Frame x s0)[23]? = some (vu x.Head.A3.a1) := by rfl
theorem e_Frame_s_Head_A3_a1 (x : Frame) (s0 : AV) (v : Int) : (e_Frame x s0).set 23 (vu v) = e_Frame { x with Head.A3.a1 := v } s0 := by rfl
theorem e_Frame_g_Head_A3_a2 (x : Frame) (s0 : AV) : (e_Frame x s0)[24]? = some (vu x.Head.A3.a2) := by rfl
theorem e_Frame_s_Head_A3_a2 (x : Frame) (s0 : AV) (v : Int) : (e_Frame x s0).set 24 (vu v) = e_Frame { x with Head.A3.a2 := v } s0 := by rfl
theorem e_Frame_g_Head_A3_a3 (x : Frame) (s0 : AV) : (e_Frame x s0)[25]? = some (vu x.Head.A3.a3) := by rfl
theorem e_Frame_s_Head_A3_a3 (x : Frame) (s0 : AV) (v : Int) : (e_Frame x s0).set 25 (vu v) = e_Frame { x with Head.A3.a3 := v } s0 := by rfl
theorem e_Frame_g_Head_A3_a4 (x : Frame) (s0 : AV) : (e_Frame x s0)[26]? = some (vu x.Head.A3.a4) := by rfl
theorem e_Frame_s_Head_A3_a4 (x : Frame) (s0 : AV) (v : Int) : (e_Frame x s0).set 26 (vu v) = e_Frame { x with Head.A3.a4 := v } s0 := by rfl
theorem e_Frame_g_Head_A3_a5 (x : Frame) (s0 : AV) : (e_Frame x s0)[27]? = some (vu x.Head.A3.a5) := by rfl
theorem e_Frame_s_Head_A3_a5 (x : Frame) (s0 : AV) (v : Int) : (e_Frame x s0).set 27 (vu v) = e_Frame { x with Head.A3.a5 := v } s0 := by rfl
theorem e_Frame_g_Head_A4_a0 (x : Frame) (s0 : AV) : (e_Frame x s0)[28]? = some (vu x.Head.A4.a0) := by rfl
theorem e_Frame_s_Head_A4_a0 (x : Frame) (s0 : AV) (v : Int) : (e_Frame x s0).set 28 (vu v) = e_Frame { x with Head.A4.a0 := v } s0 := by rfl
theorem e_Frame_g_Head_A4_a1 (x : Frame) (s0 : AV) : (e_Frame x s0)[29]? = some (vu x.Head.A4.a1) := by rfl
theorem e_Frame_s_Head_A4_a1 (x : Frame) (s0 : AV) (v : Int) : (e_Frame x s0).set 29 (vu v) = e_Frame { x with Head.A4.a1 := v } s0 := by rfl
theorem e_Frame_g_Head_A4_a2 (x : Frame) (s0 : AV) : (e_Frame x s0)[30]? = some (vu x.Head.A4.a2) := by rfl
theorem e_Frame_s_Head_A4_a2 (x : Frame) (s0 : AV) (v : Int) : (e_Frame x s0).set 30 (vu v) = e_Frame { x with Head.A4.a2 := v } s0 := by rfl
theorem e_Frame_g_Head_A4_a3 (x : Frame) (s0 : AV) : (e_Frame x s0)[31]? = some (vu x.Head.A4.a3) := by rfl
theorem e_Frame_s_Head_A4_a3 (x : Frame) (s0 : AV) (v : Int) : (e_Frame x s0).set 31 (vu v) = e_Frame { x with Head.A4.a3 := v } s0 := by rfl
theorem e_Frame_g_Head_A4_a4 (x : Frame) (s0 : AV) : (e_Frame x s0)[32]? = some (vu x.Head.A4.a4) := by rfl
theorem e_Frame_s_Head_A4_a4 (x : Frame) (s0 : AV) (v : Int) : (e_Frame x s0).set 32 (vu v) = e_Frame { x with Head.A4.a4 := v } s0 := by rfl
theorem e_Frame_g_Head_A4_a5 (x : Frame) (s0 : AV) : (e_Frame x s0)[33]? = some (vu x.Head.A4.a5) := by rfl
theorem e_Frame_s_Head_A4_a5 (x : Frame) (s0 : AV) (v : Int) : (e_Frame x s0).set 33 (vu v) = e_Frame { x with Head.A4.a5 := v } s0 := by rfl
theorem e_Frame_g_Head_Seq (x : Frame) (s0 : AV) : (e_Frame x s0)[34]? = some (vi x.Head.Seq) := by rfl
theorem e_Frame_s_Head_Seq (x : Frame) (s0 : AV) (v : Int) : (e_Frame x s0).set 34 (vi v) = e_Frame { x with Head.Seq := v } s0 := by rfl
theorem e_Frame_g_Head_Frag (x : Frame) (s0 : AV) : (e_Frame x s0)[35]? = some (vi x.Head.Frag) := by rfl
theorem e_Frame_s_Head_Frag (x : Frame) (s0 : AV) (v : Int) : (e_Frame x s0).set 35 (vi v) = e_Frame { x with Head.Frag := v } s0 := by rfl
theorem e_Frame_g_Head_Tid (x : Frame) (s0 : AV) : (e_Frame x s0)[36]? = some (vi x.Head.Tid) := by rfl
theorem e_Frame_s_Head_Tid (x : Frame) (s0 : AV) (v : Int) : (e_Frame x s0).set 36 (vi v) = e_Frame { x with Head.Tid := v } s0 := by rfl
theorem e_Frame_g_Head_Ack (x : Frame) (s0 : AV) : (e_Frame x s0)[37]? = some (vu x.Head.Ack) := by rfl
theorem e_Frame_s_Head_Ack (x : Frame) (s0 : AV) (v : Int) : (e_Frame x s0).set 37 (vu v) = e_Frame { x with Head.Ack := v } s0 := by rfl
theorem e_Frame_g_Head_Amsdu (x : Frame) (s0 : AV) : (e_Frame x s0)[38]? = some (vb x.Head.Amsdu) := by rfl
theorem e_Frame_s_Head_Amsdu (x : Frame) (s0 : AV) (v : Bool) : (e_Frame x s0).set 38 (vb v) = e_Frame { x with Head.Amsdu := v } s0 := by rfl
theorem e_Frame_g_Head_Eosp (x : Frame) (s0 : AV) : (e_Frame x s0)[39]? = some (vb x.Head.Eosp) := by rfl
theorem e_Frame_s_Head_Eosp (x : Frame) (s0 : AV) (v : Bool) : (e_Frame x s0).set 39 (vb v) = e_Frame { x with Head.Eosp := v } s0 := by rfl
theorem e_Frame_g_Body (x : Frame) (s0 : AV) : (e_Frame x s0)[40]? = some s0 := by rfl
theorem e_Frame_s_Body (x : Frame) (s0 : AV) (v : AV) : (e_Frame x s0).set 40 v = e_Frame x v := by rfl
theorem e_Frame_d_Head (x : Frame) (s0 : AV) : sub? (e_Frame x s0) 0 40 = some (e_Header x.Head) := by rfl
theorem e_Frame_p_Head (x : Frame) (s0 : AV) (v : Header) : putAt (e_Frame x s0) 0 (e_Header v) = e_Frame { x with Head := v } s0 := by rfl
theorem e_Frame_d_Head_A1 (x : Frame) (s0 : AV) : sub? (e_Frame x s0) 10 6 = some (e_Addr x.Head.A1) := by rfl
theorem e_Frame_p_Head_A1 (x : Frame) (s0 : AV) (v : Addr) : putAt (e_Frame x s0) 10 (e_Addr v) = e_Frame { x with Head.A1 := v } s0 := by rfl
theorem e_Frame_d_Head_A2 (x : Frame) (s0 : AV) : sub? (e_Frame x s0) 16 6 = some (e_Addr x.Head.A2) := by rfl
theorem e_Frame_p_Head_A2 (x : Frame) (s0 : AV) (v : Addr) : putAt (e_Frame x s0) 16 (e_Addr v) = e_Frame { x with Head.A2 := v } s0 := by rfl
theorem e_Frame_d_Head_A3 (x : Frame) (s0 : AV) : sub? (e_Frame x s0) 22 6 = some (e_Addr x.Head.A3) := by rfl
theorem e_Frame_p_Head_A3 (x : Frame) (s0 : AV) (v : Addr) : putAt (e_Frame x s0) 22 (e_Addr v) = e_Frame { x with Head.A3 := v } s0 := by rfl
theorem e_Frame_d_Head_A4 (x : Frame) (s0 : AV) : sub? (e_Frame x s0) 28 6 = some (e_Addr x.Head.A4) := by rfl
theorem e_Frame_p_Head_A4 (x : Frame) (s0 : AV) (v : Addr) : putAt (e_Frame x s0) 28 (e_Addr v) = e_Frame { x with Head.A4 := v } s0 := by rfl
theorem e_Frame_fz (x : Frame) (s0 : AV) (o : Nat → Ob) (n : Nat) : (e_Frame x s0).map (fz o (n + 1)) = e_Frame x (fz o (n + 1) s0) := by rfl
theorem e_Frame_reach (x : Frame) (s0 : AV) (o : Nat → Ob) (n : Nat) : (e_Frame x s0).flatMap (reach o (n + 1)) = reach o (n + 1) s0 := by
  simp only [e_Frame, e_Header, e_Addr, List.cons_append, List.nil_append, List.append_nil, List.flatMap_cons, List.flatMap_nil, reach_v]
theorem e_Frame_clean (x : Frame) (s0 : AV) (h_s0 : Clean s0) : ∀ c ∈ (e_Frame x s0), Clean c := by
  simp only [e_Frame, e_Header, e_Addr, List.cons_append, List.nil_append]
  repeat' (first | exact Clean.v _ | assumption | exact List.forall_mem_nil _ | refine List.forall_mem_cons.2 ⟨?_, ?_⟩)
theorem e_Frame_tm {st : AS} {F : List Nat} {σ : List (Option Nat)} (x : Frame) (s0 : AV) (s02 : AV) (h_s0 : Tm st F σ s0 s02) : TmL st F σ (e_Frame x s0) (e_Frame x s02) := by
  simp only [e_Frame, e_Header, e_Addr, List.cons_append, List.nil_append]
  repeat' (first | exact TmL.nil | (refine TmL.cons (Tm.v _) ?_) | (refine TmL.cons (by assumption) ?_))
theorem e_Frame_tmx {st : AS} {F : List Nat} {σ : List (Option Nat)} {x y : Frame} {s0 s02 : AV} (hxy : e_Frame y s02 = e_Frame x s02) (h_s0 : Tm st F σ s0 s02) : TmL st F σ (e_Frame x s0) (e_Frame y s02) := by
  rw [hxy]; exact e_Frame_tm x s0 s02 h_s0
theorem e_Frame_ren (x : Frame) {s0 : (Nat → Nat) → AV} (h_s0 : RenM s0) : RenML fun q => e_Frame x (s0 q) := by
  simp only [e_Frame, e_Header, e_Addr, List.cons_append, List.nil_append]
  repeat' (first | exact RenML.nil | (refine RenML.cons (RenM.const (Clean.v _)) ?_) | (refine RenML.cons (by assumption) ?_))
def E_Frame (x : Frame) : List AV := e_Frame x (S_vu x.Body)
theorem E_Frame_eq (x : Frame) : E_Frame x = e_Frame x (S_vu x.Body) := rfl
theorem E_Frame_clean (x : Frame) : ∀ c ∈ E_Frame x, Clean c := e_Frame_clean x _ (S_vu_clean _)
theorem f_Frame (x : Frame) (o : Nat → Ob) (n : Nat) : (E_Frame x).map (fz o (n + 2)) = E_Frame x := by simp only [E_Frame_eq, e_Frame_fz, f_S_vu]
theorem q_Frame (x : Frame) (o : Nat → Ob) (n : Nat) : (E_Frame x).flatMap (reach o (n + 2)) = [] := by simp only [E_Frame_eq, e_Frame_reach, q_S_vu, List.append_nil]
attribute [go_sem] e_Frame_len e_Frame_sub e_Frame_take e_Frame_all e_Frame_g_Head_Kind e_Frame_s_Head_Kind e_Frame_g_Head_Sub e_Frame_s_Head_Sub e_Frame_g_Head_ToDs e_Frame_s_Head_ToDs e_Frame_g_Head_FromDs e_Frame_s_Head_FromDs e_Frame_g_Head_More e_Frame_s_Head_More e_Frame_g_Head_Retry e_Frame_s_Head_Retry e_Frame_g_Head_Sleep e_Frame_s_Head_Sleep e_Frame_g_Head_MoreData e_Frame_s_Head_MoreData e_Frame_g_Head_Protected e_Frame_s_Head_Protected e_Frame_g_Head_Duration e_Frame_s_Head_Duration e_Frame_g_Head_A1_a0 e_Frame_s_Head_A1_a0 e_Frame_g_Head_A1_a1 e_Frame_s_Head_A1_a1 e_Frame_g_Head_A1_a2 e_Frame_s_Head_A1_a2 e_Frame_g_Head_A1_a3 e_Frame_s_Head_A1_a3 e_Frame_g_Head_A1_a4 e_Frame_s_Head_A1_a4 e_Frame_g_Head_A1_a5 e_Frame_s_Head_A1_a5 e_Frame_g_Head_A2_a0 e_Frame_s_Head_A2_a0 e_Frame_g_Head_A2_a1 e_Frame_s_Head_A2_a1 e_Frame_g_Head_A2_a2 e_Frame_s_Head_A2_a2 e_Frame_g_Head_A2_a3 e_Frame_s_Head_A2_a3 e_Frame_g_Head_A2_a4 e_Frame_s_Head_A2_a4 e_Frame_g_Head_A2_a5 e_Frame_s_Head_A2_a5 e_Frame_g_Head_A3_a0 e_Frame_s_Head_A3_a0 e_Frame_g_Head_A3_a1 e_Frame_s_Head_A3_a1 e_Frame_g_Head_A3_a2 e_Frame_s_Head_A3_a2 e_Frame_g_Head_A3_a3 e_Frame_s_Head_A3_a3 e_Frame_g_Head_A3_a4 e_Frame_s_Head_A3_a4 e_Frame_g_Head_A3_a5 e_Frame_s_Head_A3_a5 e_Frame_g_Head_A4_a0 e_Frame_s_Head_A4_a0 e_Frame_g_Head_A4_a1 e_Frame_s_Head_A4_a1 e_Frame_g_Head_A4_a2 e_Frame_s_Head_A4_a2 e_Frame_g_Head_A4_a3 e_Frame_s_Head_A4_a3 e_Frame_g_Head_A4_a4 e_Frame_s_Head_A4_a4 e_Frame_g_Head_A4_a5 e_Frame_s_Head_A4_a5 e_Frame_g_Head_Seq e_Frame_s_Head_Seq e_Frame_g_Head_Frag e_Frame_s_Head_Frag e_Frame_g_Head_Tid e_Frame_s_Head_Tid e_Frame_g_Head_Ack e_Frame_s_Head_Ack e_Frame_g_Head_Amsdu e_Frame_s_Head_Amsdu e_Frame_g_Head_Eosp e_Frame_s_Head_Eosp e_Frame_g_Body e_Frame_s_Body e_Frame_d_Head e_Frame_p_Head e_Frame_d_Head_A1 e_Frame_p_Head_A1 e_Frame_d_Head_A2 e_Frame_p_Head_A2 e_Frame_d_Head_A3 e_Frame_p_Head_A3 e_Frame_d_Head_A4 e_Frame_p_Head_A4 e_Frame_fz e_Frame_reach E_Frame_eq f_Frame q_Frame

structure Unacked where
  At : Int
  Tries : Int
  Flying : Bool
  Frame : Frame
  deriving DecidableEq

def Unacked.z : Unacked := ⟨0, 0, false, Frame.z⟩

def e_Unacked (x : Unacked) (s0 : AV) : List AV := [vi x.At, vi x.Tries, vb x.Flying] ++ (e_Frame x.Frame s0)

theorem e_Unacked_len (x : Unacked) (s0 : AV) : (e_Unacked x s0).length = 44 := by rfl
theorem e_Unacked_sub (x : Unacked) (s0 : AV) : sub? (e_Unacked x s0) 0 44 = some (e_Unacked x s0) := by rfl
theorem e_Unacked_take (x : Unacked) (s0 : AV) : (e_Unacked x s0).take 44 = (e_Unacked x s0) := by rfl
theorem e_Unacked_all (x : Unacked) (s0 : AV) (y : Unacked) (s02 : AV) : putAt (e_Unacked x s0) 0 (e_Unacked y s02) = e_Unacked y s02 := by rfl
theorem e_Unacked_g_At (x : Unacked) (s0 : AV) : (e_Unacked x s0)[0]? = some (vi x.At) := by rfl
theorem e_Unacked_s_At (x : Unacked) (s0 : AV) (v : Int) : (e_Unacked x s0).set 0 (vi v) = e_Unacked { x with At := v } s0 := by rfl
theorem e_Unacked_g_Tries (x : Unacked) (s0 : AV) : (e_Unacked x s0)[1]? = some (vi x.Tries) := by rfl
theorem e_Unacked_s_Tries (x : Unacked) (s0 : AV) (v : Int) : (e_Unacked x s0).set 1 (vi v) = e_Unacked { x with Tries := v } s0 := by rfl
theorem e_Unacked_g_Flying (x : Unacked) (s0 : AV) : (e_Unacked x s0)[2]? = some (vb x.Flying) := by rfl
theorem e_Unacked_s_Flying (x : Unacked) (s0 : AV) (v : Bool) : (e_Unacked x s0).set 2 (vb v) = e_Unacked { x with Flying := v } s0 := by rfl
theorem e_Unacked_g_Frame_Head_Kind (x : Unacked) (s0 : AV) : (e_Unacked x s0)[3]? = some (vu x.Frame.Head.Kind) := by rfl
theorem e_Unacked_s_Frame_Head_Kind (x : Unacked) (s0 : AV) (v : Int) : (e_Unacked x s0).set 3 (vu v) = e_Unacked { x with Frame.Head.Kind := v } s0 := by rfl
theorem e_Unacked_g_Frame_Head_Sub (x : Unacked) (s0 : AV) : (e_Unacked x s0)[4]? = some (vu x.Frame.Head.Sub) := by rfl
theorem e_Unacked_s_Frame_Head_Sub (x : Unacked) (s0 : AV) (v : Int) : (e_Unacked x s0).set 4 (vu v) = e_Unacked { x with Frame.Head.Sub := v } s0 := by rfl
theorem e_Unacked_g_Frame_Head_ToDs (x : Unacked) (s0 : AV) : (e_Unacked x s0)[5]? = some (vb x.Frame.Head.ToDs) := by rfl
theorem e_Unacked_s_Frame_Head_ToDs (x : Unacked) (s0 : AV) (v : Bool) : (e_Unacked x s0).set 5 (vb v) = e_Unacked { x with Frame.Head.ToDs := v } s0 := by rfl
theorem e_Unacked_g_Frame_Head_FromDs (x : Unacked) (s0 : AV) : (e_Unacked x s0)[6]? = some (vb x.Frame.Head.FromDs) := by rfl
theorem e_Unacked_s_Frame_Head_FromDs (x : Unacked) (s0 : AV) (v : Bool) : (e_Unacked x s0).set 6 (vb v) = e_Unacked { x with Frame.Head.FromDs := v } s0 := by rfl
theorem e_Unacked_g_Frame_Head_More (x : Unacked) (s0 : AV) : (e_Unacked x s0)[7]? = some (vb x.Frame.Head.More) := by rfl
theorem e_Unacked_s_Frame_Head_More (x : Unacked) (s0 : AV) (v : Bool) : (e_Unacked x s0).set 7 (vb v) = e_Unacked { x with Frame.Head.More := v } s0 := by rfl
theorem e_Unacked_g_Frame_Head_Retry (x : Unacked) (s0 : AV) : (e_Unacked x s0)[8]? = some (vb x.Frame.Head.Retry) := by rfl
theorem e_Unacked_s_Frame_Head_Retry (x : Unacked) (s0 : AV) (v : Bool) : (e_Unacked x s0).set 8 (vb v) = e_Unacked { x with Frame.Head.Retry := v } s0 := by rfl
theorem e_Unacked_g_Frame_Head_Sleep (x : Unacked) (s0 : AV) : (e_Unacked x s0)[9]? = some (vb x.Frame.Head.Sleep) := by rfl
theorem e_Unacked_s_Frame_Head_Sleep (x : Unacked) (s0 : AV) (v : Bool) : (e_Unacked x s0).set 9 (vb v) = e_Unacked { x with Frame.Head.Sleep := v } s0 := by rfl
theorem e_Unacked_g_Frame_Head_MoreData (x : Unacked) (s0 : AV) : (e_Unacked x s0)[10]? = some (vb x.Frame.Head.MoreData) := by rfl
theorem e_Unacked_s_Frame_Head_MoreData (x : Unacked) (s0 : AV) (v : Bool) : (e_Unacked x s0).set 10 (vb v) = e_Unacked { x with Frame.Head.MoreData := v } s0 := by rfl
theorem e_Unacked_g_Frame_Head_Protected (x : Unacked) (s0 : AV) : (e_Unacked x s0)[11]? = some (vb x.Frame.Head.Protected) := by rfl
theorem e_Unacked_s_Frame_Head_Protected (x : Unacked) (s0 : AV) (v : Bool) : (e_Unacked x s0).set 11 (vb v) = e_Unacked { x with Frame.Head.Protected := v } s0 := by rfl
theorem e_Unacked_g_Frame_Head_Duration (x : Unacked) (s0 : AV) : (e_Unacked x s0)[12]? = some (vi x.Frame.Head.Duration) := by rfl
theorem e_Unacked_s_Frame_Head_Duration (x : Unacked) (s0 : AV) (v : Int) : (e_Unacked x s0).set 12 (vi v) = e_Unacked { x with Frame.Head.Duration := v } s0 := by rfl
theorem e_Unacked_g_Frame_Head_A1_a0 (x : Unacked) (s0 : AV) : (e_Unacked x s0)[13]? = some (vu x.Frame.Head.A1.a0) := by rfl
theorem e_Unacked_s_Frame_Head_A1_a0 (x : Unacked) (s0 : AV) (v : Int) : (e_Unacked x s0).set 13 (vu v) = e_Unacked { x with Frame.Head.A1.a0 := v } s0 := by rfl
theorem e_Unacked_g_Frame_Head_A1_a1 (x : Unacked) (s0 : AV) : (e_Unacked x s0)[14]? = some (vu x.Frame.Head.A1.a1) := by rfl
theorem e_Unacked_s_Frame_Head_A1_a1 (x : Unacked) (s0 : AV) (v : Int) : (e_Unacked x s0).set 14 (vu v) = e_Unacked { x with Frame.Head.A1.a1 := v } s0 := by rfl
theorem e_Unacked_g_Frame_Head_A1_a2 (x : Unacked) (s0 : AV) : (e_Unacked x s0)[15]? = some (vu x.Frame.Head.A1.a2) := by rfl
theorem e_Unacked_s_Frame_Head_A1_a2 (x : Unacked) (s0 : AV) (v : Int) : (e_Unacked x s0).set 15 (vu v) = e_Unacked { x with Frame.Head.A1.a2 := v } s0 := by rfl
theorem e_Unacked_g_Frame_Head_A1_a3 (x : Unacked) (s0 : AV) : (e_Unacked x s0)[16]? = some (vu x.Frame.Head.A1.a3) := by rfl
theorem e_Unacked_s_Frame_Head_A1_a3 (x : Unacked) (s0 : AV) (v : Int) : (e_Unacked x s0).set 16 (vu v) = e_Unacked { x with Frame.Head.A1.a3 := v } s0 := by rfl
theorem e_Unacked_g_Frame_Head_A1_a4 (x : Unacked) (s0 : AV) : (e_Unacked x s0)[17]? = some (vu x.Frame.Head.A1.a4) := by rfl
theorem e_Unacked_s_Frame_Head_A1_a4 (x : Unacked) (s0 : AV) (v : Int) : (e_Unacked x s0).set 17 (vu v) = e_Unacked { x with Frame.Head.A1.a4 := v } s0 := by rfl
theorem e_Unacked_g_Frame_Head_A1_a5 (x : Unacked) (s0 : AV) : (e_Unacked x s0)[18]? = some (vu x.Frame.Head.A1.a5) := by rfl
theorem e_Unacked_s_Frame_Head_A1_a5 (x : Unacked) (s0 : AV) (v : Int) : (e_Unacked x s0).set 18 (vu v) = e_Unacked { x with Frame.Head.A1.a5 := v } s0 := by rfl
theorem e_Unacked_g_Frame_Head_A2_a0 (x : Unacked) (s0 : AV) : (e_Unacked x s0)[19]? = some (vu x.Frame.Head.A2.a0) := by rfl
theorem e_Unacked_s_Frame_Head_A2_a0 (x : Unacked) (s0 : AV) (v : Int) : (e_Unacked x s0).set 19 (vu v) = e_Unacked { x with Frame.Head.A2.a0 := v } s0 := by rfl
theorem e_Unacked_g_Frame_Head_A2_a1 (x : Unacked) (s0 : AV) : (e_Unacked x s0)[20]? = some (vu x.Frame.Head.A2.a1) := by rfl
theorem e_Unacked_s_Frame_Head_A2_a1 (x : Unacked) (s0 : AV) (v : Int) : (e_Unacked x s0).set 20 (vu v) = e_Unacked { x with Frame.Head.A2.a1 := v } s0 := by rfl
theorem e_Unacked_g_Frame_Head_A2_a2 (x : Unacked) (s0 : AV) : (e_Unacked x s0)[21]? = some (vu x.Frame.Head.A2.a2) := by rfl
theorem e_Unacked_s_Frame_Head_A2_a2 (x : Unacked) (s0 : AV) (v : Int) : (e_Unacked x s0).set 21 (vu v) = e_Unacked { x with Frame.Head.A2.a2 := v } s0 := by rfl
theorem e_Unacked_g_Frame_Head_A2_a3 (x : Unacked) (s0 : AV) : (e_Unacked x s0)[22]? = some (vu x.Frame.Head.A2.a3) := by rfl
theorem e_Unacked_s_Frame_Head_A2_a3 (x : Unacked) (s0 : AV) (v : Int) : (e_Unacked x s0).set 22 (vu v) = e_Unacked { x with Frame.Head.A2.a3 := v } s0 := by rfl
theorem e_Unacked_g_Frame_Head_A2_a4 (x : Unacked) (s0 : AV) : (e_Unacked x s0)[23]? = some (vu x.Frame.Head.A2.a4) := by rfl
theorem e_Unacked_s_Frame_Head_A2_a4 (x : Unacked) (s0 : AV) (v : Int) : (e_Unacked x s0).set 23 (vu v) = e_Unacked { x with Frame.Head.A2.a4 := v } s0 := by rfl
theorem e_Unacked_g_Frame_Head_A2_a5 (x : Unacked) (s0 : AV) : (e_Unacked x s0)[24]? = some (vu x.Frame.Head.A2.a5) := by rfl
theorem e_Unacked_s_Frame_Head_A2_a5 (x : Unacked) (s0 : AV) (v : Int) : (e_Unacked x s0).set 24 (vu v) = e_Unacked { x with Frame.Head.A2.a5 := v } s0 := by rfl
theorem e_Unacked_g_Frame_Head_A3_a0 (x : Unacked) (s0 : AV) : (e_Unacked x s0)[25]? = some (vu x.Frame.Head.A3.a0) := by rfl
theorem e_Unacked_s_Frame_Head_A3_a0 (x : Unacked) (s0 : AV) (v : Int) : (e_Unacked x s0).set 25 (vu v) = e_Unacked { x with Frame.Head.A3.a0 := v } s0 := by rfl
theorem e_Unacked_g_Frame_Head_A3_a1 (x : Unacked) (s0 : AV) : (e_Unacked x s0)[26]? = some (vu x.Frame.Head.A3.a1) := by rfl
theorem e_Unacked_s_Frame_Head_A3_a1 (x : Unacked) (s0 : AV) (v : Int) : (e_Unacked x s0).set 26 (vu v) = e_Unacked { x with Frame.Head.A3.a1 := v } s0 := by rfl
theorem e_Unacked_g_Frame_Head_A3_a2 (x : Unacked) (s0 : AV) : (e_Unacked x s0)[27]? = some (vu x.Frame.Head.A3.a2) := by rfl
theorem e_Unacked_s_Frame_Head_A3_a2 (x : Unacked) (s0 : AV) (v : Int) : (e_Unacked x s0).set 27 (vu v) = e_Unacked { x with Frame.Head.A3.a2 := v } s0 := by rfl
theorem e_Unacked_g_Frame_Head_A3_a3 (x : Unacked) (s0 : AV) : (e_Unacked x s0)[28]? = some (vu x.Frame.Head.A3.a3) := by rfl
theorem e_Unacked_s_Frame_Head_A3_a3 (x : Unacked) (s0 : AV) (v : Int) : (e_Unacked x s0).set 28 (vu v) = e_Unacked { x with Frame.Head.A3.a3 := v } s0 := by rfl
theorem e_Unacked_g_Frame_Head_A3_a4 (x : Unacked) (s0 : AV) : (e_Unacked x s0)[29]? = some (vu x.Frame.Head.A3.a4) := by rfl
theorem e_Unacked_s_Frame_Head_A3_a4 (x : Unacked) (s0 : AV) (v : Int) : (e_Unacked x s0).set 29 (vu v) = e_Unacked { x with Frame.Head.A3.a4 := v } s0 := by rfl
theorem e_Unacked_g_Frame_Head_A3_a5 (x : Unacked) (s0 : AV) : (e_Unacked x s0)[30]? = some (vu x.Frame.Head.A3.a5) := by rfl
theorem e_Unacked_s_Frame_Head_A3_a5 (x : Unacked) (s0 : AV) (v : Int) : (e_Unacked x s0).set 30 (vu v) = e_Unacked { x with Frame.Head.A3.a5 := v } s0 := by rfl
theorem e_Unacked_g_Frame_Head_A4_a0 (x : Unacked) (s0 : AV) : (e_Unacked x s0)[31]? = some (vu x.Frame.Head.A4.a0) := by rfl
theorem e_Unacked_s_Frame_Head_A4_a0 (x : Unacked) (s0 : AV) (v : Int) : (e_Unacked x s0).set 31 (vu v) = e_Unacked { x with Frame.Head.A4.a0 := v } s0 := by rfl
theorem e_Unacked_g_Frame_Head_A4_a1 (x : Unacked) (s0 : AV) : (e_Unacked x s0)[32]? = some (vu x.Frame.Head.A4.a1) := by rfl
theorem e_Unacked_s_Frame_Head_A4_a1 (x : Unacked) (s0 : AV) (v : Int) : (e_Unacked x s0).set 32 (vu v) = e_Unacked { x with Frame.Head.A4.a1 := v } s0 := by rfl
theorem e_Unacked_g_Frame_Head_A4_a2 (x : Unacked) (s0 : AV) : (e_Unacked x s0)[33]? = some (vu x.Frame.Head.A4.a2) := by rfl
theorem e_Unacked_s_Frame_Head_A4_a2 (x : Unacked) (s0 : AV) (v : Int) : (e_Unacked x s0).set 33 (vu v) = e_Unacked { x with Frame.Head.A4.a2 := v } s0 := by rfl
theorem e_Unacked_g_Frame_Head_A4_a3 (x : Unacked) (s0 : AV) : (e_Unacked x s0)[34]? = some (vu x.Frame.Head.A4.a3) := by rfl
theorem e_Unacked_s_Frame_Head_A4_a3 (x : Unacked) (s0 : AV) (v : Int) : (e_Unacked x s0).set 34 (vu v) = e_Unacked { x with Frame.Head.A4.a3 := v } s0 := by rfl
theorem e_Unacked_g_Frame_Head_A4_a4 (x : Unacked) (s0 : AV) : (e_Unacked x s0)[35]? = some (vu x.Frame.Head.A4.a4) := by rfl
theorem e_Unacked_s_Frame_Head_A4_a4 (x : Unacked) (s0 : AV) (v : Int) : (e_Unacked x s0).set 35 (vu v) = e_Unacked { x with Frame.Head.A4.a4 := v } s0 := by rfl
theorem e_Unacked_g_Frame_Head_A4_a5 (x : Unacked) (s0 : AV) : (e_Unacked x s0)[36]? = some (vu x.Frame.Head.A4.a5) := by rfl
theorem e_Unacked_s_Frame_Head_A4_a5 (x : Unacked) (s0 : AV) (v : Int) : (e_Unacked x s0).set 36 (vu v) = e_Unacked { x with Frame.Head.A4.a5 := v } s0 := by rfl
theorem e_Unacked_g_Frame_Head_Seq (x : Unacked) (s0 : AV) : (e_Unacked x s0)[37]? = some (vi x.Frame.Head.Seq) := by rfl
theorem e_Unacked_s_Frame_Head_Seq (x : Unacked) (s0 : AV) (v : Int) : (e_Unacked x s0).set 37 (vi v) = e_Unacked { x with Frame.Head.Seq := v } s0 := by rfl
theorem e_Unacked_g_Frame_Head_Frag (x : Unacked) (s0 : AV) : (e_Unacked x s0)[38]? = some (vi x.Frame.Head.Frag) := by rfl
theorem e_Unacked_s_Frame_Head_Frag (x : Unacked) (s0 : AV) (v : Int) : (e_Unacked x s0).set 38 (vi v) = e_Unacked { x with Frame.Head.Frag := v } s0 := by rfl
theorem e_Unacked_g_Frame_Head_Tid (x : Unacked) (s0 : AV) : (e_Unacked x s0)[39]? = some (vi x.Frame.Head.Tid) := by rfl
theorem e_Unacked_s_Frame_Head_Tid (x : Unacked) (s0 : AV) (v : Int) : (e_Unacked x s0).set 39 (vi v) = e_Unacked { x with Frame.Head.Tid := v } s0 := by rfl
theorem e_Unacked_g_Frame_Head_Ack (x : Unacked) (s0 : AV) : (e_Unacked x s0)[40]? = some (vu x.Frame.Head.Ack) := by rfl
theorem e_Unacked_s_Frame_Head_Ack (x : Unacked) (s0 : AV) (v : Int) : (e_Unacked x s0).set 40 (vu v) = e_Unacked { x with Frame.Head.Ack := v } s0 := by rfl
theorem e_Unacked_g_Frame_Head_Amsdu (x : Unacked) (s0 : AV) : (e_Unacked x s0)[41]? = some (vb x.Frame.Head.Amsdu) := by rfl
theorem e_Unacked_s_Frame_Head_Amsdu (x : Unacked) (s0 : AV) (v : Bool) : (e_Unacked x s0).set 41 (vb v) = e_Unacked { x with Frame.Head.Amsdu := v } s0 := by rfl
theorem e_Unacked_g_Frame_Head_Eosp (x : Unacked) (s0 : AV) : (e_Unacked x s0)[42]? = some (vb x.Frame.Head.Eosp) := by rfl
theorem e_Unacked_s_Frame_Head_Eosp (x : Unacked) (s0 : AV) (v : Bool) : (e_Unacked x s0).set 42 (vb v) = e_Unacked { x with Frame.Head.Eosp := v } s0 := by rfl
theorem e_Unacked_g_Frame_Body (x : Unacked) (s0 : AV) : (e_Unacked x s0)[43]? = some s0 := by rfl
theorem e_Unacked_s_Frame_Body (x : Unacked) (s0 : AV) (v : AV) : (e_Unacked x s0).set 43 v = e_Unacked x v := by rfl
theorem e_Unacked_d_Frame (x : Unacked) (s0 : AV) : sub? (e_Unacked x s0) 3 41 = some (e_Frame x.Frame s0) := by rfl
theorem e_Unacked_p_Frame (x : Unacked) (s0 : AV) (v : Frame) (w0 : AV) : putAt (e_Unacked x s0) 3 (e_Frame v w0) = e_Unacked { x with Frame := v } w0 := by rfl
theorem e_Unacked_d_Frame_Head (x : Unacked) (s0 : AV) : sub? (e_Unacked x s0) 3 40 = some (e_Header x.Frame.Head) := by rfl
theorem e_Unacked_p_Frame_Head (x : Unacked) (s0 : AV) (v : Header) : putAt (e_Unacked x s0) 3 (e_Header v) = e_Unacked { x with Frame.Head := v } s0 := by rfl
theorem e_Unacked_d_Frame_Head_A1 (x : Unacked) (s0 : AV) : sub? (e_Unacked x s0) 13 6 = some (e_Addr x.Frame.Head.A1) := by rfl
theorem e_Unacked_p_Frame_Head_A1 (x : Unacked) (s0 : AV) (v : Addr) : putAt (e_Unacked x s0) 13 (e_Addr v) = e_Unacked { x with Frame.Head.A1 := v } s0 := by rfl
theorem e_Unacked_d_Frame_Head_A2 (x : Unacked) (s0 : AV) : sub? (e_Unacked x s0) 19 6 = some (e_Addr x.Frame.Head.A2) := by rfl
theorem e_Unacked_p_Frame_Head_A2 (x : Unacked) (s0 : AV) (v : Addr) : putAt (e_Unacked x s0) 19 (e_Addr v) = e_Unacked { x with Frame.Head.A2 := v } s0 := by rfl
theorem e_Unacked_d_Frame_Head_A3 (x : Unacked) (s0 : AV) : sub? (e_Unacked x s0) 25 6 = some (e_Addr x.Frame.Head.A3) := by rfl
theorem e_Unacked_p_Frame_Head_A3 (x : Unacked) (s0 : AV) (v : Addr) : putAt (e_Unacked x s0) 25 (e_Addr v) = e_Unacked { x with Frame.Head.A3 := v } s0 := by rfl
theorem e_Unacked_d_Frame_Head_A4 (x : Unacked) (s0 : AV) : sub? (e_Unacked x s0) 31 6 = some (e_Addr x.Frame.Head.A4) := by rfl
theorem e_Unacked_p_Frame_Head_A4 (x : Unacked) (s0 : AV) (v : Addr) : putAt (e_Unacked x s0) 31 (e_Addr v) = e_Unacked { x with Frame.Head.A4 := v } s0 := by rfl
theorem e_Unacked_fz (x : Unacked) (s0 : AV) (o : Nat → Ob) (n : Nat) : (e_Unacked x s0).map (fz o (n + 1)) = e_Unacked x (fz o (n + 1) s0) := by rfl
theorem e_Unacked_reach (x : Unacked) (s0 : AV) (o : Nat → Ob) (n : Nat) : (e_Unacked x s0).flatMap (reach o (n + 1)) = reach o (n + 1) s0 := by
  simp only [e_Unacked, e_Frame, e_Header, e_Addr, List.cons_append, List.nil_append, List.append_nil, List.flatMap_cons, List.flatMap_nil, reach_v]
theorem e_Unacked_clean (x : Unacked) (s0 : AV) (h_s0 : Clean s0) : ∀ c ∈ (e_Unacked x s0), Clean c := by
  simp only [e_Unacked, e_Frame, e_Header, e_Addr, List.cons_append, List.nil_append]
  repeat' (first | exact Clean.v _ | assumption | exact List.forall_mem_nil _ | refine List.forall_mem_cons.2 ⟨?_, ?_⟩)
theorem e_Unacked_tm {st : AS} {F : List Nat} {σ : List (Option Nat)} (x : Unacked) (s0 : AV) (s02 : AV) (h_s0 : Tm st F σ s0 s02) : TmL st F σ (e_Unacked x s0) (e_Unacked x s02) := by
  simp only [e_Unacked, e_Frame, e_Header, e_Addr, List.cons_append, List.nil_append]
  repeat' (first | exact TmL.nil | (refine TmL.cons (Tm.v _) ?_) | (refine TmL.cons (by assumption) ?_))
theorem e_Unacked_tmx {st : AS} {F : List Nat} {σ : List (Option Nat)} {x y : Unacked} {s0 s02 : AV} (hxy : e_Unacked y s02 = e_Unacked x s02) (h_s0 : Tm st F σ s0 s02) : TmL st F σ (e_Unacked x s0) (e_Unacked y s02) := by
  rw [hxy]; exact e_Unacked_tm x s0 s02 h_s0
theorem e_Unacked_ren (x : Unacked) {s0 : (Nat → Nat) → AV} (h_s0 : RenM s0) : RenML fun q => e_Unacked x (s0 q) := by
  simp only [e_Unacked, e_Frame, e_Header, e_Addr, List.cons_append, List.nil_append]
  repeat' (first | exact RenML.nil | (refine RenML.cons (RenM.const (Clean.v _)) ?_) | (refine RenML.cons (by assumption) ?_))
def E_Unacked (x : Unacked) : List AV := e_Unacked x (S_vu x.Frame.Body)
theorem E_Unacked_eq (x : Unacked) : E_Unacked x = e_Unacked x (S_vu x.Frame.Body) := rfl
theorem E_Unacked_clean (x : Unacked) : ∀ c ∈ E_Unacked x, Clean c := e_Unacked_clean x _ (S_vu_clean _)
theorem f_Unacked (x : Unacked) (o : Nat → Ob) (n : Nat) : (E_Unacked x).map (fz o (n + 2)) = E_Unacked x := by simp only [E_Unacked_eq, e_Unacked_fz, f_S_vu]
theorem q_Unacked (x : Unacked) (o : Nat → Ob) (n : Nat) : (E_Unacked x).flatMap (reach o (n + 2)) = [] := by simp only [E_Unacked_eq, e_Unacked_reach, q_S_vu, List.append_nil]
attribute [go_sem] e_Unacked_len e_Unacked_sub e_Unacked_take e_Unacked_all e_Unacked_g_At e_Unacked_s_At e_Unacked_g_Tries e_Unacked_s_Tries e_Unacked_g_Flying e_Unacked_s_Flying e_Unacked_g_Frame_Head_Kind e_Unacked_s_Frame_Head_Kind e_Unacked_g_Frame_Head_Sub e_Unacked_s_Frame_Head_Sub e_Unacked_g_Frame_Head_ToDs e_Unacked_s_Frame_Head_ToDs e_Unacked_g_Frame_Head_FromDs e_Unacked_s_Frame_Head_FromDs e_Unacked_g_Frame_Head_More e_Unacked_s_Frame_Head_More e_Unacked_g_Frame_Head_Retry e_Unacked_s_Frame_Head_Retry e_Unacked_g_Frame_Head_Sleep e_Unacked_s_Frame_Head_Sleep e_Unacked_g_Frame_Head_MoreData e_Unacked_s_Frame_Head_MoreData e_Unacked_g_Frame_Head_Protected e_Unacked_s_Frame_Head_Protected e_Unacked_g_Frame_Head_Duration e_Unacked_s_Frame_Head_Duration e_Unacked_g_Frame_Head_A1_a0 e_Unacked_s_Frame_Head_A1_a0 e_Unacked_g_Frame_Head_A1_a1 e_Unacked_s_Frame_Head_A1_a1 e_Unacked_g_Frame_Head_A1_a2 e_Unacked_s_Frame_Head_A1_a2 e_Unacked_g_Frame_Head_A1_a3 e_Unacked_s_Frame_Head_A1_a3 e_Unacked_g_Frame_Head_A1_a4 e_Unacked_s_Frame_Head_A1_a4 e_Unacked_g_Frame_Head_A1_a5 e_Unacked_s_Frame_Head_A1_a5 e_Unacked_g_Frame_Head_A2_a0 e_Unacked_s_Frame_Head_A2_a0 e_Unacked_g_Frame_Head_A2_a1 e_Unacked_s_Frame_Head_A2_a1 e_Unacked_g_Frame_Head_A2_a2 e_Unacked_s_Frame_Head_A2_a2 e_Unacked_g_Frame_Head_A2_a3 e_Unacked_s_Frame_Head_A2_a3 e_Unacked_g_Frame_Head_A2_a4 e_Unacked_s_Frame_Head_A2_a4 e_Unacked_g_Frame_Head_A2_a5 e_Unacked_s_Frame_Head_A2_a5 e_Unacked_g_Frame_Head_A3_a0 e_Unacked_s_Frame_Head_A3_a0 e_Unacked_g_Frame_Head_A3_a1 e_Unacked_s_Frame_Head_A3_a1 e_Unacked_g_Frame_Head_A3_a2 e_Unacked_s_Frame_Head_A3_a2 e_Unacked_g_Frame_Head_A3_a3 e_Unacked_s_Frame_Head_A3_a3 e_Unacked_g_Frame_Head_A3_a4 e_Unacked_s_Frame_Head_A3_a4 e_Unacked_g_Frame_Head_A3_a5 e_Unacked_s_Frame_Head_A3_a5 e_Unacked_g_Frame_Head_A4_a0 e_Unacked_s_Frame_Head_A4_a0 e_Unacked_g_Frame_Head_A4_a1 e_Unacked_s_Frame_Head_A4_a1 e_Unacked_g_Frame_Head_A4_a2 e_Unacked_s_Frame_Head_A4_a2 e_Unacked_g_Frame_Head_A4_a3 e_Unacked_s_Frame_Head_A4_a3 e_Unacked_g_Frame_Head_A4_a4 e_Unacked_s_Frame_Head_A4_a4 e_Unacked_g_Frame_Head_A4_a5 e_Unacked_s_Frame_Head_A4_a5 e_Unacked_g_Frame_Head_Seq e_Unacked_s_Frame_Head_Seq e_Unacked_g_Frame_Head_Frag e_Unacked_s_Frame_Head_Frag e_Unacked_g_Frame_Head_Tid e_Unacked_s_Frame_Head_Tid e_Unacked_g_Frame_Head_Ack e_Unacked_s_Frame_Head_Ack e_Unacked_g_Frame_Head_Amsdu e_Unacked_s_Frame_Head_Amsdu e_Unacked_g_Frame_Head_Eosp e_Unacked_s_Frame_Head_Eosp e_Unacked_g_Frame_Body e_Unacked_s_Frame_Body e_Unacked_d_Frame e_Unacked_p_Frame e_Unacked_d_Frame_Head e_Unacked_p_Frame_Head e_Unacked_d_Frame_Head_A1 e_Unacked_p_Frame_Head_A1 e_Unacked_d_Frame_Head_A2 e_Unacked_p_Frame_Head_A2 e_Unacked_d_Frame_Head_A3 e_Unacked_p_Frame_Head_A3 e_Unacked_d_Frame_Head_A4 e_Unacked_p_Frame_Head_A4 e_Unacked_fz e_Unacked_reach E_Unacked_eq f_Unacked q_Unacked

def S_Unacked (l : List Unacked) : AV := .imm (List.flatMap E_Unacked l) l.length
theorem S_Unacked_eq (l : List Unacked) : S_Unacked l = .imm (List.flatMap E_Unacked l) l.length := rfl
theorem l_Unacked (x : Unacked) : (E_Unacked x).length = 44 := by rfl
theorem S_Unacked_clean (l : List Unacked) : Clean (S_Unacked l) := Clean.imm (rows_clean E_Unacked_clean l)
theorem c_Unacked (l : List Unacked) : ∀ c ∈ l.flatMap E_Unacked, Clean c := rows_clean E_Unacked_clean l
theorem r_Unacked_len (l : List Unacked) : (l.flatMap E_Unacked).length = l.length * 44 := flat_len l_Unacked l
theorem r_Unacked_get (l : List Unacked) (i o : Nat) (ho : o < 44) : (l.flatMap E_Unacked)[i * 44 + o]? = l[i]?.bind fun a => (E_Unacked a)[o]? := rows_get l_Unacked l i o ho
theorem r_Unacked_get0 (l : List Unacked) (i : Nat) : (l.flatMap E_Unacked)[i * 44]? = l[i]?.bind fun a => (E_Unacked a)[0]? := rows_get l_Unacked l i 0 (by decide)
theorem r_Unacked_sub (l : List Unacked) (i o n : Nat) (ho : o + n ≤ 44) (hn : 0 < n) : sub? (l.flatMap E_Unacked) (i * 44 + o) n = l[i]?.bind fun a => sub? (E_Unacked a) o n := rows_sub l_Unacked l i o n ho hn
theorem r_Unacked_sub0 (l : List Unacked) (i n : Nat) (ho : n ≤ 44) (hn : 0 < n) : sub? (l.flatMap E_Unacked) (i * 44) n = l[i]?.bind fun a => sub? (E_Unacked a) 0 n := rows_sub l_Unacked l i 0 n (by omega) hn
theorem r_Unacked_getL (l : List Unacked) (o : Nat) : (l.flatMap E_Unacked)[o]? = l[o / 44]?.bind fun a => (E_Unacked a)[o % 44]? := rows_getL l_Unacked (by decide) l o
theorem r_Unacked_subL (l : List Unacked) (o n : Nat) (ho : o % 44 + n ≤ 44) (hn : 0 < n) : sub? (l.flatMap E_Unacked) o n = l[o / 44]?.bind fun a => sub? (E_Unacked a) (o % 44) n := rows_subL l_Unacked l o n ho hn
theorem r_Unacked_subw (l : List Unacked) : sub? (l.flatMap E_Unacked) 0 (l.length * 44) = some (l.flatMap E_Unacked) := rows_subw l_Unacked l
theorem r_Unacked_take (l : List Unacked) (n : Nat) : (l.flatMap E_Unacked).take (n * 44) = (l.take n).flatMap E_Unacked := rows_take l_Unacked l n
theorem r_Unacked_drop (l : List Unacked) (n : Nat) : (l.flatMap E_Unacked).drop (n * 44) = (l.drop n).flatMap E_Unacked := rows_drop l_Unacked l n
theorem r_Unacked_fz (l : List Unacked) (o : Nat → Ob) (n : Nat) : (l.flatMap E_Unacked).map (fz o (n + 2)) = (l.flatMap E_Unacked) := rows_fz (fun a => f_Unacked a o n) l
theorem r_Unacked_rch (l : List Unacked) (o : Nat → Ob) (n : Nat) : (l.flatMap E_Unacked).flatMap (reach o (n + 2)) = [] := rows_reach (fun a => q_Unacked a o n) l
theorem r_Unacked_s_At (l : List Unacked) (i : Nat) (v : Int) : (l.flatMap E_Unacked).set (i * 44) (vi v) = (l.modify i (fun y => { y with At := v })).flatMap E_Unacked := rows_set l_Unacked l i 0 _ (fun y => { y with At := v }) (by decide) (fun _ => by rfl)
theorem r_Unacked_s_Tries (l : List Unacked) (i : Nat) (v : Int) : (l.flatMap E_Unacked).set (i * 44 + 1) (vi v) = (l.modify i (fun y => { y with Tries := v })).flatMap E_Unacked := rows_set l_Unacked l i 1 _ (fun y => { y with Tries := v }) (by decide) (fun _ => by rfl)
theorem r_Unacked_s_Flying (l : List Unacked) (i : Nat) (v : Bool) : (l.flatMap E_Unacked).set (i * 44 + 2) (vb v) = (l.modify i (fun y => { y with Flying := v })).flatMap E_Unacked := rows_set l_Unacked l i 2 _ (fun y => { y with Flying := v }) (by decide) (fun _ => by rfl)
theorem r_Unacked_s_Frame_Head_Kind (l : List Unacked) (i : Nat) (v : Int) : (l.flatMap E_Unacked).set (i * 44 + 3) (vu v) = (l.modify i (fun y => { y with Frame.Head.Kind := v })).flatMap E_Unacked := rows_set l_Unacked l i 3 _ (fun y => { y with Frame.Head.Kind := v }) (by decide) (fun _ => by rfl)
theorem r_Unacked_s_Frame_Head_Sub (l : List Unacked) (i : Nat) (v : Int) : (l.flatMap E_Unacked).set (i * 44 + 4) (vu v) = (l.modify i (fun y => { y with Frame.Head.Sub := v })).flatMap E_Unacked := rows_set l_Unacked l i 4 _ (fun y => { y with Frame.Head.Sub := v }) (by decide) (fun _ => by rfl)
theorem r_Unacked_s_Frame_Head_ToDs (l : List Unacked) (i : Nat) (v : Bool) : (l.flatMap E_Unacked).set (i * 44 + 5) (vb v) = (l.modify i (fun y => { y with Frame.Head.ToDs := v })).flatMap E_Unacked := rows_set l_Unacked l i 5 _ (fun y => { y with Frame.Head.ToDs := v }) (by decide) (fun _ => by rfl)
theorem r_Unacked_s_Frame_Head_FromDs (l : List Unacked) (i : Nat) (v : Bool) : (l.flatMap E_Unacked).set (i * 44 + 6) (vb v) = (l.modify i (fun y => { y with Frame.Head.FromDs := v })).flatMap E_Unacked := rows_set l_Unacked l i 6 _ (fun y => { y with Frame.Head.FromDs := v }) (by decide) (fun _ => by rfl)
theorem r_Unacked_s_Frame_Head_More (l : List Unacked) (i : Nat) (v : Bool) : (l.flatMap E_Unacked).set (i * 44 + 7) (vb v) = (l.modify i (fun y => { y with Frame.Head.More := v })).flatMap E_Unacked := rows_set l_Unacked l i 7 _ (fun y => { y with Frame.Head.More := v }) (by decide) (fun _ => by rfl)
theorem r_Unacked_s_Frame_Head_Retry (l : List Unacked) (i : Nat) (v : Bool) : (l.flatMap E_Unacked).set (i * 44 + 8) (vb v) = (l.modify i (fun y => { y with Frame.Head.Retry := v })).flatMap E_Unacked := rows_set l_Unacked l i 8 _ (fun y => { y with Frame.Head.Retry := v }) (by decide) (fun _ => by rfl)
theorem r_Unacked_s_Frame_Head_Sleep (l : List Unacked) (i : Nat) (v : Bool) : (l.flatMap E_Unacked).set (i * 44 + 9) (vb v) = (l.modify i (fun y => { y with Frame.Head.Sleep := v })).flatMap E_Unacked := rows_set l_Unacked l i 9 _ (fun y => { y with Frame.Head.Sleep := v }) (by decide) (fun _ => by rfl)
theorem r_Unacked_s_Frame_Head_MoreData (l : List Unacked) (i : Nat) (v : Bool) : (l.flatMap E_Unacked).set (i * 44 + 10) (vb v) = (l.modify i (fun y => { y with Frame.Head.MoreData := v })).flatMap E_Unacked := rows_set l_Unacked l i 10 _ (fun y => { y with Frame.Head.MoreData := v }) (by decide) (fun _ => by rfl)
theorem r_Unacked_s_Frame_Head_Protected (l : List Unacked) (i : Nat) (v : Bool) : (l.flatMap E_Unacked).set (i * 44 + 11) (vb v) = (l.modify i (fun y => { y with Frame.Head.Protected := v })).flatMap E_Unacked := rows_set l_Unacked l i 11 _ (fun y => { y with Frame.Head.Protected := v }) (by decide) (fun _ => by rfl)
theorem r_Unacked_s_Frame_Head_Duration (l : List Unacked) (i : Nat) (v : Int) : (l.flatMap E_Unacked).set (i * 44 + 12) (vi v) = (l.modify i (fun y => { y with Frame.Head.Duration := v })).flatMap E_Unacked := rows_set l_Unacked l i 12 _ (fun y => { y with Frame.Head.Duration := v }) (by decide) (fun _ => by rfl)
theorem r_Unacked_s_Frame_Head_A1_a0 (l : List Unacked) (i : Nat) (v : Int) : (l.flatMap E_Unacked).set (i * 44 + 13) (vu v) = (l.modify i (fun y => { y with Frame.Head.A1.a0 := v })).flatMap E_Unacked := rows_set l_Unacked l i 13 _ (fun y => { y with Frame.Head.A1.a0 := v }) (by decide) (fun _ => by rfl)
theorem r_Unacked_s_Frame_Head_A1_a1 (l : List Unacked) (i : Nat) (v : Int) : (l.flatMap E_Unacked).set (i * 44 + 14) (vu v) = (l.modify i (fun y => { y with Frame.Head.A1.a1 := v })).flatMap E_Unacked := rows_set l_Unacked l i 14 _ (fun y => { y with Frame.Head.A1.a1 := v }) (by decide) (fun _ => by rfl)
theorem r_Unacked_s_Frame_Head_A1_a2 (l : List Unacked) (i : Nat) (v : Int) : (l.flatMap E_Unacked).set (i * 44 + 15) (vu v) = (l.modify i (fun y => { y with Frame.Head.A1.a2 := v })).flatMap E_Unacked := rows_set l_Unacked l i 15 _ (fun y => { y with Frame.Head.A1.a2 := v }) (by decide) (fun _ => by rfl)
theorem r_Unacked_s_Frame_Head_A1_a3 (l : List Unacked) (i : Nat) (v : Int) : (l.flatMap E_Unacked).set (i * 44 + 16) (vu v) = (l.modify i (fun y => { y with Frame.Head.A1.a3 := v })).flatMap E_Unacked := rows_set l_Unacked l i 16 _ (fun y => { y with Frame.Head.A1.a3 := v }) (by decide) (fun _ => by rfl)
theorem r_Unacked_s_Frame_Head_A1_a4 (l : List Unacked) (i : Nat) (v : Int) : (l.flatMap E_Unacked).set (i * 44 + 17) (vu v) = (l.modify i (fun y => { y with Frame.Head.A1.a4 := v })).flatMap E_Unacked := rows_set l_Unacked l i 17 _ (fun y => { y with Frame.Head.A1.a4 := v }) (by decide) (fun _ => by rfl)
theorem r_Unacked_s_Frame_Head_A1_a5 (l : List Unacked) (i : Nat) (v : Int) : (l.flatMap E_Unacked).set (i * 44 + 18) (vu v) = (l.modify i (fun y => { y with Frame.Head.A1.a5 := v })).flatMap E_Unacked := rows_set l_Unacked l i 18 _ (fun y => { y with Frame.Head.A1.a5 := v }) (by decide) (fun _ => by rfl)
theorem r_Unacked_s_Frame_Head_A2_a0 (l : List Unacked) (i : Nat) (v : Int) : (l.flatMap E_Unacked).set (i * 44 + 19) (vu v) = (l.modify i (fun y => { y with Frame.Head.A2.a0 := v })).flatMap E_Unacked := rows_set l_Unacked l i 19 _ (fun y => { y with Frame.Head.A2.a0 := v }) (by decide) (fun _ => by rfl)
theorem r_Unacked_s_Frame_Head_A2_a1 (l : List Unacked) (i : Nat) (v : Int) : (l.flatMap E_Unacked).set (i * 44 + 20) (vu v) = (l.modify i (fun y => { y with Frame.Head.A2.a1 := v })).flatMap E_Unacked := rows_set l_Unacked l i 20 _ (fun y => { y with Frame.Head.A2.a1 := v }) (by decide) (fun _ => by rfl)
theorem r_Unacked_s_Frame_Head_A2_a2 (l : List Unacked) (i : Nat) (v : Int) : (l.flatMap E_Unacked).set (i * 44 + 21) (vu v) = (l.modify i (fun y => { y with Frame.Head.A2.a2 := v })).flatMap E_Unacked := rows_set l_Unacked l i 21 _ (fun y => { y with Frame.Head.A2.a2 := v }) (by decide) (fun _ => by rfl)
theorem r_Unacked_s_Frame_Head_A2_a3 (l : List Unacked) (i : Nat) (v : Int) : (l.flatMap E_Unacked).set (i * 44 + 22) (vu v) = (l.modify i (fun y => { y with Frame.Head.A2.a3 := v })).flatMap E_Unacked := rows_set l_Unacked l i 22 _ (fun y => { y with Frame.Head.A2.a3 := v }) (by decide) (fun _ => by rfl)
theorem r_Unacked_s_Frame_Head_A2_a4 (l : List Unacked) (i : Nat) (v : Int) : (l.flatMap E_Unacked).set (i * 44 + 23) (vu v) = (l.modify i (fun y => { y with Frame.Head.A2.a4 := v })).flatMap E_Unacked := rows_set l_Unacked l i 23 _ (fun y => { y with Frame.Head.A2.a4 := v }) (by decide) (fun _ => by rfl)
theorem r_Unacked_s_Frame_Head_A2_a5 (l : List Unacked) (i : Nat) (v : Int) : (l.flatMap E_Unacked).set (i * 44 + 24) (vu v) = (l.modify i (fun y => { y with Frame.Head.A2.a5 := v })).flatMap E_Unacked := rows_set l_Unacked l i 24 _ (fun y => { y with Frame.Head.A2.a5 := v }) (by decide) (fun _ => by rfl)
theorem r_Unacked_s_Frame_Head_A3_a0 (l : List Unacked) (i : Nat) (v : Int) : (l.flatMap E_Unacked).set (i * 44 + 25) (vu v) = (l.modify i (fun y => { y with Frame.Head.A3.a0 := v })).flatMap E_Unacked := rows_set l_Unacked l i 25 _ (fun y => { y with Frame.Head.A3.a0 := v }) (by decide) (fun _ => by rfl)
theorem r_Unacked_s_Frame_Head_A3_a1 (l : List Unacked) (i : Nat) (v : Int) : (l.flatMap E_Unacked).set (i * 44 + 26) (vu v) = (l.modify i (fun y => { y with Frame.Head.A3.a1 := v })).flatMap E_Unacked := rows_set l_Unacked l i 26 _ (fun y => { y with Frame.Head.A3.a1 := v }) (by decide) (fun _ => by rfl)
theorem r_Unacked_s_Frame_Head_A3_a2 (l : List Unacked) (i : Nat) (v : Int) : (l.flatMap E_Unacked).set (i * 44 + 27) (vu v) = (l.modify i (fun y => { y with Frame.Head.A3.a2 := v })).flatMap E_Unacked := rows_set l_Unacked l i 27 _ (fun y => { y with Frame.Head.A3.a2 := v }) (by decide) (fun _ => by rfl)
theorem r_Unacked_s_Frame_Head_A3_a3 (l : List Unacked) (i : Nat) (v : Int) : (l.flatMap E_Unacked).set (i * 44 + 28) (vu v) = (l.modify i (fun y => { y with Frame.Head.A3.a3 := v })).flatMap E_Unacked := rows_set l_Unacked l i 28 _ (fun y => { y with Frame.Head.A3.a3 := v }) (by decide) (fun _ => by rfl)
theorem r_Unacked_s_Frame_Head_A3_a4 (l : List Unacked) (i : Nat) (v : Int) : (l.flatMap E_Unacked).set (i * 44 + 29) (vu v) = (l.modify i (fun y => { y with Frame.Head.A3.a4 := v })).flatMap E_Unacked := rows_set l_Unacked l i 29 _ (fun y => { y with Frame.Head.A3.a4 := v }) (by decide) (fun _ => by rfl)
theorem r_Unacked_s_Frame_Head_A3_a5 (l : List Unacked) (i : Nat) (v : Int) : (l.flatMap E_Unacked).set (i * 44 + 30) (vu v) = (l.modify i (fun y => { y with Frame.Head.A3.a5 := v })).flatMap E_Unacked := rows_set l_Unacked l i 30 _ (fun y => { y with Frame.Head.A3.a5 := v }) (by decide) (fun _ => by rfl)
theorem r_Unacked_s_Frame_Head_A4_a0 (l : List Unacked) (i : Nat) (v : Int) : (l.flatMap E_Unacked).set (i * 44 + 31) (vu v) = (l.modify i (fun y => { y with Frame.Head.A4.a0 := v })).flatMap E_Unacked := rows_set l_Unacked l i 31 _ (fun y => { y with Frame.Head.A4.a0 := v }) (by decide) (fun _ => by rfl)
theorem r_Unacked_s_Frame_Head_A4_a1 (l : List Unacked) (i : Nat) (v : Int) : (l.flatMap E_Unacked).set (i * 44 + 32) (vu v) = (l.modify i (fun y => { y with Frame.Head.A4.a1 := v })).flatMap E_Unacked := rows_set l_Unacked l i 32 _ (fun y => { y with Frame.Head.A4.a1 := v }) (by decide) (fun _ => by rfl)
theorem r_Unacked_s_Frame_Head_A4_a2 (l : List Unacked) (i : Nat) (v : Int) : (l.flatMap E_Unacked).set (i * 44 + 33) (vu v) = (l.modify i (fun y => { y with Frame.Head.A4.a2 := v })).flatMap E_Unacked := rows_set l_Unacked l i 33 _ (fun y => { y with Frame.Head.A4.a2 := v }) (by decide) (fun _ => by rfl)
theorem r_Unacked_s_Frame_Head_A4_a3 (l : List Unacked) (i : Nat) (v : Int) : (l.flatMap E_Unacked).set (i * 44 + 34) (vu v) = (l.modify i (fun y => { y with Frame.Head.A4.a3 := v })).flatMap E_Unacked := rows_set l_Unacked l i 34 _ (fun y => { y with Frame.Head.A4.a3 := v }) (by decide) (fun _ => by rfl)
theorem r_Unacked_s_Frame_Head_A4_a4 (l : List Unacked) (i : Nat) (v : Int) : (l.flatMap E_Unacked).set (i * 44 + 35) (vu v) = (l.modify i (fun y => { y with Frame.Head.A4.a4 := v })).flatMap E_Unacked := rows_set l_Unacked l i 35 _ (fun y => { y with Frame.Head.A4.a4 := v }) (by decide) (fun _ => by rfl)
theorem r_Unacked_s_Frame_Head_A4_a5 (l : List Unacked) (i : Nat) (v : Int) : (l.flatMap E_Unacked).set (i * 44 + 36) (vu v) = (l.modify i (fun y => { y with Frame.Head.A4.a5 := v })).flatMap E_Unacked := rows_set l_Unacked l i 36 _ (fun y => { y with Frame.Head.A4.a5 := v }) (by decide) (fun _ => by rfl)
theorem r_Unacked_s_Frame_Head_Seq (l : List Unacked) (i : Nat) (v : Int) : (l.flatMap E_Unacked).set (i * 44 + 37) (vi v) = (l.modify i (fun y => { y with Frame.Head.Seq := v })).flatMap E_Unacked := rows_set l_Unacked l i 37 _ (fun y => { y with Frame.Head.Seq := v }) (by decide) (fun _ => by rfl)
theorem r_Unacked_s_Frame_Head_Frag (l : List Unacked) (i : Nat) (v : Int) : (l.flatMap E_Unacked).set (i * 44 + 38) (vi v) = (l.modify i (fun y => { y with Frame.Head.Frag := v })).flatMap E_Unacked := rows_set l_Unacked l i 38 _ (fun y => { y with Frame.Head.Frag := v }) (by decide) (fun _ => by rfl)
theorem r_Unacked_s_Frame_Head_Tid (l : List Unacked) (i : Nat) (v : Int) : (l.flatMap E_Unacked).set (i * 44 + 39) (vi v) = (l.modify i (fun y => { y with Frame.Head.Tid := v })).flatMap E_Unacked := rows_set l_Unacked l i 39 _ (fun y => { y with Frame.Head.Tid := v }) (by decide) (fun _ => by rfl)
theorem r_Unacked_s_Frame_Head_Ack (l : List Unacked) (i : Nat) (v : Int) : (l.flatMap E_Unacked).set (i * 44 + 40) (vu v) = (l.modify i (fun y => { y with Frame.Head.Ack := v })).flatMap E_Unacked := rows_set l_Unacked l i 40 _ (fun y => { y with Frame.Head.Ack := v }) (by decide) (fun _ => by rfl)
theorem r_Unacked_s_Frame_Head_Amsdu (l : List Unacked) (i : Nat) (v : Bool) : (l.flatMap E_Unacked).set (i * 44 + 41) (vb v) = (l.modify i (fun y => { y with Frame.Head.Amsdu := v })).flatMap E_Unacked := rows_set l_Unacked l i 41 _ (fun y => { y with Frame.Head.Amsdu := v }) (by decide) (fun _ => by rfl)
theorem r_Unacked_s_Frame_Head_Eosp (l : List Unacked) (i : Nat) (v : Bool) : (l.flatMap E_Unacked).set (i * 44 + 42) (vb v) = (l.modify i (fun y => { y with Frame.Head.Eosp := v })).flatMap E_Unacked := rows_set l_Unacked l i 42 _ (fun y => { y with Frame.Head.Eosp := v }) (by decide) (fun _ => by rfl)
theorem r_Unacked_put (l : List Unacked) (i : Nat) (x : Unacked) (b0 : (List Int)) : putAt (l.flatMap E_Unacked) (i * 44) (e_Unacked x (.imm (List.map vu b0) b0.length)) = (l.set i { x with Frame.Body := b0 }).flatMap E_Unacked := rows_put l_Unacked (by decide) l i { x with Frame.Body := b0 }
theorem r_Unacked_app (l : List Unacked) (x : Unacked) (b0 : (List Int)) : (l.flatMap E_Unacked) ++ e_Unacked x (S_vu b0) = (l ++ [{ x with Frame.Body := b0 }]).flatMap E_Unacked := by rw [List.flatMap_append]; simp only [List.flatMap_cons, List.flatMap_nil, List.append_nil]; rfl
theorem r_Unacked_cat (l : List Unacked) (m : List Unacked) : (l.flatMap E_Unacked) ++ m.flatMap E_Unacked = (l ++ m).flatMap E_Unacked := List.flatMap_append.symm
theorem f_S_Unacked (l : List Unacked) (o : Nat → Ob) (n : Nat) : fz o (n + 3) (S_Unacked l) = S_Unacked l := by simp only [S_Unacked_eq, fz, r_Unacked_fz]
theorem q_S_Unacked (l : List Unacked) (o : Nat → Ob) (n : Nat) : reach o (n + 3) (S_Unacked l) = [] := by simp only [S_Unacked_eq, reach, r_Unacked_rch]
attribute [go_sem] S_Unacked_eq l_Unacked r_Unacked_len r_Unacked_get r_Unacked_get0 r_Unacked_sub r_Unacked_sub0 r_Unacked_subw r_Unacked_take r_Unacked_drop r_Unacked_fz r_Unacked_rch r_Unacked_s_At r_Unacked_s_Tries r_Unacked_s_Flying r_Unacked_s_Frame_Head_Kind r_Unacked_s_Frame_Head_Sub r_Unacked_s_Frame_Head_ToDs r_Unacked_s_Frame_Head_FromDs r_Unacked_s_Frame_Head_More r_Unacked_s_Frame_Head_Retry r_Unacked_s_Frame_Head_Sleep r_Unacked_s_Frame_Head_MoreData r_Unacked_s_Frame_Head_Protected r_Unacked_s_Frame_Head_Duration r_Unacked_s_Frame_Head_A1_a0 r_Unacked_s_Frame_Head_A1_a1 r_Unacked_s_Frame_Head_A1_a2 r_Unacked_s_Frame_Head_A1_a3 r_Unacked_s_Frame_Head_A1_a4 r_Unacked_s_Frame_Head_A1_a5 r_Unacked_s_Frame_Head_A2_a0 r_Unacked_s_Frame_Head_A2_a1 r_Unacked_s_Frame_Head_A2_a2 r_Unacked_s_Frame_Head_A2_a3 r_Unacked_s_Frame_Head_A2_a4 r_Unacked_s_Frame_Head_A2_a5 r_Unacked_s_Frame_Head_A3_a0 r_Unacked_s_Frame_Head_A3_a1 r_Unacked_s_Frame_Head_A3_a2 r_Unacked_s_Frame_Head_A3_a3 r_Unacked_s_Frame_Head_A3_a4 r_Unacked_s_Frame_Head_A3_a5 r_Unacked_s_Frame_Head_A4_a0 r_Unacked_s_Frame_Head_A4_a1 r_Unacked_s_Frame_Head_A4_a2 r_Unacked_s_Frame_Head_A4_a3 r_Unacked_s_Frame_Head_A4_a4 r_Unacked_s_Frame_Head_A4_a5 r_Unacked_s_Frame_Head_Seq r_Unacked_s_Frame_Head_Frag r_Unacked_s_Frame_Head_Tid r_Unacked_s_Frame_Head_Ack r_Unacked_s_Frame_Head_Amsdu r_Unacked_s_Frame_Head_Eosp r_Unacked_put r_Unacked_app r_Unacked_cat f_S_Unacked q_S_Unacked

structure Sender where
  Tid : Int
  Phase : Int
  Token : Int
  Next : Int
  Size : Int
  Limit : Int
  Life : Int
  Out : (List Unacked)
  Bar : Bool
  deriving DecidableEq

def Sender.z : Sender := ⟨0, 0, 0, 0, 0, 0, 0, [], false⟩

def e_Sender (x : Sender) (s0 : AV) : List AV := [vi x.Tid, vu x.Phase, vi x.Token, vi x.Next, vi x.Size, vi x.Limit, vi x.Life, s0, vb x.Bar]

theorem e_Sender_len (x : Sender) (s0 : AV) : (e_Sender x s0).length = 9 := by rfl
theorem e_Sender_sub (x : Sender) (s0 : AV) : sub? (e_Sender x s0) 0 9 = some (e_Sender x s0) := by rfl
theorem e_Sender_take (x : Sender) (s0 : AV) : (e_Sender x s0).take 9 = (e_Sender x s0) := by rfl
theorem e_Sender_all (x : Sender) (s0 : AV) (y : Sender) (s02 : AV) : putAt (e_Sender x s0) 0 (e_Sender y s02) = e_Sender y s02 := by rfl
theorem e_Sender_g_Tid (x : Sender) (s0 : AV) : (e_Sender x s0)[0]? = some (vi x.Tid) := by rfl
theorem e_Sender_s_Tid (x : Sender) (s0 : AV) (v : Int) : (e_Sender x s0).set 0 (vi v) = e_Sender { x with Tid := v } s0 := by rfl
theorem e_Sender_g_Phase (x : Sender) (s0 : AV) : (e_Sender x s0)[1]? = some (vu x.Phase) := by rfl
theorem e_Sender_s_Phase (x : Sender) (s0 : AV) (v : Int) : (e_Sender x s0).set 1 (vu v) = e_Sender { x with Phase := v } s0 := by rfl
theorem e_Sender_g_Token (x : Sender) (s0 : AV) : (e_Sender x s0)[2]? = some (vi x.Token) := by rfl
theorem e_Sender_s_Token (x : Sender) (s0 : AV) (v : Int) : (e_Sender x s0).set 2 (vi v) = e_Sender { x with Token := v } s0 := by rfl
theorem e_Sender_g_Next (x : Sender) (s0 : AV) : (e_Sender x s0)[3]? = some (vi x.Next) := by rfl
theorem e_Sender_s_Next (x : Sender) (s0 : AV) (v : Int) : (e_Sender x s0).set 3 (vi v) = e_Sender { x with Next := v } s0 := by rfl
theorem e_Sender_g_Size (x : Sender) (s0 : AV) : (e_Sender x s0)[4]? = some (vi x.Size) := by rfl
theorem e_Sender_s_Size (x : Sender) (s0 : AV) (v : Int) : (e_Sender x s0).set 4 (vi v) = e_Sender { x with Size := v } s0 := by rfl
theorem e_Sender_g_Limit (x : Sender) (s0 : AV) : (e_Sender x s0)[5]? = some (vi x.Limit) := by rfl
theorem e_Sender_s_Limit (x : Sender) (s0 : AV) (v : Int) : (e_Sender x s0).set 5 (vi v) = e_Sender { x with Limit := v } s0 := by rfl
theorem e_Sender_g_Life (x : Sender) (s0 : AV) : (e_Sender x s0)[6]? = some (vi x.Life) := by rfl
theorem e_Sender_s_Life (x : Sender) (s0 : AV) (v : Int) : (e_Sender x s0).set 6 (vi v) = e_Sender { x with Life := v } s0 := by rfl
theorem e_Sender_g_Out (x : Sender) (s0 : AV) : (e_Sender x s0)[7]? = some s0 := by rfl
theorem e_Sender_s_Out (x : Sender) (s0 : AV) (v : AV) : (e_Sender x s0).set 7 v = e_Sender x v := by rfl
theorem e_Sender_g_Bar (x : Sender) (s0 : AV) : (e_Sender x s0)[8]? = some (vb x.Bar) := by rfl
theorem e_Sender_s_Bar (x : Sender) (s0 : AV) (v : Bool) : (e_Sender x s0).set 8 (vb v) = e_Sender { x with Bar := v } s0 := by rfl
theorem e_Sender_fz (x : Sender) (s0 : AV) (o : Nat → Ob) (n : Nat) : (e_Sender x s0).map (fz o (n + 1)) = e_Sender x (fz o (n + 1) s0) := by rfl
theorem e_Sender_reach (x : Sender) (s0 : AV) (o : Nat → Ob) (n : Nat) : (e_Sender x s0).flatMap (reach o (n + 1)) = reach o (n + 1) s0 := by
  simp only [e_Sender, List.cons_append, List.nil_append, List.append_nil, List.flatMap_cons, List.flatMap_nil, reach_v]
theorem e_Sender_clean (x : Sender) (s0 : AV) (h_s0 : Clean s0) : ∀ c ∈ (e_Sender x s0), Clean c := by
  simp only [e_Sender, List.cons_append, List.nil_append]
  repeat' (first | exact Clean.v _ | assumption | exact List.forall_mem_nil _ | refine List.forall_mem_cons.2 ⟨?_, ?_⟩)
theorem e_Sender_tm {st : AS} {F : List Nat} {σ : List (Option Nat)} (x : Sender) (s0 : AV) (s02 : AV) (h_s0 : Tm st F σ s0 s02) : TmL st F σ (e_Sender x s0) (e_Sender x s02) := by
  simp only [e_Sender, List.cons_append, List.nil_append]
  repeat' (first | exact TmL.nil | (refine TmL.cons (Tm.v _) ?_) | (refine TmL.cons (by assumption) ?_))
theorem e_Sender_tmx {st : AS} {F : List Nat} {σ : List (Option Nat)} {x y : Sender} {s0 s02 : AV} (hxy : e_Sender y s02 = e_Sender x s02) (h_s0 : Tm st F σ s0 s02) : TmL st F σ (e_Sender x s0) (e_Sender y s02) := by
  rw [hxy]; exact e_Sender_tm x s0 s02 h_s0
theorem e_Sender_ren (x : Sender) {s0 : (Nat → Nat) → AV} (h_s0 : RenM s0) : RenML fun q => e_Sender x (s0 q) := by
  simp only [e_Sender, List.cons_append, List.nil_append]
  repeat' (first | exact RenML.nil | (refine RenML.cons (RenM.const (Clean.v _)) ?_) | (refine RenML.cons (by assumption) ?_))
def E_Sender (x : Sender) : List AV := e_Sender x (S_Unacked x.Out)
theorem E_Sender_eq (x : Sender) : E_Sender x = e_Sender x (S_Unacked x.Out) := rfl
theorem E_Sender_clean (x : Sender) : ∀ c ∈ E_Sender x, Clean c := e_Sender_clean x _ (S_Unacked_clean _)
theorem f_Sender (x : Sender) (o : Nat → Ob) (n : Nat) : (E_Sender x).map (fz o (n + 3)) = E_Sender x := by simp only [E_Sender_eq, e_Sender_fz, f_S_Unacked]
theorem q_Sender (x : Sender) (o : Nat → Ob) (n : Nat) : (E_Sender x).flatMap (reach o (n + 3)) = [] := by simp only [E_Sender_eq, e_Sender_reach, q_S_Unacked, List.append_nil]
attribute [go_sem] e_Sender_len e_Sender_sub e_Sender_take e_Sender_all e_Sender_g_Tid e_Sender_s_Tid e_Sender_g_Phase e_Sender_s_Phase e_Sender_g_Token e_Sender_s_Token e_Sender_g_Next e_Sender_s_Next e_Sender_g_Size e_Sender_s_Size e_Sender_g_Limit e_Sender_s_Limit e_Sender_g_Life e_Sender_s_Life e_Sender_g_Out e_Sender_s_Out e_Sender_g_Bar e_Sender_s_Bar e_Sender_fz e_Sender_reach E_Sender_eq f_Sender q_Sender

def S_Frame (l : List Frame) : AV := .imm (List.flatMap E_Frame l) l.length
theorem S_Frame_eq (l : List Frame) : S_Frame l = .imm (List.flatMap E_Frame l) l.length := rfl
theorem l_Frame (x : Frame) : (E_Frame x).length = 41 := by rfl
theorem S_Frame_clean (l : List Frame) : Clean (S_Frame l) := Clean.imm (rows_clean E_Frame_clean l)
theorem c_Frame (l : List Frame) : ∀ c ∈ l.flatMap E_Frame, Clean c := rows_clean E_Frame_clean l
theorem r_Frame_len (l : List Frame) : (l.flatMap E_Frame).length = l.length * 41 := flat_len l_Frame l
theorem r_Frame_get (l : List Frame) (i o : Nat) (ho : o < 41) : (l.flatMap E_Frame)[i * 41 + o]? = l[i]?.bind fun a => (E_Frame a)[o]? := rows_get l_Frame l i o ho
theorem r_Frame_get0 (l : List Frame) (i : Nat) : (l.flatMap E_Frame)[i * 41]? = l[i]?.bind fun a => (E_Frame a)[0]? := rows_get l_Frame l i 0 (by decide)
theorem r_Frame_sub (l : List Frame) (i o n : Nat) (ho : o + n ≤ 41) (hn : 0 < n) : sub? (l.flatMap E_Frame) (i * 41 + o) n = l[i]?.bind fun a => sub? (E_Frame a) o n := rows_sub l_Frame l i o n ho hn
theorem r_Frame_sub0 (l : List Frame) (i n : Nat) (ho : n ≤ 41) (hn : 0 < n) : sub? (l.flatMap E_Frame) (i * 41) n = l[i]?.bind fun a => sub? (E_Frame a) 0 n := rows_sub l_Frame l i 0 n (by omega) hn
theorem r_Frame_getL (l : List Frame) (o : Nat) : (l.flatMap E_Frame)[o]? = l[o / 41]?.bind fun a => (E_Frame a)[o % 41]? := rows_getL l_Frame (by decide) l o
theorem r_Frame_subL (l : List Frame) (o n : Nat) (ho : o % 41 + n ≤ 41) (hn : 0 < n) : sub? (l.flatMap E_Frame) o n = l[o / 41]?.bind fun a => sub? (E_Frame a) (o % 41) n := rows_subL l_Frame l o n ho hn
theorem r_Frame_subw (l : List Frame) : sub? (l.flatMap E_Frame) 0 (l.length * 41) = some (l.flatMap E_Frame) := rows_subw l_Frame l
theorem r_Frame_take (l : List Frame) (n : Nat) : (l.flatMap E_Frame).take (n * 41) = (l.take n).flatMap E_Frame := rows_take l_Frame l n
theorem r_Frame_drop (l : List Frame) (n : Nat) : (l.flatMap E_Frame).drop (n * 41) = (l.drop n).flatMap E_Frame := rows_drop l_Frame l n
theorem r_Frame_fz (l : List Frame) (o : Nat → Ob) (n : Nat) : (l.flatMap E_Frame).map (fz o (n + 2)) = (l.flatMap E_Frame) := rows_fz (fun a => f_Frame a o n) l
theorem r_Frame_rch (l : List Frame) (o : Nat → Ob) (n : Nat) : (l.flatMap E_Frame).flatMap (reach o (n + 2)) = [] := rows_reach (fun a => q_Frame a o n) l
theorem r_Frame_s_Head_Kind (l : List Frame) (i : Nat) (v : Int) : (l.flatMap E_Frame).set (i * 41) (vu v) = (l.modify i (fun y => { y with Head.Kind := v })).flatMap E_Frame := rows_set l_Frame l i 0 _ (fun y => { y with Head.Kind := v }) (by decide) (fun _ => by rfl)
theorem r_Frame_s_Head_Sub (l : List Frame) (i : Nat) (v : Int) : (l.flatMap E_Frame).set (i * 41 + 1) (vu v) = (l.modify i (fun y => { y with Head.Sub := v })).flatMap E_Frame := rows_set l_Frame l i 1 _ (fun y => { y with Head.Sub := v }) (by decide) (fun _ => by rfl)
theorem r_Frame_s_Head_ToDs (l : List Frame) (i : Nat) (v : Bool) : (l.flatMap E_Frame).set (i * 41 + 2) (vb v) = (l.modify i (fun y => { y with Head.ToDs := v })).flatMap E_Frame := rows_set l_Frame l i 2 _ (fun y => { y with Head.ToDs := v }) (by decide) (fun _ => by rfl)
theorem r_Frame_s_Head_FromDs (l : List Frame) (i : Nat) (v : Bool) : (l.flatMap E_Frame).set (i * 41 + 3) (vb v) = (l.modify i (fun y => { y with Head.FromDs := v })).flatMap E_Frame := rows_set l_Frame l i 3 _ (fun y => { y with Head.FromDs := v }) (by decide) (fun _ => by rfl)
theorem r_Frame_s_Head_More (l : List Frame) (i : Nat) (v : Bool) : (l.flatMap E_Frame).set (i * 41 + 4) (vb v) = (l.modify i (fun y => { y with Head.More := v })).flatMap E_Frame := rows_set l_Frame l i 4 _ (fun y => { y with Head.More := v }) (by decide) (fun _ => by rfl)
theorem r_Frame_s_Head_Retry (l : List Frame) (i : Nat) (v : Bool) : (l.flatMap E_Frame).set (i * 41 + 5) (vb v) = (l.modify i (fun y => { y with Head.Retry := v })).flatMap E_Frame := rows_set l_Frame l i 5 _ (fun y => { y with Head.Retry := v }) (by decide) (fun _ => by rfl)
theorem r_Frame_s_Head_Sleep (l : List Frame) (i : Nat) (v : Bool) : (l.flatMap E_Frame).set (i * 41 + 6) (vb v) = (l.modify i (fun y => { y with Head.Sleep := v })).flatMap E_Frame := rows_set l_Frame l i 6 _ (fun y => { y with Head.Sleep := v }) (by decide) (fun _ => by rfl)
theorem r_Frame_s_Head_MoreData (l : List Frame) (i : Nat) (v : Bool) : (l.flatMap E_Frame).set (i * 41 + 7) (vb v) = (l.modify i (fun y => { y with Head.MoreData := v })).flatMap E_Frame := rows_set l_Frame l i 7 _ (fun y => { y with Head.MoreData := v }) (by decide) (fun _ => by rfl)
theorem r_Frame_s_Head_Protected (l : List Frame) (i : Nat) (v : Bool) : (l.flatMap E_Frame).set (i * 41 + 8) (vb v) = (l.modify i (fun y => { y with Head.Protected := v })).flatMap E_Frame := rows_set l_Frame l i 8 _ (fun y => { y with Head.Protected := v }) (by decide) (fun _ => by rfl)
theorem r_Frame_s_Head_Duration (l : List Frame) (i : Nat) (v : Int) : (l.flatMap E_Frame).set (i * 41 + 9) (vi v) = (l.modify i (fun y => { y with Head.Duration := v })).flatMap E_Frame := rows_set l_Frame l i 9 _ (fun y => { y with Head.Duration := v }) (by decide) (fun _ => by rfl)
theorem r_Frame_s_Head_A1_a0 (l : List Frame) (i : Nat) (v : Int) : (l.flatMap E_Frame).set (i * 41 + 10) (vu v) = (l.modify i (fun y => { y with Head.A1.a0 := v })).flatMap E_Frame := rows_set l_Frame l i 10 _ (fun y => { y with Head.A1.a0 := v }) (by decide) (fun _ => by rfl)
theorem r_Frame_s_Head_A1_a1 (l : List Frame) (i : Nat) (v : Int) : (l.flatMap E_Frame).set (i * 41 + 11) (vu v) = (l.modify i (fun y => { y with Head.A1.a1 := v })).flatMap E_Frame := rows_set l_Frame l i 11 _ (fun y => { y with Head.A1.a1 := v }) (by decide) (fun _ => by rfl)
theorem r_Frame_s_Head_A1_a2 (l : List Frame) (i : Nat) (v : Int) : (l.flatMap E_Frame).set (i * 41 + 12) (vu v) = (l.modify i (fun y => { y with Head.A1.a2 := v })).flatMap E_Frame := rows_set l_Frame l i 12 _ (fun y => { y with Head.A1.a2 := v }) (by decide) (fun _ => by rfl)
theorem r_Frame_s_Head_A1_a3 (l : List Frame) (i : Nat) (v : Int) : (l.flatMap E_Frame).set (i * 41 + 13) (vu v) = (l.modify i (fun y => { y with Head.A1.a3 := v })).flatMap E_Frame := rows_set l_Frame l i 13 _ (fun y => { y with Head.A1.a3 := v }) (by decide) (fun _ => by rfl)
theorem r_Frame_s_Head_A1_a4 (l : List Frame) (i : Nat) (v : Int) : (l.flatMap E_Frame).set (i * 41 + 14) (vu v) = (l.modify i (fun y => { y with Head.A1.a4 := v })).flatMap E_Frame := rows_set l_Frame l i 14 _ (fun y => { y with Head.A1.a4 := v }) (by decide) (fun _ => by rfl)
theorem r_Frame_s_Head_A1_a5 (l : List Frame) (i : Nat) (v : Int) : (l.flatMap E_Frame).set (i * 41 + 15) (vu v) = (l.modify i (fun y => { y with Head.A1.a5 := v })).flatMap E_Frame := rows_set l_Frame l i 15 _ (fun y => { y with Head.A1.a5 := v }) (by decide) (fun _ => by rfl)
theorem r_Frame_s_Head_A2_a0 (l : List Frame) (i : Nat) (v : Int) : (l.flatMap E_Frame).set (i * 41 + 16) (vu v) = (l.modify i (fun y => { y with Head.A2.a0 := v })).flatMap E_Frame := rows_set l_Frame l i 16 _ (fun y => { y with Head.A2.a0 := v }) (by decide) (fun _ => by rfl)
theorem r_Frame_s_Head_A2_a1 (l : List Frame) (i : Nat) (v : Int) : (l.flatMap E_Frame).set (i * 41 + 17) (vu v) = (l.modify i (fun y => { y with Head.A2.a1 := v })).flatMap E_Frame := rows_set l_Frame l i 17 _ (fun y => { y with Head.A2.a1 := v }) (by decide) (fun _ => by rfl)
theorem r_Frame_s_Head_A2_a2 (l : List Frame) (i : Nat) (v : Int) : (l.flatMap E_Frame).set (i * 41 + 18) (vu v) = (l.modify i (fun y => { y with Head.A2.a2 := v })).flatMap E_Frame := rows_set l_Frame l i 18 _ (fun y => { y with Head.A2.a2 := v }) (by decide) (fun _ => by rfl)
theorem r_Frame_s_Head_A2_a3 (l : List Frame) (i : Nat) (v : Int) : (l.flatMap E_Frame).set (i * 41 + 19) (vu v) = (l.modify i (fun y => { y with Head.A2.a3 := v })).flatMap E_Frame := rows_set l_Frame l i 19 _ (fun y => { y with Head.A2.a3 := v }) (by decide) (fun _ => by rfl)
theorem r_Frame_s_Head_A2_a4 (l : List Frame) (i : Nat) (v : Int) : (l.flatMap E_Frame).set (i * 41 + 20) (vu v) = (l.modify i (fun y => { y with Head.A2.a4 := v })).flatMap E_Frame := rows_set l_Frame l i 20 _ (fun y => { y with Head.A2.a4 := v }) (by decide) (fun _ => by rfl)
theorem r_Frame_s_Head_A2_a5 (l : List Frame) (i : Nat) (v : Int) : (l.flatMap E_Frame).set (i * 41 + 21) (vu v) = (l.modify i (fun y => { y with Head.A2.a5 := v })).flatMap E_Frame := rows_set l_Frame l i 21 _ (fun y => { y with Head.A2.a5 := v }) (by decide) (fun _ => by rfl)
theorem r_Frame_s_Head_A3_a0 (l : List Frame) (i : Nat) (v : Int) : (l.flatMap E_Frame).set (i * 41 + 22) (vu v) = (l.modify i (fun y => { y with Head.A3.a0 := v })).flatMap E_Frame := rows_set l_Frame l i 22 _ (fun y => { y with Head.A3.a0 := v }) (by decide) (fun _ => by rfl)
theorem r_Frame_s_Head_A3_a1 (l : List Frame) (i : Nat) (v : Int) : (l.flatMap E_Frame).set (i * 41 + 23) (vu v) = (l.modify i (fun y => { y with Head.A3.a1 := v })).flatMap E_Frame := rows_set l_Frame l i 23 _ (fun y => { y with Head.A3.a1 := v }) (by decide) (fun _ => by rfl)
theorem r_Frame_s_Head_A3_a2 (l : List Frame) (i : Nat) (v : Int) : (l.flatMap E_Frame).set (i * 41 + 24) (vu v) = (l.modify i (fun y => { y with Head.A3.a2 := v })).flatMap E_Frame := rows_set l_Frame l i 24 _ (fun y => { y with Head.A3.a2 := v }) (by decide) (fun _ => by rfl)
theorem r_Frame_s_Head_A3_a3 (l : List Frame) (i : Nat) (v : Int) : (l.flatMap E_Frame).set (i * 41 + 25) (vu v) = (l.modify i (fun y => { y with Head.A3.a3 := v })).flatMap E_Frame := rows_set l_Frame l i 25 _ (fun y => { y with Head.A3.a3 := v }) (by decide) (fun _ => by rfl)
theorem r_Frame_s_Head_A3_a4 (l : List Frame) (i : Nat) (v : Int) : (l.flatMap E_Frame).set (i * 41 + 26) (vu v) = (l.modify i (fun y => { y with Head.A3.a4 := v })).flatMap E_Frame := rows_set l_Frame l i 26 _ (fun y => { y with Head.A3.a4 := v }) (by decide) (fun _ => by rfl)
theorem r_Frame_s_Head_A3_a5 (l : List Frame) (i : Nat) (v : Int) : (l.flatMap E_Frame).set (i * 41 + 27) (vu v) = (l.modify i (fun y => { y with Head.A3.a5 := v })).flatMap E_Frame := rows_set l_Frame l i 27 _ (fun y => { y with Head.A3.a5 := v }) (by decide) (fun _ => by rfl)
theorem r_Frame_s_Head_A4_a0 (l : List Frame) (i : Nat) (v : Int) : (l.flatMap E_Frame).set (i * 41 + 28) (vu v) = (l.modify i (fun y => { y with Head.A4.a0 := v })).flatMap E_Frame := rows_set l_Frame l i 28 _ (fun y => { y with Head.A4.a0 := v }) (by decide) (fun _ => by rfl)
theorem r_Frame_s_Head_A4_a1 (l : List Frame) (i : Nat) (v : Int) : (l.flatMap E_Frame).set (i * 41 + 29) (vu v) = (l.modify i (fun y => { y with Head.A4.a1 := v })).flatMap E_Frame := rows_set l_Frame l i 29 _ (fun y => { y with Head.A4.a1 := v }) (by decide) (fun _ => by rfl)
theorem r_Frame_s_Head_A4_a2 (l : List Frame) (i : Nat) (v : Int) : (l.flatMap E_Frame).set (i * 41 + 30) (vu v) = (l.modify i (fun y => { y with Head.A4.a2 := v })).flatMap E_Frame := rows_set l_Frame l i 30 _ (fun y => { y with Head.A4.a2 := v }) (by decide) (fun _ => by rfl)
theorem r_Frame_s_Head_A4_a3 (l : List Frame) (i : Nat) (v : Int) : (l.flatMap E_Frame).set (i * 41 + 31) (vu v) = (l.modify i (fun y => { y with Head.A4.a3 := v })).flatMap E_Frame := rows_set l_Frame l i 31 _ (fun y => { y with Head.A4.a3 := v }) (by decide) (fun _ => by rfl)
theorem r_Frame_s_Head_A4_a4 (l : List Frame) (i : Nat) (v : Int) : (l.flatMap E_Frame).set (i * 41 + 32) (vu v) = (l.modify i (fun y => { y with Head.A4.a4 := v })).flatMap E_Frame := rows_set l_Frame l i 32 _ (fun y => { y with Head.A4.a4 := v }) (by decide) (fun _ => by rfl)
theorem r_Frame_s_Head_A4_a5 (l : List Frame) (i : Nat) (v : Int) : (l.flatMap E_Frame).set (i * 41 + 33) (vu v) = (l.modify i (fun y => { y with Head.A4.a5 := v })).flatMap E_Frame := rows_set l_Frame l i 33 _ (fun y => { y with Head.A4.a5 := v }) (by decide) (fun _ => by rfl)
theorem r_Frame_s_Head_Seq (l : List Frame) (i : Nat) (v : Int) : (l.flatMap E_Frame).set (i * 41 + 34) (vi v) = (l.modify i (fun y => { y with Head.Seq := v })).flatMap E_Frame := rows_set l_Frame l i 34 _ (fun y => { y with Head.Seq := v }) (by decide) (fun _ => by rfl)
theorem r_Frame_s_Head_Frag (l : List Frame) (i : Nat) (v : Int) : (l.flatMap E_Frame).set (i * 41 + 35) (vi v) = (l.modify i (fun y => { y with Head.Frag := v })).flatMap E_Frame := rows_set l_Frame l i 35 _ (fun y => { y with Head.Frag := v }) (by decide) (fun _ => by rfl)
theorem r_Frame_s_Head_Tid (l : List Frame) (i : Nat) (v : Int) : (l.flatMap E_Frame).set (i * 41 + 36) (vi v) = (l.modify i (fun y => { y with Head.Tid := v })).flatMap E_Frame := rows_set l_Frame l i 36 _ (fun y => { y with Head.Tid := v }) (by decide) (fun _ => by rfl)
theorem r_Frame_s_Head_Ack (l : List Frame) (i : Nat) (v : Int) : (l.flatMap E_Frame).set (i * 41 + 37) (vu v) = (l.modify i (fun y => { y with Head.Ack := v })).flatMap E_Frame := rows_set l_Frame l i 37 _ (fun y => { y with Head.Ack := v }) (by decide) (fun _ => by rfl)
theorem r_Frame_s_Head_Amsdu (l : List Frame) (i : Nat) (v : Bool) : (l.flatMap E_Frame).set (i * 41 + 38) (vb v) = (l.modify i (fun y => { y with Head.Amsdu := v })).flatMap E_Frame := rows_set l_Frame l i 38 _ (fun y => { y with Head.Amsdu := v }) (by decide) (fun _ => by rfl)
theorem r_Frame_s_Head_Eosp (l : List Frame) (i : Nat) (v : Bool) : (l.flatMap E_Frame).set (i * 41 + 39) (vb v) = (l.modify i (fun y => { y with Head.Eosp := v })).flatMap E_Frame := rows_set l_Frame l i 39 _ (fun y => { y with Head.Eosp := v }) (by decide) (fun _ => by rfl)
theorem r_Frame_put (l : List Frame) (i : Nat) (x : Frame) (b0 : (List Int)) : putAt (l.flatMap E_Frame) (i * 41) (e_Frame x (.imm (List.map vu b0) b0.length)) = (l.set i { x with Body := b0 }).flatMap E_Frame := rows_put l_Frame (by decide) l i { x with Body := b0 }
theorem r_Frame_app (l : List Frame) (x : Frame) (b0 : (List Int)) : (l.flatMap E_Frame) ++ e_Frame x (S_vu b0) = (l ++ [{ x with Body := b0 }]).flatMap E_Frame := by rw [List.flatMap_append]; simp only [List.flatMap_cons, List.flatMap_nil, List.append_nil]; rfl
theorem r_Frame_cat (l : List Frame) (m : List Frame) : (l.flatMap E_Frame) ++ m.flatMap E_Frame = (l ++ m).flatMap E_Frame := List.flatMap_append.symm
theorem f_S_Frame (l : List Frame) (o : Nat → Ob) (n : Nat) : fz o (n + 3) (S_Frame l) = S_Frame l := by simp only [S_Frame_eq, fz, r_Frame_fz]
theorem q_S_Frame (l : List Frame) (o : Nat → Ob) (n : Nat) : reach o (n + 3) (S_Frame l) = [] := by simp only [S_Frame_eq, reach, r_Frame_rch]
attribute [go_sem] S_Frame_eq l_Frame r_Frame_len r_Frame_get r_Frame_get0 r_Frame_sub r_Frame_sub0 r_Frame_subw r_Frame_take r_Frame_drop r_Frame_fz r_Frame_rch r_Frame_s_Head_Kind r_Frame_s_Head_Sub r_Frame_s_Head_ToDs r_Frame_s_Head_FromDs r_Frame_s_Head_More r_Frame_s_Head_Retry r_Frame_s_Head_Sleep r_Frame_s_Head_MoreData r_Frame_s_Head_Protected r_Frame_s_Head_Duration r_Frame_s_Head_A1_a0 r_Frame_s_Head_A1_a1 r_Frame_s_Head_A1_a2 r_Frame_s_Head_A1_a3 r_Frame_s_Head_A1_a4 r_Frame_s_Head_A1_a5 r_Frame_s_Head_A2_a0 r_Frame_s_Head_A2_a1 r_Frame_s_Head_A2_a2 r_Frame_s_Head_A2_a3 r_Frame_s_Head_A2_a4 r_Frame_s_Head_A2_a5 r_Frame_s_Head_A3_a0 r_Frame_s_Head_A3_a1 r_Frame_s_Head_A3_a2 r_Frame_s_Head_A3_a3 r_Frame_s_Head_A3_a4 r_Frame_s_Head_A3_a5 r_Frame_s_Head_A4_a0 r_Frame_s_Head_A4_a1 r_Frame_s_Head_A4_a2 r_Frame_s_Head_A4_a3 r_Frame_s_Head_A4_a4 r_Frame_s_Head_A4_a5 r_Frame_s_Head_Seq r_Frame_s_Head_Frag r_Frame_s_Head_Tid r_Frame_s_Head_Ack r_Frame_s_Head_Amsdu r_Frame_s_Head_Eosp r_Frame_put r_Frame_app r_Frame_cat f_S_Frame q_S_Frame

structure Window where
  Start : Int
  Bits : Int
  deriving DecidableEq

def Window.z : Window := ⟨0, 0⟩

def e_Window (x : Window) : List AV := [vi x.Start, vq x.Bits]

theorem e_Window_len (x : Window) : (e_Window x).length = 2 := by rfl
theorem e_Window_sub (x : Window) : sub? (e_Window x) 0 2 = some (e_Window x) := by rfl
theorem e_Window_take (x : Window) : (e_Window x).take 2 = (e_Window x) := by rfl
theorem e_Window_all (x : Window) (y : Window) : putAt (e_Window x) 0 (e_Window y) = e_Window y := by rfl
theorem e_Window_g_Start (x : Window) : (e_Window x)[0]? = some (vi x.Start) := by rfl
theorem e_Window_s_Start (x : Window) (v : Int) : (e_Window x).set 0 (vi v) = e_Window { x with Start := v } := by rfl
theorem e_Window_g_Bits (x : Window) : (e_Window x)[1]? = some (vq x.Bits) := by rfl
theorem e_Window_s_Bits (x : Window) (v : Int) : (e_Window x).set 1 (vq v) = e_Window { x with Bits := v } := by rfl
theorem e_Window_fz (x : Window) (o : Nat → Ob) (n : Nat) : (e_Window x).map (fz o (n + 1)) = e_Window x := by rfl
theorem e_Window_reach (x : Window) (o : Nat → Ob) (n : Nat) : (e_Window x).flatMap (reach o (n + 1)) = [] := by
  simp only [e_Window, List.cons_append, List.nil_append, List.append_nil, List.flatMap_cons, List.flatMap_nil, reach_v]
theorem e_Window_clean (x : Window) : ∀ c ∈ (e_Window x), Clean c := by
  simp only [e_Window, List.cons_append, List.nil_append]
  repeat' (first | exact Clean.v _ | assumption | exact List.forall_mem_nil _ | refine List.forall_mem_cons.2 ⟨?_, ?_⟩)
theorem e_Window_tm {st : AS} {F : List Nat} {σ : List (Option Nat)} (x : Window) : TmL st F σ (e_Window x) (e_Window x) := by
  simp only [e_Window, List.cons_append, List.nil_append]
  repeat' (first | exact TmL.nil | (refine TmL.cons (Tm.v _) ?_) | (refine TmL.cons (by assumption) ?_))
theorem f_Window (x : Window) (o : Nat → Ob) (n : Nat) : (e_Window x).map (fz o (n + 1)) = e_Window x := by simp only [e_Window_fz]
theorem q_Window (x : Window) (o : Nat → Ob) (n : Nat) : (e_Window x).flatMap (reach o (n + 1)) = [] := by simp only [e_Window_reach, List.append_nil]
attribute [go_sem] e_Window_len e_Window_sub e_Window_take e_Window_all e_Window_g_Start e_Window_s_Start e_Window_g_Bits e_Window_s_Bits e_Window_fz e_Window_reach f_Window q_Window

structure BlockAnswer where
  Token : Int
  Tid : Int
  Status : Int
  Size : Int
  deriving DecidableEq

def BlockAnswer.z : BlockAnswer := ⟨0, 0, 0, 0⟩

def e_BlockAnswer (x : BlockAnswer) : List AV := [vi x.Token, vi x.Tid, vi x.Status, vi x.Size]

theorem e_BlockAnswer_len (x : BlockAnswer) : (e_BlockAnswer x).length = 4 := by rfl
theorem e_BlockAnswer_sub (x : BlockAnswer) : sub? (e_BlockAnswer x) 0 4 = some (e_BlockAnswer x) := by rfl
theorem e_BlockAnswer_take (x : BlockAnswer) : (e_BlockAnswer x).take 4 = (e_BlockAnswer x) := by rfl
theorem e_BlockAnswer_all (x : BlockAnswer) (y : BlockAnswer) : putAt (e_BlockAnswer x) 0 (e_BlockAnswer y) = e_BlockAnswer y := by rfl
theorem e_BlockAnswer_g_Token (x : BlockAnswer) : (e_BlockAnswer x)[0]? = some (vi x.Token) := by rfl
theorem e_BlockAnswer_s_Token (x : BlockAnswer) (v : Int) : (e_BlockAnswer x).set 0 (vi v) = e_BlockAnswer { x with Token := v } := by rfl
theorem e_BlockAnswer_g_Tid (x : BlockAnswer) : (e_BlockAnswer x)[1]? = some (vi x.Tid) := by rfl
theorem e_BlockAnswer_s_Tid (x : BlockAnswer) (v : Int) : (e_BlockAnswer x).set 1 (vi v) = e_BlockAnswer { x with Tid := v } := by rfl
theorem e_BlockAnswer_g_Status (x : BlockAnswer) : (e_BlockAnswer x)[2]? = some (vi x.Status) := by rfl
theorem e_BlockAnswer_s_Status (x : BlockAnswer) (v : Int) : (e_BlockAnswer x).set 2 (vi v) = e_BlockAnswer { x with Status := v } := by rfl
theorem e_BlockAnswer_g_Size (x : BlockAnswer) : (e_BlockAnswer x)[3]? = some (vi x.Size) := by rfl
theorem e_BlockAnswer_s_Size (x : BlockAnswer) (v : Int) : (e_BlockAnswer x).set 3 (vi v) = e_BlockAnswer { x with Size := v } := by rfl
theorem e_BlockAnswer_fz (x : BlockAnswer) (o : Nat → Ob) (n : Nat) : (e_BlockAnswer x).map (fz o (n + 1)) = e_BlockAnswer x := by rfl
theorem e_BlockAnswer_reach (x : BlockAnswer) (o : Nat → Ob) (n : Nat) : (e_BlockAnswer x).flatMap (reach o (n + 1)) = [] := by
  simp only [e_BlockAnswer, List.cons_append, List.nil_append, List.append_nil, List.flatMap_cons, List.flatMap_nil, reach_v]
theorem e_BlockAnswer_clean (x : BlockAnswer) : ∀ c ∈ (e_BlockAnswer x), Clean c := by
  simp only [e_BlockAnswer, List.cons_append, List.nil_append]
  repeat' (first | exact Clean.v _ | assumption | exact List.forall_mem_nil _ | refine List.forall_mem_cons.2 ⟨?_, ?_⟩)
theorem e_BlockAnswer_tm {st : AS} {F : List Nat} {σ : List (Option Nat)} (x : BlockAnswer) : TmL st F σ (e_BlockAnswer x) (e_BlockAnswer x) := by
  simp only [e_BlockAnswer, List.cons_append, List.nil_append]
  repeat' (first | exact TmL.nil | (refine TmL.cons (Tm.v _) ?_) | (refine TmL.cons (by assumption) ?_))
theorem f_BlockAnswer (x : BlockAnswer) (o : Nat → Ob) (n : Nat) : (e_BlockAnswer x).map (fz o (n + 1)) = e_BlockAnswer x := by simp only [e_BlockAnswer_fz]
theorem q_BlockAnswer (x : BlockAnswer) (o : Nat → Ob) (n : Nat) : (e_BlockAnswer x).flatMap (reach o (n + 1)) = [] := by simp only [e_BlockAnswer_reach, List.append_nil]
attribute [go_sem] e_BlockAnswer_len e_BlockAnswer_sub e_BlockAnswer_take e_BlockAnswer_all e_BlockAnswer_g_Token e_BlockAnswer_s_Token e_BlockAnswer_g_Tid e_BlockAnswer_s_Tid e_BlockAnswer_g_Status e_BlockAnswer_s_Status e_BlockAnswer_g_Size e_BlockAnswer_s_Size e_BlockAnswer_fz e_BlockAnswer_reach f_BlockAnswer q_BlockAnswer

structure Hotspotref19_Step where
  Kind : Int
  N : Int
  Frame : Frame
  W : Window
  A : BlockAnswer
  deriving DecidableEq

def Hotspotref19_Step.z : Hotspotref19_Step := ⟨0, 0, Frame.z, Window.z, BlockAnswer.z⟩

def e_Hotspotref19_Step (x : Hotspotref19_Step) (s0 : AV) : List AV := [vi x.Kind, vi x.N] ++ (e_Frame x.Frame s0) ++ (e_Window x.W) ++ (e_BlockAnswer x.A)

theorem e_Hotspotref19_Step_len (x : Hotspotref19_Step) (s0 : AV) : (e_Hotspotref19_Step x s0).length = 49 := by rfl
theorem e_Hotspotref19_Step_sub (x : Hotspotref19_Step) (s0 : AV) : sub? (e_Hotspotref19_Step x s0) 0 49 = some (e_Hotspotref19_Step x s0) := by rfl
theorem e_Hotspotref19_Step_take (x : Hotspotref19_Step) (s0 : AV) : (e_Hotspotref19_Step x s0).take 49 = (e_Hotspotref19_Step x s0) := by rfl
theorem e_Hotspotref19_Step_all (x : Hotspotref19_Step) (s0 : AV) (y : Hotspotref19_Step) (s02 : AV) : putAt (e_Hotspotref19_Step x s0) 0 (e_Hotspotref19_Step y s02) = e_Hotspotref19_Step y s02 := by rfl
theorem e_Hotspotref19_Step_g_Kind (x : Hotspotref19_Step) (s0 : AV) : (e_Hotspotref19_Step x s0)[0]? = some (vi x.Kind) := by rfl
theorem e_Hotspotref19_Step_s_Kind (x : Hotspotref19_Step) (s0 : AV) (v : Int) : (e_Hotspotref19_Step x s0).set 0 (vi v) = e_Hotspotref19_Step { x with Kind := v } s0 := by rfl
theorem e_Hotspotref19_Step_g_N (x : Hotspotref19_Step) (s0 : AV) : (e_Hotspotref19_Step x s0)[1]? = some (vi x.N) := by rfl
theorem e_Hotspotref19_Step_s_N (x : Hotspotref19_Step) (s0 : AV) (v : Int) : (e_Hotspotref19_Step x s0).set 1 (vi v) = e_Hotspotref19_Step { x with N := v } s0 := by rfl
theorem e_Hotspotref19_Step_g_Frame_Head_Kind (x : Hotspotref19_Step) (s0 : AV) : (e_Hotspotref19_Step x s0)[2]? = some (vu x.Frame.Head.Kind) := by rfl
theorem e_Hotspotref19_Step_s_Frame_Head_Kind (x : Hotspotref19_Step) (s0 : AV) (v : Int) : (e_Hotspotref19_Step x s0).set 2 (vu v) = e_Hotspotref19_Step { x with Frame.Head.Kind := v } s0 := by rfl
theorem e_Hotspotref19_Step_g_Frame_Head_Sub (x : Hotspotref19_Step) (s0 : AV) : (e_Hotspotref19_Step x s0)[3]? = some (vu x.Frame.Head.Sub) := by rfl
theorem e_Hotspotref19_Step_s_Frame_Head_Sub (x : Hotspotref19_Step) (s0 : AV) (v : Int) : (e_Hotspotref19_Step x s0).set 3 (vu v) = e_Hotspotref19_Step { x with Frame.Head.Sub := v } s0 := by rfl
theorem e_Hotspotref19_Step_g_Frame_Head_ToDs (x : Hotspotref19_Step) (s0 : AV) : (e_Hotspotref19_Step x s0)[4]? = some (vb x.Frame.Head.ToDs) := by rfl
theorem e_Hotspotref19_Step_s_Frame_Head_ToDs (x : Hotspotref19_Step) (s0 : AV) (v : Bool) : (e_Hotspotref19_Step x s0).set 4 (vb v) = e_Hotspotref19_Step { x with Frame.Head.ToDs := v } s0 := by rfl
theorem e_Hotspotref19_Step_g_Frame_Head_FromDs (x : Hotspotref19_Step) (s0 : AV) : (e_Hotspotref19_Step x s0)[5]? = some (vb x.Frame.Head.FromDs) := by rfl
theorem e_Hotspotref19_Step_s_Frame_Head_FromDs (x : Hotspotref19_Step) (s0 : AV) (v : Bool) : (e_Hotspotref19_Step x s0).set 5 (vb v) = e_Hotspotref19_Step { x with Frame.Head.FromDs := v } s0 := by rfl
theorem e_Hotspotref19_Step_g_Frame_Head_More (x : Hotspotref19_Step) (s0 : AV) : (e_Hotspotref19_Step x s0)[6]? = some (vb x.Frame.Head.More) := by rfl
theorem e_Hotspotref19_Step_s_Frame_Head_More (x : Hotspotref19_Step) (s0 : AV) (v : Bool) : (e_Hotspotref19_Step x s0).set 6 (vb v) = e_Hotspotref19_Step { x with Frame.Head.More := v } s0 := by rfl
theorem e_Hotspotref19_Step_g_Frame_Head_Retry (x : Hotspotref19_Step) (s0 : AV) : (e_Hotspotref19_Step x s0)[7]? = some (vb x.Frame.Head.Retry) := by rfl
theorem e_Hotspotref19_Step_s_Frame_Head_Retry (x : Hotspotref19_Step) (s0 : AV) (v : Bool) : (e_Hotspotref19_Step x s0).set 7 (vb v) = e_Hotspotref19_Step { x with Frame.Head.Retry := v } s0 := by rfl
theorem e_Hotspotref19_Step_g_Frame_Head_Sleep (x : Hotspotref19_Step) (s0 : AV) : (e_Hotspotref19_Step x s0)[8]? = some (vb x.Frame.Head.Sleep) := by rfl
theorem e_Hotspotref19_Step_s_Frame_Head_Sleep (x : Hotspotref19_Step) (s0 : AV) (v : Bool) : (e_Hotspotref19_Step x s0).set 8 (vb v) = e_Hotspotref19_Step { x with Frame.Head.Sleep := v } s0 := by rfl
theorem e_Hotspotref19_Step_g_Frame_Head_MoreData (x : Hotspotref19_Step) (s0 : AV) : (e_Hotspotref19_Step x s0)[9]? = some (vb x.Frame.Head.MoreData) := by rfl
theorem e_Hotspotref19_Step_s_Frame_Head_MoreData (x : Hotspotref19_Step) (s0 : AV) (v : Bool) : (e_Hotspotref19_Step x s0).set 9 (vb v) = e_Hotspotref19_Step { x with Frame.Head.MoreData := v } s0 := by rfl
theorem e_Hotspotref19_Step_g_Frame_Head_Protected (x : Hotspotref19_Step) (s0 : AV) : (e_Hotspotref19_Step x s0)[10]? = some (vb x.Frame.Head.Protected) := by rfl
theorem e_Hotspotref19_Step_s_Frame_Head_Protected (x : Hotspotref19_Step) (s0 : AV) (v : Bool) : (e_Hotspotref19_Step x s0).set 10 (vb v) = e_Hotspotref19_Step { x with Frame.Head.Protected := v } s0 := by rfl
theorem e_Hotspotref19_Step_g_Frame_Head_Duration (x : Hotspotref19_Step) (s0 : AV) : (e_Hotspotref19_Step x s0)[11]? = some (vi x.Frame.Head.Duration) := by rfl
theorem e_Hotspotref19_Step_s_Frame_Head_Duration (x : Hotspotref19_Step) (s0 : AV) (v : Int) : (e_Hotspotref19_Step x s0).set 11 (vi v) = e_Hotspotref19_Step { x with Frame.Head.Duration := v } s0 := by rfl
theorem e_Hotspotref19_Step_g_Frame_Head_A1_a0 (x : Hotspotref19_Step) (s0 : AV) : (e_Hotspotref19_Step x s0)[12]? = some (vu x.Frame.Head.A1.a0) := by rfl
theorem e_Hotspotref19_Step_s_Frame_Head_A1_a0 (x : Hotspotref19_Step) (s0 : AV) (v : Int) : (e_Hotspotref19_Step x s0).set 12 (vu v) = e_Hotspotref19_Step { x with Frame.Head.A1.a0 := v } s0 := by rfl
theorem e_Hotspotref19_Step_g_Frame_Head_A1_a1 (x : Hotspotref19_Step) (s0 : AV) : (e_Hotspotref19_Step x s0)[13]? = some (vu x.Frame.Head.A1.a1) := by rfl
theorem e_Hotspotref19_Step_s_Frame_Head_A1_a1 (x : Hotspotref19_Step) (s0 : AV) (v : Int) : (e_Hotspotref19_Step x s0).set 13 (vu v) = e_Hotspotref19_Step { x with Frame.Head.A1.a1 := v } s0 := by rfl
theorem e_Hotspotref19_Step_g_Frame_Head_A1_a2 (x : Hotspotref19_Step) (s0 : AV) : (e_Hotspotref19_Step x s0)[14]? = some (vu x.Frame.Head.A1.a2) := by rfl
theorem e_Hotspotref19_Step_s_Frame_Head_A1_a2 (x : Hotspotref19_Step) (s0 : AV) (v : Int) : (e_Hotspotref19_Step x s0).set 14 (vu v) = e_Hotspotref19_Step { x with Frame.Head.A1.a2 := v } s0 := by rfl
theorem e_Hotspotref19_Step_g_Frame_Head_A1_a3 (x : Hotspotref19_Step) (s0 : AV) : (e_Hotspotref19_Step x s0)[15]? = some (vu x.Frame.Head.A1.a3) := by rfl
theorem e_Hotspotref19_Step_s_Frame_Head_A1_a3 (x : Hotspotref19_Step) (s0 : AV) (v : Int) : (e_Hotspotref19_Step x s0).set 15 (vu v) = e_Hotspotref19_Step { x with Frame.Head.A1.a3 := v } s0 := by rfl
theorem e_Hotspotref19_Step_g_Frame_Head_A1_a4 (x : Hotspotref19_Step) (s0 : AV) : (e_Hotspotref19_Step x s0)[16]? = some (vu x.Frame.Head.A1.a4) := by rfl
theorem e_Hotspotref19_Step_s_Frame_Head_A1_a4 (x : Hotspotref19_Step) (s0 : AV) (v : Int) : (e_Hotspotref19_Step x s0).set 16 (vu v) = e_Hotspotref19_Step { x with Frame.Head.A1.a4 := v } s0 := by rfl
theorem e_Hotspotref19_Step_g_Frame_Head_A1_a5 (x : Hotspotref19_Step) (s0 : AV) : (e_Hotspotref19_Step x s0)[17]? = some (vu x.Frame.Head.A1.a5) := by rfl
theorem e_Hotspotref19_Step_s_Frame_Head_A1_a5 (x : Hotspotref19_Step) (s0 : AV) (v : Int) : (e_Hotspotref19_Step x s0).set 17 (vu v) = e_Hotspotref19_Step { x with Frame.Head.A1.a5 := v } s0 := by rfl
theorem e_Hotspotref19_Step_g_Frame_Head_A2_a0 (x : Hotspotref19_Step) (s0 : AV) : (e_Hotspotref19_Step x s0)[18]? = some (vu x.Frame.Head.A2.a0) := by rfl
theorem e_Hotspotref19_Step_s_Frame_Head_A2_a0 (x : Hotspotref19_Step) (s0 : AV) (v : Int) : (e_Hotspotref19_Step x s0).set 18 (vu v) = e_Hotspotref19_Step { x with Frame.Head.A2.a0 := v } s0 := by rfl
theorem e_Hotspotref19_Step_g_Frame_Head_A2_a1 (x : Hotspotref19_Step) (s0 : AV) : (e_Hotspotref19_Step x s0)[19]? = some (vu x.Frame.Head.A2.a1) := by rfl
theorem e_Hotspotref19_Step_s_Frame_Head_A2_a1 (x : Hotspotref19_Step) (s0 : AV) (v : Int) : (e_Hotspotref19_Step x s0).set 19 (vu v) = e_Hotspotref19_Step { x with Frame.Head.A2.a1 := v } s0 := by rfl
theorem e_Hotspotref19_Step_g_Frame_Head_A2_a2 (x : Hotspotref19_Step) (s0 : AV) : (e_Hotspotref19_Step x s0)[20]? = some (vu x.Frame.Head.A2.a2) := by rfl
theorem e_Hotspotref19_Step_s_Frame_Head_A2_a2 (x : Hotspotref19_Step) (s0 : AV) (v : Int) : (e_Hotspotref19_Step x s0).set 20 (vu v) = e_Hotspotref19_Step { x with Frame.Head.A2.a2 := v } s0 := by rfl
theorem e_Hotspotref19_Step_g_Frame_Head_A2_a3 (x : Hotspotref19_Step) (s0 : AV) : (e_Hotspotref19_Step x s0)[21]? = some (vu x.Frame.Head.A2.a3) := by rfl
theorem e_Hotspotref19_Step_s_Frame_Head_A2_a3 (x : Hotspotref19_Step) (s0 : AV) (v : Int) : (e_Hotspotref19_Step x s0).set 21 (vu v) = e_Hotspotref19_Step { x with Frame.Head.A2.a3 := v } s0 := by rfl
theorem e_Hotspotref19_Step_g_Frame_Head_A2_a4 (x : Hotspotref19_Step) (s0 : AV) : (e_Hotspotref19_Step x s0)[22]? = some (vu x.Frame.Head.A2.a4) := by rfl
theorem e_Hotspotref19_Step_s_Frame_Head_A2_a4 (x : Hotspotref19_Step) (s0 : AV) (v : Int) : (e_Hotspotref19_Step x s0).set 22 (vu v) = e_Hotspotref19_Step { x with Frame.Head.A2.a4 := v } s0 := by rfl
theorem e_Hotspotref19_Step_g_Frame_Head_A2_a5 (x : Hotspotref19_Step) (s0 : AV) : (e_Hotspotref19_Step x s0)[23]? = some (vu x.Frame.Head.A2.a5) := by rfl
theorem e_Hotspotref19_Step_s_Frame_Head_A2_a5 (x : Hotspotref19_Step) (s0 : AV) (v : Int) : (e_Hotspotref19_Step x s0).set 23 (vu v) = e_Hotspotref19_Step { x with Frame.Head.A2.a5 := v } s0 := by rfl
theorem e_Hotspotref19_Step_g_Frame_Head_A3_a0 (x : Hotspotref19_Step) (s0 : AV) : (e_Hotspotref19_Step x s0)[24]? = some (vu x.Frame.Head.A3.a0) := by rfl
theorem e_Hotspotref19_Step_s_Frame_Head_A3_a0 (x : Hotspotref19_Step) (s0 : AV) (v : Int) : (e_Hotspotref19_Step x s0).set 24 (vu v) = e_Hotspotref19_Step { x with Frame.Head.A3.a0 := v } s0 := by rfl
theorem e_Hotspotref19_Step_g_Frame_Head_A3_a1 (x : Hotspotref19_Step) (s0 : AV) : (e_Hotspotref19_Step x s0)[25]? = some (vu x.Frame.Head.A3.a1) := by rfl
theorem e_Hotspotref19_Step_s_Frame_Head_A3_a1 (x : Hotspotref19_Step) (s0 : AV) (v : Int) : (e_Hotspotref19_Step x s0).set 25 (vu v) = e_Hotspotref19_Step { x with Frame.Head.A3.a1 := v } s0 := by rfl
theorem e_Hotspotref19_Step_g_Frame_Head_A3_a2 (x : Hotspotref19_Step) (s0 : AV) : (e_Hotspotref19_Step x s0)[26]? = some (vu x.Frame.Head.A3.a2) := by rfl
theorem e_Hotspotref19_Step_s_Frame_Head_A3_a2 (x : Hotspotref19_Step) (s0 : AV) (v : Int) : (e_Hotspotref19_Step x s0).set 26 (vu v) = e_Hotspotref19_Step { x with Frame.Head.A3.a2 := v } s0 := by rfl
theorem e_Hotspotref19_Step_g_Frame_Head_A3_a3 (x : Hotspotref19_Step) (s0 : AV) : (e_Hotspotref19_Step x s0)[27]? = some (vu x.Frame.Head.A3.a3) := by rfl
theorem e_Hotspotref19_Step_s_Frame_Head_A3_a3 (x : Hotspotref19_Step) (s0 : AV) (v : Int) : (e_Hotspotref19_Step x s0).set 27 (vu v) = e_Hotspotref19_Step { x with Frame.Head.A3.a3 := v } s0 := by rfl
theorem e_Hotspotref19_Step_g_Frame_Head_A3_a4 (x : Hotspotref19_Step) (s0 : AV) : (e_Hotspotref19_Step x s0)[28]? = some (vu x.Frame.Head.A3.a4) := by rfl
theorem e_Hotspotref19_Step_s_Frame_Head_A3_a4 (x : Hotspotref19_Step) (s0 : AV) (v : Int) : (e_Hotspotref19_Step x s0).set 28 (vu v) = e_Hotspotref19_Step { x with Frame.Head.A3.a4 := v } s0 := by rfl
theorem e_Hotspotref19_Step_g_Frame_Head_A3_a5 (x : Hotspotref19_Step) (s0 : AV) : (e_Hotspotref19_Step x s0)[29]? = some (vu x.Frame.Head.A3.a5) := by rfl
theorem e_Hotspotref19_Step_s_Frame_Head_A3_a5 (x : Hotspotref19_Step) (s0 : AV) (v : Int) : (e_Hotspotref19_Step x s0).set 29 (vu v) = e_Hotspotref19_Step { x with Frame.Head.A3.a5 := v } s0 := by rfl
theorem e_Hotspotref19_Step_g_Frame_Head_A4_a0 (x : Hotspotref19_Step) (s0 : AV) : (e_Hotspotref19_Step x s0)[30]? = some (vu x.Frame.Head.A4.a0) := by rfl
theorem e_Hotspotref19_Step_s_Frame_Head_A4_a0 (x : Hotspotref19_Step) (s0 : AV) (v : Int) : (e_Hotspotref19_Step x s0).set 30 (vu v) = e_Hotspotref19_Step { x with Frame.Head.A4.a0 := v } s0 := by rfl
theorem e_Hotspotref19_Step_g_Frame_Head_A4_a1 (x : Hotspotref19_Step) (s0 : AV) : (e_Hotspotref19_Step x s0)[31]? = some (vu x.Frame.Head.A4.a1) := by rfl
theorem e_Hotspotref19_Step_s_Frame_Head_A4_a1 (x : Hotspotref19_Step) (s0 : AV) (v : Int) : (e_Hotspotref19_Step x s0).set 31 (vu v) = e_Hotspotref19_Step { x with Frame.Head.A4.a1 := v } s0 := by rfl
theorem e_Hotspotref19_Step_g_Frame_Head_A4_a2 (x : Hotspotref19_Step) (s0 : AV) : (e_Hotspotref19_Step x s0)[32]? = some (vu x.Frame.Head.A4.a2) := by rfl
theorem e_Hotspotref19_Step_s_Frame_Head_A4_a2 (x : Hotspotref19_Step) (s0 : AV) (v : Int) : (e_Hotspotref19_Step x s0).set 32 (vu v) = e_Hotspotref19_Step { x with Frame.Head.A4.a2 := v } s0 := by rfl
theorem e_Hotspotref19_Step_g_Frame_Head_A4_a3 (x : Hotspotref19_Step) (s0 : AV) : (e_Hotspotref19_Step x s0)[33]? = some (vu x.Frame.Head.A4.a3) := by rfl
theorem e_Hotspotref19_Step_s_Frame_Head_A4_a3 (x : Hotspotref19_Step) (s0 : AV) (v : Int) : (e_Hotspotref19_Step x s0).set 33 (vu v) = e_Hotspotref19_Step { x with Frame.Head.A4.a3 := v } s0 := by rfl
theorem e_Hotspotref19_Step_g_Frame_Head_A4_a4 (x : Hotspotref19_Step) (s0 : AV) : (e_Hotspotref19_Step x s0)[34]? = some (vu x.Frame.Head.A4.a4) := by rfl
theorem e_Hotspotref19_Step_s_Frame_Head_A4_a4 (x : Hotspotref19_Step) (s0 : AV) (v : Int) : (e_Hotspotref19_Step x s0).set 34 (vu v) = e_Hotspotref19_Step { x with Frame.Head.A4.a4 := v } s0 := by rfl
theorem e_Hotspotref19_Step_g_Frame_Head_A4_a5 (x : Hotspotref19_Step) (s0 : AV) : (e_Hotspotref19_Step x s0)[35]? = some (vu x.Frame.Head.A4.a5) := by rfl
theorem e_Hotspotref19_Step_s_Frame_Head_A4_a5 (x : Hotspotref19_Step) (s0 : AV) (v : Int) : (e_Hotspotref19_Step x s0).set 35 (vu v) = e_Hotspotref19_Step { x with Frame.Head.A4.a5 := v } s0 := by rfl
theorem e_Hotspotref19_Step_g_Frame_Head_Seq (x : Hotspotref19_Step) (s0 : AV) : (e_Hotspotref19_Step x s0)[36]? = some (vi x.Frame.Head.Seq) := by rfl
theorem e_Hotspotref19_Step_s_Frame_Head_Seq (x : Hotspotref19_Step) (s0 : AV) (v : Int) : (e_Hotspotref19_Step x s0).set 36 (vi v) = e_Hotspotref19_Step { x with Frame.Head.Seq := v } s0 := by rfl
theorem e_Hotspotref19_Step_g_Frame_Head_Frag (x : Hotspotref19_Step) (s0 : AV) : (e_Hotspotref19_Step x s0)[37]? = some (vi x.Frame.Head.Frag) := by rfl
theorem e_Hotspotref19_Step_s_Frame_Head_Frag (x : Hotspotref19_Step) (s0 : AV) (v : Int) : (e_Hotspotref19_Step x s0).set 37 (vi v) = e_Hotspotref19_Step { x with Frame.Head.Frag := v } s0 := by rfl
theorem e_Hotspotref19_Step_g_Frame_Head_Tid (x : Hotspotref19_Step) (s0 : AV) : (e_Hotspotref19_Step x s0)[38]? = some (vi x.Frame.Head.Tid) := by rfl
theorem e_Hotspotref19_Step_s_Frame_Head_Tid (x : Hotspotref19_Step) (s0 : AV) (v : Int) : (e_Hotspotref19_Step x s0).set 38 (vi v) = e_Hotspotref19_Step { x with Frame.Head.Tid := v } s0 := by rfl
theorem e_Hotspotref19_Step_g_Frame_Head_Ack (x : Hotspotref19_Step) (s0 : AV) : (e_Hotspotref19_Step x s0)[39]? = some (vu x.Frame.Head.Ack) := by rfl
theorem e_Hotspotref19_Step_s_Frame_Head_Ack (x : Hotspotref19_Step) (s0 : AV) (v : Int) : (e_Hotspotref19_Step x s0).set 39 (vu v) = e_Hotspotref19_Step { x with Frame.Head.Ack := v } s0 := by rfl
theorem e_Hotspotref19_Step_g_Frame_Head_Amsdu (x : Hotspotref19_Step) (s0 : AV) : (e_Hotspotref19_Step x s0)[40]? = some (vb x.Frame.Head.Amsdu) := by rfl
theorem e_Hotspotref19_Step_s_Frame_Head_Amsdu (x : Hotspotref19_Step) (s0 : AV) (v : Bool) : (e_Hotspotref19_Step x s0).set 40 (vb v) = e_Hotspotref19_Step { x with Frame.Head.Amsdu := v } s0 := by rfl
theorem e_Hotspotref19_Step_g_Frame_Head_Eosp (x : Hotspotref19_Step) (s0 : AV) : (e_Hotspotref19_Step x s0)[41]? = some (vb x.Frame.Head.Eosp) := by rfl
theorem e_Hotspotref19_Step_s_Frame_Head_Eosp (x : Hotspotref19_Step) (s0 : AV) (v : Bool) : (e_Hotspotref19_Step x s0).set 41 (vb v) = e_Hotspotref19_Step { x with Frame.Head.Eosp := v } s0 := by rfl
theorem e_Hotspotref19_Step_g_Frame_Body (x : Hotspotref19_Step) (s0 : AV) : (e_Hotspotref19_Step x s0)[42]? = some s0 := by rfl
theorem e_Hotspotref19_Step_s_Frame_Body (x : Hotspotref19_Step) (s0 : AV) (v : AV) : (e_Hotspotref19_Step x s0).set 42 v = e_Hotspotref19_Step x v := by rfl
theorem e_Hotspotref19_Step_g_W_Start (x : Hotspotref19_Step) (s0 : AV) : (e_Hotspotref19_Step x s0)[43]? = some (vi x.W.Start) := by rfl
theorem e_Hotspotref19_Step_s_W_Start (x : Hotspotref19_Step) (s0 : AV) (v : Int) : (e_Hotspotref19_Step x s0).set 43 (vi v) = e_Hotspotref19_Step { x with W.Start := v } s0 := by rfl
theorem e_Hotspotref19_Step_g_W_Bits (x : Hotspotref19_Step) (s0 : AV) : (e_Hotspotref19_Step x s0)[44]? = some (vq x.W.Bits) := by rfl
theorem e_Hotspotref19_Step_s_W_Bits (x : Hotspotref19_Step) (s0 : AV) (v : Int) : (e_Hotspotref19_Step x s0).set 44 (vq v) = e_Hotspotref19_Step { x with W.Bits := v } s0 := by rfl
theorem e_Hotspotref19_Step_g_A_Token (x : Hotspotref19_Step) (s0 : AV) : (e_Hotspotref19_Step x s0)[45]? = some (vi x.A.Token) := by rfl
theorem e_Hotspotref19_Step_s_A_Token (x : Hotspotref19_Step) (s0 : AV) (v : Int) : (e_Hotspotref19_Step x s0).set 45 (vi v) = e_Hotspotref19_Step { x with A.Token := v } s0 := by rfl
theorem e_Hotspotref19_Step_g_A_Tid (x : Hotspotref19_Step) (s0 : AV) : (e_Hotspotref19_Step x s0)[46]? = some (vi x.A.Tid) := by rfl
theorem e_Hotspotref19_Step_s_A_Tid (x : Hotspotref19_Step) (s0 : AV) (v : Int) : (e_Hotspotref19_Step x s0).set 46 (vi v) = e_Hotspotref19_Step { x with A.Tid := v } s0 := by rfl
theorem e_Hotspotref19_Step_g_A_Status (x : Hotspotref19_Step) (s0 : AV) : (e_Hotspotref19_Step x s0)[47]? = some (vi x.A.Status) := by rfl
theorem e_Hotspotref19_Step_s_A_Status (x : Hotspotref19_Step) (s0 : AV) (v : Int) : (e_Hotspotref19_Step x s0).set 47 (vi v) = e_Hotspotref19_Step { x with A.Status := v } s0 := by rfl
theorem e_Hotspotref19_Step_g_A_Size (x : Hotspotref19_Step) (s0 : AV) : (e_Hotspotref19_Step x s0)[48]? = some (vi x.A.Size) := by rfl
theorem e_Hotspotref19_Step_s_A_Size (x : Hotspotref19_Step) (s0 : AV) (v : Int) : (e_Hotspotref19_Step x s0).set 48 (vi v) = e_Hotspotref19_Step { x with A.Size := v } s0 := by rfl
theorem e_Hotspotref19_Step_d_Frame (x : Hotspotref19_Step) (s0 : AV) : sub? (e_Hotspotref19_Step x s0) 2 41 = some (e_Frame x.Frame s0) := by rfl
theorem e_Hotspotref19_Step_p_Frame (x : Hotspotref19_Step) (s0 : AV) (v : Frame) (w0 : AV) : putAt (e_Hotspotref19_Step x s0) 2 (e_Frame v w0) = e_Hotspotref19_Step { x with Frame := v } w0 := by rfl
theorem e_Hotspotref19_Step_d_Frame_Head (x : Hotspotref19_Step) (s0 : AV) : sub? (e_Hotspotref19_Step x s0) 2 40 = some (e_Header x.Frame.Head) := by rfl
theorem e_Hotspotref19_Step_p_Frame_Head (x : Hotspotref19_Step) (s0 : AV) (v : Header) : putAt (e_Hotspotref19_Step x s0) 2 (e_Header v) = e_Hotspotref19_Step { x with Frame.Head := v } s0 := by rfl
theorem e_Hotspotref19_Step_d_Frame_Head_A1 (x : Hotspotref19_Step) (s0 : AV) : sub? (e_Hotspotref19_Step x s0) 12 6 = some (e_Addr x.Frame.Head.A1) := by rfl
theorem e_Hotspotref19_Step_p_Frame_Head_A1 (x : Hotspotref19_Step) (s0 : AV) (v : Addr) : putAt (e_Hotspotref19_Step x s0) 12 (e_Addr v) = e_Hotspotref19_Step { x with Frame.Head.A1 := v } s0 := by rfl
theorem e_Hotspotref19_Step_d_Frame_Head_A2 (x : Hotspotref19_Step) (s0 : AV) : sub? (e_Hotspotref19_Step x s0) 18 6 = some (e_Addr x.Frame.Head.A2) := by rfl
theorem e_Hotspotref19_Step_p_Frame_Head_A2 (x : Hotspotref19_Step) (s0 : AV) (v : Addr) : putAt (e_Hotspotref19_Step x s0) 18 (e_Addr v) = e_Hotspotref19_Step { x with Frame.Head.A2 := v } s0 := by rfl
theorem e_Hotspotref19_Step_d_Frame_Head_A3 (x : Hotspotref19_Step) (s0 : AV) : sub? (e_Hotspotref19_Step x s0) 24 6 = some (e_Addr x.Frame.Head.A3) := by rfl
theorem e_Hotspotref19_Step_p_Frame_Head_A3 (x : Hotspotref19_Step) (s0 : AV) (v : Addr) : putAt (e_Hotspotref19_Step x s0) 24 (e_Addr v) = e_Hotspotref19_Step { x with Frame.Head.A3 := v } s0 := by rfl
theorem e_Hotspotref19_Step_d_Frame_Head_A4 (x : Hotspotref19_Step) (s0 : AV) : sub? (e_Hotspotref19_Step x s0) 30 6 = some (e_Addr x.Frame.Head.A4) := by rfl
theorem e_Hotspotref19_Step_p_Frame_Head_A4 (x : Hotspotref19_Step) (s0 : AV) (v : Addr) : putAt (e_Hotspotref19_Step x s0) 30 (e_Addr v) = e_Hotspotref19_Step { x with Frame.Head.A4 := v } s0 := by rfl
theorem e_Hotspotref19_Step_d_W (x : Hotspotref19_Step) (s0 : AV) : sub? (e_Hotspotref19_Step x s0) 43 2 = some (e_Window x.W) := by rfl
theorem e_Hotspotref19_Step_p_W (x : Hotspotref19_Step) (s0 : AV) (v : Window) : putAt (e_Hotspotref19_Step x s0) 43 (e_Window v) = e_Hotspotref19_Step { x with W := v } s0 := by rfl
theorem e_Hotspotref19_Step_d_A (x : Hotspotref19_Step) (s0 : AV) : sub? (e_Hotspotref19_Step x s0) 45 4 = some (e_BlockAnswer x.A) := by rfl
theorem e_Hotspotref19_Step_p_A (x : Hotspotref19_Step) (s0 : AV) (v : BlockAnswer) : putAt (e_Hotspotref19_Step x s0) 45 (e_BlockAnswer v) = e_Hotspotref19_Step { x with A := v } s0 := by rfl
theorem e_Hotspotref19_Step_fz (x : Hotspotref19_Step) (s0 : AV) (o : Nat → Ob) (n : Nat) : (e_Hotspotref19_Step x s0).map (fz o (n + 1)) = e_Hotspotref19_Step x (fz o (n + 1) s0) := by rfl
theorem e_Hotspotref19_Step_reach (x : Hotspotref19_Step) (s0 : AV) (o : Nat → Ob) (n : Nat) : (e_Hotspotref19_Step x s0).flatMap (reach o (n + 1)) = reach o (n + 1) s0 := by
  simp only [e_Hotspotref19_Step, e_Frame, e_Header, e_Addr, e_Window, e_BlockAnswer, List.cons_append, List.nil_append, List.append_nil, List.flatMap_cons, List.flatMap_nil, reach_v]
theorem e_Hotspotref19_Step_clean (x : Hotspotref19_Step) (s0 : AV) (h_s0 : Clean s0) : ∀ c ∈ (e_Hotspotref19_Step x s0), Clean c := by
  simp only [e_Hotspotref19_Step, e_Frame, e_Header, e_Addr, e_Window, e_BlockAnswer, List.cons_append, List.nil_append]
  repeat' (first | exact Clean.v _ | assumption | exact List.forall_mem_nil _ | refine List.forall_mem_cons.2 ⟨?_, ?_⟩)
theorem e_Hotspotref19_Step_tm {st : AS} {F : List Nat} {σ : List (Option Nat)} (x : Hotspotref19_Step) (s0 : AV) (s02 : AV) (h_s0 : Tm st F σ s0 s02) : TmL st F σ (e_Hotspotref19_Step x s0) (e_Hotspotref19_Step x s02) := by
  simp only [e_Hotspotref19_Step, e_Frame, e_Header, e_Addr, e_Window, e_BlockAnswer, List.cons_append, List.nil_append]
  repeat' (first | exact TmL.nil | (refine TmL.cons (Tm.v _) ?_) | (refine TmL.cons (by assumption) ?_))
theorem e_Hotspotref19_Step_tmx {st : AS} {F : List Nat} {σ : List (Option Nat)} {x y : Hotspotref19_Step} {s0 s02 : AV} (hxy : e_Hotspotref19_Step y s02 = e_Hotspotref19_Step x s02) (h_s0 : Tm st F σ s0 s02) : TmL st F σ (e_Hotspotref19_Step x s0) (e_Hotspotref19_Step y s02) := by
  rw [hxy]; exact e_Hotspotref19_Step_tm x s0 s02 h_s0
theorem e_Hotspotref19_Step_ren (x : Hotspotref19_Step) {s0 : (Nat → Nat) → AV} (h_s0 : RenM s0) : RenML fun q => e_Hotspotref19_Step x (s0 q) := by
  simp only [e_Hotspotref19_Step, e_Frame, e_Header, e_Addr, e_Window, e_BlockAnswer, List.cons_append, List.nil_append]
  repeat' (first | exact RenML.nil | (refine RenML.cons (RenM.const (Clean.v _)) ?_) | (refine RenML.cons (by assumption) ?_))
def E_Hotspotref19_Step (x : Hotspotref19_Step) : List AV := e_Hotspotref19_Step x (S_vu x.Frame.Body)
theorem E_Hotspotref19_Step_eq (x : Hotspotref19_Step) : E_Hotspotref19_Step x = e_Hotspotref19_Step x (S_vu x.Frame.Body) := rfl
theorem E_Hotspotref19_Step_clean (x : Hotspotref19_Step) : ∀ c ∈ E_Hotspotref19_Step x, Clean c := e_Hotspotref19_Step_clean x _ (S_vu_clean _)
theorem f_Hotspotref19_Step (x : Hotspotref19_Step) (o : Nat → Ob) (n : Nat) : (E_Hotspotref19_Step x).map (fz o (n + 2)) = E_Hotspotref19_Step x := by simp only [E_Hotspotref19_Step_eq, e_Hotspotref19_Step_fz, f_S_vu]
theorem q_Hotspotref19_Step (x : Hotspotref19_Step) (o : Nat → Ob) (n : Nat) : (E_Hotspotref19_Step x).flatMap (reach o (n + 2)) = [] := by simp only [E_Hotspotref19_Step_eq, e_Hotspotref19_Step_reach, q_S_vu, List.append_nil]
attribute [go_sem] e_Hotspotref19_Step_len e_Hotspotref19_Step_sub e_Hotspotref19_Step_take e_Hotspotref19_Step_all e_Hotspotref19_Step_g_Kind e_Hotspotref19_Step_s_Kind e_Hotspotref19_Step_g_N e_Hotspotref19_Step_s_N e_Hotspotref19_Step_g_Frame_Head_Kind e_Hotspotref19_Step_s_Frame_Head_Kind e_Hotspotref19_Step_g_Frame_Head_Sub e_Hotspotref19_Step_s_Frame_Head_Sub e_Hotspotref19_Step_g_Frame_Head_ToDs e_Hotspotref19_Step_s_Frame_Head_ToDs e_Hotspotref19_Step_g_Frame_Head_FromDs e_Hotspotref19_Step_s_Frame_Head_FromDs e_Hotspotref19_Step_g_Frame_Head_More e_Hotspotref19_Step_s_Frame_Head_More e_Hotspotref19_Step_g_Frame_Head_Retry e_Hotspotref19_Step_s_Frame_Head_Retry e_Hotspotref19_Step_g_Frame_Head_Sleep e_Hotspotref19_Step_s_Frame_Head_Sleep e_Hotspotref19_Step_g_Frame_Head_MoreData e_Hotspotref19_Step_s_Frame_Head_MoreData e_Hotspotref19_Step_g_Frame_Head_Protected e_Hotspotref19_Step_s_Frame_Head_Protected e_Hotspotref19_Step_g_Frame_Head_Duration e_Hotspotref19_Step_s_Frame_Head_Duration e_Hotspotref19_Step_g_Frame_Head_A1_a0 e_Hotspotref19_Step_s_Frame_Head_A1_a0 e_Hotspotref19_Step_g_Frame_Head_A1_a1 e_Hotspotref19_Step_s_Frame_Head_A1_a1 e_Hotspotref19_Step_g_Frame_Head_A1_a2 e_Hotspotref19_Step_s_Frame_Head_A1_a2 e_Hotspotref19_Step_g_Frame_Head_A1_a3 e_Hotspotref19_Step_s_Frame_Head_A1_a3 e_Hotspotref19_Step_g_Frame_Head_A1_a4 e_Hotspotref19_Step_s_Frame_Head_A1_a4 e_Hotspotref19_Step_g_Frame_Head_A1_a5 e_Hotspotref19_Step_s_Frame_Head_A1_a5 e_Hotspotref19_Step_g_Frame_Head_A2_a0 e_Hotspotref19_Step_s_Frame_Head_A2_a0 e_Hotspotref19_Step_g_Frame_Head_A2_a1 e_Hotspotref19_Step_s_Frame_Head_A2_a1 e_Hotspotref19_Step_g_Frame_Head_A2_a2 e_Hotspotref19_Step_s_Frame_Head_A2_a2 e_Hotspotref19_Step_g_Frame_Head_A2_a3 e_Hotspotref19_Step_s_Frame_Head_A2_a3 e_Hotspotref19_Step_g_Frame_Head_A2_a4 e_Hotspotref19_Step_s_Frame_Head_A2_a4 e_Hotspotref19_Step_g_Frame_Head_A2_a5 e_Hotspotref19_Step_s_Frame_Head_A2_a5 e_Hotspotref19_Step_g_Frame_Head_A3_a0 e_Hotspotref19_Step_s_Frame_Head_A3_a0 e_Hotspotref19_Step_g_Frame_Head_A3_a1 e_Hotspotref19_Step_s_Frame_Head_A3_a1 e_Hotspotref19_Step_g_Frame_Head_A3_a2 e_Hotspotref19_Step_s_Frame_Head_A3_a2 e_Hotspotref19_Step_g_Frame_Head_A3_a3 e_Hotspotref19_Step_s_Frame_Head_A3_a3 e_Hotspotref19_Step_g_Frame_Head_A3_a4 e_Hotspotref19_Step_s_Frame_Head_A3_a4 e_Hotspotref19_Step_g_Frame_Head_A3_a5 e_Hotspotref19_Step_s_Frame_Head_A3_a5 e_Hotspotref19_Step_g_Frame_Head_A4_a0 e_Hotspotref19_Step_s_Frame_Head_A4_a0 e_Hotspotref19_Step_g_Frame_Head_A4_a1 e_Hotspotref19_Step_s_Frame_Head_A4_a1 e_Hotspotref19_Step_g_Frame_Head_A4_a2 e_Hotspotref19_Step_s_Frame_Head_A4_a2 e_Hotspotref19_Step_g_Frame_Head_A4_a3 e_Hotspotref19_Step_s_Frame_Head_A4_a3 e_Hotspotref19_Step_g_Frame_Head_A4_a4 e_Hotspotref19_Step_s_Frame_Head_A4_a4 e_Hotspotref19_Step_g_Frame_Head_A4_a5 e_Hotspotref19_Step_s_Frame_Head_A4_a5 e_Hotspotref19_Step_g_Frame_Head_Seq e_Hotspotref19_Step_s_Frame_Head_Seq e_Hotspotref19_Step_g_Frame_Head_Frag e_Hotspotref19_Step_s_Frame_Head_Frag e_Hotspotref19_Step_g_Frame_Head_Tid e_Hotspotref19_Step_s_Frame_Head_Tid e_Hotspotref19_Step_g_Frame_Head_Ack e_Hotspotref19_Step_s_Frame_Head_Ack e_Hotspotref19_Step_g_Frame_Head_Amsdu e_Hotspotref19_Step_s_Frame_Head_Amsdu e_Hotspotref19_Step_g_Frame_Head_Eosp e_Hotspotref19_Step_s_Frame_Head_Eosp e_Hotspotref19_Step_g_Frame_Body e_Hotspotref19_Step_s_Frame_Body e_Hotspotref19_Step_g_W_Start e_Hotspotref19_Step_s_W_Start e_Hotspotref19_Step_g_W_Bits e_Hotspotref19_Step_s_W_Bits e_Hotspotref19_Step_g_A_Token e_Hotspotref19_Step_s_A_Token e_Hotspotref19_Step_g_A_Tid e_Hotspotref19_Step_s_A_Tid e_Hotspotref19_Step_g_A_Status e_Hotspotref19_Step_s_A_Status e_Hotspotref19_Step_g_A_Size e_Hotspotref19_Step_s_A_Size e_Hotspotref19_Step_d_Frame e_Hotspotref19_Step_p_Frame e_Hotspotref19_Step_d_Frame_Head e_Hotspotref19_Step_p_Frame_Head e_Hotspotref19_Step_d_Frame_Head_A1 e_Hotspotref19_Step_p_Frame_Head_A1 e_Hotspotref19_Step_d_Frame_Head_A2 e_Hotspotref19_Step_p_Frame_Head_A2 e_Hotspotref19_Step_d_Frame_Head_A3 e_Hotspotref19_Step_p_Frame_Head_A3 e_Hotspotref19_Step_d_Frame_Head_A4 e_Hotspotref19_Step_p_Frame_Head_A4 e_Hotspotref19_Step_d_W e_Hotspotref19_Step_p_W e_Hotspotref19_Step_d_A e_Hotspotref19_Step_p_A e_Hotspotref19_Step_fz e_Hotspotref19_Step_reach E_Hotspotref19_Step_eq f_Hotspotref19_Step q_Hotspotref19_Step

def S_Hotspotref19_Step (l : List Hotspotref19_Step) : AV := .imm (List.flatMap E_Hotspotref19_Step l) l.length
theorem S_Hotspotref19_Step_eq (l : List Hotspotref19_Step) : S_Hotspotref19_Step l = .imm (List.flatMap E_Hotspotref19_Step l) l.length := rfl
theorem l_Hotspotref19_Step (x : Hotspotref19_Step) : (E_Hotspotref19_Step x).length = 49 := by rfl
theorem S_Hotspotref19_Step_clean (l : List Hotspotref19_Step) : Clean (S_Hotspotref19_Step l) := Clean.imm (rows_clean E_Hotspotref19_Step_clean l)
theorem c_Hotspotref19_Step (l : List Hotspotref19_Step) : ∀ c ∈ l.flatMap E_Hotspotref19_Step, Clean c := rows_clean E_Hotspotref19_Step_clean l
theorem r_Hotspotref19_Step_len (l : List Hotspotref19_Step) : (l.flatMap E_Hotspotref19_Step).length = l.length * 49 := flat_len l_Hotspotref19_Step l
theorem r_Hotspotref19_Step_get (l : List Hotspotref19_Step) (i o : Nat) (ho : o < 49) : (l.flatMap E_Hotspotref19_Step)[i * 49 + o]? = l[i]?.bind fun a => (E_Hotspotref19_Step a)[o]? := rows_get l_Hotspotref19_Step l i o ho
theorem r_Hotspotref19_Step_get0 (l : List Hotspotref19_Step) (i : Nat) : (l.flatMap E_Hotspotref19_Step)[i * 49]? = l[i]?.bind fun a => (E_Hotspotref19_Step a)[0]? := rows_get l_Hotspotref19_Step l i 0 (by decide)
theorem r_Hotspotref19_Step_sub (l : List Hotspotref19_Step) (i o n : Nat) (ho : o + n ≤ 49) (hn : 0 < n) : sub? (l.flatMap E_Hotspotref19_Step) (i * 49 + o) n = l[i]?.bind fun a => sub? (E_Hotspotref19_Step a) o n := rows_sub l_Hotspotref19_Step l i o n ho hn
theorem r_Hotspotref19_Step_sub0 (l : List Hotspotref19_Step) (i n : Nat) (ho : n ≤ 49) (hn : 0 < n) : sub? (l.flatMap E_Hotspotref19_Step) (i * 49) n = l[i]?.bind fun a => sub? (E_Hotspotref19_Step a) 0 n := rows_sub l_Hotspotref19_Step l i 0 n (by omega) hn
theorem r_Hotspotref19_Step_getL (l : List Hotspotref19_Step) (o : Nat) : (l.flatMap E_Hotspotref19_Step)[o]? = l[o / 49]?.bind fun a => (E_Hotspotref19_Step a)[o % 49]? := rows_getL l_Hotspotref19_Step (by decide) l o
theorem r_Hotspotref19_Step_subL (l : List Hotspotref19_Step) (o n : Nat) (ho : o % 49 + n ≤ 49) (hn : 0 < n) : sub? (l.flatMap E_Hotspotref19_Step) o n = l[o / 49]?.bind fun a => sub? (E_Hotspotref19_Step a) (o % 49) n := rows_subL l_Hotspotref19_Step l o n ho hn
theorem r_Hotspotref19_Step_subw (l : List Hotspotref19_Step) : sub? (l.flatMap E_Hotspotref19_Step) 0 (l.length * 49) = some (l.flatMap E_Hotspotref19_Step) := rows_subw l_Hotspotref19_Step l
theorem r_Hotspotref19_Step_take (l : List Hotspotref19_Step) (n : Nat) : (l.flatMap E_Hotspotref19_Step).take (n * 49) = (l.take n).flatMap E_Hotspotref19_Step := rows_take l_Hotspotref19_Step l n
theorem r_Hotspotref19_Step_drop (l : List Hotspotref19_Step) (n : Nat) : (l.flatMap E_Hotspotref19_Step).drop (n * 49) = (l.drop n).flatMap E_Hotspotref19_Step := rows_drop l_Hotspotref19_Step l n
theorem r_Hotspotref19_Step_fz (l : List Hotspotref19_Step) (o : Nat → Ob) (n : Nat) : (l.flatMap E_Hotspotref19_Step).map (fz o (n + 2)) = (l.flatMap E_Hotspotref19_Step) := rows_fz (fun a => f_Hotspotref19_Step a o n) l
theorem r_Hotspotref19_Step_rch (l : List Hotspotref19_Step) (o : Nat → Ob) (n : Nat) : (l.flatMap E_Hotspotref19_Step).flatMap (reach o (n + 2)) = [] := rows_reach (fun a => q_Hotspotref19_Step a o n) l
theorem r_Hotspotref19_Step_s_Kind (l : List Hotspotref19_Step) (i : Nat) (v : Int) : (l.flatMap E_Hotspotref19_Step).set (i * 49) (vi v) = (l.modify i (fun y => { y with Kind := v })).flatMap E_Hotspotref19_Step := rows_set l_Hotspotref19_Step l i 0 _ (fun y => { y with Kind := v }) (by decide) (fun _ => by rfl)
theorem r_Hotspotref19_Step_s_N (l : List Hotspotref19_Step) (i : Nat) (v : Int) : (l.flatMap E_Hotspotref19_Step).set (i * 49 + 1) (vi v) = (l.modify i (fun y => { y with N := v })).flatMap E_Hotspotref19_Step := rows_set l_Hotspotref19_Step l i 1 _ (fun y => { y with N := v }) (by decide) (fun _ => by rfl)
theorem r_Hotspotref19_Step_s_Frame_Head_Kind (l : List Hotspotref19_Step) (i : Nat) (v : Int) : (l.flatMap E_Hotspotref19_Step).set (i * 49 + 2) (vu v) = (l.modify i (fun y => { y with Frame.Head.Kind := v })).flatMap E_Hotspotref19_Step := rows_set l_Hotspotref19_Step l i 2 _ (fun y => { y with Frame.Head.Kind := v }) (by decide) (fun _ => by rfl)
theorem r_Hotspotref19_Step_s_Frame_Head_Sub (l : List Hotspotref19_Step) (i : Nat) (v : Int) : (l.flatMap E_Hotspotref19_Step).set (i * 49 + 3) (vu v) = (l.modify i (fun y => { y with Frame.Head.Sub := v })).flatMap E_Hotspotref19_Step := rows_set l_Hotspotref19_Step l i 3 _ (fun y => { y with Frame.Head.Sub := v }) (by decide) (fun _ => by rfl)
theorem r_Hotspotref19_Step_s_Frame_Head_ToDs (l : List Hotspotref19_Step) (i : Nat) (v : Bool) : (l.flatMap E_Hotspotref19_Step).set (i * 49 + 4) (vb v) = (l.modify i (fun y => { y with Frame.Head.ToDs := v })).flatMap E_Hotspotref19_Step := rows_set l_Hotspotref19_Step l i 4 _ (fun y => { y with Frame.Head.ToDs := v }) (by decide) (fun _ => by rfl)
theorem r_Hotspotref19_Step_s_Frame_Head_FromDs (l : List Hotspotref19_Step) (i : Nat) (v : Bool) : (l.flatMap E_Hotspotref19_Step).set (i * 49 + 5) (vb v) = (l.modify i (fun y => { y with Frame.Head.FromDs := v })).flatMap E_Hotspotref19_Step := rows_set l_Hotspotref19_Step l i 5 _ (fun y => { y with Frame.Head.FromDs := v }) (by decide) (fun _ => by rfl)
theorem r_Hotspotref19_Step_s_Frame_Head_More (l : List Hotspotref19_Step) (i : Nat) (v : Bool) : (l.flatMap E_Hotspotref19_Step).set (i * 49 + 6) (vb v) = (l.modify i (fun y => { y with Frame.Head.More := v })).flatMap E_Hotspotref19_Step := rows_set l_Hotspotref19_Step l i 6 _ (fun y => { y with Frame.Head.More := v }) (by decide) (fun _ => by rfl)
theorem r_Hotspotref19_Step_s_Frame_Head_Retry (l : List Hotspotref19_Step) (i : Nat) (v : Bool) : (l.flatMap E_Hotspotref19_Step).set (i * 49 + 7) (vb v) = (l.modify i (fun y => { y with Frame.Head.Retry := v })).flatMap E_Hotspotref19_Step := rows_set l_Hotspotref19_Step l i 7 _ (fun y => { y with Frame.Head.Retry := v }) (by decide) (fun _ => by rfl)
theorem r_Hotspotref19_Step_s_Frame_Head_Sleep (l : List Hotspotref19_Step) (i : Nat) (v : Bool) : (l.flatMap E_Hotspotref19_Step).set (i * 49 + 8) (vb v) = (l.modify i (fun y => { y with Frame.Head.Sleep := v })).flatMap E_Hotspotref19_Step := rows_set l_Hotspotref19_Step l i 8 _ (fun y => { y with Frame.Head.Sleep := v }) (by decide) (fun _ => by rfl)
theorem r_Hotspotref19_Step_s_Frame_Head_MoreData (l : List Hotspotref19_Step) (i : Nat) (v : Bool) : (l.flatMap E_Hotspotref19_Step).set (i * 49 + 9) (vb v) = (l.modify i (fun y => { y with Frame.Head.MoreData := v })).flatMap E_Hotspotref19_Step := rows_set l_Hotspotref19_Step l i 9 _ (fun y => { y with Frame.Head.MoreData := v }) (by decide) (fun _ => by rfl)
theorem r_Hotspotref19_Step_s_Frame_Head_Protected (l : List Hotspotref19_Step) (i : Nat) (v : Bool) : (l.flatMap E_Hotspotref19_Step).set (i * 49 + 10) (vb v) = (l.modify i (fun y => { y with Frame.Head.Protected := v })).flatMap E_Hotspotref19_Step := rows_set l_Hotspotref19_Step l i 10 _ (fun y => { y with Frame.Head.Protected := v }) (by decide) (fun _ => by rfl)
theorem r_Hotspotref19_Step_s_Frame_Head_Duration (l : List Hotspotref19_Step) (i : Nat) (v : Int) : (l.flatMap E_Hotspotref19_Step).set (i * 49 + 11) (vi v) = (l.modify i (fun y => { y with Frame.Head.Duration := v })).flatMap E_Hotspotref19_Step := rows_set l_Hotspotref19_Step l i 11 _ (fun y => { y with Frame.Head.Duration := v }) (by decide) (fun _ => by rfl)
theorem r_Hotspotref19_Step_s_Frame_Head_A1_a0 (l : List Hotspotref19_Step) (i : Nat) (v : Int) : (l.flatMap E_Hotspotref19_Step).set (i * 49 + 12) (vu v) = (l.modify i (fun y => { y with Frame.Head.A1.a0 := v })).flatMap E_Hotspotref19_Step := rows_set l_Hotspotref19_Step l i 12 _ (fun y => { y with Frame.Head.A1.a0 := v }) (by decide) (fun _ => by rfl)
theorem r_Hotspotref19_Step_s_Frame_Head_A1_a1 (l : List Hotspotref19_Step) (i : Nat) (v : Int) : (l.flatMap E_Hotspotref19_Step).set (i * 49 + 13) (vu v) = (l.modify i (fun y => { y with Frame.Head.A1.a1 := v })).flatMap E_Hotspotref19_Step := rows_set l_Hotspotref19_Step l i 13 _ (fun y => { y with Frame.Head.A1.a1 := v }) (by decide) (fun _ => by rfl)
theorem r_Hotspotref19_Step_s_Frame_Head_A1_a2 (l : List Hotspotref19_Step) (i : Nat) (v : Int) : (l.flatMap E_Hotspotref19_Step).set (i * 49 + 14) (vu v) = (l.modify i (fun y => { y with Frame.Head.A1.a2 := v })).flatMap E_Hotspotref19_Step := rows_set l_Hotspotref19_Step l i 14 _ (fun y => { y with Frame.Head.A1.a2 := v }) (by decide) (fun _ => by rfl)
theorem r_Hotspotref19_Step_s_Frame_Head_A1_a3 (l : List Hotspotref19_Step) (i : Nat) (v : Int) : (l.flatMap E_Hotspotref19_Step).set (i * 49 + 15) (vu v) = (l.modify i (fun y => { y with Frame.Head.A1.a3 := v })).flatMap E_Hotspotref19_Step := rows_set l_Hotspotref19_Step l i 15 _ (fun y => { y with Frame.Head.A1.a3 := v }) (by decide) (fun _ => by rfl)
theorem r_Hotspotref19_Step_s_Frame_Head_A1_a4 (l : List Hotspotref19_Step) (i : Nat) (v : Int) : (l.flatMap E_Hotspotref19_Step).set (i * 49 + 16) (vu v) = (l.modify i (fun y => { y with Frame.Head.A1.a4 := v })).flatMap E_Hotspotref19_Step := rows_set l_Hotspotref19_Step l i 16 _ (fun y => { y with Frame.Head.A1.a4 := v }) (by decide) (fun _ => by rfl)
theorem r_Hotspotref19_Step_s_Frame_Head_A1_a5 (l : List Hotspotref19_Step) (i : Nat) (v : Int) : (l.flatMap E_Hotspotref19_Step).set (i * 49 + 17) (vu v) = (l.modify i (fun y => { y with Frame.Head.A1.a5 := v })).flatMap E_Hotspotref19_Step := rows_set l_Hotspotref19_Step l i 17 _ (fun y => { y with Frame.Head.A1.a5 := v }) (by decide) (fun _ => by rfl)
theorem r_Hotspotref19_Step_s_Frame_Head_A2_a0 (l : List Hotspotref19_Step) (i : Nat) (v : Int) : (l.flatMap E_Hotspotref19_Step).set (i * 49 + 18) (vu v) = (l.modify i (fun y => { y with Frame.Head.A2.a0 := v })).flatMap E_Hotspotref19_Step := rows_set l_Hotspotref19_Step l i 18 _ (fun y => { y with Frame.Head.A2.a0 := v }) (by decide) (fun _ => by rfl)
theorem r_Hotspotref19_Step_s_Frame_Head_A2_a1 (l : List Hotspotref19_Step) (i : Nat) (v : Int) : (l.flatMap E_Hotspotref19_Step).set (i * 49 + 19) (vu v) = (l.modify i (fun y => { y with Frame.Head.A2.a1 := v })).flatMap E_Hotspotref19_Step := rows_set l_Hotspotref19_Step l i 19 _ (fun y => { y with Frame.Head.A2.a1 := v }) (by decide) (fun _ => by rfl)
theorem r_Hotspotref19_Step_s_Frame_Head_A2_a2 (l : List Hotspotref19_Step) (i : Nat) (v : Int) : (l.flatMap E_Hotspotref19_Step).set (i * 49 + 20) (vu v) = (l.modify i (fun y => { y with Frame.Head.A2.a2 := v })).flatMap E_Hotspotref19_Step := rows_set l_Hotspotref19_Step l i 20 _ (fun y => { y with Frame.Head.A2.a2 := v }) (by decide) (fun _ => by rfl)
theorem r_Hotspotref19_Step_s_Frame_Head_A2_a3 (l : List Hotspotref19_Step) (i : Nat) (v : Int) : (l.flatMap E_Hotspotref19_Step).set (i * 49 + 21) (vu v) = (l.modify i (fun y => { y with Frame.Head.A2.a3 := v })).flatMap E_Hotspotref19_Step := rows_set l_Hotspotref19_Step l i 21 _ (fun y => { y with Frame.Head.A2.a3 := v }) (by decide) (fun _ => by rfl)
theorem r_Hotspotref19_Step_s_Frame_Head_A2_a4 (l : List Hotspotref19_Step) (i : Nat) (v : Int) : (l.flatMap E_Hotspotref19_Step).set (i * 49 + 22) (vu v) = (l.modify i (fun y => { y with Frame.Head.A2.a4 := v })).flatMap E_Hotspotref19_Step := rows_set l_Hotspotref19_Step l i 22 _ (fun y => { y with Frame.Head.A2.a4 := v }) (by decide) (fun _ => by rfl)
theorem r_Hotspotref19_Step_s_Frame_Head_A2_a5 (l : List Hotspotref19_Step) (i : Nat) (v : Int) : (l.flatMap E_Hotspotref19_Step).set (i * 49 + 23) (vu v) = (l.modify i (fun y => { y with Frame.Head.A2.a5 := v })).flatMap E_Hotspotref19_Step := rows_set l_Hotspotref19_Step l i 23 _ (fun y => { y with Frame.Head.A2.a5 := v }) (by decide) (fun _ => by rfl)
theorem r_Hotspotref19_Step_s_Frame_Head_A3_a0 (l : List Hotspotref19_Step) (i : Nat) (v : Int) : (l.flatMap E_Hotspotref19_Step).set (i * 49 + 24) (vu v) = (l.modify i (fun y => { y with Frame.Head.A3.a0 := v })).flatMap E_Hotspotref19_Step := rows_set l_Hotspotref19_Step l i 24 _ (fun y => { y with Frame.Head.A3.a0 := v }) (by decide) (fun _ => by rfl)
theorem r_Hotspotref19_Step_s_Frame_Head_A3_a1 (l : List Hotspotref19_Step) (i : Nat) (v : Int) : (l.flatMap E_Hotspotref19_Step).set (i * 49 + 25) (vu v) = (l.modify i (fun y => { y with Frame.Head.A3.a1 := v })).flatMap E_Hotspotref19_Step := rows_set l_Hotspotref19_Step l i 25 _ (fun y => { y with Frame.Head.A3.a1 := v }) (by decide) (fun _ => by rfl)
theorem r_Hotspotref19_Step_s_Frame_Head_A3_a2 (l : List Hotspotref19_Step) (i : Nat) (v : Int) : (l.flatMap E_Hotspotref19_Step).set (i * 49 + 26) (vu v) = (l.modify i (fun y => { y with Frame.Head.A3.a2 := v })).flatMap E_Hotspotref19_Step := rows_set l_Hotspotref19_Step l i 26 _ (fun y => { y with Frame.Head.A3.a2 := v }) (by decide) (fun _ => by rfl)
theorem r_Hotspotref19_Step_s_Frame_Head_A3_a3 (l : List Hotspotref19_Step) (i : Nat) (v : Int) : (l.flatMap E_Hotspotref19_Step).set (i * 49 + 27) (vu v) = (l.modify i (fun y => { y with Frame.Head.A3.a3 := v })).flatMap E_Hotspotref19_Step := rows_set l_Hotspotref19_Step l i 27 _ (fun y => { y with Frame.Head.A3.a3 := v }) (by decide) (fun _ => by rfl)
theorem r_Hotspotref19_Step_s_Frame_Head_A3_a4 (l : List Hotspotref19_Step) (i : Nat) (v : Int) : (l.flatMap E_Hotspotref19_Step).set (i * 49 + 28) (vu v) = (l.modify i (fun y => { y with Frame.Head.A3.a4 := v })).flatMap E_Hotspotref19_Step := rows_set l_Hotspotref19_Step l i 28 _ (fun y => { y with Frame.Head.A3.a4 := v }) (by decide) (fun _ => by rfl)
theorem r_Hotspotref19_Step_s_Frame_Head_A3_a5 (l : List Hotspotref19_Step) (i : Nat) (v : Int) : (l.flatMap E_Hotspotref19_Step).set (i * 49 + 29) (vu v) = (l.modify i (fun y => { y with Frame.Head.A3.a5 := v })).flatMap E_Hotspotref19_Step := rows_set l_Hotspotref19_Step l i 29 _ (fun y => { y with Frame.Head.A3.a5 := v }) (by decide) (fun _ => by rfl)
theorem r_Hotspotref19_Step_s_Frame_Head_A4_a0 (l : List Hotspotref19_Step) (i : Nat) (v : Int) : (l.flatMap E_Hotspotref19_Step).set (i * 49 + 30) (vu v) = (l.modify i (fun y => { y with Frame.Head.A4.a0 := v })).flatMap E_Hotspotref19_Step := rows_set l_Hotspotref19_Step l i 30 _ (fun y => { y with Frame.Head.A4.a0 := v }) (by decide) (fun _ => by rfl)
theorem r_Hotspotref19_Step_s_Frame_Head_A4_a1 (l : List Hotspotref19_Step) (i : Nat) (v : Int) : (l.flatMap E_Hotspotref19_Step).set (i * 49 + 31) (vu v) = (l.modify i (fun y => { y with Frame.Head.A4.a1 := v })).flatMap E_Hotspotref19_Step := rows_set l_Hotspotref19_Step l i 31 _ (fun y => { y with Frame.Head.A4.a1 := v }) (by decide) (fun _ => by rfl)
theorem r_Hotspotref19_Step_s_Frame_Head_A4_a2 (l : List Hotspotref19_Step) (i : Nat) (v : Int) : (l.flatMap E_Hotspotref19_Step).set (i * 49 + 32) (vu v) = (l.modify i (fun y => { y with Frame.Head.A4.a2 := v })).flatMap E_Hotspotref19_Step := rows_set l_Hotspotref19_Step l i 32 _ (fun y => { y with Frame.Head.A4.a2 := v }) (by decide) (fun _ => by rfl)
theorem r_Hotspotref19_Step_s_Frame_Head_A4_a3 (l : List Hotspotref19_Step) (i : Nat) (v : Int) : (l.flatMap E_Hotspotref19_Step).set (i * 49 + 33) (vu v) = (l.modify i (fun y => { y with Frame.Head.A4.a3 := v })).flatMap E_Hotspotref19_Step := rows_set l_Hotspotref19_Step l i 33 _ (fun y => { y with Frame.Head.A4.a3 := v }) (by decide) (fun _ => by rfl)
theorem r_Hotspotref19_Step_s_Frame_Head_A4_a4 (l : List Hotspotref19_Step) (i : Nat) (v : Int) : (l.flatMap E_Hotspotref19_Step).set (i * 49 + 34) (vu v) = (l.modify i (fun y => { y with Frame.Head.A4.a4 := v })).flatMap E_Hotspotref19_Step := rows_set l_Hotspotref19_Step l i 34 _ (fun y => { y with Frame.Head.A4.a4 := v }) (by decide) (fun _ => by rfl)
theorem r_Hotspotref19_Step_s_Frame_Head_A4_a5 (l : List Hotspotref19_Step) (i : Nat) (v : Int) : (l.flatMap E_Hotspotref19_Step).set (i * 49 + 35) (vu v) = (l.modify i (fun y => { y with Frame.Head.A4.a5 := v })).flatMap E_Hotspotref19_Step := rows_set l_Hotspotref19_Step l i 35 _ (fun y => { y with Frame.Head.A4.a5 := v }) (by decide) (fun _ => by rfl)
theorem r_Hotspotref19_Step_s_Frame_Head_Seq (l : List Hotspotref19_Step) (i : Nat) (v : Int) : (l.flatMap E_Hotspotref19_Step).set (i * 49 + 36) (vi v) = (l.modify i (fun y => { y with Frame.Head.Seq := v })).flatMap E_Hotspotref19_Step := rows_set l_Hotspotref19_Step l i 36 _ (fun y => { y with Frame.Head.Seq := v }) (by decide) (fun _ => by rfl)
theorem r_Hotspotref19_Step_s_Frame_Head_Frag (l : List Hotspotref19_Step) (i : Nat) (v : Int) : (l.flatMap E_Hotspotref19_Step).set (i * 49 + 37) (vi v) = (l.modify i (fun y => { y with Frame.Head.Frag := v })).flatMap E_Hotspotref19_Step := rows_set l_Hotspotref19_Step l i 37 _ (fun y => { y with Frame.Head.Frag := v }) (by decide) (fun _ => by rfl)
theorem r_Hotspotref19_Step_s_Frame_Head_Tid (l : List Hotspotref19_Step) (i : Nat) (v : Int) : (l.flatMap E_Hotspotref19_Step).set (i * 49 + 38) (vi v) = (l.modify i (fun y => { y with Frame.Head.Tid := v })).flatMap E_Hotspotref19_Step := rows_set l_Hotspotref19_Step l i 38 _ (fun y => { y with Frame.Head.Tid := v }) (by decide) (fun _ => by rfl)
theorem r_Hotspotref19_Step_s_Frame_Head_Ack (l : List Hotspotref19_Step) (i : Nat) (v : Int) : (l.flatMap E_Hotspotref19_Step).set (i * 49 + 39) (vu v) = (l.modify i (fun y => { y with Frame.Head.Ack := v })).flatMap E_Hotspotref19_Step := rows_set l_Hotspotref19_Step l i 39 _ (fun y => { y with Frame.Head.Ack := v }) (by decide) (fun _ => by rfl)
theorem r_Hotspotref19_Step_s_Frame_Head_Amsdu (l : List Hotspotref19_Step) (i : Nat) (v : Bool) : (l.flatMap E_Hotspotref19_Step).set (i * 49 + 40) (vb v) = (l.modify i (fun y => { y with Frame.Head.Amsdu := v })).flatMap E_Hotspotref19_Step := rows_set l_Hotspotref19_Step l i 40 _ (fun y => { y with Frame.Head.Amsdu := v }) (by decide) (fun _ => by rfl)
theorem r_Hotspotref19_Step_s_Frame_Head_Eosp (l : List Hotspotref19_Step) (i : Nat) (v : Bool) : (l.flatMap E_Hotspotref19_Step).set (i * 49 + 41) (vb v) = (l.modify i (fun y => { y with Frame.Head.Eosp := v })).flatMap E_Hotspotref19_Step := rows_set l_Hotspotref19_Step l i 41 _ (fun y => { y with Frame.Head.Eosp := v }) (by decide) (fun _ => by rfl)
theorem r_Hotspotref19_Step_s_W_Start (l : List Hotspotref19_Step) (i : Nat) (v : Int) : (l.flatMap E_Hotspotref19_Step).set (i * 49 + 43) (vi v) = (l.modify i (fun y => { y with W.Start := v })).flatMap E_Hotspotref19_Step := rows_set l_Hotspotref19_Step l i 43 _ (fun y => { y with W.Start := v }) (by decide) (fun _ => by rfl)
theorem r_Hotspotref19_Step_s_W_Bits (l : List Hotspotref19_Step) (i : Nat) (v : Int) : (l.flatMap E_Hotspotref19_Step).set (i * 49 + 44) (vq v) = (l.modify i (fun y => { y with W.Bits := v })).flatMap E_Hotspotref19_Step := rows_set l_Hotspotref19_Step l i 44 _ (fun y => { y with W.Bits := v }) (by decide) (fun _ => by rfl)
theorem r_Hotspotref19_Step_s_A_Token (l : List Hotspotref19_Step) (i : Nat) (v : Int) : (l.flatMap E_Hotspotref19_Step).set (i * 49 + 45) (vi v) = (l.modify i (fun y => { y with A.Token := v })).flatMap E_Hotspotref19_Step := rows_set l_Hotspotref19_Step l i 45 _ (fun y => { y with A.Token := v }) (by decide) (fun _ => by rfl)
theorem r_Hotspotref19_Step_s_A_Tid (l : List Hotspotref19_Step) (i : Nat) (v : Int) : (l.flatMap E_Hotspotref19_Step).set (i * 49 + 46) (vi v) = (l.modify i (fun y => { y with A.Tid := v })).flatMap E_Hotspotref19_Step := rows_set l_Hotspotref19_Step l i 46 _ (fun y => { y with A.Tid := v }) (by decide) (fun _ => by rfl)
theorem r_Hotspotref19_Step_s_A_Status (l : List Hotspotref19_Step) (i : Nat) (v : Int) : (l.flatMap E_Hotspotref19_Step).set (i * 49 + 47) (vi v) = (l.modify i (fun y => { y with A.Status := v })).flatMap E_Hotspotref19_Step := rows_set l_Hotspotref19_Step l i 47 _ (fun y => { y with A.Status := v }) (by decide) (fun _ => by rfl)
theorem r_Hotspotref19_Step_s_A_Size (l : List Hotspotref19_Step) (i : Nat) (v : Int) : (l.flatMap E_Hotspotref19_Step).set (i * 49 + 48) (vi v) = (l.modify i (fun y => { y with A.Size := v })).flatMap E_Hotspotref19_Step := rows_set l_Hotspotref19_Step l i 48 _ (fun y => { y with A.Size := v }) (by decide) (fun _ => by rfl)
theorem r_Hotspotref19_Step_put (l : List Hotspotref19_Step) (i : Nat) (x : Hotspotref19_Step) (b0 : (List Int)) : putAt (l.flatMap E_Hotspotref19_Step) (i * 49) (e_Hotspotref19_Step x (.imm (List.map vu b0) b0.length)) = (l.set i { x with Frame.Body := b0 }).flatMap E_Hotspotref19_Step := rows_put l_Hotspotref19_Step (by decide) l i { x with Frame.Body := b0 }
theorem r_Hotspotref19_Step_app (l : List Hotspotref19_Step) (x : Hotspotref19_Step) (b0 : (List Int)) : (l.flatMap E_Hotspotref19_Step) ++ e_Hotspotref19_Step x (S_vu b0) = (l ++ [{ x with Frame.Body := b0 }]).flatMap E_Hotspotref19_Step := by rw [List.flatMap_append]; simp only [List.flatMap_cons, List.flatMap_nil, List.append_nil]; rfl
theorem r_Hotspotref19_Step_cat (l : List Hotspotref19_Step) (m : List Hotspotref19_Step) : (l.flatMap E_Hotspotref19_Step) ++ m.flatMap E_Hotspotref19_Step = (l ++ m).flatMap E_Hotspotref19_Step := List.flatMap_append.symm
theorem f_S_Hotspotref19_Step (l : List Hotspotref19_Step) (o : Nat → Ob) (n : Nat) : fz o (n + 3) (S_Hotspotref19_Step l) = S_Hotspotref19_Step l := by simp only [S_Hotspotref19_Step_eq, fz, r_Hotspotref19_Step_fz]
theorem q_S_Hotspotref19_Step (l : List Hotspotref19_Step) (o : Nat → Ob) (n : Nat) : reach o (n + 3) (S_Hotspotref19_Step l) = [] := by simp only [S_Hotspotref19_Step_eq, reach, r_Hotspotref19_Step_rch]
attribute [go_sem] S_Hotspotref19_Step_eq l_Hotspotref19_Step r_Hotspotref19_Step_len r_Hotspotref19_Step_get r_Hotspotref19_Step_get0 r_Hotspotref19_Step_sub r_Hotspotref19_Step_sub0 r_Hotspotref19_Step_subw r_Hotspotref19_Step_take r_Hotspotref19_Step_drop r_Hotspotref19_Step_fz r_Hotspotref19_Step_rch r_Hotspotref19_Step_s_Kind r_Hotspotref19_Step_s_N r_Hotspotref19_Step_s_Frame_Head_Kind r_Hotspotref19_Step_s_Frame_Head_Sub r_Hotspotref19_Step_s_Frame_Head_ToDs r_Hotspotref19_Step_s_Frame_Head_FromDs r_Hotspotref19_Step_s_Frame_Head_More r_Hotspotref19_Step_s_Frame_Head_Retry r_Hotspotref19_Step_s_Frame_Head_Sleep r_Hotspotref19_Step_s_Frame_Head_MoreData r_Hotspotref19_Step_s_Frame_Head_Protected r_Hotspotref19_Step_s_Frame_Head_Duration r_Hotspotref19_Step_s_Frame_Head_A1_a0 r_Hotspotref19_Step_s_Frame_Head_A1_a1 r_Hotspotref19_Step_s_Frame_Head_A1_a2 r_Hotspotref19_Step_s_Frame_Head_A1_a3 r_Hotspotref19_Step_s_Frame_Head_A1_a4 r_Hotspotref19_Step_s_Frame_Head_A1_a5 r_Hotspotref19_Step_s_Frame_Head_A2_a0 r_Hotspotref19_Step_s_Frame_Head_A2_a1 r_Hotspotref19_Step_s_Frame_Head_A2_a2 r_Hotspotref19_Step_s_Frame_Head_A2_a3 r_Hotspotref19_Step_s_Frame_Head_A2_a4 r_Hotspotref19_Step_s_Frame_Head_A2_a5 r_Hotspotref19_Step_s_Frame_Head_A3_a0 r_Hotspotref19_Step_s_Frame_Head_A3_a1 r_Hotspotref19_Step_s_Frame_Head_A3_a2 r_Hotspotref19_Step_s_Frame_Head_A3_a3 r_Hotspotref19_Step_s_Frame_Head_A3_a4 r_Hotspotref19_Step_s_Frame_Head_A3_a5 r_Hotspotref19_Step_s_Frame_Head_A4_a0 r_Hotspotref19_Step_s_Frame_Head_A4_a1 r_Hotspotref19_Step_s_Frame_Head_A4_a2 r_Hotspotref19_Step_s_Frame_Head_A4_a3 r_Hotspotref19_Step_s_Frame_Head_A4_a4 r_Hotspotref19_Step_s_Frame_Head_A4_a5 r_Hotspotref19_Step_s_Frame_Head_Seq r_Hotspotref19_Step_s_Frame_Head_Frag r_Hotspotref19_Step_s_Frame_Head_Tid r_Hotspotref19_Step_s_Frame_Head_Ack r_Hotspotref19_Step_s_Frame_Head_Amsdu r_Hotspotref19_Step_s_Frame_Head_Eosp r_Hotspotref19_Step_s_W_Start r_Hotspotref19_Step_s_W_Bits r_Hotspotref19_Step_s_A_Token r_Hotspotref19_Step_s_A_Tid r_Hotspotref19_Step_s_A_Status r_Hotspotref19_Step_s_A_Size r_Hotspotref19_Step_put r_Hotspotref19_Step_app r_Hotspotref19_Step_cat f_S_Hotspotref19_Step q_S_Hotspotref19_Step

structure BlockAsk where
  Token : Int
  Tid : Int
  Size : Int
  Start : Int
  deriving DecidableEq

def BlockAsk.z : BlockAsk := ⟨0, 0, 0, 0⟩

def e_BlockAsk (x : BlockAsk) : List AV := [vi x.Token, vi x.Tid, vi x.Size, vi x.Start]

theorem e_BlockAsk_len (x : BlockAsk) : (e_BlockAsk x).length = 4 := by rfl
theorem e_BlockAsk_sub (x : BlockAsk) : sub? (e_BlockAsk x) 0 4 = some (e_BlockAsk x) := by rfl
theorem e_BlockAsk_take (x : BlockAsk) : (e_BlockAsk x).take 4 = (e_BlockAsk x) := by rfl
theorem e_BlockAsk_all (x : BlockAsk) (y : BlockAsk) : putAt (e_BlockAsk x) 0 (e_BlockAsk y) = e_BlockAsk y := by rfl
theorem e_BlockAsk_g_Token (x : BlockAsk) : (e_BlockAsk x)[0]? = some (vi x.Token) := by rfl
theorem e_BlockAsk_s_Token (x : BlockAsk) (v : Int) : (e_BlockAsk x).set 0 (vi v) = e_BlockAsk { x with Token := v } := by rfl
theorem e_BlockAsk_g_Tid (x : BlockAsk) : (e_BlockAsk x)[1]? = some (vi x.Tid) := by rfl
theorem e_BlockAsk_s_Tid (x : BlockAsk) (v : Int) : (e_BlockAsk x).set 1 (vi v) = e_BlockAsk { x with Tid := v } := by rfl
theorem e_BlockAsk_g_Size (x : BlockAsk) : (e_BlockAsk x)[2]? = some (vi x.Size) := by rfl
theorem e_BlockAsk_s_Size (x : BlockAsk) (v : Int) : (e_BlockAsk x).set 2 (vi v) = e_BlockAsk { x with Size := v } := by rfl
theorem e_BlockAsk_g_Start (x : BlockAsk) : (e_BlockAsk x)[3]? = some (vi x.Start) := by rfl
theorem e_BlockAsk_s_Start (x : BlockAsk) (v : Int) : (e_BlockAsk x).set 3 (vi v) = e_BlockAsk { x with Start := v } := by rfl
theorem e_BlockAsk_fz (x : BlockAsk) (o : Nat → Ob) (n : Nat) : (e_BlockAsk x).map (fz o (n + 1)) = e_BlockAsk x := by rfl
theorem e_BlockAsk_reach (x : BlockAsk) (o : Nat → Ob) (n : Nat) : (e_BlockAsk x).flatMap (reach o (n + 1)) = [] := by
  simp only [e_BlockAsk, List.cons_append, List.nil_append, List.append_nil, List.flatMap_cons, List.flatMap_nil, reach_v]
theorem e_BlockAsk_clean (x : BlockAsk) : ∀ c ∈ (e_BlockAsk x), Clean c := by
  simp only [e_BlockAsk, List.cons_append, List.nil_append]
  repeat' (first | exact Clean.v _ | assumption | exact List.forall_mem_nil _ | refine List.forall_mem_cons.2 ⟨?_, ?_⟩)
theorem e_BlockAsk_tm {st : AS} {F : List Nat} {σ : List (Option Nat)} (x : BlockAsk) : TmL st F σ (e_BlockAsk x) (e_BlockAsk x) := by
  simp only [e_BlockAsk, List.cons_append, List.nil_append]
  repeat' (first | exact TmL.nil | (refine TmL.cons (Tm.v _) ?_) | (refine TmL.cons (by assumption) ?_))
theorem f_BlockAsk (x : BlockAsk) (o : Nat → Ob) (n : Nat) : (e_BlockAsk x).map (fz o (n + 1)) = e_BlockAsk x := by simp only [e_BlockAsk_fz]
theorem q_BlockAsk (x : BlockAsk) (o : Nat → Ob) (n : Nat) : (e_BlockAsk x).flatMap (reach o (n + 1)) = [] := by simp only [e_BlockAsk_reach, List.append_nil]
theorem e_BlockAsk_kinds (x : BlockAsk) : kindsOk [some .i64, some .i64, some .i64, some .i64] (e_BlockAsk x) = true := by rfl
theorem e_BlockAsk_eq (x y : BlockAsk) : eqCells (e_BlockAsk x) (e_BlockAsk y) = decide (x = y) := by
  rw [Bool.eq_iff_iff]
  simp only [e_BlockAsk, List.cons_append, List.nil_append, List.append_nil, eqCells, eqv, Bool.and_eq_true, beq_iff_eq, decide_eq_true_eq, and_true]
  constructor
  · intro h
    obtain ⟨v1, v2, v3, v4⟩ := x
    obtain ⟨v5', v6', v7', v8'⟩ := y
    simp_all
  · rintro rfl
    simp
attribute [go_sem] e_BlockAsk_len e_BlockAsk_sub e_BlockAsk_take e_BlockAsk_all e_BlockAsk_g_Token e_BlockAsk_s_Token e_BlockAsk_g_Tid e_BlockAsk_s_Tid e_BlockAsk_g_Size e_BlockAsk_s_Size e_BlockAsk_g_Start e_BlockAsk_s_Start e_BlockAsk_fz e_BlockAsk_reach e_BlockAsk_kinds e_BlockAsk_eq f_BlockAsk q_BlockAsk

structure Hotspotref19_Told where
  Ask : BlockAsk
  Frames : (List Frame)
  Numbers : (List Int)
  deriving DecidableEq

def Hotspotref19_Told.z : Hotspotref19_Told := ⟨BlockAsk.z, [], []⟩

def e_Hotspotref19_Told (x : Hotspotref19_Told) (s0 : AV) (s1 : AV) : List AV := (e_BlockAsk x.Ask) ++ [s0, s1]

theorem e_Hotspotref19_Told_len (x : Hotspotref19_Told) (s0 : AV) (s1 : AV) : (e_Hotspotref19_Told x s0 s1).length = 6 := by rfl
theorem e_Hotspotref19_Told_sub (x : Hotspotref19_Told) (s0 : AV) (s1 : AV) : sub? (e_Hotspotref19_Told x s0 s1) 0 6 = some (e_Hotspotref19_Told x s0 s1) := by rfl
theorem e_Hotspotref19_Told_take (x : Hotspotref19_Told) (s0 : AV) (s1 : AV) : (e_Hotspotref19_Told x s0 s1).take 6 = (e_Hotspotref19_Told x s0 s1) := by rfl
theorem e_Hotspotref19_Told_all (x : Hotspotref19_Told) (s0 : AV) (s1 : AV) (y : Hotspotref19_Told) (s02 : AV) (s12 : AV) : putAt (e_Hotspotref19_Told x s0 s1) 0 (e_Hotspotref19_Told y s02 s12) = e_Hotspotref19_Told y s02 s12 := by rfl
theorem e_Hotspotref19_Told_g_Ask_Token (x : Hotspotref19_Told) (s0 : AV) (s1 : AV) : (e_Hotspotref19_Told x s0 s1)[0]? = some (vi x.Ask.Token) := by rfl
theorem e_Hotspotref19_Told_s_Ask_Token (x : Hotspotref19_Told) (s0 : AV) (s1 : AV) (v : Int) : (e_Hotspotref19_Told x s0 s1).set 0 (vi v) = e_Hotspotref19_Told { x with Ask.Token := v } s0 s1 := by rfl
theorem e_Hotspotref19_Told_g_Ask_Tid (x : Hotspotref19_Told) (s0 : AV) (s1 : AV) : (e_Hotspotref19_Told x s0 s1)[1]? = some (vi x.Ask.Tid) := by rfl
theorem e_Hotspotref19_Told_s_Ask_Tid (x : Hotspotref19_Told) (s0 : AV) (s1 : AV) (v : Int) : (e_Hotspotref19_Told x s0 s1).set 1 (vi v) = e_Hotspotref19_Told { x with Ask.Tid := v } s0 s1 := by rfl
theorem e_Hotspotref19_Told_g_Ask_Size (x : Hotspotref19_Told) (s0 : AV) (s1 : AV) : (e_Hotspotref19_Told x s0 s1)[2]? = some (vi x.Ask.Size) := by rfl
theorem e_Hotspotref19_Told_s_Ask_Size (x : Hotspotref19_Told) (s0 : AV) (s1 : AV) (v : Int) : (e_Hotspotref19_Told x s0 s1).set 2 (vi v) = e_Hotspotref19_Told { x with Ask.Size := v } s0 s1 := by rfl
theorem e_Hotspotref19_Told_g_Ask_Start (x : Hotspotref19_Told) (s0 : AV) (s1 : AV) : (e_Hotspotref19_Told x s0 s1)[3]? = some (vi x.Ask.Start) := by rfl
theorem e_Hotspotref19_Told_s_Ask_Start (x : Hotspotref19_Told) (s0 : AV) (s1 : AV) (v : Int) : (e_Hotspotref19_Told x s0 s1).set 3 (vi v) = e_Hotspotref19_Told { x with Ask.Start := v } s0 s1 := by rfl
theorem e_Hotspotref19_Told_g_Frames (x : Hotspotref19_Told) (s0 : AV) (s1 : AV) : (e_Hotspotref19_Told x s0 s1)[4]? = some s0 := by rfl
theorem e_Hotspotref19_Told_s_Frames (x : Hotspotref19_Told) (s0 : AV) (s1 : AV) (v : AV) : (e_Hotspotref19_Told x s0 s1).set 4 v = e_Hotspotref19_Told x v s1 := by rfl
theorem e_Hotspotref19_Told_g_Numbers (x : Hotspotref19_Told) (s0 : AV) (s1 : AV) : (e_Hotspotref19_Told x s0 s1)[5]? = some s1 := by rfl
theorem e_Hotspotref19_Told_s_Numbers (x : Hotspotref19_Told) (s0 : AV) (s1 : AV) (v : AV) : (e_Hotspotref19_Told x s0 s1).set 5 v = e_Hotspotref19_Told x s0 v := by rfl
theorem e_Hotspotref19_Told_d_Ask (x : Hotspotref19_Told) (s0 : AV) (s1 : AV) : sub? (e_Hotspotref19_Told x s0 s1) 0 4 = some (e_BlockAsk x.Ask) := by rfl
theorem e_Hotspotref19_Told_p_Ask (x : Hotspotref19_Told) (s0 : AV) (s1 : AV) (v : BlockAsk) : putAt (e_Hotspotref19_Told x s0 s1) 0 (e_BlockAsk v) = e_Hotspotref19_Told { x with Ask := v } s0 s1 := by rfl
theorem e_Hotspotref19_Told_fz (x : Hotspotref19_Told) (s0 : AV) (s1 : AV) (o : Nat → Ob) (n : Nat) : (e_Hotspotref19_Told x s0 s1).map (fz o (n + 1)) = e_Hotspotref19_Told x (fz o (n + 1) s0) (fz o (n + 1) s1) := by rfl
theorem e_Hotspotref19_Told_reach (x : Hotspotref19_Told) (s0 : AV) (s1 : AV) (o : Nat → Ob) (n : Nat) : (e_Hotspotref19_Told x s0 s1).flatMap (reach o (n + 1)) = reach o (n + 1) s0 ++ reach o (n + 1) s1 := by
  simp only [e_Hotspotref19_Told, e_BlockAsk, List.cons_append, List.nil_append, List.append_nil, List.flatMap_cons, List.flatMap_nil, reach_v]
theorem e_Hotspotref19_Told_clean (x : Hotspotref19_Told) (s0 : AV) (s1 : AV) (h_s0 : Clean s0) (h_s1 : Clean s1) : ∀ c ∈ (e_Hotspotref19_Told x s0 s1), Clean c := by
  simp only [e_Hotspotref19_Told, e_BlockAsk, List.cons_append, List.nil_append]
  repeat' (first | exact Clean.v _ | assumption | exact List.forall_mem_nil _ | refine List.forall_mem_cons.2 ⟨?_, ?_⟩)
theorem e_Hotspotref19_Told_tm {st : AS} {F : List Nat} {σ : List (Option Nat)} (x : Hotspotref19_Told) (s0 : AV) (s1 : AV) (s02 : AV) (s12 : AV) (h_s0 : Tm st F σ s0 s02) (h_s1 : Tm st F σ s1 s12) : TmL st F σ (e_Hotspotref19_Told x s0 s1) (e_Hotspotref19_Told x s02 s12) := by
  simp only [e_Hotspotref19_Told, e_BlockAsk, List.cons_append, List.nil_append]
  repeat' (first | exact TmL.nil | (refine TmL.cons (Tm.v _) ?_) | (refine TmL.cons (by assumption) ?_))
theorem e_Hotspotref19_Told_tmx {st : AS} {F : List Nat} {σ : List (Option Nat)} {x y : Hotspotref19_Told} {s0 s1 s02 s12 : AV} (hxy : e_Hotspotref19_Told y s02 s12 = e_Hotspotref19_Told x s02 s12) (h_s0 : Tm st F σ s0 s02) (h_s1 : Tm st F σ s1 s12) : TmL st F σ (e_Hotspotref19_Told x s0 s1) (e_Hotspotref19_Told y s02 s12) := by
  rw [hxy]; exact e_Hotspotref19_Told_tm x s0 s1 s02 s12 h_s0 h_s1
theorem e_Hotspotref19_Told_ren (x : Hotspotref19_Told) {s0 s1 : (Nat → Nat) → AV} (h_s0 : RenM s0) (h_s1 : RenM s1) : RenML fun q => e_Hotspotref19_Told x (s0 q) (s1 q) := by
  simp only [e_Hotspotref19_Told, e_BlockAsk, List.cons_append, List.nil_append]
  repeat' (first | exact RenML.nil | (refine RenML.cons (RenM.const (Clean.v _)) ?_) | (refine RenML.cons (by assumption) ?_))
def E_Hotspotref19_Told (x : Hotspotref19_Told) : List AV := e_Hotspotref19_Told x (S_Frame x.Frames) (S_vi x.Numbers)
theorem E_Hotspotref19_Told_eq (x : Hotspotref19_Told) : E_Hotspotref19_Told x = e_Hotspotref19_Told x (S_Frame x.Frames) (S_vi x.Numbers) := rfl
theorem E_Hotspotref19_Told_clean (x : Hotspotref19_Told) : ∀ c ∈ E_Hotspotref19_Told x, Clean c := e_Hotspotref19_Told_clean x _ _ (S_Frame_clean _) (S_vi_clean _)
theorem f_Hotspotref19_Told (x : Hotspotref19_Told) (o : Nat → Ob) (n : Nat) : (E_Hotspotref19_Told x).map (fz o (n + 3)) = E_Hotspotref19_Told x := by simp only [E_Hotspotref19_Told_eq, e_Hotspotref19_Told_fz, f_S_Frame, f_S_vi]
theorem q_Hotspotref19_Told (x : Hotspotref19_Told) (o : Nat → Ob) (n : Nat) : (E_Hotspotref19_Told x).flatMap (reach o (n + 3)) = [] := by simp only [E_Hotspotref19_Told_eq, e_Hotspotref19_Told_reach, q_S_Frame, q_S_vi, List.append_nil]
attribute [go_sem] e_Hotspotref19_Told_len e_Hotspotref19_Told_sub e_Hotspotref19_Told_take e_Hotspotref19_Told_all e_Hotspotref19_Told_g_Ask_Token e_Hotspotref19_Told_s_Ask_Token e_Hotspotref19_Told_g_Ask_Tid e_Hotspotref19_Told_s_Ask_Tid e_Hotspotref19_Told_g_Ask_Size e_Hotspotref19_Told_s_Ask_Size e_Hotspotref19_Told_g_Ask_Start e_Hotspotref19_Told_s_Ask_Start e_Hotspotref19_Told_g_Frames e_Hotspotref19_Told_s_Frames e_Hotspotref19_Told_g_Numbers e_Hotspotref19_Told_s_Numbers e_Hotspotref19_Told_d_Ask e_Hotspotref19_Told_p_Ask e_Hotspotref19_Told_fz e_Hotspotref19_Told_reach E_Hotspotref19_Told_eq f_Hotspotref19_Told q_Hotspotref19_Told

end Go.AX.Z.TS

/-! (TSD) -/

set_option linter.unusedSimpArgs false
set_option linter.unusedVariables false
set_option maxHeartbeats 4000000
namespace Go.AX.Z.TS
open Go.AX

noncomputable section

def sender_within (a0 : Int) (a1 : Int) (a2 : Int) : Option Bool :=
  some ((decide (a1 ≤ a0)) && (decide (a0 ≤ a2)))

def sender_start (a0 : Sender) : Option Int :=
  bif decide (0 < (a0.Out.length : Int)) then
    ((idx a0.Out 0).bind fun x12 =>
    some x12.Frame.Head.Seq)
  else
    some a0.Next

def window_Dist (a0 : Int) (a1 : Int) : Option Int :=
  some (IntKind.wrap .i64 (IntKind.wrap .u64 ((BitVec.ofInt 64 (IntKind.wrap .u64 ((IntKind.wrap .u64 a1) - (IntKind.wrap .u64 a0))) &&& BitVec.ofInt 64 4095).toNat : Int)))

def sender_Check_L4 (a0 : Sender) (x12 : Int) (x13 : Int) : Nat → (Int × Int × Int) → Option (Ex Int Unit)
  | 0, _ => none
  | n15 + 1, d16 =>
    bif decide (d16.2.2 < (a0.Out.length : Int)) then
      ((idx a0.Out d16.2.2).bind fun x17 =>
      ((window_Dist x12 x17.Frame.Head.Seq).bind fun x18 =>
      ((sender_within x17.Frame.Head.Seq 0 4095).bind fun x19 =>
      ((
        bif (((!x19) || (decide (x18 ≤ d16.1))) || (decide (x13 ≤ x18))) then
          some true
        else
          ((sender_within x17.At d16.2.1 1099511627776).bind fun x20 =>
          some (!x20))).bind fun x21 =>
      ((
        bif x21 then
          some true
        else
          ((sender_within x17.Tries 0 a0.Limit).bind fun x22 =>
          some (!x22))).bind fun x23 =>
      bif (x23 || (x17.Flying && (x17.Tries == 0))) then
        some (Ex.ret 8)
      else
        sender_Check_L4 a0 x12 x13 n15 (x18, x17.At, IntKind.wrap .i64 (d16.2.2 + 1)))))))
    else
      some (Ex.go ())

def sender_Check (a0 : Sender) : Option Int :=
  ((sender_within a0.Tid 0 7).bind fun x1 =>
  ((
    bif (x1 && (decide (a0.Phase ≤ 2))) then
      ((sender_within a0.Token 0 255).bind fun x2 =>
      some x2)
    else
      some false).bind fun x3 =>
  ((
    bif x3 then
      ((sender_within a0.Next 0 4095).bind fun x4 =>
      some x4)
    else
      some false).bind fun x5 =>
  ((
    bif x5 then
      ((sender_within a0.Limit 1 16).bind fun x6 =>
      some x6)
    else
      some false).bind fun x7 =>
  ((
    bif x7 then
      ((sender_within a0.Life 1 1073741824).bind fun x8 =>
      some x8)
    else
      some false).bind fun x9 =>
  ((sender_within a0.Size 1 64).bind fun x10 =>
  ((
    bif (a0.Phase == 0) then
      some (a0.Size == 0)
    else
      some x10).bind fun d11 =>
  bif (((!x9) || (!d11)) || ((a0.Phase != 2) && ((decide (0 < (a0.Out.length : Int))) || a0.Bar))) then
    some 8
  else
    ((sender_start a0).bind fun x12 =>
    ((window_Dist x12 a0.Next).bind fun x13 =>
    bif decide (a0.Size < x13) then
      some 8
    else
      ((
        sender_Check_L4 a0 x12 x13 big ((-1), 0, 0)).bind fun o15 =>
      (o15.k fun d14 =>
      some 0)))))))))))

def sender_New (a0 : Int) (a1 : Int) (a2 : Int) (a3 : Int) : Option (Sender × Int) :=
  ((sender_Check { Sender.z with Life := a3, Limit := a2, Next := a1, Tid := a0 }).bind fun x1 =>
  bif (x1 != 0) then
    some (Sender.z, 2)
  else
    some ({ Sender.z with Life := a3, Limit := a2, Next := a1, Tid := a0 }, 0))

def header_Twin (a0 : Frame) : Option Frame :=
  ((chk (decide (a0.Body.length ≤ 140737488355328))).bind fun x7 =>
  some a0)

def sender_twin_L2 (a0 : Sender) : Nat → (List Unacked × Int) → Option ((List Unacked))
  | 0, _ => none
  | n2 + 1, d6 =>
    bif decide (d6.2 < (a0.Out.length : Int)) then
      ((idx a0.Out d6.2).bind fun x7 =>
      ((header_Twin x7.Frame).bind fun x8 =>
      ((chk (decide ((d6.1.length + 1) * 128 ≤ 140737488355328))).bind fun x9 =>
      sender_twin_L2 a0 n2 ((d6.1 ++ [{ x7 with Frame := { x8 with Body := x8.Body } }]), IntKind.wrap .i64 (d6.2 + 1)))))
    else
      some d6.1

def sender_twin (a0 : Sender) : Option Sender :=
  ((
    sender_twin_L2 a0 big ([], 0)).bind fun d5 =>
  some { a0 with Out := d5 })

def sender_Ask (a0 : Sender) (a1 : Int) : Option (BlockAsk × Sender × Int) :=
  ((sender_Check a0).bind fun x3 =>
  bif (x3 != 0) then
    some (BlockAsk.z, Sender.z, x3)
  else
    ((sender_within a1 1 64).bind fun x4 =>
    bif (!x4) then
      some (BlockAsk.z, Sender.z, 2)
    else
      bif (a0.Phase == 2) then
        some (BlockAsk.z, Sender.z, 20)
      else
        ((sender_twin { a0 with Phase := 1, Size := a1, Token := IntKind.wrap .i64 (((a0.Token).tmod 255) + 1) }).bind fun x5 =>
        some ({ BlockAsk.z with Size := a1, Start := a0.Next, Tid := a0.Tid, Token := IntKind.wrap .i64 (((a0.Token).tmod 255) + 1) }, x5, 0))))

def sender_Answer (a0 : Sender) (a1 : BlockAnswer) : Option (Sender × Int) :=
  ((sender_Check a0).bind fun x7 =>
  ((
    bif (x7 != 0) then
      some (Ex.ret (Sender.z, x7))
    else
      bif (a0.Phase != 1) then
        some (Ex.ret (Sender.z, 20))
      else
        bif ((a1.Token != a0.Token) || (a1.Tid != a0.Tid)) then
          some (Ex.ret (Sender.z, 21))
        else
          bif (a1.Status != 0) then
            some (Ex.go { a0 with Phase := 0, Size := 0 })
          else
            ((sender_within a1.Size 1 a0.Size).bind fun x10 =>
            bif (!x10) then
              some (Ex.ret (Sender.z, 2))
            else
              some (Ex.go { a0 with Phase := 2, Size := a1.Size }))).bind fun o9 =>
  (o9.k fun d8 =>
  ((sender_twin { d8 with Out := (d8).Out }).bind fun x11 =>
  some (x11, 0)))))

def sender_open (a0 : Sender) (a1 : Bool) : Option (Sender × Int) :=
  ((sender_Check a0).bind fun x15 =>
  bif (x15 != 0) then
    some (Sender.z, x15)
  else
    bif (!a1) then
      some (Sender.z, 2)
    else
      bif (a0.Phase != 2) then
        some (Sender.z, 20)
      else
        ((sender_twin a0).bind fun x16 =>
        some (x16, 0)))

def window_Add (a0 : Int) (a1 : Int) : Option Int :=
  some (IntKind.wrap .i64 (IntKind.wrap .u64 ((BitVec.ofInt 64 (IntKind.wrap .u64 ((IntKind.wrap .u64 a0) + (IntKind.wrap .u64 a1))) &&& BitVec.ofInt 64 4095).toNat : Int)))

def sender_Offer (a0 : Sender) (a1 : Frame) (a2 : Int) : Option (Frame × Sender × Int) :=
  ((sender_within a2 0 1099511627776).bind fun x14 =>
  ((sender_open a0 x14).bind fun x15 =>
  bif (x15.2 != 0) then
    some (Frame.z, Sender.z, x15.2)
  else
    ((
      bif decide (0 < ((x15.1.Out.length : Nat) : Int)) then
        ((idx x15.1.Out (IntKind.wrap .i64 (((x15.1.Out.length : Nat) : Int) - 1))).bind fun x16 =>
        some (decide (a2 < x16.At)))
      else
        some false).bind fun x17 =>
    bif x17 then
      some (Frame.z, Sender.z, 20)
    else
      ((sender_start x15.1).bind fun x18 =>
      ((window_Dist x18 x15.1.Next).bind fun x19 =>
      bif decide (x15.1.Size ≤ x19) then
        some (Frame.z, Sender.z, 22)
      else
        ((header_Twin a1).bind fun x20 =>
        ((chk (decide ((x15.1.Out.length + 1) * 128 ≤ 140737488355328))).bind fun x21 =>
        ((window_Add x15.1.Next 1).bind fun x22 =>
        ((header_Twin { x20 with Head.Retry := false, Head.Seq := x15.1.Next, Head.Tid := x15.1.Tid }).bind fun x23 =>
        some (x23, { x15.1 with Next := x22, Out := (x15.1.Out ++ [{ Unacked.z with At := a2, Frame := { { x20 with Head.Retry := false, Head.Seq := x15.1.Next, Head.Tid := x15.1.Tid } with Body := x20.Body } }]) }, 0))))))))))

def sender_Pick_L3 (x20 : (Sender × Int)) (a1 : Int) : Nat → (List Unacked × List Frame × Int) → Option ((List Unacked × List Frame))
  | 0, _ => none
  | n3 + 1, d22 =>
    bif decide (d22.2.2 < ((x20.1.Out.length : Nat) : Int)) then
      ((idx d22.1 d22.2.2).bind fun x23 =>
      bif ((((d22.2.1).length : Nat) : Int) == a1) then
        some (d22.1, d22.2.1)
      else
        bif (x23.Flying || (x23.Tries == x20.1.Limit)) then
          sender_Pick_L3 x20 a1 n3 (d22.1, d22.2.1, IntKind.wrap .i64 (d22.2.2 + 1))
        else
          ((header_Twin x23.Frame).bind fun x24 =>
          ((chk (decide ((d22.2.1.length + 1) * 104 ≤ 140737488355328))).bind fun x25 =>
          sender_Pick_L3 x20 a1 n3 (((d22.1.modify ((d22.2.2).toNat) fun y => { y with Tries := IntKind.wrap .i64 (x23.Tries + 1) }).modify ((d22.2.2).toNat) fun y => { y with Flying := true }), (d22.2.1 ++ [{ x24 with Head.Retry := decide (0 < x23.Tries) }]), IntKind.wrap .i64 (d22.2.2 + 1)))))
    else
      some (d22.1, d22.2.1)

def sender_Pick (a0 : Sender) (a1 : Int) : Option ((List Frame) × Sender × Int) :=
  ((sender_open a0 (decide (0 ≤ a1))).bind fun x20 =>
  bif (x20.2 != 0) then
    some ([], Sender.z, x20.2)
  else
    ((
      sender_Pick_L3 x20 a1 big (x20.1.Out, [], 0)).bind fun d21 =>
    some (d21.2, { x20.1 with Out := d21.1 }, 0)))

def window_number (a0 : Int) : Option Bool :=
  some ((decide (0 ≤ a0)) && (decide (a0 < 4096)))

def window_Check (a0 : Window) : Option Int :=
  ((window_number a0.Start).bind fun x27 =>
  bif (!x27) then
    some 8
  else
    some 0)

def window_check (a0 : Window) (a1 : Int) : Option Int :=
  ((window_Check a0).bind fun x32 =>
  bif (x32 != 0) then
    some x32
  else
    ((window_number a1).bind fun x33 =>
    bif (!x33) then
      some 2
    else
      some 0))

def window_Has (a0 : Window) (a1 : Int) : Option Bool :=
  ((window_check a0 a1).bind fun x32 =>
  bif (x32 != 0) then
    some false
  else
    ((window_Dist a0.Start a1).bind fun x33 =>
    ((
      bif decide (x33 < 64) then
        ((chk (decide (¬ x33 < 0))).bind fun x34 =>
        some ((IntKind.wrap .u64 ((BitVec.ofInt 64 ((a0.Bits).fdiv (2 ^ (min (x33).toNat 64))) &&& BitVec.ofInt 64 1).toNat : Int)) == 1))
      else
        some false).bind fun x35 =>
    some x35)))

def sender_Acked_1 (a0 : Unacked) (a1 : Window) : Option Bool :=
  ((
    bif decide (0 < a0.Tries) then
      ((window_Has a1 a0.Frame.Head.Seq).bind fun x32 =>
      some x32)
    else
      some false).bind fun x33 =>
  some x33)

def sender_remove_1 (a0 : Unacked) (a1 : Window) : Option (Bool × List Int) :=
  ((sender_Acked_1 a0 a1).bind fun x32 =>
  bif x32 then
    some (x32, [a0.Frame.Head.Seq])
  else
    some (x32, []))

def sender_remove_1_2 (a0 : Unacked) (a1 : Window) (a2 : List Int) : Option (Bool × List Int) :=
  ((sender_Acked_1 a0 a1).bind fun x32 =>
  bif x32 then
    ((chk (decide ((a2.length + 1) * 8 ≤ 140737488355328))).bind fun x33 =>
    some (x32, (a2 ++ [a0.Frame.Head.Seq])))
  else
    some (x32, a2))

def slices_IndexFunc_api_Unacked_api_Unacked_L2 (a1 : List Unacked) (a0 : Window) : Nat → (List Int × Int) → Option (Ex (Int × List Int) (List Int))
  | 0, _ => none
  | n2 + 1, d32 =>
    bif decide (d32.2 < ((a1.length : Nat) : Int)) then
      ((idx a1 d32.2).bind fun x33 =>
      ((sender_remove_1_2 x33 a0 d32.1).bind fun x34 =>
      bif x34.1 then
        some (Ex.ret (d32.2, x34.2))
      else
        slices_IndexFunc_api_Unacked_api_Unacked_L2 a1 a0 n2 (x34.2, IntKind.wrap .i64 (d32.2 + 1))))
    else
      some (Ex.go d32.1)

def slices_IndexFunc_api_Unacked_api_Unacked (a0 : Window) (a1 : List Unacked) : Option (Int × List Int) :=
  ((
    slices_IndexFunc_api_Unacked_api_Unacked_L2 a1 a0 big ([], 0)).bind fun o31 =>
  (o31.k fun d30 =>
  some ((-1), d30)))

def slices_DeleteFunc_api_Unacked_api_Unacked_L2 (a0 : Window) : Nat → (List Unacked × List Int × Int × Int) → Option ((List Unacked × Int × List Int))
  | 0, _ => none
  | n3 + 1, d32 =>
    bif decide (d32.2.2.2 < (((d32.1).length : Nat) : Int)) then
      ((idx d32.1 d32.2.2.2).bind fun x33 =>
      ((sender_remove_1_2 x33 a0 d32.2.1).bind fun x34 =>
      bif (!x34.1) then
        ((idx d32.1 d32.2.2.1).bind fun x35 =>
        slices_DeleteFunc_api_Unacked_api_Unacked_L2 a0 n3 ((d32.1.set ((d32.2.2.1).toNat) x33), x34.2, IntKind.wrap .i64 (d32.2.2.1 + 1), IntKind.wrap .i64 (d32.2.2.2 + 1)))
      else
        slices_DeleteFunc_api_Unacked_api_Unacked_L2 a0 n3 (d32.1, x34.2, d32.2.2.1, IntKind.wrap .i64 (d32.2.2.2 + 1))))
    else
      some (d32.1, d32.2.2.1, d32.2.1)

def slices_DeleteFunc_api_Unacked_api_Unacked (a0 : Window) (a1 : List Unacked) : Option (List Unacked × List Int) :=
  ((slices_IndexFunc_api_Unacked_api_Unacked a0 a1).bind fun x30 =>
  bif (x30.1 == (-1)) then
    some (a1, x30.2)
  else
    ((
      slices_DeleteFunc_api_Unacked_api_Unacked_L2 a0 big (a1, x30.2, x30.1, IntKind.wrap .i64 (x30.1 + 1))).bind fun d31 =>
    ((chk (decide (0 ≤ d31.2.1) && decide (d31.2.1 ≤ ((d31.1).length : Int)))).bind fun x36 =>
    ((chk (decide (0 ≤ d31.2.1) && decide (d31.2.1 ≤ ((d31.1).length : Int)))).bind fun x37 =>
    some ((List.take ((d31.2.1).toNat) d31.1), d31.2.2)))))

def sender_remove (a0 : Sender) (a1 : Window) : Option (List Int × List Unacked) :=
  ((slices_DeleteFunc_api_Unacked_api_Unacked a1 a0.Out).bind fun x30 =>
  some (x30.2, x30.1))

def sender_land_L2 (a0 : Sender) : Nat → (List Unacked × Int) → Option ((List Unacked))
  | 0, _ => none
  | n2 + 1, d33 =>
    bif decide (d33.2 < ((a0.Out.length : Nat) : Int)) then
      ((idx d33.1 d33.2).bind fun x34 =>
      sender_land_L2 a0 n2 ((d33.1.modify ((d33.2).toNat) fun y => { y with Flying := false }), IntKind.wrap .i64 (d33.2 + 1)))
    else
      some d33.1

def sender_land (a0 : Sender) : Option (List Unacked) :=
  ((
    sender_land_L2 a0 big (a0.Out, 0)).bind fun d32 =>
  some d32)

def sender_Acked (a0 : Sender) (a1 : Window) : Option ((List Int) × Sender × Int) :=
  ((window_Check a1).bind fun x27 =>
  ((sender_open a0 (x27 == 0)).bind fun x28 =>
  bif (x28.2 != 0) then
    some ([], Sender.z, x28.2)
  else
    ((sender_remove x28.1 a1).bind fun x29 =>
    ((sender_land { x28.1 with Out := x29.2 }).bind fun x30 =>
    some (x29.1, { { x28.1 with Out := x29.2 } with Out := x30 }, 0)))))

def hotspotref17_SameInts_L2 (a0 : (List Int)) (a1 : (List Int)) : Nat → Int → Option (Ex Bool Unit)
  | 0, _ => none
  | n3 + 1, d38 =>
    bif decide (d38 < (a0.length : Int)) then
      ((idx a0 d38).bind fun x39 =>
      ((idx a1 d38).bind fun x40 =>
      bif (x39 != x40) then
        some (Ex.ret false)
      else
        hotspotref17_SameInts_L2 a0 a1 n3 (IntKind.wrap .i64 (d38 + 1))))
    else
      some (Ex.go ())

def hotspotref17_SameInts (a0 : (List Int)) (a1 : (List Int)) : Option Bool :=
  bif ((a0.length : Int) != (a1.length : Int)) then
    some false
  else
    ((
      hotspotref17_SameInts_L2 a0 a1 big 0).bind fun o37 =>
    (o37.k fun d36 =>
    some true))

def sender_Start (a0 : Sender) : Option Int :=
  ((sender_Check a0).bind fun x42 =>
  bif (x42 != 0) then
    some 0
  else
    ((sender_start a0).bind fun x43 =>
    some x43))

def hotspotlaw19_alive_L3 : Nat → (Sender × Int) → Option (Ex Bool Sender)
  | 0, _ => none
  | n6 + 1, d6 =>
    bif decide (d6.2 < 4) then
      ((sender_Offer { d6.1 with Out := (d6.1).Out } Frame.z d6.2).bind fun x7 =>
      ((
        bif (x7.2.2 != 0) then
          some true
        else
          ((idx [4095, 0, 1, 2] d6.2).bind fun x8 =>
          some (x7.1.Head.Seq != x8))).bind fun x9 =>
      bif (x9 || (x7.1.Head.Tid != 3)) then
        some (Ex.ret false)
      else
        hotspotlaw19_alive_L3 n6 (x7.2.1, IntKind.wrap .i64 (d6.2 + 1))))
    else
      some (Ex.go { d6.1 with Out := (d6.1).Out })

def hotspotlaw19_alive : Option Bool :=
  ((sender_New 3 4095 2 1000).bind fun x1 =>
  ((sender_Ask x1.1 8).bind fun x2 =>
  ((sender_Answer x2.2.1 { BlockAnswer.z with Size := 4, Tid := 3, Token := 1 }).bind fun x3 =>
  bif ((((x1.2 != 0) || (x2.2.2 != 0)) || (x3.2 != 0)) || (!decide (x2.1 = { BlockAsk.z with Size := 8, Start := 4095, Tid := 3, Token := 1 }))) then
    some false
  else
    ((
      hotspotlaw19_alive_L3 big (x3.1, 0)).bind fun o5 =>
    (o5.k fun d4 =>
    ((sender_Offer { d4 with Out := (d4).Out } Frame.z 9).bind fun x10 =>
    ((sender_Pick { d4 with Out := (d4).Out } 2).bind fun x11 =>
    ((sender_Acked x11.2.1 { Window.z with Bits := 1 }).bind fun x12 =>
    ((
      bif (((x10.2.2 == 22) && (x11.2.2 == 0)) && ((x11.1.length : Int) == 2)) then
        ((idx x11.1 0).bind fun x13 =>
        some (x13.Head.Seq == 4095))
      else
        some false).bind fun x14 =>
    ((
      bif x14 then
        ((idx x11.1 1).bind fun x15 =>
        some (x15.Head.Seq == 0))
      else
        some false).bind fun x16 =>
    bif (x16 && (x12.2.2 == 0)) then
      ((hotspotref17_SameInts x12.1 [0]).bind fun x17 =>
      ((
        bif x17 then
          ((sender_Start x12.2.1).bind fun x18 =>
          some (x18 == 4095))
        else
          some false).bind fun x19 =>
      some (x19 && ((x12.2.1.Out.length : Int) == 3))))
    else
      some false))))))))))

def hotspotref05_Great (a0 : Frame) : Option Bool :=
  some (decide (2400 < (a0.Body.length : Int)))

def hotspotref19_Great_L2 (a0 : Sender) : Nat → Int → Option (Ex Bool Unit)
  | 0, _ => none
  | n4 + 1, d28 =>
    bif decide (d28 < (a0.Out.length : Int)) then
      ((idx a0.Out d28).bind fun x29 =>
      ((hotspotref05_Great x29.Frame).bind fun x30 =>
      bif x30 then
        some (Ex.ret true)
      else
        hotspotref19_Great_L2 a0 n4 (IntKind.wrap .i64 (d28 + 1))))
    else
      some (Ex.go ())

def hotspotref19_Great (a0 : Sender) (a1 : Frame) : Option Bool :=
  ((
    bif decide (70 < (a0.Out.length : Int)) then
      some true
    else
      ((hotspotref05_Great a1).bind fun x24 =>
      some x24)).bind fun x25 =>
  bif x25 then
    some true
  else
    ((
      hotspotref19_Great_L2 a0 big 0).bind fun o27 =>
    (o27.k fun d26 =>
    some false)))

def hotspotlaw19_great_L2 (a0 : (List Hotspotref19_Step)) : Nat → Int → Option (Ex Bool Unit)
  | 0, _ => none
  | n3 + 1, d24 =>
    bif decide (d24 < (a0.length : Int)) then
      ((idx a0 d24).bind fun x25 =>
      ((hotspotref19_Great Sender.z x25.Frame).bind fun x26 =>
      bif x26 then
        some (Ex.ret true)
      else
        hotspotlaw19_great_L2 a0 n3 (IntKind.wrap .i64 (d24 + 1))))
    else
      some (Ex.go ())

def hotspotlaw19_great (a0 : (List Hotspotref19_Step)) : Option Bool :=
  bif decide (300 < (a0.length : Int)) then
    some true
  else
    ((
      hotspotlaw19_great_L2 a0 big 0).bind fun o23 =>
    (o23.k fun d22 =>
    some false))

def sender_Close_L2 (a0 : Sender) : Nat → (List Int × Int) → Option ((List Int))
  | 0, _ => none
  | n3 + 1, d35 =>
    bif decide (d35.2 < (a0.Out.length : Int)) then
      ((idx a0.Out d35.2).bind fun x36 =>
      ((chk (decide (((d35.1).length + 1) * 8 ≤ 140737488355328))).bind fun x37 =>
      sender_Close_L2 a0 n3 ((d35.1 ++ [x36.Frame.Head.Seq]), IntKind.wrap .i64 (d35.2 + 1))))
    else
      some d35.1

def sender_Close (a0 : Sender) : Option ((List Int) × Sender × Int) :=
  ((sender_Check a0).bind fun x33 =>
  bif (x33 != 0) then
    some ([], Sender.z, x33)
  else
    ((
      sender_Close_L2 a0 big ([], 0)).bind fun d34 =>
    some (d34, { a0 with Bar := false, Out := [], Phase := 0, Size := 0 }, 0)))

def sender_Lost (a0 : Sender) : Option (Sender × Int) :=
  ((sender_open a0 true).bind fun x42 =>
  bif (x42.2 != 0) then
    some (Sender.z, x42.2)
  else
    ((sender_land x42.1).bind fun x43 =>
    some ({ x42.1 with Out := x43 }, 0)))

def sender_Expire_1 (a0 : Unacked) (a1 : Sender) (a2 : Int) : Option Bool :=
  some ((!a0.Flying) && ((a0.Tries == a1.Limit) || (decide ((IntKind.wrap .i64 (a0.At + a1.Life)) ≤ a2))))

def sender_remove_1_3 (a0 : Unacked) (a1 : Sender) (a2 : Int) : Option (Bool × List Int) :=
  ((sender_Expire_1 a0 a1 a2).bind fun x49 =>
  bif x49 then
    some (x49, [a0.Frame.Head.Seq])
  else
    some (x49, []))

def sender_remove_1_4 (a0 : Unacked) (a1 : Sender) (a2 : Int) (a3 : List Int) : Option (Bool × List Int) :=
  ((sender_Expire_1 a0 a1 a2).bind fun x49 =>
  bif x49 then
    ((chk (decide ((a3.length + 1) * 8 ≤ 140737488355328))).bind fun x50 =>
    some (x49, (a3 ++ [a0.Frame.Head.Seq])))
  else
    some (x49, a3))

def slices_IndexFunc_api_Unacked_api_Unacked_2_L2 (a0 : Sender) (a1 : Int) : Nat → (List Int × Int) → Option (Ex (Int × List Int) (List Int))
  | 0, _ => none
  | n2 + 1, d49 =>
    bif decide (d49.2 < ((a0.Out.length : Nat) : Int)) then
      ((idx a0.Out d49.2).bind fun x50 =>
      ((sender_remove_1_4 x50 a0 a1 d49.1).bind fun x51 =>
      bif x51.1 then
        some (Ex.ret (d49.2, x51.2))
      else
        slices_IndexFunc_api_Unacked_api_Unacked_2_L2 a0 a1 n2 (x51.2, IntKind.wrap .i64 (d49.2 + 1))))
    else
      some (Ex.go d49.1)

def slices_IndexFunc_api_Unacked_api_Unacked_2 (a0 : Sender) (a1 : Int) : Option (Int × List Int) :=
  ((
    slices_IndexFunc_api_Unacked_api_Unacked_2_L2 a0 a1 big ([], 0)).bind fun o48 =>
  (o48.k fun d47 =>
  some ((-1), d47)))

def slices_DeleteFunc_api_Unacked_api_Unacked_2_L2 (a1 : Int) : Nat → (List Unacked × Sender × List Int × Int × Int) → Option ((List Unacked × Int × Sender × List Int))
  | 0, _ => none
  | n3 + 1, d49 =>
    bif decide (d49.2.2.2.2 < (((d49.1).length : Nat) : Int)) then
      ((idx d49.1 d49.2.2.2.2).bind fun x50 =>
      ((sender_remove_1_4 x50 { d49.2.1 with Out := d49.1 } a1 d49.2.2.1).bind fun x51 =>
      bif (!x51.1) then
        ((idx d49.1 d49.2.2.2.1).bind fun x52 =>
        slices_DeleteFunc_api_Unacked_api_Unacked_2_L2 a1 n3 ((d49.1.set ((d49.2.2.2.1).toNat) x50), { d49.2.1 with Out := d49.1 }, x51.2, IntKind.wrap .i64 (d49.2.2.2.1 + 1), IntKind.wrap .i64 (d49.2.2.2.2 + 1)))
      else
        slices_DeleteFunc_api_Unacked_api_Unacked_2_L2 a1 n3 (d49.1, { d49.2.1 with Out := d49.1 }, x51.2, d49.2.2.2.1, IntKind.wrap .i64 (d49.2.2.2.2 + 1))))
    else
      some (d49.1, d49.2.2.2.1, d49.2.1, d49.2.2.1)

def slices_DeleteFunc_api_Unacked_api_Unacked_2 (a0 : Sender) (a1 : Int) : Option (List Unacked × Sender × List Int) :=
  ((slices_IndexFunc_api_Unacked_api_Unacked_2 a0 a1).bind fun x47 =>
  bif (x47.1 == (-1)) then
    some (a0.Out, a0, x47.2)
  else
    ((
      slices_DeleteFunc_api_Unacked_api_Unacked_2_L2 a1 big (a0.Out, a0, x47.2, x47.1, IntKind.wrap .i64 (x47.1 + 1))).bind fun d48 =>
    ((chk (decide (0 ≤ d48.2.1) && decide (d48.2.1 ≤ ((d48.1).length : Int)))).bind fun x53 =>
    ((chk (decide (0 ≤ d48.2.1) && decide (d48.2.1 ≤ ((d48.1).length : Int)))).bind fun x54 =>
    some ((List.take ((d48.2.1).toNat) d48.1), d48.2.2.1, d48.2.2.2)))))

def sender_remove_2 (a0 : Sender) (a1 : Int) : Option (List Int × Sender × List Unacked) :=
  ((slices_DeleteFunc_api_Unacked_api_Unacked_2 a0 a1).bind fun x47 =>
  some (x47.2.2, x47.2.1, x47.1))

def sender_Expire (a0 : Sender) (a1 : Int) : Option ((List Int) × Sender × Int) :=
  ((sender_within a1 0 1099511627776).bind fun x45 =>
  ((sender_open a0 x45).bind fun x46 =>
  bif (x46.2 != 0) then
    some ([], Sender.z, x46.2)
  else
    ((sender_remove_2 x46.1 a1).bind fun x47 =>
    some (x47.1, { x47.2.1 with Bar := (x47.2.1.Bar || (decide (0 < (((x47.1).length : Nat) : Int)))), Out := x47.2.2 }, 0))))

def sender_Barred (a0 : Sender) : Option (Sender × Int) :=
  ((sender_open a0 true).bind fun x49 =>
  bif (x49.2 != 0) then
    some (Sender.z, x49.2)
  else
    bif (!x49.1.Bar) then
      some (Sender.z, 20)
    else
      some ({ x49.1 with Bar := false }, 0))

def hotspotlaw19_do (a0 : Sender) (a1 : Hotspotref19_Step) : Option (Hotspotref19_Told × Sender × Int) :=
  bif (a1.Kind == 0) then
    ((sender_Ask a0 a1.N).bind fun x31 =>
    some ({ Hotspotref19_Told.z with Ask := x31.1 }, x31.2.1, x31.2.2))
  else
    bif (a1.Kind == 1) then
      ((sender_Answer a0 a1.A).bind fun x32 =>
      some (Hotspotref19_Told.z, x32.1, x32.2))
    else
      bif (a1.Kind == 2) then
        ((sender_Close a0).bind fun x33 =>
        some ({ Hotspotref19_Told.z with Numbers := x33.1 }, x33.2.1, x33.2.2))
      else
        bif (a1.Kind == 3) then
          ((sender_Offer a0 a1.Frame a1.N).bind fun x34 =>
          bif (x34.2.2 == 0) then
            some ({ Hotspotref19_Told.z with Frames := [x34.1] }, x34.2.1, x34.2.2)
          else
            some (Hotspotref19_Told.z, x34.2.1, x34.2.2))
        else
          bif (a1.Kind == 4) then
            ((sender_Pick a0 a1.N).bind fun x35 =>
            some ({ Hotspotref19_Told.z with Frames := x35.1 }, x35.2.1, x35.2.2))
          else
            bif (a1.Kind == 5) then
              ((sender_Acked a0 a1.W).bind fun x36 =>
              some ({ Hotspotref19_Told.z with Numbers := x36.1 }, x36.2.1, x36.2.2))
            else
              bif (a1.Kind == 6) then
                ((sender_Lost a0).bind fun x37 =>
                some (Hotspotref19_Told.z, x37.1, x37.2))
              else
                bif (a1.Kind == 7) then
                  ((sender_Expire a0 a1.N).bind fun x38 =>
                  some ({ Hotspotref19_Told.z with Numbers := x38.1 }, x38.2.1, x38.2.2))
                else
                  bif (a1.Kind == 8) then
                    ((sender_Barred a0).bind fun x39 =>
                    some (Hotspotref19_Told.z, x39.1, x39.2))
                  else
                    some (Hotspotref19_Told.z, Sender.z, 2)

def hotspotlaw19_SenderAgrees_L3 (a4 : (List Hotspotref19_Step)) (a0 : Int) : Nat → (Sender × BlockAsk × Bool × Int) → Option (Ex Bool Unit)
  | 0, _ => none
  | n5 + 1, d7 =>
    bif decide (d7.2.2.2 < (a4.length : Int)) then
      ((idx a4 d7.2.2.2).bind fun x8 =>
      ((hotspotlaw19_do { d7.1 with Out := (d7.1).Out } x8).bind fun x9 =>
      bif (x9.2.2 != 0) then
        hotspotlaw19_SenderAgrees_L3 a4 a0 n5 ({ d7.1 with Out := (d7.1).Out }, d7.2.1, d7.2.2.1, IntKind.wrap .i64 (d7.2.2.2 + 1))
      else
        ((
          bif (x8.Kind == 0) then
            bif (((d7.2.2.1 || (x9.1.Ask.Token == d7.2.1.Token)) || (x9.1.Ask.Start != d7.1.Next)) || (x9.1.Ask.Tid != a0)) then
              some (Ex.ret false)
            else
              some (Ex.go (x9.1.Ask, d7.2.2.1))
          else
            bif (x8.Kind == 1) then
              bif (((x8.A.Token != d7.2.1.Token) || (x8.A.Tid != a0)) || ((x8.A.Status == 0) && ((decide (d7.2.1.Size < x8.A.Size)) || (x8.A.Size != x9.2.1.Size)))) then
                some (Ex.ret false)
              else
                some (Ex.go (d7.2.1, (x8.A.Status == 0)))
            else
              bif (x8.Kind == 2) then
                some (Ex.go (d7.2.1, false))
              else
                bif (!d7.2.2.1) then
                  some (Ex.ret false)
                else
                  some (Ex.go (d7.2.1, d7.2.2.1))).bind fun o11 =>
        (o11.kE fun d10 =>
        bif (!((x9.2.1.Phase == 2) == d10.2)) then
          some (Ex.ret false)
        else
          hotspotlaw19_SenderAgrees_L3 a4 a0 n5 (x9.2.1, d10.1, d10.2, IntKind.wrap .i64 (d7.2.2.2 + 1))))))
    else
      some (Ex.go ())

def hotspotlaw19_SenderAgrees (a0 : Int) (a1 : Int) (a2 : Int) (a3 : Int) (a4 : (List Hotspotref19_Step)) : Option Bool :=
  (hotspotlaw19_alive.bind fun x1 =>
  ((sender_New a0 a1 a2 a3).bind fun x2 =>
  ((
    bif (x2.2 != 0) then
      some true
    else
      ((hotspotlaw19_great a4).bind fun x3 =>
      some x3)).bind fun x4 =>
  bif (x4 || (!x1)) then
    some x1
  else
    ((
      hotspotlaw19_SenderAgrees_L3 a4 a0 big (x2.1, BlockAsk.z, false, 0)).bind fun o6 =>
    (o6.k fun d5 =>
    some x1)))))

def hotspotlaw19_opened (a0 : Int) (a1 : Int) (a2 : Int) (a3 : Int) (a4 : Int) : Option (Sender × Bool) :=
  ((sender_New a0 a1 a2 a3).bind fun x13 =>
  ((sender_Ask x13.1 64).bind fun x14 =>
  ((sender_Answer x14.2.1 { BlockAnswer.z with Size := a4, Tid := a0, Token := x14.1.Token }).bind fun x15 =>
  some (x15.1, (((x13.2 == 0) && (x14.2.2 == 0)) && (x15.2 == 0))))))

def window_New (a0 : Int) : Option (Window × Int) :=
  ((window_number a0).bind fun x24 =>
  bif (!x24) then
    some (Window.z, 2)
  else
    some ({ Window.z with Start := a0 }, 0))

def window_Mark (a0 : Window) (a1 : Int) : Option (Window × Int) :=
  ((window_check a0 a1).bind fun x28 =>
  bif (x28 != 0) then
    some (Window.z, x28)
  else
    ((window_Dist a0.Start a1).bind fun x29 =>
    bif decide (64 ≤ x29) then
      some (Window.z, 21)
    else
      ((chk (decide (¬ x29 < 0))).bind fun x30 =>
      some ({ a0 with Bits := IntKind.wrap .u64 ((BitVec.ofInt 64 a0.Bits ||| BitVec.ofInt 64 (IntKind.wrap .u64 (1 * 2 ^ (min (x29).toNat 64)))).toNat : Int) }, 0))))

def hotspotlaw19_SenderWhole_L7 (a3 : Int) (d16 : (Sender × Int × Int × Int)) : Nat → (Sender × Int) → Option (Ex Bool (Sender × Int))
  | 0, _ => none
  | n17 + 1, d21 =>
    bif decide (d21.2 < a3) then
      ((sender_Offer { d21.1 with Out := (d21.1).Out } Frame.z d16.2.2.2).bind fun x22 =>
      bif (x22.2.2 == 22) then
        some (Ex.go ({ d21.1 with Out := (d21.1).Out }, d21.2))
      else
        bif (x22.2.2 != 0) then
          some (Ex.ret false)
        else
          hotspotlaw19_SenderWhole_L7 a3 d16 n17 (x22.2.1, IntKind.wrap .i64 (d21.2 + 1)))
    else
      some (Ex.go ({ d21.1 with Out := (d21.1).Out }, d21.2))

def hotspotlaw19_SenderWhole_L12 (x23 : ((List Frame) × Sender × Int)) : Nat → (Window × Int × Int) → Option ((Window × Int))
  | 0, _ => none
  | n25 + 1, d27 =>
    bif ((decide (d27.2.2 < (x23.1.length : Int))) && (d27.2.1 == 0)) then
      ((idx x23.1 d27.2.2).bind fun x28 =>
      ((window_Mark d27.1 x28.Head.Seq).bind fun x29 =>
      hotspotlaw19_SenderWhole_L12 x23 n25 (x29.1, x29.2, IntKind.wrap .i64 (d27.2.2 + 1))))
    else
      some (d27.1, d27.2.1)

def hotspotlaw19_SenderWhole_L16 (x30 : ((List Int) × Sender × Int)) (a0 : Int) : Nat → (Int × Int) → Option (Ex Bool Int)
  | 0, _ => none
  | n36 + 1, d34 =>
    bif decide (d34.2 < (x30.1.length : Int)) then
      ((idx x30.1 d34.2).bind fun x35 =>
      ((window_Add a0 d34.1).bind fun x36 =>
      bif (x35 != x36) then
        some (Ex.ret false)
      else
        hotspotlaw19_SenderWhole_L16 x30 a0 n36 (IntKind.wrap .i64 (d34.1 + 1), IntKind.wrap .i64 (d34.2 + 1))))
    else
      some (Ex.go d34.1)

def hotspotlaw19_SenderWhole_L3 (a3 : Int) (a2 : Int) (a1 : Int) (a0 : Int) : Nat → (Sender × Int × Int × Int) → Option (Ex Bool (Sender × Int))
  | 0, _ => none
  | n12 + 1, d16 =>
    bif decide (d16.2.2.1 < a3) then
      ((
        ((
          hotspotlaw19_SenderWhole_L7 a3 d16 big ({ d16.1 with Out := (d16.1).Out }, d16.2.1)).bind fun o20 =>
        (o20.kE fun d19 =>
        ((sender_Pick { d19.1 with Out := (d19.1).Out } a2).bind fun x23 =>
        bif ((x23.2.2 != 0) || ((x23.1.length : Int) != (if (if IntKind.wrap .i64 (a3 - d16.2.2.1) < a1 then IntKind.wrap .i64 (a3 - d16.2.2.1) else a1) < a2 then (if IntKind.wrap .i64 (a3 - d16.2.2.1) < a1 then IntKind.wrap .i64 (a3 - d16.2.2.1) else a1) else a2))) then
          some (Ex.ret false)
        else
          ((sender_Start { d19.1 with Out := (d19.1).Out }).bind fun x24 =>
          ((window_New x24).bind fun x25 =>
          ((
            hotspotlaw19_SenderWhole_L12 x23 big (x25.1, x25.2, 0)).bind fun d26 =>
          ((sender_Acked x23.2.1 d26.1).bind fun x30 =>
          ((sender_Expire x30.2.1 d16.2.2.2).bind fun x31 =>
          bif ((((((d26.2 != 0) || (x30.2.2 != 0)) || (x31.2.2 != 0)) || ((x30.1.length : Int) != (x23.1.length : Int))) || (decide (0 < (x31.1.length : Int)))) || x31.2.1.Bar) then
            some (Ex.ret false)
          else
            ((
              hotspotlaw19_SenderWhole_L16 x30 a0 big (d16.2.2.1, 0)).bind fun o33 =>
            (o33.kE fun d32 =>
            some (Ex.go (x31.2.1, d19.2, d32))))))))))))).bind fun o18 =>
      (o18.kE fun d17 =>
      hotspotlaw19_SenderWhole_L3 a3 a2 a1 a0 n12 ({ d17.1 with Out := (d17.1).Out }, d17.2.1, d17.2.2, IntKind.wrap .i64 (d16.2.2.2 + 1))))
    else
      some (Ex.go ({ d16.1 with Out := (d16.1).Out }, d16.2.1))

def hotspotlaw19_SenderWhole (a0 : Int) (a1 : Int) (a2 : Int) (a3 : Int) : Option Bool :=
  (hotspotlaw19_alive.bind fun x12 =>
  bif (((((((((decide (a0 < 0)) || (decide (4095 < a0))) || (decide (a1 < 1))) || (decide (64 < a1))) || (decide (a2 < 1))) || (decide (64 < a2))) || (decide (a3 < 0))) || (decide (300 < a3))) || (!x12)) then
    some x12
  else
    ((hotspotlaw19_opened 2 a0 1 1073741824 a1).bind fun x13 =>
    bif (!x13.2) then
      some false
    else
      ((
        hotspotlaw19_SenderWhole_L3 a3 a2 a1 a0 big (x13.1, 0, 0, 0)).bind fun o15 =>
      (o15.k fun d14 =>
      ((
        bif (x12 && (d14.2 == a3)) then
          ((sender_Start { d14.1 with Out := (d14.1).Out }).bind fun x37 =>
          ((window_Add a0 a3).bind fun x38 =>
          some (x37 == x38)))
        else
          some false).bind fun x39 =>
      some x39)))))

def window_In (a0 : Int) (a1 : Int) (a2 : Int) : Option Bool :=
  ((window_number a0).bind fun x75 =>
  ((
    bif x75 then
      ((window_number a2).bind fun x76 =>
      some x76)
    else
      some false).bind fun x77 =>
  ((
    bif x77 then
      ((window_Dist a0 a2).bind fun x78 =>
      some (decide (x78 < a1)))
    else
      some false).bind fun x79 =>
  some x79)))

def hotspotlaw19_SenderOnce_L13 (d60 : (List Int × Int)) (x50 : (Hotspotref19_Told × Sender × Int)) : Nat → (Int × Int) → Option (Int)
  | 0, _ => none
  | n20 + 1, d64 =>
    bif decide (d64.2 < ((d60.1.length : Nat) : Int)) then
      ((idx d60.1 d64.2).bind fun x65 =>
      ((idx x50.1.Numbers d60.2).bind fun x66 =>
      bif (x65 == x66) then
        hotspotlaw19_SenderOnce_L13 d60 x50 n20 (d64.2, IntKind.wrap .i64 (d64.2 + 1))
      else
        hotspotlaw19_SenderOnce_L13 d60 x50 n20 (d64.1, IntKind.wrap .i64 (d64.2 + 1))))
    else
      some d64.1

def hotspotlaw19_SenderOnce_L9 (x50 : (Hotspotref19_Told × Sender × Int)) : Nat → (List Int × Int) → Option (Ex Bool (List Int))
  | 0, _ => none
  | n15 + 1, d60 =>
    bif decide (d60.2 < (x50.1.Numbers.length : Int)) then
      ((
        ((
          hotspotlaw19_SenderOnce_L13 d60 x50 big ((-1), 0)).bind fun d63 =>
        bif decide (d63 < 0) then
          some (Ex.ret false)
        else
          ((chk (decide (0 ≤ d63) && decide (d63 ≤ (d60.1.length : Int)))).bind fun x67 =>
          ((chk (decide (((d63).toNat) * 8 ≤ 140737488355328))).bind fun x68 =>
          ((chk (decide (0 ≤ IntKind.wrap .i64 (d63 + 1)) && decide (IntKind.wrap .i64 (d63 + 1) ≤ (d60.1.length : Int)))).bind fun x69 =>
          ((chk (decide (((d63).toNat + (d60.1.length - (IntKind.wrap .i64 (d63 + 1)).toNat)) * 8 ≤ 140737488355328))).bind fun x70 =>
          some (Ex.go ((List.take ((d63).toNat) d60.1) ++ (List.drop ((IntKind.wrap .i64 (d63 + 1)).toNat) d60.1))))))))).bind fun o62 =>
      (o62.kE fun d61 =>
      hotspotlaw19_SenderOnce_L9 x50 n15 (d61, IntKind.wrap .i64 (d60.2 + 1))))
    else
      some (Ex.go d60.1)

def hotspotlaw19_SenderOnce_L16 (d58 : (List Int)) (x50 : (Hotspotref19_Told × Sender × Int)) : Nat → Int → Option (Ex Bool Unit)
  | 0, _ => none
  | n32 + 1, d78 =>
    bif decide (d78 < ((d58.length : Nat) : Int)) then
      ((idx x50.2.1.Out d78).bind fun x79 =>
      ((idx d58 d78).bind fun x80 =>
      ((
        bif (x79.Frame.Head.Seq != x80) then
          some true
        else
          ((sender_Start x50.2.1).bind fun x81 =>
          ((window_In x81 x50.2.1.Size x80).bind fun x82 =>
          some (!x82)))).bind fun x83 =>
      bif x83 then
        some (Ex.ret false)
      else
        hotspotlaw19_SenderOnce_L16 d58 x50 n32 (IntKind.wrap .i64 (d78 + 1)))))
    else
      some (Ex.go ())

def hotspotlaw19_SenderOnce_L3 (a4 : (List Hotspotref19_Step)) (a1 : Int) : Nat → (Sender × Int × List Int × Int) → Option (Ex Bool Unit)
  | 0, _ => none
  | n5 + 1, d46 =>
    bif decide (d46.2.2.2 < (a4.length : Int)) then
      ((
        ((idx a4 d46.2.2.2).bind fun x49 =>
        ((hotspotlaw19_do { d46.1 with Out := (d46.1).Out } x49).bind fun x50 =>
        bif (x50.2.2 != 0) then
          some (Ex.go ({ d46.1 with Out := (d46.1).Out }, d46.2.1, d46.2.2.1))
        else
          ((
            bif (x49.Kind == 3) then
              ((
                bif ((x50.1.Frames.length : Int) != 1) then
                  some true
                else
                  ((idx x50.1.Frames 0).bind fun x53 =>
                  ((window_Add a1 d46.2.1).bind fun x54 =>
                  some (x53.Head.Seq != x54)))).bind fun x55 =>
              bif x55 then
                some (Ex.ret false)
              else
                ((idx x50.1.Frames 0).bind fun x56 =>
                ((chk (decide ((d46.2.2.1.length + 1) * 8 ≤ 140737488355328))).bind fun x57 =>
                some (Ex.go (IntKind.wrap .i64 (d46.2.1 + 1), (d46.2.2.1 ++ [x56.Head.Seq]))))))
            else
              some (Ex.go (d46.2.1, d46.2.2.1))).bind fun o52 =>
          (o52.kE fun d51 =>
          ((
            hotspotlaw19_SenderOnce_L9 x50 big (d51.2, 0)).bind fun o59 =>
          (o59.kE fun d58 =>
          ((
            bif ((((d58).length : Nat) : Int) != (x50.2.1.Out.length : Int)) then
              some true
            else
              ((sender_Check x50.2.1).bind fun x71 =>
              some (x71 != 0))).bind fun x72 =>
          ((
            bif x72 then
              some true
            else
              ((sender_Start x50.2.1).bind fun x73 =>
              ((window_Dist x73 x50.2.1.Next).bind fun x74 =>
              some (decide (x50.2.1.Size < x74))))).bind fun x75 =>
          bif x75 then
            some (Ex.ret false)
          else
            ((
              hotspotlaw19_SenderOnce_L16 d58 x50 big 0).bind fun o77 =>
            (o77.kE fun d76 =>
            some (Ex.go (x50.2.1, d51.1, d58))))))))))))).bind fun o48 =>
      (o48.kE fun d47 =>
      hotspotlaw19_SenderOnce_L3 a4 a1 n5 ({ d47.1 with Out := (d47.1).Out }, d47.2.1, d47.2.2, IntKind.wrap .i64 (d46.2.2.2 + 1))))
    else
      some (Ex.go ())

def hotspotlaw19_SenderOnce (a0 : Int) (a1 : Int) (a2 : Int) (a3 : Int) (a4 : (List Hotspotref19_Step)) : Option Bool :=
  (hotspotlaw19_alive.bind fun x40 =>
  ((sender_New a0 a1 a2 a3).bind fun x41 =>
  ((
    bif (x41.2 != 0) then
      some true
    else
      ((hotspotlaw19_great a4).bind fun x42 =>
      some x42)).bind fun x43 =>
  bif (x43 || (!x40)) then
    some x40
  else
    ((
      hotspotlaw19_SenderOnce_L3 a4 a1 big (x41.1, 0, [], 0)).bind fun o45 =>
    (o45.k fun d44 =>
    some x40)))))

def hotspotlaw19_SenderTries_L10 (x94 : (Hotspotref19_Told × Sender × Int)) (a2 : Int) : Nat → (List Int × List Int × Int) → Option (Ex Bool (List Int × List Int))
  | 0, _ => none
  | n24 + 1, d107 =>
    bif decide (d107.2.2 < (x94.1.Frames.length : Int)) then
      ((idx x94.1.Frames d107.2.2).bind fun x108 =>
      ((
        bif ((decide (x108.Head.Seq < 0)) || (decide (4095 < x108.Head.Seq))) then
          some true
        else
          ((idxA 4096 d107.1 x108.Head.Seq).bind fun x109 =>
          some (!(x108.Head.Retry == (decide (0 < x109)))))).bind fun x110 =>
      ((
        bif x110 then
          some true
        else
          ((idxA 4096 d107.2.1 x108.Head.Seq).bind fun x111 =>
          some (decide (0 < x111)))).bind fun x112 =>
      bif x112 then
        some (Ex.ret false)
      else
        ((idxA 4096 d107.1 x108.Head.Seq).bind fun x113 =>
        ((idxA 4096 d107.2.1 x108.Head.Seq).bind fun x114 =>
        bif decide (a2 < (IntKind.wrap .i64 (x113 + 1))) then
          some (Ex.ret false)
        else
          hotspotlaw19_SenderTries_L10 x94 a2 n24 ((d107.1.set ((x108.Head.Seq).toNat) (IntKind.wrap .i64 (x113 + 1))), (d107.2.1.set ((x108.Head.Seq).toNat) (IntKind.wrap .i64 (x114 + 1))), IntKind.wrap .i64 (d107.2.2 + 1)))))))
    else
      some (Ex.go (d107.1, d107.2.1))

def hotspotlaw19_SenderTries_L3 (a4 : (List Hotspotref19_Step)) (a2 : Int) : Nat → (Sender × List Int × List Int × Int) → Option (Ex Bool Unit)
  | 0, _ => none
  | n5 + 1, d90 =>
    bif decide (d90.2.2.2 < (a4.length : Int)) then
      ((
        ((idx a4 d90.2.2.2).bind fun x93 =>
        ((hotspotlaw19_do { d90.1 with Out := (d90.1).Out } x93).bind fun x94 =>
        bif (x94.2.2 != 0) then
          some (Ex.go ({ d90.1 with Out := (d90.1).Out }, d90.2.1, d90.2.2.1))
        else
          ((
            bif (x93.Kind == 3) then
              ((
                bif ((x94.1.Frames.length : Int) != 1) then
                  some true
                else
                  ((idx x94.1.Frames 0).bind fun x97 =>
                  some (decide (x97.Head.Seq < 0)))).bind fun x98 =>
              ((
                bif x98 then
                  some true
                else
                  ((idx x94.1.Frames 0).bind fun x99 =>
                  some (decide (4095 < x99.Head.Seq)))).bind fun x100 =>
              bif x100 then
                some (Ex.ret false)
              else
                ((idx x94.1.Frames 0).bind fun x101 =>
                ((idxA 4096 d90.2.1 x101.Head.Seq).bind fun x102 =>
                some (Ex.go ((d90.2.1.set ((x101.Head.Seq).toNat) 0), d90.2.2.1))))))
            else
              ((
                bif (x93.Kind == 5) then
                  some (x93.Kind == 5)
                else
                  bif (x93.Kind == 6) then
                    some (x93.Kind == 6)
                  else
                    some (x93.Kind == 2)).bind fun d103 =>
              bif d103 then
                ((chk (decide (d90.2.2.1.length = 4096))).bind fun x104 =>
                some (Ex.go (d90.2.1, (zarr 4096 0))))
              else
                bif (x93.Kind == 4) then
                  ((
                    hotspotlaw19_SenderTries_L10 x94 a2 big (d90.2.1, d90.2.2.1, 0)).bind fun o106 =>
                  (o106.kE fun d105 =>
                  some (Ex.go (d105.1, d105.2))))
                else
                  some (Ex.go (d90.2.1, d90.2.2.1)))).bind fun o96 =>
          (o96.kE fun d95 =>
          some (Ex.go (x94.2.1, d95.1, d95.2))))))).bind fun o92 =>
      (o92.kE fun d91 =>
      hotspotlaw19_SenderTries_L3 a4 a2 n5 ({ d91.1 with Out := (d91.1).Out }, d91.2.1, d91.2.2, IntKind.wrap .i64 (d90.2.2.2 + 1))))
    else
      some (Ex.go ())

def hotspotlaw19_SenderTries (a0 : Int) (a1 : Int) (a2 : Int) (a3 : Int) (a4 : (List Hotspotref19_Step)) : Option Bool :=
  (hotspotlaw19_alive.bind fun x84 =>
  ((sender_New a0 a1 a2 a3).bind fun x85 =>
  ((
    bif (x85.2 != 0) then
      some true
    else
      ((hotspotlaw19_great a4).bind fun x86 =>
      some x86)).bind fun x87 =>
  bif (x87 || (!x84)) then
    some x84
  else
    ((
      hotspotlaw19_SenderTries_L3 a4 a2 big (x85.1, (zarr 4096 0), (zarr 4096 0), 0)).bind fun o89 =>
    (o89.k fun d88 =>
    some x84)))))

end

end Go.AX.Z.TS

/-! (TSF) -/

namespace Go.AX.Z.TS
open Go.AX Go.Proofs

/-- The types that are compared by their cells. -/
def tab : List (TypeId × List (Option IntKind)) :=
  [(67, [some .i64, some .i64, some .i64, some .i64])]

noncomputable def K : Ctx := ⟨Try.prog, fun _ => none, tabK tab⟩

theorem ag22 : agB K.P 22 = some false := by kernel_rfl
theorem ag24 : agB K.P 24 = some true := by kernel_rfl
theorem ag29 : agB K.P 29 = some true := by kernel_rfl
theorem ag3 : agB K.P 3 = some false := by kernel_rfl
theorem ag30 : agB K.P 30 = some false := by kernel_rfl
theorem ag32 : agB K.P 32 = some true := by kernel_rfl
theorem ag4 : agB K.P 4 = some false := by kernel_rfl
theorem ag48 : agB K.P 48 = some false := by kernel_rfl
theorem ag5 : agB K.P 5 = some false := by kernel_rfl
theorem ag51 : agB K.P 51 = some false := by kernel_rfl
theorem ag53 : agB K.P 53 = some true := by kernel_rfl
theorem ag57 : agB K.P 57 = some false := by kernel_rfl
theorem ag67 : agB K.P 67 = some true := by kernel_rfl
theorem ag69 : agB K.P 69 = some true := by kernel_rfl
theorem ag73 : agB K.P 73 = some true := by kernel_rfl
theorem ag75 : agB K.P 75 = some true := by kernel_rfl
theorem ag78 : agB K.P 78 = some true := by kernel_rfl
theorem ag95 : agB K.P 95 = some false := by kernel_rfl
theorem ar65 : arE K.P 65 = some (4096, 3) := by kernel_rfl
theorem bl24 : bldS K.P 24 = some [(0, 1), (1, 1), (2, 1), (3, 1), (4, 1), (5, 1), (6, 1), (7, 1), (8, 1)] := by kernel_rfl
theorem bl32 : bldS K.P 32 = some [(0, 40), (40, 1)] := by kernel_rfl
theorem bl53 : bldS K.P 53 = some [(0, 1), (1, 1)] := by kernel_rfl
theorem bl65 : bldS K.P 65 = none := by kernel_rfl
theorem bl67 : bldS K.P 67 = some [(0, 1), (1, 1), (2, 1), (3, 1)] := by kernel_rfl
theorem bl73 : bldS K.P 73 = some [(0, 1), (1, 1), (2, 1), (3, 1)] := by kernel_rfl
theorem bl78 : bldS K.P 78 = some [(0, 1), (1, 1), (2, 1), (3, 41)] := by kernel_rfl
theorem by3 : byOf K.P 3 = some 8 := by kernel_rfl
theorem by32 : byOf K.P 32 = some 104 := by kernel_rfl
theorem by5 : byOf K.P 5 = some 1 := by kernel_rfl
theorem by75 : byOf K.P 75 = some 168 := by kernel_rfl
theorem by78 : byOf K.P 78 = some 128 := by kernel_rfl
theorem ek67 : K.eqk 67 = some [some .i64, some .i64, some .i64, some .i64] := by kernel_rfl
theorem el22 : elS K.P 22 = some 78 := by kernel_rfl
theorem el30 : elS K.P 30 = some 5 := by kernel_rfl
theorem el48 : elS K.P 48 = some 32 := by kernel_rfl
theorem el57 : elS K.P 57 = some 3 := by kernel_rfl
theorem el63 : elS K.P 63 = some 75 := by kernel_rfl
theorem fl24_0 : flE K.P 24 0 = some (0, 3) := by kernel_rfl
theorem fl24_1 : flE K.P 24 1 = some (1, 5) := by kernel_rfl
theorem fl24_2 : flE K.P 24 2 = some (2, 3) := by kernel_rfl
theorem fl24_3 : flE K.P 24 3 = some (3, 3) := by kernel_rfl
theorem fl24_4 : flE K.P 24 4 = some (4, 3) := by kernel_rfl
theorem fl24_5 : flE K.P 24 5 = some (5, 3) := by kernel_rfl
theorem fl24_6 : flE K.P 24 6 = some (6, 3) := by kernel_rfl
theorem fl24_7 : flE K.P 24 7 = some (7, 22) := by kernel_rfl
theorem fl24_8 : flE K.P 24 8 = some (8, 4) := by kernel_rfl
theorem fl29_14 : flE K.P 29 14 = some (34, 3) := by kernel_rfl
theorem fl29_16 : flE K.P 29 16 = some (36, 3) := by kernel_rfl
theorem fl29_5 : flE K.P 29 5 = some (5, 4) := by kernel_rfl
theorem fl32_0 : flE K.P 32 0 = some (0, 29) := by kernel_rfl
theorem fl32_1 : flE K.P 32 1 = some (40, 30) := by kernel_rfl
theorem fl53_0 : flE K.P 53 0 = some (0, 3) := by kernel_rfl
theorem fl53_1 : flE K.P 53 1 = some (1, 51) := by kernel_rfl
theorem fl67_0 : flE K.P 67 0 = some (0, 3) := by kernel_rfl
theorem fl67_1 : flE K.P 67 1 = some (1, 3) := by kernel_rfl
theorem fl67_2 : flE K.P 67 2 = some (2, 3) := by kernel_rfl
theorem fl67_3 : flE K.P 67 3 = some (3, 3) := by kernel_rfl
theorem fl69_0 : flE K.P 69 0 = some (0, 67) := by kernel_rfl
theorem fl69_1 : flE K.P 69 1 = some (4, 48) := by kernel_rfl
theorem fl69_2 : flE K.P 69 2 = some (5, 57) := by kernel_rfl
theorem fl73_0 : flE K.P 73 0 = some (0, 3) := by kernel_rfl
theorem fl73_1 : flE K.P 73 1 = some (1, 3) := by kernel_rfl
theorem fl73_2 : flE K.P 73 2 = some (2, 3) := by kernel_rfl
theorem fl73_3 : flE K.P 73 3 = some (3, 3) := by kernel_rfl
theorem fl75_0 : flE K.P 75 0 = some (0, 3) := by kernel_rfl
theorem fl75_1 : flE K.P 75 1 = some (1, 3) := by kernel_rfl
theorem fl75_2 : flE K.P 75 2 = some (2, 32) := by kernel_rfl
theorem fl75_3 : flE K.P 75 3 = some (43, 53) := by kernel_rfl
theorem fl75_4 : flE K.P 75 4 = some (45, 73) := by kernel_rfl
theorem fl78_0 : flE K.P 78 0 = some (0, 3) := by kernel_rfl
theorem fl78_1 : flE K.P 78 1 = some (1, 3) := by kernel_rfl
theorem fl78_2 : flE K.P 78 2 = some (2, 4) := by kernel_rfl
theorem fl78_3 : flE K.P 78 3 = some (3, 32) := by kernel_rfl
theorem in3 : inK K.P 3 = some .i64 := by kernel_rfl
theorem in51 : inK K.P 51 = some .u64 := by kernel_rfl
theorem isb4 : isBl K.P 4 = true := by kernel_rfl
theorem sz22 : szOf K.P 22 = some 1 := by kernel_rfl
theorem sz24 : szOf K.P 24 = some 9 := by kernel_rfl
theorem sz29 : szOf K.P 29 = some 40 := by kernel_rfl
theorem sz3 : szOf K.P 3 = some 1 := by kernel_rfl
theorem sz30 : szOf K.P 30 = some 1 := by kernel_rfl
theorem sz32 : szOf K.P 32 = some 41 := by kernel_rfl
theorem sz4 : szOf K.P 4 = some 1 := by kernel_rfl
theorem sz48 : szOf K.P 48 = some 1 := by kernel_rfl
theorem sz5 : szOf K.P 5 = some 1 := by kernel_rfl
theorem sz51 : szOf K.P 51 = some 1 := by kernel_rfl
theorem sz53 : szOf K.P 53 = some 2 := by kernel_rfl
theorem sz57 : szOf K.P 57 = some 1 := by kernel_rfl
theorem sz65 : szOf K.P 65 = some 4096 := by kernel_rfl
theorem sz67 : szOf K.P 67 = some 4 := by kernel_rfl
theorem sz69 : szOf K.P 69 = some 6 := by kernel_rfl
theorem sz73 : szOf K.P 73 = some 4 := by kernel_rfl
theorem sz75 : szOf K.P 75 = some 49 := by kernel_rfl
theorem sz78 : szOf K.P 78 = some 44 := by kernel_rfl
theorem sz95 : szOf K.P 95 = some 1 := by kernel_rfl
theorem un22 : K.P.underlying 22 = some (.slice 78) := by kernel_rfl
theorem un3 : K.P.underlying 3 = some (.int .i64) := by kernel_rfl
theorem un30 : K.P.underlying 30 = some (.slice 5) := by kernel_rfl
theorem un48 : K.P.underlying 48 = some (.slice 32) := by kernel_rfl
theorem un51 : K.P.underlying 51 = some (.int .u64) := by kernel_rfl
theorem un57 : K.P.underlying 57 = some (.slice 3) := by kernel_rfl
theorem un63 : K.P.underlying 63 = some (.slice 75) := by kernel_rfl
theorem un65 : K.P.underlying 65 = some (.array 4096 3) := by kernel_rfl
theorem ze24 : zer K.P 24 = some (e_Sender Sender.z vnil) := by kernel_rfl
theorem ze3 : zer K.P 3 = some [.v (.int .i64 0)] := by kernel_rfl
theorem ze32 : zer K.P 32 = some (e_Frame Frame.z vnil) := by kernel_rfl
theorem ze5 : zer K.P 5 = some [.v (.int .u8 0)] := by kernel_rfl
theorem ze53 : zer K.P 53 = some (e_Window Window.z) := by kernel_rfl
theorem ze57 : zer K.P 57 = some [.v (.slice none 0 0)] := by kernel_rfl
theorem ze65 : zer K.P 65 = some ((List.map vi (zarr 4096 0))) := zer_arrZ (Value.int .i64) 4096 0 (by kernel_rfl) rfl
theorem ze67 : zer K.P 67 = some (e_BlockAsk BlockAsk.z) := by kernel_rfl
theorem ze69 : zer K.P 69 = some (e_Hotspotref19_Told Hotspotref19_Told.z vnil vnil) := by kernel_rfl
theorem ze73 : zer K.P 73 = some (e_BlockAnswer BlockAnswer.z) := by kernel_rfl
theorem ze75 : zer K.P 75 = some (e_Hotspotref19_Step Hotspotref19_Step.z vnil) := by kernel_rfl
theorem ze78 : zer K.P 78 = some (e_Unacked Unacked.z vnil) := by kernel_rfl
attribute [go_sem] ag22 ag24 ag29 ag3 ag30 ag32 ag4 ag48 ag5 ag51 ag53 ag57 ag67 ag69 ag73 ag75 ag78 ag95 ar65 bl24 bl32 bl53 bl65 bl67 bl73 bl78 by3 by32 by5 by75 by78 ek67 el22 el30 el48 el57 el63 fl24_0 fl24_1 fl24_2 fl24_3 fl24_4 fl24_5 fl24_6 fl24_7 fl24_8 fl29_14 fl29_16 fl29_5 fl32_0 fl32_1 fl53_0 fl53_1 fl67_0 fl67_1 fl67_2 fl67_3 fl69_0 fl69_1 fl69_2 fl73_0 fl73_1 fl73_2 fl73_3 fl75_0 fl75_1 fl75_2 fl75_3 fl75_4 fl78_0 fl78_1 fl78_2 fl78_3 in3 in51 isb4 sz22 sz24 sz29 sz3 sz30 sz32 sz4 sz48 sz5 sz51 sz53 sz57 sz65 sz67 sz69 sz73 sz75 sz78 sz95 un22 un3 un30 un48 un51 un57 un63 un65 ze24 ze3 ze32 ze5 ze53 ze57 ze65 ze67 ze69 ze73 ze75 ze78
theorem mixed : K.P.follows .mixedOrders = true := by kernel_rfl
theorem hC : COk K := ⟨EqOk.of_tab (tab := tab) rfl (by kernel_rfl), mixed⟩
theorem rs35 : Try.f35.results = #[.tmp 6] := rfl
theorem rs34 : Try.f34.results = #[.tmp 2] := rfl
theorem rs27 : Try.f27.results = #[.tmp 4] := rfl
theorem rs15 : Try.f15.results = #[.tmp 2] := rfl
theorem rs9 : Try.f9.results = #[.cell 8 24, .tmp 9] := rfl
theorem rs40 : Try.f40.results = #[.cell 2 32] := rfl
theorem rs53 : Try.f53.results = #[.cell 2 24] := rfl
theorem rs36 : Try.f36.results = #[.cell 4 67, .cell 5 24, .tmp 6] := rfl
theorem rs37 : Try.f37.results = #[.cell 4 24, .tmp 5] := rfl
theorem rs39 : Try.f39.results = #[.cell 4 24, .tmp 5] := rfl
theorem rs24 : Try.f24.results = #[.tmp 4] := rfl
theorem rs18 : Try.f18.results = #[.cell 6 32, .cell 7 24, .tmp 8] := rfl
theorem rs19 : Try.f19.results = #[.tmp 4, .cell 5 24, .tmp 6] := rfl
theorem rs41 : Try.f41.results = #[.tmp 2] := rfl
theorem rs43 : Try.f43.results = #[.tmp 2] := rfl
theorem rs42 : Try.f42.results = #[.tmp 4] := rfl
theorem rs46 : Try.f46.results = #[.tmp 4] := rfl
theorem rs45 : Try.f45.results = #[.tmp 3] := rfl
theorem rs55 : Try.f55.results = #[.tmp 4] := rfl
theorem rs56 : Try.f56.results = #[.tmp 4] := rfl
theorem rs54 : Try.f54.results = #[.tmp 4] := rfl
theorem rs44 : Try.f44.results = #[.cell 4 57] := rfl
theorem rs47 : Try.f47.results = #[] := rfl
theorem rs22 : Try.f22.results = #[.tmp 4, .cell 5 24, .tmp 6] := rfl
theorem rs38 : Try.f38.results = #[.tmp 4] := rfl
theorem rs14 : Try.f14.results = #[.tmp 2] := rfl
theorem rs16 : Try.f16.results = #[.tmp 0] := rfl
theorem rs29 : Try.f29.results = #[.tmp 2] := rfl
theorem rs8 : Try.f8.results = #[.tmp 4] := rfl
theorem rs25 : Try.f25.results = #[.tmp 2] := rfl
theorem rs49 : Try.f49.results = #[.tmp 2, .cell 3 24, .tmp 4] := rfl
theorem rs50 : Try.f50.results = #[.cell 2 24, .tmp 3] := rfl
theorem rs48 : Try.f48.results = #[.tmp 4] := rfl
theorem rs23 : Try.f23.results = #[.tmp 4, .cell 5 24, .tmp 6] := rfl
theorem rs51 : Try.f51.results = #[.cell 2 24, .tmp 3] := rfl
theorem rs26 : Try.f26.results = #[.cell 4 69, .cell 5 24, .tmp 6] := rfl
theorem rs6 : Try.f6.results = #[.tmp 10] := rfl
theorem rs17 : Try.f17.results = #[.cell 10 24, .tmp 11] := rfl
theorem rs20 : Try.f20.results = #[.cell 2 53, .tmp 3] := rfl
theorem rs21 : Try.f21.results = #[.cell 4 53, .tmp 5] := rfl
theorem rs4 : Try.f4.results = #[.tmp 8] := rfl
theorem rs28 : Try.f28.results = #[.tmp 6] := rfl
theorem rs7 : Try.f7.results = #[.tmp 10] := rfl
theorem rs5 : Try.f5.results = #[.tmp 10] := rfl

end Go.AX.Z.TS
