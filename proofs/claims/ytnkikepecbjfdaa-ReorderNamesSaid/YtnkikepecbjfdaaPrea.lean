/- A part of the proof: the types, the facts of the program and the functions, read plainly. -/
import Derived.Test.YtnkikepecbjfdaaCorec
import Derived.Test.YtnkikepecbjfdaaProg
import Derived.KernelRfl
set_option linter.unusedVariables false
set_option linter.unusedSimpArgs false

/-! (TRS) -/

set_option linter.unusedSimpArgs false
set_option linter.unusedVariables false
namespace Go.AX.Z.TR
open Go.AX
structure Addr where
  a0 : Int
  a1 : Int
  a2 : Int
  a3 : Int
  a4 : Int
  a5 : Int
  deriving DecidableEq

def Addr.z : Addr := ⟨0, 0, 0, 0, 0, 0⟩

def e_Addr (x : Addr) : List AV := [vu x.a0, vu x.a1, vu x.a2, vu x.a3, vu x.a4, vu x.a5]

theorem e_Addr_len (x : Addr) : (e_Addr x).length = 6 := by rfl
theorem e_Addr_sub (x : Addr) : sub? (e_Addr x) 0 6 = some (e_Addr x) := by rfl
theorem e_Addr_take (x : Addr) : (e_Addr x).take 6 = (e_Addr x) := by rfl
theorem e_Addr_all (x : Addr) (y : Addr) : putAt (e_Addr x) 0 (e_Addr y) = e_Addr y := by rfl
theorem e_Addr_g_a0 (x : Addr) : (e_Addr x)[0]? = some (vu x.a0) := by rfl
theorem e_Addr_s_a0 (x : Addr) (v : Int) : (e_Addr x).set 0 (vu v) = e_Addr { x with a0 := v } := by rfl
theorem e_Addr_g_a1 (x : Addr) : (e_Addr x)[1]? = some (vu x.a1) := by rfl
theorem e_Addr_s_a1 (x : Addr) (v : Int) : (e_Addr x).set 1 (vu v) = e_Addr { x with a1 := v } := by rfl
theorem e_Addr_g_a2 (x : Addr) : (e_Addr x)[2]? = some (vu x.a2) := by rfl
theorem e_Addr_s_a2 (x : Addr) (v : Int) : (e_Addr x).set 2 (vu v) = e_Addr { x with a2 := v } := by rfl
theorem e_Addr_g_a3 (x : Addr) : (e_Addr x)[3]? = some (vu x.a3) := by rfl
theorem e_Addr_s_a3 (x : Addr) (v : Int) : (e_Addr x).set 3 (vu v) = e_Addr { x with a3 := v } := by rfl
theorem e_Addr_g_a4 (x : Addr) : (e_Addr x)[4]? = some (vu x.a4) := by rfl
theorem e_Addr_s_a4 (x : Addr) (v : Int) : (e_Addr x).set 4 (vu v) = e_Addr { x with a4 := v } := by rfl
theorem e_Addr_g_a5 (x : Addr) : (e_Addr x)[5]? = some (vu x.a5) := by rfl
theorem e_Addr_s_a5 (x : Addr) (v : Int) : (e_Addr x).set 5 (vu v) = e_Addr { x with a5 := v } := by rfl
theorem e_Addr_fz (x : Addr) (o : Nat → Ob) (n : Nat) : (e_Addr x).map (fz o (n + 1)) = e_Addr x := by rfl
theorem e_Addr_reach (x : Addr) (o : Nat → Ob) (n : Nat) : (e_Addr x).flatMap (reach o (n + 1)) = [] := by
  simp only [e_Addr, List.cons_append, List.nil_append, List.append_nil, List.flatMap_cons, List.flatMap_nil, reach_v]
theorem f_Addr (x : Addr) (o : Nat → Ob) (n : Nat) : (e_Addr x).map (fz o (n + 1)) = e_Addr x := by simp only [e_Addr_fz]
theorem q_Addr (x : Addr) (o : Nat → Ob) (n : Nat) : (e_Addr x).flatMap (reach o (n + 1)) = [] := by simp only [e_Addr_reach, List.append_nil]
attribute [go_sem] e_Addr_len e_Addr_sub e_Addr_take e_Addr_all e_Addr_g_a0 e_Addr_s_a0 e_Addr_g_a1 e_Addr_s_a1 e_Addr_g_a2 e_Addr_s_a2 e_Addr_g_a3 e_Addr_s_a3 e_Addr_g_a4 e_Addr_s_a4 e_Addr_g_a5 e_Addr_s_a5 e_Addr_fz e_Addr_reach f_Addr q_Addr

structure Header where
  Kind : Int
  Sub : Int
  ToDs : Bool
  FromDs : Bool
  More : Bool
  Retry : Bool
  Sleep : Bool
  MoreData : Bool
  Protected : Bool
  Duration : Int
  A1 : Addr
  A2 : Addr
  A3 : Addr
  A4 : Addr
  Seq : Int
  Frag : Int
  Tid : Int
  Ack : Int
  Amsdu : Bool
  Eosp : Bool
  deriving DecidableEq

def Header.z : Header := ⟨0, 0, false, false, false, false, false, false, false, 0, Addr.z, Addr.z, Addr.z, Addr.z, 0, 0, 0, 0, false, false⟩

def e_Header (x : Header) : List AV := [vu x.Kind, vu x.Sub, vb x.ToDs, vb x.FromDs, vb x.More, vb x.Retry, vb x.Sleep, vb x.MoreData, vb x.Protected, vi x.Duration] ++ (e_Addr x.A1) ++ (e_Addr x.A2) ++ (e_Addr x.A3) ++ (e_Addr x.A4) ++ [vi x.Seq, vi x.Frag, vi x.Tid, vu x.Ack, vb x.Amsdu, vb x.Eosp]

theorem e_Header_len (x : Header) : (e_Header x).length = 40 := by rfl
theorem e_Header_sub (x : Header) : sub? (e_Header x) 0 40 = some (e_Header x) := by rfl
theorem e_Header_take (x : Header) : (e_Header x).take 40 = (e_Header x) := by rfl
theorem e_Header_all (x : Header) (y : Header) : putAt (e_Header x) 0 (e_Header y) = e_Header y := by rfl
theorem e_Header_g_Kind (x : Header) : (e_Header x)[0]? = some (vu x.Kind) := by rfl
theorem e_Header_s_Kind (x : Header) (v : Int) : (e_Header x).set 0 (vu v) = e_Header { x with Kind := v } := by rfl
theorem e_Header_g_Sub (x : Header) : (e_Header x)[1]? = some (vu x.Sub) := by rfl
theorem e_Header_s_Sub (x : Header) (v : Int) : (e_Header x).set 1 (vu v) = e_Header { x with Sub := v } := by rfl
theorem e_Header_g_Duration (x : Header) : (e_Header x)[9]? = some (vi x.Duration) := by rfl
theorem e_Header_s_Duration (x : Header) (v : Int) : (e_Header x).set 9 (vi v) = e_Header { x with Duration := v } := by rfl
theorem e_Header_g_A1_a0 (x : Header) : (e_Header x)[10]? = some (vu x.A1.a0) := by rfl
theorem e_Header_s_A1_a0 (x : Header) (v : Int) : (e_Header x).set 10 (vu v) = e_Header { x with A1.a0 := v } := by rfl
theorem e_Header_g_A1_a1 (x : Header) : (e_Header x)[11]? = some (vu x.A1.a1) := by rfl
theorem e_Header_s_A1_a1 (x : Header) (v : Int) : (e_Header x).set 11 (vu v) = e_Header { x with A1.a1 := v } := by rfl
theorem e_Header_g_A1_a2 (x : Header) : (e_Header x)[12]? = some (vu x.A1.a2) := by rfl
theorem e_Header_s_A1_a2 (x : Header) (v : Int) : (e_Header x).set 12 (vu v) = e_Header { x with A1.a2 := v } := by rfl
theorem e_Header_g_A1_a3 (x : Header) : (e_Header x)[13]? = some (vu x.A1.a3) := by rfl
theorem e_Header_s_A1_a3 (x : Header) (v : Int) : (e_Header x).set 13 (vu v) = e_Header { x with A1.a3 := v } := by rfl
theorem e_Header_g_A1_a4 (x : Header) : (e_Header x)[14]? = some (vu x.A1.a4) := by rfl
theorem e_Header_s_A1_a4 (x : Header) (v : Int) : (e_Header x).set 14 (vu v) = e_Header { x with A1.a4 := v } := by rfl
theorem e_Header_g_A1_a5 (x : Header) : (e_Header x)[15]? = some (vu x.A1.a5) := by rfl
theorem e_Header_s_A1_a5 (x : Header) (v : Int) : (e_Header x).set 15 (vu v) = e_Header { x with A1.a5 := v } := by rfl
theorem e_Header_g_A2_a0 (x : Header) : (e_Header x)[16]? = some (vu x.A2.a0) := by rfl
theorem e_Header_s_A2_a0 (x : Header) (v : Int) : (e_Header x).set 16 (vu v) = e_Header { x with A2.a0 := v } := by rfl
theorem e_Header_g_A2_a1 (x : Header) : (e_Header x)[17]? = some (vu x.A2.a1) := by rfl
theorem e_Header_s_A2_a1 (x : Header) (v : Int) : (e_Header x).set 17 (vu v) = e_Header { x with A2.a1 := v } := by rfl
theorem e_Header_g_A2_a2 (x : Header) : (e_Header x)[18]? = some (vu x.A2.a2) := by rfl
theorem e_Header_s_A2_a2 (x : Header) (v : Int) : (e_Header x).set 18 (vu v) = e_Header { x with A2.a2 := v } := by rfl
theorem e_Header_g_A2_a3 (x : Header) : (e_Header x)[19]? = some (vu x.A2.a3) := by rfl
theorem e_Header_s_A2_a3 (x : Header) (v : Int) : (e_Header x).set 19 (vu v) = e_Header { x with A2.a3 := v } := by rfl
theorem e_Header_g_A2_a4 (x : Header) : (e_Header x)[20]? = some (vu x.A2.a4) := by rfl
theorem e_Header_s_A2_a4 (x : Header) (v : Int) : (e_Header x).set 20 (vu v) = e_Header { x with A2.a4 := v } := by rfl
theorem e_Header_g_A2_a5 (x : Header) : (e_Header x)[21]? = some (vu x.A2.a5) := by rfl
theorem e_Header_s_A2_a5 (x : Header) (v : Int) : (e_Header x).set 21 (vu v) = e_Header { x with A2.a5 := v } := by rfl
theorem e_Header_g_A3_a0 (x : Header) : (e_Header x)[22]? = some (vu x.A3.a0) := by rfl
theorem e_Header_s_A3_a0 (x : Header) (v : Int) : (e_Header x).set 22 (vu v) = e_Header { x with A3.a0 := v } := by rfl
theorem e_Header_g_A3_a1 (x : Header) : (e_Header x)[23]? = some (vu x.A3.a1) := by rfl
theorem e_Header_s_A3_a1 (x : Header) (v : Int) : (e_Header x).set 23 (vu v) = e_Header { x with A3.a1 := v } := by rfl
theorem e_Header_g_A3_a2 (x : Header) : (e_Header x)[24]? = some (vu x.A3.a2) := by rfl
theorem e_Header_s_A3_a2 (x : Header) (v : Int) : (e_Header x).set 24 (vu v) = e_Header { x with A3.a2 := v } := by rfl
theorem e_Header_g_A3_a3 (x : Header) : (e_Header x)[25]? = some (vu x.A3.a3) := by rfl
theorem e_Header_s_A3_a3 (x : Header) (v : Int) : (e_Header x).set 25 (vu v) = e_Header { x with A3.a3 := v } := by rfl
theorem e_Header_g_A3_a4 (x : Header) : (e_Header x)[26]? = some (vu x.A3.a4) := by rfl
theorem e_Header_s_A3_a4 (x : Header) (v : Int) : (e_Header x).set 26 (vu v) = e_Header { x with A3.a4 := v } := by rfl
theorem e_Header_g_A3_a5 (x : Header) : (e_Header x)[27]? = some (vu x.A3.a5) := by rfl
theorem e_Header_s_A3_a5 (x : Header) (v : Int) : (e_Header x).set 27 (vu v) = e_Header { x with A3.a5 := v } := by rfl
theorem e_Header_g_A4_a0 (x : Header) : (e_Header x)[28]? = some (vu x.A4.a0) := by rfl
theorem e_Header_s_A4_a0 (x : Header) (v : Int) : (e_Header x).set 28 (vu v) = e_Header { x with A4.a0 := v } := by rfl
theorem e_Header_g_A4_a1 (x : Header) : (e_Header x)[29]? = some (vu x.A4.a1) := by rfl
theorem e_Header_s_A4_a1 (x : Header) (v : Int) : (e_Header x).set 29 (vu v) = e_Header { x with A4.a1 := v } := by rfl
theorem e_Header_g_A4_a2 (x : Header) : (e_Header x)[30]? = some (vu x.A4.a2) := by rfl
theorem e_Header_s_A4_a2 (x : Header) (v : Int) : (e_Header x).set 30 (vu v) = e_Header { x with A4.a2 := v } := by rfl
theorem e_Header_g_A4_a3 (x : Header) : (e_Header x)[31]? = some (vu x.A4.a3) := by rfl
theorem e_Header_s_A4_a3 (x : Header) (v : Int) : (e_Header x).set 31 (vu v) = e_Header { x with A4.a3 := v } := by rfl
theorem e_Header_g_A4_a4 (x : Header) : (e_Header x)[32]? = some (vu x.A4.a4) := by rfl
theorem e_Header_s_A4_a4 (x : Header) (v : Int) : (e_Header x).set 32 (vu v) = e_Header { x with A4.a4 := v } := by rfl
theorem e_Header_g_A4_a5 (x : Header) : (e_Header x)[33]? = some (vu x.A4.a5) := by rfl
theorem e_Header_s_A4_a5 (x : Header) (v : Int) : (e_Header x).set 33 (vu v) = e_Header { x with A4.a5 := v } := by rfl
theorem e_Header_g_Seq (x : Header) : (e_Header x)[34]? = some (vi x.Seq) := by rfl
theorem e_Header_s_Seq (x : Header) (v : Int) : (e_Header x).set 34 (vi v) = e_Header { x with Seq := v } := by rfl
theorem e_Header_g_Frag (x : Header) : (e_Header x)[35]? = some (vi x.Frag) := by rfl
theorem e_Header_s_Frag (x : Header) (v : Int) : (e_Header x).set 35 (vi v) = e_Header { x with Frag := v } := by rfl
theorem e_Header_g_Tid (x : Header) : (e_Header x)[36]? = some (vi x.Tid) := by rfl
theorem e_Header_s_Tid (x : Header) (v : Int) : (e_Header x).set 36 (vi v) = e_Header { x with Tid := v } := by rfl
theorem e_Header_g_Ack (x : Header) : (e_Header x)[37]? = some (vu x.Ack) := by rfl
theorem e_Header_s_Ack (x : Header) (v : Int) : (e_Header x).set 37 (vu v) = e_Header { x with Ack := v } := by rfl
theorem e_Header_d_A1 (x : Header) : sub? (e_Header x) 10 6 = some (e_Addr x.A1) := by rfl
theorem e_Header_p_A1 (x : Header) (v : Addr) : putAt (e_Header x) 10 (e_Addr v) = e_Header { x with A1 := v } := by rfl
theorem e_Header_d_A2 (x : Header) : sub? (e_Header x) 16 6 = some (e_Addr x.A2) := by rfl
theorem e_Header_p_A2 (x : Header) (v : Addr) : putAt (e_Header x) 16 (e_Addr v) = e_Header { x with A2 := v } := by rfl
theorem e_Header_d_A3 (x : Header) : sub? (e_Header x) 22 6 = some (e_Addr x.A3) := by rfl
theorem e_Header_p_A3 (x : Header) (v : Addr) : putAt (e_Header x) 22 (e_Addr v) = e_Header { x with A3 := v } := by rfl
theorem e_Header_d_A4 (x : Header) : sub? (e_Header x) 28 6 = some (e_Addr x.A4) := by rfl
theorem e_Header_p_A4 (x : Header) (v : Addr) : putAt (e_Header x) 28 (e_Addr v) = e_Header { x with A4 := v } := by rfl
theorem e_Header_fz (x : Header) (o : Nat → Ob) (n : Nat) : (e_Header x).map (fz o (n + 1)) = e_Header x := by rfl
theorem e_Header_reach (x : Header) (o : Nat → Ob) (n : Nat) : (e_Header x).flatMap (reach o (n + 1)) = [] := by
  simp only [e_Header, e_Addr, List.cons_append, List.nil_append, List.append_nil, List.flatMap_cons, List.flatMap_nil, reach_v]
theorem f_Header (x : Header) (o : Nat → Ob) (n : Nat) : (e_Header x).map (fz o (n + 1)) = e_Header x := by simp only [e_Header_fz]
theorem q_Header (x : Header) (o : Nat → Ob) (n : Nat) : (e_Header x).flatMap (reach o (n + 1)) = [] := by simp only [e_Header_reach, List.append_nil]
theorem e_Header_kinds (x : Header) : kindsOk [some .u8, some .u8, none, none, none, none, none, none, none, some .i64, some .u8, some .u8, some .u8, some .u8, some .u8, some .u8, some .u8, some .u8, some .u8, some .u8, some .u8, some .u8, some .u8, some .u8, some .u8, some .u8, some .u8, some .u8, some .u8, some .u8, some .u8, some .u8, some .u8, some .u8, some .i64, some .i64, some .i64, some .u8, none, none] (e_Header x) = true := by rfl
theorem e_Header_eq (x y : Header) : eqCells (e_Header x) (e_Header y) = decide (x = y) := by
  rw [Bool.eq_iff_iff]
  simp only [e_Header, e_Addr, List.cons_append, List.nil_append, List.append_nil, eqCells, eqv, Bool.and_eq_true, beq_iff_eq, decide_eq_true_eq, and_true]
  constructor
  · intro h
    obtain ⟨v1, v2, v3, v4, v5, v6, v7, v8, v9, v10, ⟨v11, v12, v13, v14, v15, v16⟩, ⟨v17, v18, v19, v20, v21, v22⟩, ⟨v23, v24, v25, v26, v27, v28⟩, ⟨v29, v30, v31, v32, v33, v34⟩, v35, v36, v37, v38, v39, v40⟩ := x
    obtain ⟨v41', v42', v43', v44', v45', v46', v47', v48', v49', v50', ⟨v51', v52', v53', v54', v55', v56'⟩, ⟨v57', v58', v59', v60', v61', v62'⟩, ⟨v63', v64', v65', v66', v67', v68'⟩, ⟨v69', v70', v71', v72', v73', v74'⟩, v75', v76', v77', v78', v79', v80'⟩ := y
    simp_all
  · rintro rfl
    simp
attribute [go_sem] e_Header_len e_Header_sub e_Header_take e_Header_all e_Header_g_Kind e_Header_s_Kind e_Header_g_Sub e_Header_s_Sub e_Header_g_Duration e_Header_s_Duration e_Header_g_A1_a0 e_Header_s_A1_a0 e_Header_g_A1_a1 e_Header_s_A1_a1 e_Header_g_A1_a2 e_Header_s_A1_a2 e_Header_g_A1_a3 e_Header_s_A1_a3 e_Header_g_A1_a4 e_Header_s_A1_a4 e_Header_g_A1_a5 e_Header_s_A1_a5 e_Header_g_A2_a0 e_Header_s_A2_a0 e_Header_g_A2_a1 e_Header_s_A2_a1 e_Header_g_A2_a2 e_Header_s_A2_a2 e_Header_g_A2_a3 e_Header_s_A2_a3 e_Header_g_A2_a4 e_Header_s_A2_a4 e_Header_g_A2_a5 e_Header_s_A2_a5 e_Header_g_A3_a0 e_Header_s_A3_a0 e_Header_g_A3_a1 e_Header_s_A3_a1 e_Header_g_A3_a2 e_Header_s_A3_a2 e_Header_g_A3_a3 e_Header_s_A3_a3 e_Header_g_A3_a4 e_Header_s_A3_a4 e_Header_g_A3_a5 e_Header_s_A3_a5 e_Header_g_A4_a0 e_Header_s_A4_a0 e_Header_g_A4_a1 e_Header_s_A4_a1 e_Header_g_A4_a2 e_Header_s_A4_a2 e_Header_g_A4_a3 e_Header_s_A4_a3 e_Header_g_A4_a4 e_Header_s_A4_a4 e_Header_g_A4_a5 e_Header_s_A4_a5 e_Header_g_Seq e_Header_s_Seq e_Header_g_Frag e_Header_s_Frag e_Header_g_Tid e_Header_s_Tid e_Header_g_Ack e_Header_s_Ack e_Header_d_A1 e_Header_p_A1 e_Header_d_A2 e_Header_p_A2 e_Header_d_A3 e_Header_p_A3 e_Header_d_A4 e_Header_p_A4 e_Header_fz e_Header_reach e_Header_kinds e_Header_eq f_Header q_Header

structure Frame where
  Head : Header
  Body : (List Int)
  deriving DecidableEq

def Frame.z : Frame := ⟨Header.z, []⟩

def e_Frame (x : Frame) (s0 : AV) : List AV := (e_Header x.Head) ++ [s0]

theorem e_Frame_len (x : Frame) (s0 : AV) : (e_Frame x s0).length = 41 := by rfl
theorem e_Frame_sub (x : Frame) (s0 : AV) : sub? (e_Frame x s0) 0 41 = some (e_Frame x s0) := by rfl
theorem e_Frame_take (x : Frame) (s0 : AV) : (e_Frame x s0).take 41 = (e_Frame x s0) := by rfl
theorem e_Frame_all (x : Frame) (s0 : AV) (y : Frame) (s02 : AV) : putAt (e_Frame x s0) 0 (e_Frame y s02) = e_Frame y s02 := by rfl
theorem e_Frame_g_Head_Kind (x : Frame) (s0 : AV) : (e_Frame x s0)[0]? = some (vu x.Head.Kind) := by rfl
theorem e_Frame_s_Head_Kind (x : Frame) (s0 : AV) (v : Int) : (e_Frame x s0).set 0 (vu v) = e_Frame { x with Head.Kind := v } s0 := by rfl
theorem e_Frame_g_Head_Sub (x : Frame) (s0 : AV) : (e_Frame x s0)[1]? = some (vu x.Head.Sub) := by rfl
theorem e_Frame_s_Head_Sub (x : Frame) (s0 : AV) (v : Int) : (e_Frame x s0).set 1 (vu v) = e_Frame { x with Head.Sub := v } s0 := by rfl
theorem e_Frame_g_Head_Duration (x : Frame) (s0 : AV) : (e_Frame x s0)[9]? = some (vi x.Head.Duration) := by rfl
theorem e_Frame_s_Head_Duration (x : Frame) (s0 : AV) (v : Int) : (e_Frame x s0).set 9 (vi v) = e_Frame { x with Head.Duration := v } s0 := by rfl
theorem e_Frame_g_Head_A1_a0 (x : Frame) (s0 : AV) : (e_Frame x s0)[10]? = some (vu x.Head.A1.a0) := by rfl
theorem e_Frame_s_Head_A1_a0 (x : Frame) (s0 : AV) (v : Int) : (e_Frame x s0).set 10 (vu v) = e_Frame { x with Head.A1.a0 := v } s0 := by rfl
theorem e_Frame_g_Head_A1_a1 (x : Frame) (s0 : AV) : (e_Frame x s0)[11]? = some (vu x.Head.A1.a1) := by rfl
theorem e_Frame_s_Head_A1_a1 (x : Frame) (s0 : AV) (v : Int) : (e_Frame x s0).set 11 (vu v) = e_Frame { x with Head.A1.a1 := v } s0 := by rfl
theorem e_Frame_g_Head_A1_a2 (x : Frame) (s0 : AV) : (e_Frame x s0)[12]? = some (vu x.Head.A1.a2) := by rfl
theorem e_Frame_s_Head_A1_a2 (x : Frame) (s0 : AV) (v : Int) : (e_Frame x s0).set 12 (vu v) = e_Frame { x with Head.A1.a2 := v } s0 := by rfl
theorem e_Frame_g_Head_A1_a3 (x : Frame) (s0 : AV) : (e_Frame x s0)[13]? = some (vu x.Head.A1.a3) := by rfl
theorem e_Frame_s_Head_A1_a3 (x : Frame) (s0 : AV) (v : Int) : (e_Frame x s0).set 13 (vu v) = e_Frame { x with Head.A1.a3 := v } s0 := by rfl
theorem e_Frame_g_Head_A1_a4 (x : Frame) (s0 : AV) : (e_Frame x s0)[14]? = some (vu x.Head.A1.a4) := by rfl
theorem e_Frame_s_Head_A1_a4 (x : Frame) (s0 : AV) (v : Int) : (e_Frame x s0).set 14 (vu v) = e_Frame { x with Head.A1.a4 := v } s0 := by rfl
theorem e_Frame_g_Head_A1_a5 (x : Frame) (s0 : AV) : (e_Frame x s0)[15]? = some (vu x.Head.A1.a5) := by rfl
theorem e_Frame_s_Head_A1_a5 (x : Frame) (s0 : AV) (v : Int) : (e_Frame x s0).set 15 (vu v) = e_Frame { x with Head.A1.a5 := v } s0 := by rfl
theorem e_Frame_g_Head_A2_a0 (x : Frame) (s0 : AV) : (e_Frame x s0)[16]? = some (vu x.Head.A2.a0) := by rfl
theorem e_Frame_s_Head_A2_a0 (x : Frame) (s0 : AV) (v : Int) : (e_Frame x s0).set 16 (vu v) = e_Frame { x with Head.A2.a0 := v } s0 := by rfl
theorem e_Frame_g_Head_A2_a1 (x : Frame) (s0 : AV) : (e_Frame x s0)[17]? = some (vu x.Head.A2.a1) := by rfl
theorem e_Frame_s_Head_A2_a1 (x : Frame) (s0 : AV) (v : Int) : (e_Frame x s0).set 17 (vu v) = e_Frame { x with Head.A2.a1 := v } s0 := by rfl
theorem e_Frame_g_Head_A2_a2 (x : Frame) (s0 : AV) : (e_Frame x s0)[18]? = some (vu x.Head.A2.a2) := by rfl
theorem e_Frame_s_Head_A2_a2 (x : Frame) (s0 : AV) (v : Int) : (e_Frame x s0).set 18 (vu v) = e_Frame { x with Head.A2.a2 := v } s0 := by rfl
theorem e_Frame_g_Head_A2_a3 (x : Frame) (s0 : AV) : (e_Frame x s0)[19]? = some (vu x.Head.A2.a3) := by rfl
theorem e_Frame_s_Head_A2_a3 (x : Frame) (s0 : AV) (v : Int) : (e_Frame x s0).set 19 (vu v) = e_Frame { x with Head.A2.a3 := v } s0 := by rfl
theorem e_Frame_g_Head_A2_a4 (x : Frame) (s0 : AV) : (e_Frame x s0)[20]? = some (vu x.Head.A2.a4) := by rfl
theorem e_Frame_s_Head_A2_a4 (x : Frame) (s0 : AV) (v : Int) : (e_Frame x s0).set 20 (vu v) = e_Frame { x with Head.A2.a4 := v } s0 := by rfl
theorem e_Frame_g_Head_A2_a5 (x : Frame) (s0 : AV) : (e_Frame x s0)[21]? = some (vu x.Head.A2.a5) := by rfl
theorem e_Frame_s_Head_A2_a5 (x : Frame) (s0 : AV) (v : Int) : (e_Frame x s0).set 21 (vu v) = e_Frame { x with Head.A2.a5 := v } s0 := by rfl
theorem e_Frame_g_Head_A3_a0 (x : Frame) (s0 : AV) : (e_Frame x s0)[22]? = some (vu x.Head.A3.a0) := by rfl
theorem e_Frame_s_Head_A3_a0 (x : Frame) (s0 : AV) (v : Int) : (e_Frame x s0).set 22 (vu v) = e_Frame { x with Head.A3.a0 := v } s0 := by rfl
theorem e_Frame_g_Head_A3_a1 (x : Frame) (s0 : AV) : (e_Frame x s0)[23]? = some (vu x.Head.A3.a1) := by rfl
theorem e_Frame_s_Head_A3_a1 (x : Frame) (s0 : AV) (v : Int) : (e_Frame x s0).set 23 (vu v) = e_Frame { x with Head.A3.a1 := v } s0 := by rfl
theorem e_Frame_g_Head_A3_a2 (x : Frame) (s0 : AV) : (e_Frame x s0)[24]? = some (vu x.Head.A3.a2) := by rfl
theorem e_Frame_s_Head_A3_a2 (x : Frame) (s0 : AV) (v : Int) : (e_Frame x s0).set 24 (vu v) = e_Frame { x with Head.A3.a2 := v } s0 := by rfl
theorem e_Frame_g_Head_A3_a3 (x : Frame) (s0 : AV) : (e_Frame x s0)[25]? = some (vu x.Head.A3.a3) := by rfl
theorem e_Frame_s_Head_A3_a3 (x : Frame) (s0 : AV) (v : Int) : (e_Frame x s0).set 25 (vu v) = e_Frame { x with Head.A3.a3 := v } s0 := by rfl
theorem e_Frame_g_Head_A3_a4 (x : Frame) (s0 : AV) : (e_Frame x s0)[26]? = some (vu x.Head.A3.a4) := by rfl
theorem e_Frame_s_Head_A3_a4 (x : Frame) (s0 : AV) (v : Int) : (e_Frame x s0).set 26 (vu v) = e_Frame { x with Head.A3.a4 := v } s0 := by rfl
theorem e_Frame_g_Head_A3_a5 (x : Frame) (s0 : AV) : (e_Frame x s0)[27]? = some (vu x.Head.A3.a5) := by rfl
theorem e_Frame_s_Head_A3_a5 (x : Frame) (s0 : AV) (v : Int) : (e_Frame x s0).set 27 (vu v) = e_Frame { x with Head.A3.a5 := v } s0 := by rfl
theorem e_Frame_g_Head_A4_a0 (x : Frame) (s0 : AV) : (e_Frame x s0)[28]? = some (vu x.Head.A4.a0) := by rfl
theorem e_Frame_s_Head_A4_a0 (x : Frame) (s0 : AV) (v : Int) : (e_Frame x s0).set 28 (vu v) = e_Frame { x with Head.A4.a0 := v } s0 := by rfl
theorem e_Frame_g_Head_A4_a1 (x : Frame) (s0 : AV) : (e_Frame x s0)[29]? = some (vu x.Head.A4.a1) := by rfl
theorem e_Frame_s_Head_A4_a1 (x : Frame) (s0 : AV) (v : Int) : (e_Frame x s0).set 29 (vu v) = e_Frame { x with Head.A4.a1 := v } s0 := by rfl
theorem e_Frame_g_Head_A4_a2 (x : Frame) (s0 : AV) : (e_Frame x s0)[30]? = some (vu x.Head.A4.a2) := by rfl
theorem e_Frame_s_Head_A4_a2 (x : Frame) (s0 : AV) (v : Int) : (e_Frame x s0).set 30 (vu v) = e_Frame { x with Head.A4.a2 := v } s0 := by rfl
theorem e_Frame_g_Head_A4_a3 (x : Frame) (s0 : AV) : (e_Frame x s0)[31]? = some (vu x.Head.A4.a3) := by rfl
theorem e_Frame_s_Head_A4_a3 (x : Frame) (s0 : AV) (v : Int) : (e_Frame x s0).set 31 (vu v) = e_Frame { x with Head.A4.a3 := v } s0 := by rfl
theorem e_Frame_g_Head_A4_a4 (x : Frame) (s0 : AV) : (e_Frame x s0)[32]? = some (vu x.Head.A4.a4) := by rfl
theorem e_Frame_s_Head_A4_a4 (x : Frame) (s0 : AV) (v : Int) : (e_Frame x s0).set 32 (vu v) = e_Frame { x with Head.A4.a4 := v } s0 := by rfl
theorem e_Frame_g_Head_A4_a5 (x : Frame) (s0 : AV) : (e_Frame x s0)[33]? = some (vu x.Head.A4.a5) := by rfl
theorem e_Frame_s_Head_A4_a5 (x : Frame) (s0 : AV) (v : Int) : (e_Frame x s0).set 33 (vu v) = e_Frame { x with Head.A4.a5 := v } s0 := by rfl
theorem e_Frame_g_Head_Seq (x : Frame) (s0 : AV) : (e_Frame x s0)[34]? = some (vi x.Head.Seq) := by rfl
theorem e_Frame_s_Head_Seq (x : Frame) (s0 : AV) (v : Int) : (e_Frame x s0).set 34 (vi v) = e_Frame { x with Head.Seq := v } s0 := by rfl
theorem e_Frame_g_Head_Frag (x : Frame) (s0 : AV) : (e_Frame x s0)[35]? = some (vi x.Head.Frag) := by rfl
theorem e_Frame_s_Head_Frag (x : Frame) (s0 : AV) (v : Int) : (e_Frame x s0).set 35 (vi v) = e_Frame { x with Head.Frag := v } s0 := by rfl
theorem e_Frame_g_Head_Tid (x : Frame) (s0 : AV) : (e_Frame x s0)[36]? = some (vi x.Head.Tid) := by rfl
theorem e_Frame_s_Head_Tid (x : Frame) (s0 : AV) (v : Int) : (e_Frame x s0).set 36 (vi v) = e_Frame { x with Head.Tid := v } s0 := by rfl
theorem e_Frame_g_Head_Ack (x : Frame) (s0 : AV) : (e_Frame x s0)[37]? = some (vu x.Head.Ack) := by rfl
theorem e_Frame_s_Head_Ack (x : Frame) (s0 : AV) (v : Int) : (e_Frame x s0).set 37 (vu v) = e_Frame { x with Head.Ack := v } s0 := by rfl
theorem e_Frame_g_Body (x : Frame) (s0 : AV) : (e_Frame x s0)[40]? = some s0 := by rfl
theorem e_Frame_s_Body (x : Frame) (s0 : AV) (v : AV) : (e_Frame x s0).set 40 v = e_Frame x v := by rfl
theorem e_Frame_d_Head (x : Frame) (s0 : AV) : sub? (e_Frame x s0) 0 40 = some (e_Header x.Head) := by rfl
theorem e_Frame_p_Head (x : Frame) (s0 : AV) (v : Header) : putAt (e_Frame x s0) 0 (e_Header v) = e_Frame { x with Head := v } s0 := by rfl
theorem e_Frame_d_Head_A1 (x : Frame) (s0 : AV) : sub? (e_Frame x s0) 10 6 = some (e_Addr x.Head.A1) := by rfl
theorem e_Frame_p_Head_A1 (x : Frame) (s0 : AV) (v : Addr) : putAt (e_Frame x s0) 10 (e_Addr v) = e_Frame { x with Head.A1 := v } s0 := by rfl
theorem e_Frame_d_Head_A2 (x : Frame) (s0 : AV) : sub? (e_Frame x s0) 16 6 = some (e_Addr x.Head.A2) := by rfl
theorem e_Frame_p_Head_A2 (x : Frame) (s0 : AV) (v : Addr) : putAt (e_Frame x s0) 16 (e_Addr v) = e_Frame { x with Head.A2 := v } s0 := by rfl
theorem e_Frame_d_Head_A3 (x : Frame) (s0 : AV) : sub? (e_Frame x s0) 22 6 = some (e_Addr x.Head.A3) := by rfl
theorem e_Frame_p_Head_A3 (x : Frame) (s0 : AV) (v : Addr) : putAt (e_Frame x s0) 22 (e_Addr v) = e_Frame { x with Head.A3 := v } s0 := by rfl
theorem e_Frame_d_Head_A4 (x : Frame) (s0 : AV) : sub? (e_Frame x s0) 28 6 = some (e_Addr x.Head.A4) := by rfl
theorem e_Frame_p_Head_A4 (x : Frame) (s0 : AV) (v : Addr) : putAt (e_Frame x s0) 28 (e_Addr v) = e_Frame { x with Head.A4 := v } s0 := by rfl
theorem e_Frame_fz (x : Frame) (s0 : AV) (o : Nat → Ob) (n : Nat) : (e_Frame x s0).map (fz o (n + 1)) = e_Frame x (fz o (n + 1) s0) := by rfl
theorem e_Frame_reach (x : Frame) (s0 : AV) (o : Nat → Ob) (n : Nat) : (e_Frame x s0).flatMap (reach o (n + 1)) = reach o (n + 1) s0 := by
  simp only [e_Frame, e_Header, e_Addr, List.cons_append, List.nil_append, List.append_nil, List.flatMap_cons, List.flatMap_nil, reach_v]
theorem e_Frame_clean (x : Frame) (s0 : AV) (h_s0 : Clean s0) : ∀ c ∈ (e_Frame x s0), Clean c := by
  simp only [e_Frame, e_Header, e_Addr, List.cons_append, List.nil_append]
  repeat' (first | exact Clean.v _ | assumption | exact List.forall_mem_nil _ | refine List.forall_mem_cons.2 ⟨?_, ?_⟩)
theorem e_Frame_tm {st : AS} {F : List Nat} {σ : List (Option Nat)} (x : Frame) (s0 : AV) (s02 : AV) (h_s0 : Tm st F σ s0 s02) : TmL st F σ (e_Frame x s0) (e_Frame x s02) := by
  simp only [e_Frame, e_Header, e_Addr, List.cons_append, List.nil_append]
  repeat' (first | exact TmL.nil | (refine TmL.cons (Tm.v _) ?_) | (refine TmL.cons (by assumption) ?_))
theorem e_Frame_tmx {st : AS} {F : List Nat} {σ : List (Option Nat)} {x y : Frame} {s0 s02 : AV} (hxy : e_Frame y s02 = e_Frame x s02) (h_s0 : Tm st F σ s0 s02) : TmL st F σ (e_Frame x s0) (e_Frame y s02) := by
  rw [hxy]; exact e_Frame_tm x s0 s02 h_s0
def E_Frame (x : Frame) : List AV := e_Frame x (S_vu x.Body)
theorem E_Frame_eq (x : Frame) : E_Frame x = e_Frame x (S_vu x.Body) := rfl
theorem E_Frame_clean (x : Frame) : ∀ c ∈ E_Frame x, Clean c := e_Frame_clean x _ (S_vu_clean _)
theorem f_Frame (x : Frame) (o : Nat → Ob) (n : Nat) : (E_Frame x).map (fz o (n + 2)) = E_Frame x := by simp only [E_Frame_eq, e_Frame_fz, f_S_vu]
theorem q_Frame (x : Frame) (o : Nat → Ob) (n : Nat) : (E_Frame x).flatMap (reach o (n + 2)) = [] := by simp only [E_Frame_eq, e_Frame_reach, q_S_vu, List.append_nil]
attribute [go_sem] e_Frame_len e_Frame_sub e_Frame_take e_Frame_all e_Frame_g_Head_Kind e_Frame_s_Head_Kind e_Frame_g_Head_Sub e_Frame_s_Head_Sub e_Frame_g_Head_Duration e_Frame_s_Head_Duration e_Frame_g_Head_A1_a0 e_Frame_s_Head_A1_a0 e_Frame_g_Head_A1_a1 e_Frame_s_Head_A1_a1 e_Frame_g_Head_A1_a2 e_Frame_s_Head_A1_a2 e_Frame_g_Head_A1_a3 e_Frame_s_Head_A1_a3 e_Frame_g_Head_A1_a4 e_Frame_s_Head_A1_a4 e_Frame_g_Head_A1_a5 e_Frame_s_Head_A1_a5 e_Frame_g_Head_A2_a0 e_Frame_s_Head_A2_a0 e_Frame_g_Head_A2_a1 e_Frame_s_Head_A2_a1 e_Frame_g_Head_A2_a2 e_Frame_s_Head_A2_a2 e_Frame_g_Head_A2_a3 e_Frame_s_Head_A2_a3 e_Frame_g_Head_A2_a4 e_Frame_s_Head_A2_a4 e_Frame_g_Head_A2_a5 e_Frame_s_Head_A2_a5 e_Frame_g_Head_A3_a0 e_Frame_s_Head_A3_a0 e_Frame_g_Head_A3_a1 e_Frame_s_Head_A3_a1 e_Frame_g_Head_A3_a2 e_Frame_s_Head_A3_a2 e_Frame_g_Head_A3_a3 e_Frame_s_Head_A3_a3 e_Frame_g_Head_A3_a4 e_Frame_s_Head_A3_a4 e_Frame_g_Head_A3_a5 e_Frame_s_Head_A3_a5 e_Frame_g_Head_A4_a0 e_Frame_s_Head_A4_a0 e_Frame_g_Head_A4_a1 e_Frame_s_Head_A4_a1 e_Frame_g_Head_A4_a2 e_Frame_s_Head_A4_a2 e_Frame_g_Head_A4_a3 e_Frame_s_Head_A4_a3 e_Frame_g_Head_A4_a4 e_Frame_s_Head_A4_a4 e_Frame_g_Head_A4_a5 e_Frame_s_Head_A4_a5 e_Frame_g_Head_Seq e_Frame_s_Head_Seq e_Frame_g_Head_Frag e_Frame_s_Head_Frag e_Frame_g_Head_Tid e_Frame_s_Head_Tid e_Frame_g_Head_Ack e_Frame_s_Head_Ack e_Frame_g_Body e_Frame_s_Body e_Frame_d_Head e_Frame_p_Head e_Frame_d_Head_A1 e_Frame_p_Head_A1 e_Frame_d_Head_A2 e_Frame_p_Head_A2 e_Frame_d_Head_A3 e_Frame_p_Head_A3 e_Frame_d_Head_A4 e_Frame_p_Head_A4 e_Frame_fz e_Frame_reach E_Frame_eq f_Frame q_Frame

structure HeldSeq where
  At : Int
  Frame : Frame
  deriving DecidableEq

def HeldSeq.z : HeldSeq := ⟨0, Frame.z⟩

def e_HeldSeq (x : HeldSeq) (s0 : AV) : List AV := [vi x.At] ++ (e_Frame x.Frame s0)

theorem e_HeldSeq_len (x : HeldSeq) (s0 : AV) : (e_HeldSeq x s0).length = 42 := by rfl
theorem e_HeldSeq_sub (x : HeldSeq) (s0 : AV) : sub? (e_HeldSeq x s0) 0 42 = some (e_HeldSeq x s0) := by rfl
theorem e_HeldSeq_take (x : HeldSeq) (s0 : AV) : (e_HeldSeq x s0).take 42 = (e_HeldSeq x s0) := by rfl
theorem e_HeldSeq_all (x : HeldSeq) (s0 : AV) (y : HeldSeq) (s02 : AV) : putAt (e_HeldSeq x s0) 0 (e_HeldSeq y s02) = e_HeldSeq y s02 := by rfl
theorem e_HeldSeq_g_At (x : HeldSeq) (s0 : AV) : (e_HeldSeq x s0)[0]? = some (vi x.At) := by rfl
theorem e_HeldSeq_s_At (x : HeldSeq) (s0 : AV) (v : Int) : (e_HeldSeq x s0).set 0 (vi v) = e_HeldSeq { x with At := v } s0 := by rfl
theorem e_HeldSeq_g_Frame_Head_Kind (x : HeldSeq) (s0 : AV) : (e_HeldSeq x s0)[1]? = some (vu x.Frame.Head.Kind) := by rfl
theorem e_HeldSeq_s_Frame_Head_Kind (x : HeldSeq) (s0 : AV) (v : Int) : (e_HeldSeq x s0).set 1 (vu v) = e_HeldSeq { x with Frame.Head.Kind := v } s0 := by rfl
theorem e_HeldSeq_g_Frame_Head_Sub (x : HeldSeq) (s0 : AV) : (e_HeldSeq x s0)[2]? = some (vu x.Frame.Head.Sub) := by rfl
theorem e_HeldSeq_s_Frame_Head_Sub (x : HeldSeq) (s0 : AV) (v : Int) : (e_HeldSeq x s0).set 2 (vu v) = e_HeldSeq { x with Frame.Head.Sub := v } s0 := by rfl
theorem e_HeldSeq_g_Frame_Head_Duration (x : HeldSeq) (s0 : AV) : (e_HeldSeq x s0)[10]? = some (vi x.Frame.Head.Duration) := by rfl
theorem e_HeldSeq_s_Frame_Head_Duration (x : HeldSeq) (s0 : AV) (v : Int) : (e_HeldSeq x s0).set 10 (vi v) = e_HeldSeq { x with Frame.Head.Duration := v } s0 := by rfl
theorem e_HeldSeq_g_Frame_Head_A1_a0 (x : HeldSeq) (s0 : AV) : (e_HeldSeq x s0)[11]? = some (vu x.Frame.Head.A1.a0) := by rfl
theorem e_HeldSeq_s_Frame_Head_A1_a0 (x : HeldSeq) (s0 : AV) (v : Int) : (e_HeldSeq x s0).set 11 (vu v) = e_HeldSeq { x with Frame.Head.A1.a0 := v } s0 := by rfl
theorem e_HeldSeq_g_Frame_Head_A1_a1 (x : HeldSeq) (s0 : AV) : (e_HeldSeq x s0)[12]? = some (vu x.Frame.Head.A1.a1) := by rfl
theorem e_HeldSeq_s_Frame_Head_A1_a1 (x : HeldSeq) (s0 : AV) (v : Int) : (e_HeldSeq x s0).set 12 (vu v) = e_HeldSeq { x with Frame.Head.A1.a1 := v } s0 := by rfl
theorem e_HeldSeq_g_Frame_Head_A1_a2 (x : HeldSeq) (s0 : AV) : (e_HeldSeq x s0)[13]? = some (vu x.Frame.Head.A1.a2) := by rfl
theorem e_HeldSeq_s_Frame_Head_A1_a2 (x : HeldSeq) (s0 : AV) (v : Int) : (e_HeldSeq x s0).set 13 (vu v) = e_HeldSeq { x with Frame.Head.A1.a2 := v } s0 := by rfl
theorem e_HeldSeq_g_Frame_Head_A1_a3 (x : HeldSeq) (s0 : AV) : (e_HeldSeq x s0)[14]? = some (vu x.Frame.Head.A1.a3) := by rfl
theorem e_HeldSeq_s_Frame_Head_A1_a3 (x : HeldSeq) (s0 : AV) (v : Int) : (e_HeldSeq x s0).set 14 (vu v) = e_HeldSeq { x with Frame.Head.A1.a3 := v } s0 := by rfl
theorem e_HeldSeq_g_Frame_Head_A1_a4 (x : HeldSeq) (s0 : AV) : (e_HeldSeq x s0)[15]? = some (vu x.Frame.Head.A1.a4) := by rfl
theorem e_HeldSeq_s_Frame_Head_A1_a4 (x : HeldSeq) (s0 : AV) (v : Int) : (e_HeldSeq x s0).set 15 (vu v) = e_HeldSeq { x with Frame.Head.A1.a4 := v } s0 := by rfl
theorem e_HeldSeq_g_Frame_Head_A1_a5 (x : HeldSeq) (s0 : AV) : (e_HeldSeq x s0)[16]? = some (vu x.Frame.Head.A1.a5) := by rfl
theorem e_HeldSeq_s_Frame_Head_A1_a5 (x : HeldSeq) (s0 : AV) (v : Int) : (e_HeldSeq x s0).set 16 (vu v) = e_HeldSeq { x with Frame.Head.A1.a5 := v } s0 := by rfl
theorem e_HeldSeq_g_Frame_Head_A2_a0 (x : HeldSeq) (s0 : AV) : (e_HeldSeq x s0)[17]? = some (vu x.Frame.Head.A2.a0) := by rfl
theorem e_HeldSeq_s_Frame_Head_A2_a0 (x : HeldSeq) (s0 : AV) (v : Int) : (e_HeldSeq x s0).set 17 (vu v) = e_HeldSeq { x with Frame.Head.A2.a0 := v } s0 := by rfl
theorem e_HeldSeq_g_Frame_Head_A2_a1 (x : HeldSeq) (s0 : AV) : (e_HeldSeq x s0)[18]? = some (vu x.Frame.Head.A2.a1) := by rfl
theorem e_HeldSeq_s_Frame_Head_A2_a1 (x : HeldSeq) (s0 : AV) (v : Int) : (e_HeldSeq x s0).set 18 (vu v) = e_HeldSeq { x with Frame.Head.A2.a1 := v } s0 := by rfl
theorem e_HeldSeq_g_Frame_Head_A2_a2 (x : HeldSeq) (s0 : AV) : (e_HeldSeq x s0)[19]? = some (vu x.Frame.Head.A2.a2) := by rfl
theorem e_HeldSeq_s_Frame_Head_A2_a2 (x : HeldSeq) (s0 : AV) (v : Int) : (e_HeldSeq x s0).set 19 (vu v) = e_HeldSeq { x with Frame.Head.A2.a2 := v } s0 := by rfl
theorem e_HeldSeq_g_Frame_Head_A2_a3 (x : HeldSeq) (s0 : AV) : (e_HeldSeq x s0)[20]? = some (vu x.Frame.Head.A2.a3) := by rfl
theorem e_HeldSeq_s_Frame_Head_A2_a3 (x : HeldSeq) (s0 : AV) (v : Int) : (e_HeldSeq x s0).set 20 (vu v) = e_HeldSeq { x with Frame.Head.A2.a3 := v } s0 := by rfl
theorem e_HeldSeq_g_Frame_Head_A2_a4 (x : HeldSeq) (s0 : AV) : (e_HeldSeq x s0)[21]? = some (vu x.Frame.Head.A2.a4) := by rfl
theorem e_HeldSeq_s_Frame_Head_A2_a4 (x : HeldSeq) (s0 : AV) (v : Int) : (e_HeldSeq x s0).set 21 (vu v) = e_HeldSeq { x with Frame.Head.A2.a4 := v } s0 := by rfl
theorem e_HeldSeq_g_Frame_Head_A2_a5 (x : HeldSeq) (s0 : AV) : (e_HeldSeq x s0)[22]? = some (vu x.Frame.Head.A2.a5) := by rfl
theorem e_HeldSeq_s_Frame_Head_A2_a5 (x : HeldSeq) (s0 : AV) (v : Int) : (e_HeldSeq x s0).set 22 (vu v) = e_HeldSeq { x with Frame.Head.A2.a5 := v } s0 := by rfl
theorem e_HeldSeq_g_Frame_Head_A3_a0 (x : HeldSeq) (s0 : AV) : (e_HeldSeq x s0)[23]? = some (vu x.Frame.Head.A3.a0) := by rfl
theorem e_HeldSeq_s_Frame_Head_A3_a0 (x : HeldSeq) (s0 : AV) (v : Int) : (e_HeldSeq x s0).set 23 (vu v) = e_HeldSeq { x with Frame.Head.A3.a0 := v } s0 := by rfl
theorem e_HeldSeq_g_Frame_Head_A3_a1 (x : HeldSeq) (s0 : AV) : (e_HeldSeq x s0)[24]? = some (vu x.Frame.Head.A3.a1) := by rfl
theorem e_HeldSeq_s_Frame_Head_A3_a1 (x : HeldSeq) (s0 : AV) (v : Int) : (e_HeldSeq x s0).set 24 (vu v) = e_HeldSeq { x with Frame.Head.A3.a1 := v } s0 := by rfl
theorem e_HeldSeq_g_Frame_Head_A3_a2 (x : HeldSeq) (s0 : AV) : (e_HeldSeq x s0)[25]? = some (vu x.Frame.Head.A3.a2) := by rfl
theorem e_HeldSeq_s_Frame_Head_A3_a2 (x : HeldSeq) (s0 : AV) (v : Int) : (e_HeldSeq x s0).set 25 (vu v) = e_HeldSeq { x with Frame.Head.A3.a2 := v } s0 := by rfl
theorem e_HeldSeq_g_Frame_Head_A3_a3 (x : HeldSeq) (s0 : AV) : (e_HeldSeq x s0)[26]? = some (vu x.Frame.Head.A3.a3) := by rfl
theorem e_HeldSeq_s_Frame_Head_A3_a3 (x : HeldSeq) (s0 : AV) (v : Int) : (e_HeldSeq x s0).set 26 (vu v) = e_HeldSeq { x with Frame.Head.A3.a3 := v } s0 := by rfl
theorem e_HeldSeq_g_Frame_Head_A3_a4 (x : HeldSeq) (s0 : AV) : (e_HeldSeq x s0)[27]? = some (vu x.Frame.Head.A3.a4) := by rfl
theorem e_HeldSeq_s_Frame_Head_A3_a4 (x : HeldSeq) (s0 : AV) (v : Int) : (e_HeldSeq x s0).set 27 (vu v) = e_HeldSeq { x with Frame.Head.A3.a4 := v } s0 := by rfl
theorem e_HeldSeq_g_Frame_Head_A3_a5 (x : HeldSeq) (s0 : AV) : (e_HeldSeq x s0)[28]? = some (vu x.Frame.Head.A3.a5) := by rfl
theorem e_HeldSeq_s_Frame_Head_A3_a5 (x : HeldSeq) (s0 : AV) (v : Int) : (e_HeldSeq x s0).set 28 (vu v) = e_HeldSeq { x with Frame.Head.A3.a5 := v } s0 := by rfl
theorem e_HeldSeq_g_Frame_Head_A4_a0 (x : HeldSeq) (s0 : AV) : (e_HeldSeq x s0)[29]? = some (vu x.Frame.Head.A4.a0) := by rfl
theorem e_HeldSeq_s_Frame_Head_A4_a0 (x : HeldSeq) (s0 : AV) (v : Int) : (e_HeldSeq x s0).set 29 (vu v) = e_HeldSeq { x with Frame.Head.A4.a0 := v } s0 := by rfl
theorem e_HeldSeq_g_Frame_Head_A4_a1 (x : HeldSeq) (s0 : AV) : (e_HeldSeq x s0)[30]? = some (vu x.Frame.Head.A4.a1) := by rfl
theorem e_HeldSeq_s_Frame_Head_A4_a1 (x : HeldSeq) (s0 : AV) (v : Int) : (e_HeldSeq x s0).set 30 (vu v) = e_HeldSeq { x with Frame.Head.A4.a1 := v } s0 := by rfl
theorem e_HeldSeq_g_Frame_Head_A4_a2 (x : HeldSeq) (s0 : AV) : (e_HeldSeq x s0)[31]? = some (vu x.Frame.Head.A4.a2) := by rfl
theorem e_HeldSeq_s_Frame_Head_A4_a2 (x : HeldSeq) (s0 : AV) (v : Int) : (e_HeldSeq x s0).set 31 (vu v) = e_HeldSeq { x with Frame.Head.A4.a2 := v } s0 := by rfl
theorem e_HeldSeq_g_Frame_Head_A4_a3 (x : HeldSeq) (s0 : AV) : (e_HeldSeq x s0)[32]? = some (vu x.Frame.Head.A4.a3) := by rfl
theorem e_HeldSeq_s_Frame_Head_A4_a3 (x : HeldSeq) (s0 : AV) (v : Int) : (e_HeldSeq x s0).set 32 (vu v) = e_HeldSeq { x with Frame.Head.A4.a3 := v } s0 := by rfl
theorem e_HeldSeq_g_Frame_Head_A4_a4 (x : HeldSeq) (s0 : AV) : (e_HeldSeq x s0)[33]? = some (vu x.Frame.Head.A4.a4) := by rfl
theorem e_HeldSeq_s_Frame_Head_A4_a4 (x : HeldSeq) (s0 : AV) (v : Int) : (e_HeldSeq x s0).set 33 (vu v) = e_HeldSeq { x with Frame.Head.A4.a4 := v } s0 := by rfl
theorem e_HeldSeq_g_Frame_Head_A4_a5 (x : HeldSeq) (s0 : AV) : (e_HeldSeq x s0)[34]? = some (vu x.Frame.Head.A4.a5) := by rfl
theorem e_HeldSeq_s_Frame_Head_A4_a5 (x : HeldSeq) (s0 : AV) (v : Int) : (e_HeldSeq x s0).set 34 (vu v) = e_HeldSeq { x with Frame.Head.A4.a5 := v } s0 := by rfl
theorem e_HeldSeq_g_Frame_Head_Seq (x : HeldSeq) (s0 : AV) : (e_HeldSeq x s0)[35]? = some (vi x.Frame.Head.Seq) := by rfl
theorem e_HeldSeq_s_Frame_Head_Seq (x : HeldSeq) (s0 : AV) (v : Int) : (e_HeldSeq x s0).set 35 (vi v) = e_HeldSeq { x with Frame.Head.Seq := v } s0 := by rfl
theorem e_HeldSeq_g_Frame_Head_Frag (x : HeldSeq) (s0 : AV) : (e_HeldSeq x s0)[36]? = some (vi x.Frame.Head.Frag) := by rfl
theorem e_HeldSeq_s_Frame_Head_Frag (x : HeldSeq) (s0 : AV) (v : Int) : (e_HeldSeq x s0).set 36 (vi v) = e_HeldSeq { x with Frame.Head.Frag := v } s0 := by rfl
theorem e_HeldSeq_g_Frame_Head_Tid (x : HeldSeq) (s0 : AV) : (e_HeldSeq x s0)[37]? = some (vi x.Frame.Head.Tid) := by rfl
theorem e_HeldSeq_s_Frame_Head_Tid (x : HeldSeq) (s0 : AV) (v : Int) : (e_HeldSeq x s0).set 37 (vi v) = e_HeldSeq { x with Frame.Head.Tid := v } s0 := by rfl
theorem e_HeldSeq_g_Frame_Head_Ack (x : HeldSeq) (s0 : AV) : (e_HeldSeq x s0)[38]? = some (vu x.Frame.Head.Ack) := by rfl
theorem e_HeldSeq_s_Frame_Head_Ack (x : HeldSeq) (s0 : AV) (v : Int) : (e_HeldSeq x s0).set 38 (vu v) = e_HeldSeq { x with Frame.Head.Ack := v } s0 := by rfl
theorem e_HeldSeq_g_Frame_Body (x : HeldSeq) (s0 : AV) : (e_HeldSeq x s0)[41]? = some s0 := by rfl
theorem e_HeldSeq_s_Frame_Body (x : HeldSeq) (s0 : AV) (v : AV) : (e_HeldSeq x s0).set 41 v = e_HeldSeq x v := by rfl
theorem e_HeldSeq_d_Frame (x : HeldSeq) (s0 : AV) : sub? (e_HeldSeq x s0) 1 41 = some (e_Frame x.Frame s0) := by rfl
theorem e_HeldSeq_p_Frame (x : HeldSeq) (s0 : AV) (v : Frame) (w0 : AV) : putAt (e_HeldSeq x s0) 1 (e_Frame v w0) = e_HeldSeq { x with Frame := v } w0 := by rfl
theorem e_HeldSeq_d_Frame_Head (x : HeldSeq) (s0 : AV) : sub? (e_HeldSeq x s0) 1 40 = some (e_Header x.Frame.Head) := by rfl
theorem e_HeldSeq_p_Frame_Head (x : HeldSeq) (s0 : AV) (v : Header) : putAt (e_HeldSeq x s0) 1 (e_Header v) = e_HeldSeq { x with Frame.Head := v } s0 := by rfl
theorem e_HeldSeq_d_Frame_Head_A1 (x : HeldSeq) (s0 : AV) : sub? (e_HeldSeq x s0) 11 6 = some (e_Addr x.Frame.Head.A1) := by rfl
theorem e_HeldSeq_p_Frame_Head_A1 (x : HeldSeq) (s0 : AV) (v : Addr) : putAt (e_HeldSeq x s0) 11 (e_Addr v) = e_HeldSeq { x with Frame.Head.A1 := v } s0 := by rfl
theorem e_HeldSeq_d_Frame_Head_A2 (x : HeldSeq) (s0 : AV) : sub? (e_HeldSeq x s0) 17 6 = some (e_Addr x.Frame.Head.A2) := by rfl
theorem e_HeldSeq_p_Frame_Head_A2 (x : HeldSeq) (s0 : AV) (v : Addr) : putAt (e_HeldSeq x s0) 17 (e_Addr v) = e_HeldSeq { x with Frame.Head.A2 := v } s0 := by rfl
theorem e_HeldSeq_d_Frame_Head_A3 (x : HeldSeq) (s0 : AV) : sub? (e_HeldSeq x s0) 23 6 = some (e_Addr x.Frame.Head.A3) := by rfl
theorem e_HeldSeq_p_Frame_Head_A3 (x : HeldSeq) (s0 : AV) (v : Addr) : putAt (e_HeldSeq x s0) 23 (e_Addr v) = e_HeldSeq { x with Frame.Head.A3 := v } s0 := by rfl
theorem e_HeldSeq_d_Frame_Head_A4 (x : HeldSeq) (s0 : AV) : sub? (e_HeldSeq x s0) 29 6 = some (e_Addr x.Frame.Head.A4) := by rfl
theorem e_HeldSeq_p_Frame_Head_A4 (x : HeldSeq) (s0 : AV) (v : Addr) : putAt (e_HeldSeq x s0) 29 (e_Addr v) = e_HeldSeq { x with Frame.Head.A4 := v } s0 := by rfl
theorem e_HeldSeq_fz (x : HeldSeq) (s0 : AV) (o : Nat → Ob) (n : Nat) : (e_HeldSeq x s0).map (fz o (n + 1)) = e_HeldSeq x (fz o (n + 1) s0) := by rfl
theorem e_HeldSeq_reach (x : HeldSeq) (s0 : AV) (o : Nat → Ob) (n : Nat) : (e_HeldSeq x s0).flatMap (reach o (n + 1)) = reach o (n + 1) s0 := by
  simp only [e_HeldSeq, e_Frame, e_Header, e_Addr, List.cons_append, List.nil_append, List.append_nil, List.flatMap_cons, List.flatMap_nil, reach_v]
theorem e_HeldSeq_clean (x : HeldSeq) (s0 : AV) (h_s0 : Clean s0) : ∀ c ∈ (e_HeldSeq x s0), Clean c := by
  simp only [e_HeldSeq, e_Frame, e_Header, e_Addr, List.cons_append, List.nil_append]
  repeat' (first | exact Clean.v _ | assumption | exact List.forall_mem_nil _ | refine List.forall_mem_cons.2 ⟨?_, ?_⟩)
theorem e_HeldSeq_tm {st : AS} {F : List Nat} {σ : List (Option Nat)} (x : HeldSeq) (s0 : AV) (s02 : AV) (h_s0 : Tm st F σ s0 s02) : TmL st F σ (e_HeldSeq x s0) (e_HeldSeq x s02) := by
  simp only [e_HeldSeq, e_Frame, e_Header, e_Addr, List.cons_append, List.nil_append]
  repeat' (first | exact TmL.nil | (refine TmL.cons (Tm.v _) ?_) | (refine TmL.cons (by assumption) ?_))
theorem e_HeldSeq_tmx {st : AS} {F : List Nat} {σ : List (Option Nat)} {x y : HeldSeq} {s0 s02 : AV} (hxy : e_HeldSeq y s02 = e_HeldSeq x s02) (h_s0 : Tm st F σ s0 s02) : TmL st F σ (e_HeldSeq x s0) (e_HeldSeq y s02) := by
  rw [hxy]; exact e_HeldSeq_tm x s0 s02 h_s0
def E_HeldSeq (x : HeldSeq) : List AV := e_HeldSeq x (S_vu x.Frame.Body)
theorem E_HeldSeq_eq (x : HeldSeq) : E_HeldSeq x = e_HeldSeq x (S_vu x.Frame.Body) := rfl
theorem E_HeldSeq_clean (x : HeldSeq) : ∀ c ∈ E_HeldSeq x, Clean c := e_HeldSeq_clean x _ (S_vu_clean _)
theorem f_HeldSeq (x : HeldSeq) (o : Nat → Ob) (n : Nat) : (E_HeldSeq x).map (fz o (n + 2)) = E_HeldSeq x := by simp only [E_HeldSeq_eq, e_HeldSeq_fz, f_S_vu]
theorem q_HeldSeq (x : HeldSeq) (o : Nat → Ob) (n : Nat) : (E_HeldSeq x).flatMap (reach o (n + 2)) = [] := by simp only [E_HeldSeq_eq, e_HeldSeq_reach, q_S_vu, List.append_nil]
attribute [go_sem] e_HeldSeq_len e_HeldSeq_sub e_HeldSeq_take e_HeldSeq_all e_HeldSeq_g_At e_HeldSeq_s_At e_HeldSeq_g_Frame_Head_Kind e_HeldSeq_s_Frame_Head_Kind e_HeldSeq_g_Frame_Head_Sub e_HeldSeq_s_Frame_Head_Sub e_HeldSeq_g_Frame_Head_Duration e_HeldSeq_s_Frame_Head_Duration e_HeldSeq_g_Frame_Head_A1_a0 e_HeldSeq_s_Frame_Head_A1_a0 e_HeldSeq_g_Frame_Head_A1_a1 e_HeldSeq_s_Frame_Head_A1_a1 e_HeldSeq_g_Frame_Head_A1_a2 e_HeldSeq_s_Frame_Head_A1_a2 e_HeldSeq_g_Frame_Head_A1_a3 e_HeldSeq_s_Frame_Head_A1_a3 e_HeldSeq_g_Frame_Head_A1_a4 e_HeldSeq_s_Frame_Head_A1_a4 e_HeldSeq_g_Frame_Head_A1_a5 e_HeldSeq_s_Frame_Head_A1_a5 e_HeldSeq_g_Frame_Head_A2_a0 e_HeldSeq_s_Frame_Head_A2_a0 e_HeldSeq_g_Frame_Head_A2_a1 e_HeldSeq_s_Frame_Head_A2_a1 e_HeldSeq_g_Frame_Head_A2_a2 e_HeldSeq_s_Frame_Head_A2_a2 e_HeldSeq_g_Frame_Head_A2_a3 e_HeldSeq_s_Frame_Head_A2_a3 e_HeldSeq_g_Frame_Head_A2_a4 e_HeldSeq_s_Frame_Head_A2_a4 e_HeldSeq_g_Frame_Head_A2_a5 e_HeldSeq_s_Frame_Head_A2_a5 e_HeldSeq_g_Frame_Head_A3_a0 e_HeldSeq_s_Frame_Head_A3_a0 e_HeldSeq_g_Frame_Head_A3_a1 e_HeldSeq_s_Frame_Head_A3_a1 e_HeldSeq_g_Frame_Head_A3_a2 e_HeldSeq_s_Frame_Head_A3_a2 e_HeldSeq_g_Frame_Head_A3_a3 e_HeldSeq_s_Frame_Head_A3_a3 e_HeldSeq_g_Frame_Head_A3_a4 e_HeldSeq_s_Frame_Head_A3_a4 e_HeldSeq_g_Frame_Head_A3_a5 e_HeldSeq_s_Frame_Head_A3_a5 e_HeldSeq_g_Frame_Head_A4_a0 e_HeldSeq_s_Frame_Head_A4_a0 e_HeldSeq_g_Frame_Head_A4_a1 e_HeldSeq_s_Frame_Head_A4_a1 e_HeldSeq_g_Frame_Head_A4_a2 e_HeldSeq_s_Frame_Head_A4_a2 e_HeldSeq_g_Frame_Head_A4_a3 e_HeldSeq_s_Frame_Head_A4_a3 e_HeldSeq_g_Frame_Head_A4_a4 e_HeldSeq_s_Frame_Head_A4_a4 e_HeldSeq_g_Frame_Head_A4_a5 e_HeldSeq_s_Frame_Head_A4_a5 e_HeldSeq_g_Frame_Head_Seq e_HeldSeq_s_Frame_Head_Seq e_HeldSeq_g_Frame_Head_Frag e_HeldSeq_s_Frame_Head_Frag e_HeldSeq_g_Frame_Head_Tid e_HeldSeq_s_Frame_Head_Tid e_HeldSeq_g_Frame_Head_Ack e_HeldSeq_s_Frame_Head_Ack e_HeldSeq_g_Frame_Body e_HeldSeq_s_Frame_Body e_HeldSeq_d_Frame e_HeldSeq_p_Frame e_HeldSeq_d_Frame_Head e_HeldSeq_p_Frame_Head e_HeldSeq_d_Frame_Head_A1 e_HeldSeq_p_Frame_Head_A1 e_HeldSeq_d_Frame_Head_A2 e_HeldSeq_p_Frame_Head_A2 e_HeldSeq_d_Frame_Head_A3 e_HeldSeq_p_Frame_Head_A3 e_HeldSeq_d_Frame_Head_A4 e_HeldSeq_p_Frame_Head_A4 e_HeldSeq_fz e_HeldSeq_reach E_HeldSeq_eq f_HeldSeq q_HeldSeq

def S_HeldSeq (l : List HeldSeq) : AV := .imm (List.flatMap E_HeldSeq l) l.length
theorem S_HeldSeq_eq (l : List HeldSeq) : S_HeldSeq l = .imm (List.flatMap E_HeldSeq l) l.length := rfl
theorem l_HeldSeq (x : HeldSeq) : (E_HeldSeq x).length = 42 := by rfl
theorem S_HeldSeq_clean (l : List HeldSeq) : Clean (S_HeldSeq l) := Clean.imm (rows_clean E_HeldSeq_clean l)
theorem c_HeldSeq (l : List HeldSeq) : ∀ c ∈ l.flatMap E_HeldSeq, Clean c := rows_clean E_HeldSeq_clean l
theorem r_HeldSeq_len (l : List HeldSeq) : (l.flatMap E_HeldSeq).length = l.length * 42 := flat_len l_HeldSeq l
theorem r_HeldSeq_get (l : List HeldSeq) (i o : Nat) (ho : o < 42) : (l.flatMap E_HeldSeq)[i * 42 + o]? = l[i]?.bind fun a => (E_HeldSeq a)[o]? := rows_get l_HeldSeq l i o ho
theorem r_HeldSeq_get0 (l : List HeldSeq) (i : Nat) : (l.flatMap E_HeldSeq)[i * 42]? = l[i]?.bind fun a => (E_HeldSeq a)[0]? := rows_get l_HeldSeq l i 0 (by decide)
theorem r_HeldSeq_sub (l : List HeldSeq) (i o n : Nat) (ho : o + n ≤ 42) (hn : 0 < n) : sub? (l.flatMap E_HeldSeq) (i * 42 + o) n = l[i]?.bind fun a => sub? (E_HeldSeq a) o n := rows_sub l_HeldSeq l i o n ho hn
theorem r_HeldSeq_sub0 (l : List HeldSeq) (i n : Nat) (ho : n ≤ 42) (hn : 0 < n) : sub? (l.flatMap E_HeldSeq) (i * 42) n = l[i]?.bind fun a => sub? (E_HeldSeq a) 0 n := rows_sub l_HeldSeq l i 0 n (by omega) hn
theorem r_HeldSeq_getL (l : List HeldSeq) (o : Nat) : (l.flatMap E_HeldSeq)[o]? = l[o / 42]?.bind fun a => (E_HeldSeq a)[o % 42]? := rows_getL l_HeldSeq (by decide) l o
theorem r_HeldSeq_subL (l : List HeldSeq) (o n : Nat) (ho : o % 42 + n ≤ 42) (hn : 0 < n) : sub? (l.flatMap E_HeldSeq) o n = l[o / 42]?.bind fun a => sub? (E_HeldSeq a) (o % 42) n := rows_subL l_HeldSeq l o n ho hn
theorem r_HeldSeq_subw (l : List HeldSeq) : sub? (l.flatMap E_HeldSeq) 0 (l.length * 42) = some (l.flatMap E_HeldSeq) := rows_subw l_HeldSeq l
theorem r_HeldSeq_take (l : List HeldSeq) (n : Nat) : (l.flatMap E_HeldSeq).take (n * 42) = (l.take n).flatMap E_HeldSeq := rows_take l_HeldSeq l n
theorem r_HeldSeq_drop (l : List HeldSeq) (n : Nat) : (l.flatMap E_HeldSeq).drop (n * 42) = (l.drop n).flatMap E_HeldSeq := rows_drop l_HeldSeq l n
theorem r_HeldSeq_fz (l : List HeldSeq) (o : Nat → Ob) (n : Nat) : (l.flatMap E_HeldSeq).map (fz o (n + 2)) = (l.flatMap E_HeldSeq) := rows_fz (fun a => f_HeldSeq a o n) l
theorem r_HeldSeq_rch (l : List HeldSeq) (o : Nat → Ob) (n : Nat) : (l.flatMap E_HeldSeq).flatMap (reach o (n + 2)) = [] := rows_reach (fun a => q_HeldSeq a o n) l
theorem r_HeldSeq_s_At (l : List HeldSeq) (i : Nat) (v : Int) : (l.flatMap E_HeldSeq).set (i * 42) (vi v) = (l.modify i (fun y => { y with At := v })).flatMap E_HeldSeq := rows_set l_HeldSeq l i 0 _ (fun y => { y with At := v }) (by decide) (fun _ => by rfl)
theorem r_HeldSeq_s_Frame_Head_Kind (l : List HeldSeq) (i : Nat) (v : Int) : (l.flatMap E_HeldSeq).set (i * 42 + 1) (vu v) = (l.modify i (fun y => { y with Frame.Head.Kind := v })).flatMap E_HeldSeq := rows_set l_HeldSeq l i 1 _ (fun y => { y with Frame.Head.Kind := v }) (by decide) (fun _ => by rfl)
theorem r_HeldSeq_s_Frame_Head_Sub (l : List HeldSeq) (i : Nat) (v : Int) : (l.flatMap E_HeldSeq).set (i * 42 + 2) (vu v) = (l.modify i (fun y => { y with Frame.Head.Sub := v })).flatMap E_HeldSeq := rows_set l_HeldSeq l i 2 _ (fun y => { y with Frame.Head.Sub := v }) (by decide) (fun _ => by rfl)
theorem r_HeldSeq_s_Frame_Head_Duration (l : List HeldSeq) (i : Nat) (v : Int) : (l.flatMap E_HeldSeq).set (i * 42 + 10) (vi v) = (l.modify i (fun y => { y with Frame.Head.Duration := v })).flatMap E_HeldSeq := rows_set l_HeldSeq l i 10 _ (fun y => { y with Frame.Head.Duration := v }) (by decide) (fun _ => by rfl)
theorem r_HeldSeq_s_Frame_Head_A1_a0 (l : List HeldSeq) (i : Nat) (v : Int) : (l.flatMap E_HeldSeq).set (i * 42 + 11) (vu v) = (l.modify i (fun y => { y with Frame.Head.A1.a0 := v })).flatMap E_HeldSeq := rows_set l_HeldSeq l i 11 _ (fun y => { y with Frame.Head.A1.a0 := v }) (by decide) (fun _ => by rfl)
theorem r_HeldSeq_s_Frame_Head_A1_a1 (l : List HeldSeq) (i : Nat) (v : Int) : (l.flatMap E_HeldSeq).set (i * 42 + 12) (vu v) = (l.modify i (fun y => { y with Frame.Head.A1.a1 := v })).flatMap E_HeldSeq := rows_set l_HeldSeq l i 12 _ (fun y => { y with Frame.Head.A1.a1 := v }) (by decide) (fun _ => by rfl)
theorem r_HeldSeq_s_Frame_Head_A1_a2 (l : List HeldSeq) (i : Nat) (v : Int) : (l.flatMap E_HeldSeq).set (i * 42 + 13) (vu v) = (l.modify i (fun y => { y with Frame.Head.A1.a2 := v })).flatMap E_HeldSeq := rows_set l_HeldSeq l i 13 _ (fun y => { y with Frame.Head.A1.a2 := v }) (by decide) (fun _ => by rfl)
theorem r_HeldSeq_s_Frame_Head_A1_a3 (l : List HeldSeq) (i : Nat) (v : Int) : (l.flatMap E_HeldSeq).set (i * 42 + 14) (vu v) = (l.modify i (fun y => { y with Frame.Head.A1.a3 := v })).flatMap E_HeldSeq := rows_set l_HeldSeq l i 14 _ (fun y => { y with Frame.Head.A1.a3 := v }) (by decide) (fun _ => by rfl)
theorem r_HeldSeq_s_Frame_Head_A1_a4 (l : List HeldSeq) (i : Nat) (v : Int) : (l.flatMap E_HeldSeq).set (i * 42 + 15) (vu v) = (l.modify i (fun y => { y with Frame.Head.A1.a4 := v })).flatMap E_HeldSeq := rows_set l_HeldSeq l i 15 _ (fun y => { y with Frame.Head.A1.a4 := v }) (by decide) (fun _ => by rfl)
theorem r_HeldSeq_s_Frame_Head_A1_a5 (l : List HeldSeq) (i : Nat) (v : Int) : (l.flatMap E_HeldSeq).set (i * 42 + 16) (vu v) = (l.modify i (fun y => { y with Frame.Head.A1.a5 := v })).flatMap E_HeldSeq := rows_set l_HeldSeq l i 16 _ (fun y => { y with Frame.Head.A1.a5 := v }) (by decide) (fun _ => by rfl)
theorem r_HeldSeq_s_Frame_Head_A2_a0 (l : List HeldSeq) (i : Nat) (v : Int) : (l.flatMap E_HeldSeq).set (i * 42 + 17) (vu v) = (l.modify i (fun y => { y with Frame.Head.A2.a0 := v })).flatMap E_HeldSeq := rows_set l_HeldSeq l i 17 _ (fun y => { y with Frame.Head.A2.a0 := v }) (by decide) (fun _ => by rfl)
theorem r_HeldSeq_s_Frame_Head_A2_a1 (l : List HeldSeq) (i : Nat) (v : Int) : (l.flatMap E_HeldSeq).set (i * 42 + 18) (vu v) = (l.modify i (fun y => { y with Frame.Head.A2.a1 := v })).flatMap E_HeldSeq := rows_set l_HeldSeq l i 18 _ (fun y => { y with Frame.Head.A2.a1 := v }) (by decide) (fun _ => by rfl)
theorem r_HeldSeq_s_Frame_Head_A2_a2 (l : List HeldSeq) (i : Nat) (v : Int) : (l.flatMap E_HeldSeq).set (i * 42 + 19) (vu v) = (l.modify i (fun y => { y with Frame.Head.A2.a2 := v })).flatMap E_HeldSeq := rows_set l_HeldSeq l i 19 _ (fun y => { y with Frame.Head.A2.a2 := v }) (by decide) (fun _ => by rfl)
theorem r_HeldSeq_s_Frame_Head_A2_a3 (l : List HeldSeq) (i : Nat) (v : Int) : (l.flatMap E_HeldSeq).set (i * 42 + 20) (vu v) = (l.modify i (fun y => { y with Frame.Head.A2.a3 := v })).flatMap E_HeldSeq := rows_set l_HeldSeq l i 20 _ (fun y => { y with Frame.Head.A2.a3 := v }) (by decide) (fun _ => by rfl)
theorem r_HeldSeq_s_Frame_Head_A2_a4 (l : List HeldSeq) (i : Nat) (v : Int) : (l.flatMap E_HeldSeq).set (i * 42 + 21) (vu v) = (l.modify i (fun y => { y with Frame.Head.A2.a4 := v })).flatMap E_HeldSeq := rows_set l_HeldSeq l i 21 _ (fun y => { y with Frame.Head.A2.a4 := v }) (by decide) (fun _ => by rfl)
theorem r_HeldSeq_s_Frame_Head_A2_a5 (l : List HeldSeq) (i : Nat) (v : Int) : (l.flatMap E_HeldSeq).set (i * 42 + 22) (vu v) = (l.modify i (fun y => { y with Frame.Head.A2.a5 := v })).flatMap E_HeldSeq := rows_set l_HeldSeq l i 22 _ (fun y => { y with Frame.Head.A2.a5 := v }) (by decide) (fun _ => by rfl)
theorem r_HeldSeq_s_Frame_Head_A3_a0 (l : List HeldSeq) (i : Nat) (v : Int) : (l.flatMap E_HeldSeq).set (i * 42 + 23) (vu v) = (l.modify i (fun y => { y with Frame.Head.A3.a0 := v })).flatMap E_HeldSeq := rows_set l_HeldSeq l i 23 _ (fun y => { y with Frame.Head.A3.a0 := v }) (by decide) (fun _ => by rfl)
theorem r_HeldSeq_s_Frame_Head_A3_a1 (l : List HeldSeq) (i : Nat) (v : Int) : (l.flatMap E_HeldSeq).set (i * 42 + 24) (vu v) = (l.modify i (fun y => { y with Frame.Head.A3.a1 := v })).flatMap E_HeldSeq := rows_set l_HeldSeq l i 24 _ (fun y => { y with Frame.Head.A3.a1 := v }) (by decide) (fun _ => by rfl)
theorem r_HeldSeq_s_Frame_Head_A3_a2 (l : List HeldSeq) (i : Nat) (v : Int) : (l.flatMap E_HeldSeq).set (i * 42 + 25) (vu v) = (l.modify i (fun y => { y with Frame.Head.A3.a2 := v })).flatMap E_HeldSeq := rows_set l_HeldSeq l i 25 _ (fun y => { y with Frame.Head.A3.a2 := v }) (by decide) (fun _ => by rfl)
theorem r_HeldSeq_s_Frame_Head_A3_a3 (l : List HeldSeq) (i : Nat) (v : Int) : (l.flatMap E_HeldSeq).set (i * 42 + 26) (vu v) = (l.modify i (fun y => { y with Frame.Head.A3.a3 := v })).flatMap E_HeldSeq := rows_set l_HeldSeq l i 26 _ (fun y => { y with Frame.Head.A3.a3 := v }) (by decide) (fun _ => by rfl)
theorem r_HeldSeq_s_Frame_Head_A3_a4 (l : List HeldSeq) (i : Nat) (v : Int) : (l.flatMap E_HeldSeq).set (i * 42 + 27) (vu v) = (l.modify i (fun y => { y with Frame.Head.A3.a4 := v })).flatMap E_HeldSeq := rows_set l_HeldSeq l i 27 _ (fun y => { y with Frame.Head.A3.a4 := v }) (by decide) (fun _ => by rfl)
theorem r_HeldSeq_s_Frame_Head_A3_a5 (l : List HeldSeq) (i : Nat) (v : Int) : (l.flatMap E_HeldSeq).set (i * 42 + 28) (vu v) = (l.modify i (fun y => { y with Frame.Head.A3.a5 := v })).flatMap E_HeldSeq := rows_set l_HeldSeq l i 28 _ (fun y => { y with Frame.Head.A3.a5 := v }) (by decide) (fun _ => by rfl)
theorem r_HeldSeq_s_Frame_Head_A4_a0 (l : List HeldSeq) (i : Nat) (v : Int) : (l.flatMap E_HeldSeq).set (i * 42 + 29) (vu v) = (l.modify i (fun y => { y with Frame.Head.A4.a0 := v })).flatMap E_HeldSeq := rows_set l_HeldSeq l i 29 _ (fun y => { y with Frame.Head.A4.a0 := v }) (by decide) (fun _ => by rfl)
theorem r_HeldSeq_s_Frame_Head_A4_a1 (l : List HeldSeq) (i : Nat) (v : Int) : (l.flatMap E_HeldSeq).set (i * 42 + 30) (vu v) = (l.modify i (fun y => { y with Frame.Head.A4.a1 := v })).flatMap E_HeldSeq := rows_set l_HeldSeq l i 30 _ (fun y => { y with Frame.Head.A4.a1 := v }) (by decide) (fun _ => by rfl)
theorem r_HeldSeq_s_Frame_Head_A4_a2 (l : List HeldSeq) (i : Nat) (v : Int) : (l.flatMap E_HeldSeq).set (i * 42 + 31) (vu v) = (l.modify i (fun y => { y with Frame.Head.A4.a2 := v })).flatMap E_HeldSeq := rows_set l_HeldSeq l i 31 _ (fun y => { y with Frame.Head.A4.a2 := v }) (by decide) (fun _ => by rfl)
theorem r_HeldSeq_s_Frame_Head_A4_a3 (l : List HeldSeq) (i : Nat) (v : Int) : (l.flatMap E_HeldSeq).set (i * 42 + 32) (vu v) = (l.modify i (fun y => { y with Frame.Head.A4.a3 := v })).flatMap E_HeldSeq := rows_set l_HeldSeq l i 32 _ (fun y => { y with Frame.Head.A4.a3 := v }) (by decide) (fun _ => by rfl)
theorem r_HeldSeq_s_Frame_Head_A4_a4 (l : List HeldSeq) (i : Nat) (v : Int) : (l.flatMap E_HeldSeq).set (i * 42 + 33) (vu v) = (l.modify i (fun y => { y with Frame.Head.A4.a4 := v })).flatMap E_HeldSeq := rows_set l_HeldSeq l i 33 _ (fun y => { y with Frame.Head.A4.a4 := v }) (by decide) (fun _ => by rfl)
theorem r_HeldSeq_s_Frame_Head_A4_a5 (l : List HeldSeq) (i : Nat) (v : Int) : (l.flatMap E_HeldSeq).set (i * 42 + 34) (vu v) = (l.modify i (fun y => { y with Frame.Head.A4.a5 := v })).flatMap E_HeldSeq := rows_set l_HeldSeq l i 34 _ (fun y => { y with Frame.Head.A4.a5 := v }) (by decide) (fun _ => by rfl)
theorem r_HeldSeq_s_Frame_Head_Seq (l : List HeldSeq) (i : Nat) (v : Int) : (l.flatMap E_HeldSeq).set (i * 42 + 35) (vi v) = (l.modify i (fun y => { y with Frame.Head.Seq := v })).flatMap E_HeldSeq := rows_set l_HeldSeq l i 35 _ (fun y => { y with Frame.Head.Seq := v }) (by decide) (fun _ => by rfl)
theorem r_HeldSeq_s_Frame_Head_Frag (l : List HeldSeq) (i : Nat) (v : Int) : (l.flatMap E_HeldSeq).set (i * 42 + 36) (vi v) = (l.modify i (fun y => { y with Frame.Head.Frag := v })).flatMap E_HeldSeq := rows_set l_HeldSeq l i 36 _ (fun y => { y with Frame.Head.Frag := v }) (by decide) (fun _ => by rfl)
theorem r_HeldSeq_s_Frame_Head_Tid (l : List HeldSeq) (i : Nat) (v : Int) : (l.flatMap E_HeldSeq).set (i * 42 + 37) (vi v) = (l.modify i (fun y => { y with Frame.Head.Tid := v })).flatMap E_HeldSeq := rows_set l_HeldSeq l i 37 _ (fun y => { y with Frame.Head.Tid := v }) (by decide) (fun _ => by rfl)
theorem r_HeldSeq_s_Frame_Head_Ack (l : List HeldSeq) (i : Nat) (v : Int) : (l.flatMap E_HeldSeq).set (i * 42 + 38) (vu v) = (l.modify i (fun y => { y with Frame.Head.Ack := v })).flatMap E_HeldSeq := rows_set l_HeldSeq l i 38 _ (fun y => { y with Frame.Head.Ack := v }) (by decide) (fun _ => by rfl)
theorem r_HeldSeq_put (l : List HeldSeq) (i : Nat) (x : HeldSeq) (b0 : (List Int)) : putAt (l.flatMap E_HeldSeq) (i * 42) (e_HeldSeq x (.imm (List.map vu b0) b0.length)) = (l.set i { x with Frame.Body := b0 }).flatMap E_HeldSeq := rows_put l_HeldSeq (by decide) l i { x with Frame.Body := b0 }
theorem r_HeldSeq_app (l : List HeldSeq) (x : HeldSeq) (b0 : (List Int)) : (l.flatMap E_HeldSeq) ++ e_HeldSeq x (S_vu b0) = (l ++ [{ x with Frame.Body := b0 }]).flatMap E_HeldSeq := by rw [List.flatMap_append]; simp only [List.flatMap_cons, List.flatMap_nil, List.append_nil]; rfl
theorem r_HeldSeq_cat (l : List HeldSeq) (m : List HeldSeq) : (l.flatMap E_HeldSeq) ++ m.flatMap E_HeldSeq = (l ++ m).flatMap E_HeldSeq := List.flatMap_append.symm
theorem f_S_HeldSeq (l : List HeldSeq) (o : Nat → Ob) (n : Nat) : fz o (n + 3) (S_HeldSeq l) = S_HeldSeq l := by simp only [S_HeldSeq_eq, fz, r_HeldSeq_fz]
theorem q_S_HeldSeq (l : List HeldSeq) (o : Nat → Ob) (n : Nat) : reach o (n + 3) (S_HeldSeq l) = [] := by simp only [S_HeldSeq_eq, reach, r_HeldSeq_rch]
attribute [go_sem] S_HeldSeq_eq l_HeldSeq r_HeldSeq_len r_HeldSeq_get r_HeldSeq_get0 r_HeldSeq_sub r_HeldSeq_sub0 r_HeldSeq_subw r_HeldSeq_take r_HeldSeq_drop r_HeldSeq_fz r_HeldSeq_rch r_HeldSeq_s_At r_HeldSeq_s_Frame_Head_Kind r_HeldSeq_s_Frame_Head_Sub r_HeldSeq_s_Frame_Head_Duration r_HeldSeq_s_Frame_Head_A1_a0 r_HeldSeq_s_Frame_Head_A1_a1 r_HeldSeq_s_Frame_Head_A1_a2 r_HeldSeq_s_Frame_Head_A1_a3 r_HeldSeq_s_Frame_Head_A1_a4 r_HeldSeq_s_Frame_Head_A1_a5 r_HeldSeq_s_Frame_Head_A2_a0 r_HeldSeq_s_Frame_Head_A2_a1 r_HeldSeq_s_Frame_Head_A2_a2 r_HeldSeq_s_Frame_Head_A2_a3 r_HeldSeq_s_Frame_Head_A2_a4 r_HeldSeq_s_Frame_Head_A2_a5 r_HeldSeq_s_Frame_Head_A3_a0 r_HeldSeq_s_Frame_Head_A3_a1 r_HeldSeq_s_Frame_Head_A3_a2 r_HeldSeq_s_Frame_Head_A3_a3 r_HeldSeq_s_Frame_Head_A3_a4 r_HeldSeq_s_Frame_Head_A3_a5 r_HeldSeq_s_Frame_Head_A4_a0 r_HeldSeq_s_Frame_Head_A4_a1 r_HeldSeq_s_Frame_Head_A4_a2 r_HeldSeq_s_Frame_Head_A4_a3 r_HeldSeq_s_Frame_Head_A4_a4 r_HeldSeq_s_Frame_Head_A4_a5 r_HeldSeq_s_Frame_Head_Seq r_HeldSeq_s_Frame_Head_Frag r_HeldSeq_s_Frame_Head_Tid r_HeldSeq_s_Frame_Head_Ack r_HeldSeq_put r_HeldSeq_app r_HeldSeq_cat f_S_HeldSeq q_S_HeldSeq

structure Window where
  Start : Int
  Bits : Int
  deriving DecidableEq

def Window.z : Window := ⟨0, 0⟩

def e_Window (x : Window) : List AV := [vi x.Start, vq x.Bits]

theorem e_Window_len (x : Window) : (e_Window x).length = 2 := by rfl
theorem e_Window_sub (x : Window) : sub? (e_Window x) 0 2 = some (e_Window x) := by rfl
theorem e_Window_take (x : Window) : (e_Window x).take 2 = (e_Window x) := by rfl
theorem e_Window_all (x : Window) (y : Window) : putAt (e_Window x) 0 (e_Window y) = e_Window y := by rfl
theorem e_Window_g_Start (x : Window) : (e_Window x)[0]? = some (vi x.Start) := by rfl
theorem e_Window_s_Start (x : Window) (v : Int) : (e_Window x).set 0 (vi v) = e_Window { x with Start := v } := by rfl
theorem e_Window_g_Bits (x : Window) : (e_Window x)[1]? = some (vq x.Bits) := by rfl
theorem e_Window_s_Bits (x : Window) (v : Int) : (e_Window x).set 1 (vq v) = e_Window { x with Bits := v } := by rfl
theorem e_Window_fz (x : Window) (o : Nat → Ob) (n : Nat) : (e_Window x).map (fz o (n + 1)) = e_Window x := by rfl
theorem e_Window_reach (x : Window) (o : Nat → Ob) (n : Nat) : (e_Window x).flatMap (reach o (n + 1)) = [] := by
  simp only [e_Window, List.cons_append, List.nil_append, List.append_nil, List.flatMap_cons, List.flatMap_nil, reach_v]
theorem e_Window_clean (x : Window) : ∀ c ∈ (e_Window x), Clean c := by
  simp only [e_Window, List.cons_append, List.nil_append]
  repeat' (first | exact Clean.v _ | assumption | exact List.forall_mem_nil _ | refine List.forall_mem_cons.2 ⟨?_, ?_⟩)
theorem f_Window (x : Window) (o : Nat → Ob) (n : Nat) : (e_Window x).map (fz o (n + 1)) = e_Window x := by simp only [e_Window_fz]
theorem q_Window (x : Window) (o : Nat → Ob) (n : Nat) : (e_Window x).flatMap (reach o (n + 1)) = [] := by simp only [e_Window_reach, List.append_nil]
theorem e_Window_kinds (x : Window) : kindsOk [some .i64, some .u64] (e_Window x) = true := by rfl
theorem e_Window_eq (x y : Window) : eqCells (e_Window x) (e_Window y) = decide (x = y) := by
  rw [Bool.eq_iff_iff]
  simp only [e_Window, List.cons_append, List.nil_append, List.append_nil, eqCells, eqv, Bool.and_eq_true, beq_iff_eq, decide_eq_true_eq, and_true]
  constructor
  · intro h
    obtain ⟨v1, v2⟩ := x
    obtain ⟨v3', v4'⟩ := y
    simp_all
  · rintro rfl
    simp
attribute [go_sem] e_Window_len e_Window_sub e_Window_take e_Window_all e_Window_g_Start e_Window_s_Start e_Window_g_Bits e_Window_s_Bits e_Window_fz e_Window_reach e_Window_kinds e_Window_eq f_Window q_Window

structure Reorder where
  Start : Int
  Size : Int
  Hold : Int
  Held : (List HeldSeq)
  Seen : Window
  deriving DecidableEq

def Reorder.z : Reorder := ⟨0, 0, 0, [], Window.z⟩

def e_Reorder (x : Reorder) (s0 : AV) : List AV := [vi x.Start, vi x.Size, vi x.Hold, s0] ++ (e_Window x.Seen)

theorem e_Reorder_len (x : Reorder) (s0 : AV) : (e_Reorder x s0).length = 6 := by rfl
theorem e_Reorder_sub (x : Reorder) (s0 : AV) : sub? (e_Reorder x s0) 0 6 = some (e_Reorder x s0) := by rfl
theorem e_Reorder_take (x : Reorder) (s0 : AV) : (e_Reorder x s0).take 6 = (e_Reorder x s0) := by rfl
theorem e_Reorder_all (x : Reorder) (s0 : AV) (y : Reorder) (s02 : AV) : putAt (e_Reorder x s0) 0 (e_Reorder y s02) = e_Reorder y s02 := by rfl
theorem e_Reorder_g_Start (x : Reorder) (s0 : AV) : (e_Reorder x s0)[0]? = some (vi x.Start) := by rfl
theorem e_Reorder_s_Start (x : Reorder) (s0 : AV) (v : Int) : (e_Reorder x s0).set 0 (vi v) = e_Reorder { x with Start := v } s0 := by rfl
theorem e_Reorder_g_Size (x : Reorder) (s0 : AV) : (e_Reorder x s0)[1]? = some (vi x.Size) := by rfl
theorem e_Reorder_s_Size (x : Reorder) (s0 : AV) (v : Int) : (e_Reorder x s0).set 1 (vi v) = e_Reorder { x with Size := v } s0 := by rfl
theorem e_Reorder_g_Hold (x : Reorder) (s0 : AV) : (e_Reorder x s0)[2]? = some (vi x.Hold) := by rfl
theorem e_Reorder_s_Hold (x : Reorder) (s0 : AV) (v : Int) : (e_Reorder x s0).set 2 (vi v) = e_Reorder { x with Hold := v } s0 := by rfl
theorem e_Reorder_g_Held (x : Reorder) (s0 : AV) : (e_Reorder x s0)[3]? = some s0 := by rfl
theorem e_Reorder_s_Held (x : Reorder) (s0 : AV) (v : AV) : (e_Reorder x s0).set 3 v = e_Reorder x v := by rfl
theorem e_Reorder_g_Seen_Start (x : Reorder) (s0 : AV) : (e_Reorder x s0)[4]? = some (vi x.Seen.Start) := by rfl
theorem e_Reorder_s_Seen_Start (x : Reorder) (s0 : AV) (v : Int) : (e_Reorder x s0).set 4 (vi v) = e_Reorder { x with Seen.Start := v } s0 := by rfl
theorem e_Reorder_g_Seen_Bits (x : Reorder) (s0 : AV) : (e_Reorder x s0)[5]? = some (vq x.Seen.Bits) := by rfl
theorem e_Reorder_s_Seen_Bits (x : Reorder) (s0 : AV) (v : Int) : (e_Reorder x s0).set 5 (vq v) = e_Reorder { x with Seen.Bits := v } s0 := by rfl
theorem e_Reorder_d_Seen (x : Reorder) (s0 : AV) : sub? (e_Reorder x s0) 4 2 = some (e_Window x.Seen) := by rfl
theorem e_Reorder_p_Seen (x : Reorder) (s0 : AV) (v : Window) : putAt (e_Reorder x s0) 4 (e_Window v) = e_Reorder { x with Seen := v } s0 := by rfl
theorem e_Reorder_fz (x : Reorder) (s0 : AV) (o : Nat → Ob) (n : Nat) : (e_Reorder x s0).map (fz o (n + 1)) = e_Reorder x (fz o (n + 1) s0) := by rfl
theorem e_Reorder_reach (x : Reorder) (s0 : AV) (o : Nat → Ob) (n : Nat) : (e_Reorder x s0).flatMap (reach o (n + 1)) = reach o (n + 1) s0 := by
  simp only [e_Reorder, e_Window, List.cons_append, List.nil_append, List.append_nil, List.flatMap_cons, List.flatMap_nil, reach_v]
theorem e_Reorder_clean (x : Reorder) (s0 : AV) (h_s0 : Clean s0) : ∀ c ∈ (e_Reorder x s0), Clean c := by
  simp only [e_Reorder, e_Window, List.cons_append, List.nil_append]
  repeat' (first | exact Clean.v _ | assumption | exact List.forall_mem_nil _ | refine List.forall_mem_cons.2 ⟨?_, ?_⟩)
theorem e_Reorder_tm {st : AS} {F : List Nat} {σ : List (Option Nat)} (x : Reorder) (s0 : AV) (s02 : AV) (h_s0 : Tm st F σ s0 s02) : TmL st F σ (e_Reorder x s0) (e_Reorder x s02) := by
  simp only [e_Reorder, e_Window, List.cons_append, List.nil_append]
  repeat' (first | exact TmL.nil | (refine TmL.cons (Tm.v _) ?_) | (refine TmL.cons (by assumption) ?_))
theorem e_Reorder_tmx {st : AS} {F : List Nat} {σ : List (Option Nat)} {x y : Reorder} {s0 s02 : AV} (hxy : e_Reorder y s02 = e_Reorder x s02) (h_s0 : Tm st F σ s0 s02) : TmL st F σ (e_Reorder x s0) (e_Reorder y s02) := by
  rw [hxy]; exact e_Reorder_tm x s0 s02 h_s0
theorem e_Reorder_ren (x : Reorder) {s0 : (Nat → Nat) → AV} (h_s0 : RenM s0) : RenML fun q => e_Reorder x (s0 q) := by
  simp only [e_Reorder, e_Window, List.cons_append, List.nil_append]
  repeat' (first | exact RenML.nil | (refine RenML.cons (RenM.const (Clean.v _)) ?_) | (refine RenML.cons (by assumption) ?_))
theorem e_Reorder_frl {q nx off : Nat} (x : Reorder) {s0 : AV} {s02 : AV} (h_s0 : Fr q nx off s0 s02) : FrL q nx off (e_Reorder x s0) (e_Reorder x s02) := by
  simp only [e_Reorder, e_Window, List.cons_append, List.nil_append]
  repeat' (first | exact FrL.nil | (refine FrL.cons _ _ _ _ (by assumption) ?_) | (refine FrL.cons _ _ _ _ (Fr.same _) ?_))
def E_Reorder (x : Reorder) : List AV := e_Reorder x (S_HeldSeq x.Held)
theorem E_Reorder_eq (x : Reorder) : E_Reorder x = e_Reorder x (S_HeldSeq x.Held) := rfl
theorem E_Reorder_clean (x : Reorder) : ∀ c ∈ E_Reorder x, Clean c := e_Reorder_clean x _ (S_HeldSeq_clean _)
theorem f_Reorder (x : Reorder) (o : Nat → Ob) (n : Nat) : (E_Reorder x).map (fz o (n + 3)) = E_Reorder x := by simp only [E_Reorder_eq, e_Reorder_fz, f_S_HeldSeq]
theorem q_Reorder (x : Reorder) (o : Nat → Ob) (n : Nat) : (E_Reorder x).flatMap (reach o (n + 3)) = [] := by simp only [E_Reorder_eq, e_Reorder_reach, q_S_HeldSeq, List.append_nil]
attribute [go_sem] e_Reorder_len e_Reorder_sub e_Reorder_take e_Reorder_all e_Reorder_g_Start e_Reorder_s_Start e_Reorder_g_Size e_Reorder_s_Size e_Reorder_g_Hold e_Reorder_s_Hold e_Reorder_g_Held e_Reorder_s_Held e_Reorder_g_Seen_Start e_Reorder_s_Seen_Start e_Reorder_g_Seen_Bits e_Reorder_s_Seen_Bits e_Reorder_d_Seen e_Reorder_p_Seen e_Reorder_fz e_Reorder_reach E_Reorder_eq f_Reorder q_Reorder

def S_Frame (l : List Frame) : AV := .imm (List.flatMap E_Frame l) l.length
theorem S_Frame_eq (l : List Frame) : S_Frame l = .imm (List.flatMap E_Frame l) l.length := rfl
theorem l_Frame (x : Frame) : (E_Frame x).length = 41 := by rfl
theorem S_Frame_clean (l : List Frame) : Clean (S_Frame l) := Clean.imm (rows_clean E_Frame_clean l)
theorem c_Frame (l : List Frame) : ∀ c ∈ l.flatMap E_Frame, Clean c := rows_clean E_Frame_clean l
theorem r_Frame_len (l : List Frame) : (l.flatMap E_Frame).length = l.length * 41 := flat_len l_Frame l
theorem r_Frame_get (l : List Frame) (i o : Nat) (ho : o < 41) : (l.flatMap E_Frame)[i * 41 + o]? = l[i]?.bind fun a => (E_Frame a)[o]? := rows_get l_Frame l i o ho
theorem r_Frame_get0 (l : List Frame) (i : Nat) : (l.flatMap E_Frame)[i * 41]? = l[i]?.bind fun a => (E_Frame a)[0]? := rows_get l_Frame l i 0 (by decide)
theorem r_Frame_sub (l : List Frame) (i o n : Nat) (ho : o + n ≤ 41) (hn : 0 < n) : sub? (l.flatMap E_Frame) (i * 41 + o) n = l[i]?.bind fun a => sub? (E_Frame a) o n := rows_sub l_Frame l i o n ho hn
theorem r_Frame_sub0 (l : List Frame) (i n : Nat) (ho : n ≤ 41) (hn : 0 < n) : sub? (l.flatMap E_Frame) (i * 41) n = l[i]?.bind fun a => sub? (E_Frame a) 0 n := rows_sub l_Frame l i 0 n (by omega) hn
theorem r_Frame_subw (l : List Frame) : sub? (l.flatMap E_Frame) 0 (l.length * 41) = some (l.flatMap E_Frame) := rows_subw l_Frame l
theorem r_Frame_take (l : List Frame) (n : Nat) : (l.flatMap E_Frame).take (n * 41) = (l.take n).flatMap E_Frame := rows_take l_Frame l n
theorem r_Frame_drop (l : List Frame) (n : Nat) : (l.flatMap E_Frame).drop (n * 41) = (l.drop n).flatMap E_Frame := rows_drop l_Frame l n
theorem r_Frame_fz (l : List Frame) (o : Nat → Ob) (n : Nat) : (l.flatMap E_Frame).map (fz o (n + 2)) = (l.flatMap E_Frame) := rows_fz (fun a => f_Frame a o n) l
theorem r_Frame_rch (l : List Frame) (o : Nat → Ob) (n : Nat) : (l.flatMap E_Frame).flatMap (reach o (n + 2)) = [] := rows_reach (fun a => q_Frame a o n) l
theorem r_Frame_s_Head_Kind (l : List Frame) (i : Nat) (v : Int) : (l.flatMap E_Frame).set (i * 41) (vu v) = (l.modify i (fun y => { y with Head.Kind := v })).flatMap E_Frame := rows_set l_Frame l i 0 _ (fun y => { y with Head.Kind := v }) (by decide) (fun _ => by rfl)
theorem r_Frame_s_Head_Sub (l : List Frame) (i : Nat) (v : Int) : (l.flatMap E_Frame).set (i * 41 + 1) (vu v) = (l.modify i (fun y => { y with Head.Sub := v })).flatMap E_Frame := rows_set l_Frame l i 1 _ (fun y => { y with Head.Sub := v }) (by decide) (fun _ => by rfl)
theorem r_Frame_s_Head_Duration (l : List Frame) (i : Nat) (v : Int) : (l.flatMap E_Frame).set (i * 41 + 9) (vi v) = (l.modify i (fun y => { y with Head.Duration := v })).flatMap E_Frame := rows_set l_Frame l i 9 _ (fun y => { y with Head.Duration := v }) (by decide) (fun _ => by rfl)
theorem r_Frame_s_Head_A1_a0 (l : List Frame) (i : Nat) (v : Int) : (l.flatMap E_Frame).set (i * 41 + 10) (vu v) = (l.modify i (fun y => { y with Head.A1.a0 := v })).flatMap E_Frame := rows_set l_Frame l i 10 _ (fun y => { y with Head.A1.a0 := v }) (by decide) (fun _ => by rfl)
theorem r_Frame_s_Head_A1_a1 (l : List Frame) (i : Nat) (v : Int) : (l.flatMap E_Frame).set (i * 41 + 11) (vu v) = (l.modify i (fun y => { y with Head.A1.a1 := v })).flatMap E_Frame := rows_set l_Frame l i 11 _ (fun y => { y with Head.A1.a1 := v }) (by decide) (fun _ => by rfl)
theorem r_Frame_s_Head_A1_a2 (l : List Frame) (i : Nat) (v : Int) : (l.flatMap E_Frame).set (i * 41 + 12) (vu v) = (l.modify i (fun y => { y with Head.A1.a2 := v })).flatMap E_Frame := rows_set l_Frame l i 12 _ (fun y => { y with Head.A1.a2 := v }) (by decide) (fun _ => by rfl)
theorem r_Frame_s_Head_A1_a3 (l : List Frame) (i : Nat) (v : Int) : (l.flatMap E_Frame).set (i * 41 + 13) (vu v) = (l.modify i (fun y => { y with Head.A1.a3 := v })).flatMap E_Frame := rows_set l_Frame l i 13 _ (fun y => { y with Head.A1.a3 := v }) (by decide) (fun _ => by rfl)
theorem r_Frame_s_Head_A1_a4 (l : List Frame) (i : Nat) (v : Int) : (l.flatMap E_Frame).set (i * 41 + 14) (vu v) = (l.modify i (fun y => { y with Head.A1.a4 := v })).flatMap E_Frame := rows_set l_Frame l i 14 _ (fun y => { y with Head.A1.a4 := v }) (by decide) (fun _ => by rfl)
theorem r_Frame_s_Head_A1_a5 (l : List Frame) (i : Nat) (v : Int) : (l.flatMap E_Frame).set (i * 41 + 15) (vu v) = (l.modify i (fun y => { y with Head.A1.a5 := v })).flatMap E_Frame := rows_set l_Frame l i 15 _ (fun y => { y with Head.A1.a5 := v }) (by decide) (fun _ => by rfl)
theorem r_Frame_s_Head_A2_a0 (l : List Frame) (i : Nat) (v : Int) : (l.flatMap E_Frame).set (i * 41 + 16) (vu v) = (l.modify i (fun y => { y with Head.A2.a0 := v })).flatMap E_Frame := rows_set l_Frame l i 16 _ (fun y => { y with Head.A2.a0 := v }) (by decide) (fun _ => by rfl)
theorem r_Frame_s_Head_A2_a1 (l : List Frame) (i : Nat) (v : Int) : (l.flatMap E_Frame).set (i * 41 + 17) (vu v) = (l.modify i (fun y => { y with Head.A2.a1 := v })).flatMap E_Frame := rows_set l_Frame l i 17 _ (fun y => { y with Head.A2.a1 := v }) (by decide) (fun _ => by rfl)
theorem r_Frame_s_Head_A2_a2 (l : List Frame) (i : Nat) (v : Int) : (l.flatMap E_Frame).set (i * 41 + 18) (vu v) = (l.modify i (fun y => { y with Head.A2.a2 := v })).flatMap E_Frame := rows_set l_Frame l i 18 _ (fun y => { y with Head.A2.a2 := v }) (by decide) (fun _ => by rfl)
theorem r_Frame_s_Head_A2_a3 (l : List Frame) (i : Nat) (v : Int) : (l.flatMap E_Frame).set (i * 41 + 19) (vu v) = (l.modify i (fun y => { y with Head.A2.a3 := v })).flatMap E_Frame := rows_set l_Frame l i 19 _ (fun y => { y with Head.A2.a3 := v }) (by decide) (fun _ => by rfl)
theorem r_Frame_s_Head_A2_a4 (l : List Frame) (i : Nat) (v : Int) : (l.flatMap E_Frame).set (i * 41 + 20) (vu v) = (l.modify i (fun y => { y with Head.A2.a4 := v })).flatMap E_Frame := rows_set l_Frame l i 20 _ (fun y => { y with Head.A2.a4 := v }) (by decide) (fun _ => by rfl)
theorem r_Frame_s_Head_A2_a5 (l : List Frame) (i : Nat) (v : Int) : (l.flatMap E_Frame).set (i * 41 + 21) (vu v) = (l.modify i (fun y => { y with Head.A2.a5 := v })).flatMap E_Frame := rows_set l_Frame l i 21 _ (fun y => { y with Head.A2.a5 := v }) (by decide) (fun _ => by rfl)
theorem r_Frame_s_Head_A3_a0 (l : List Frame) (i : Nat) (v : Int) : (l.flatMap E_Frame).set (i * 41 + 22) (vu v) = (l.modify i (fun y => { y with Head.A3.a0 := v })).flatMap E_Frame := rows_set l_Frame l i 22 _ (fun y => { y with Head.A3.a0 := v }) (by decide) (fun _ => by rfl)
theorem r_Frame_s_Head_A3_a1 (l : List Frame) (i : Nat) (v : Int) : (l.flatMap E_Frame).set (i * 41 + 23) (vu v) = (l.modify i (fun y => { y with Head.A3.a1 := v })).flatMap E_Frame := rows_set l_Frame l i 23 _ (fun y => { y with Head.A3.a1 := v }) (by decide) (fun _ => by rfl)
theorem r_Frame_s_Head_A3_a2 (l : List Frame) (i : Nat) (v : Int) : (l.flatMap E_Frame).set (i * 41 + 24) (vu v) = (l.modify i (fun y => { y with Head.A3.a2 := v })).flatMap E_Frame := rows_set l_Frame l i 24 _ (fun y => { y with Head.A3.a2 := v }) (by decide) (fun _ => by rfl)
theorem r_Frame_s_Head_A3_a3 (l : List Frame) (i : Nat) (v : Int) : (l.flatMap E_Frame).set (i * 41 + 25) (vu v) = (l.modify i (fun y => { y with Head.A3.a3 := v })).flatMap E_Frame := rows_set l_Frame l i 25 _ (fun y => { y with Head.A3.a3 := v }) (by decide) (fun _ => by rfl)
theorem r_Frame_s_Head_A3_a4 (l : List Frame) (i : Nat) (v : Int) : (l.flatMap E_Frame).set (i * 41 + 26) (vu v) = (l.modify i (fun y => { y with Head.A3.a4 := v })).flatMap E_Frame := rows_set l_Frame l i 26 _ (fun y => { y with Head.A3.a4 := v }) (by decide) (fun _ => by rfl)
theorem r_Frame_s_Head_A3_a5 (l : List Frame) (i : Nat) (v : Int) : (l.flatMap E_Frame).set (i * 41 + 27) (vu v) = (l.modify i (fun y => { y with Head.A3.a5 := v })).flatMap E_Frame := rows_set l_Frame l i 27 _ (fun y => { y with Head.A3.a5 := v }) (by decide) (fun _ => by rfl)
theorem r_Frame_s_Head_A4_a0 (l : List Frame) (i : Nat) (v : Int) : (l.flatMap E_Frame).set (i * 41 + 28) (vu v) = (l.modify i (fun y => { y with Head.A4.a0 := v })).flatMap E_Frame := rows_set l_Frame l i 28 _ (fun y => { y with Head.A4.a0 := v }) (by decide) (fun _ => by rfl)
theorem r_Frame_s_Head_A4_a1 (l : List Frame) (i : Nat) (v : Int) : (l.flatMap E_Frame).set (i * 41 + 29) (vu v) = (l.modify i (fun y => { y with Head.A4.a1 := v })).flatMap E_Frame := rows_set l_Frame l i 29 _ (fun y => { y with Head.A4.a1 := v }) (by decide) (fun _ => by rfl)
theorem r_Frame_s_Head_A4_a2 (l : List Frame) (i : Nat) (v : Int) : (l.flatMap E_Frame).set (i * 41 + 30) (vu v) = (l.modify i (fun y => { y with Head.A4.a2 := v })).flatMap E_Frame := rows_set l_Frame l i 30 _ (fun y => { y with Head.A4.a2 := v }) (by decide) (fun _ => by rfl)
theorem r_Frame_s_Head_A4_a3 (l : List Frame) (i : Nat) (v : Int) : (l.flatMap E_Frame).set (i * 41 + 31) (vu v) = (l.modify i (fun y => { y with Head.A4.a3 := v })).flatMap E_Frame := rows_set l_Frame l i 31 _ (fun y => { y with Head.A4.a3 := v }) (by decide) (fun _ => by rfl)
theorem r_Frame_s_Head_A4_a4 (l : List Frame) (i : Nat) (v : Int) : (l.flatMap E_Frame).set (i * 41 + 32) (vu v) = (l.modify i (fun y => { y with Head.A4.a4 := v })).flatMap E_Frame := rows_set l_Frame l i 32 _ (fun y => { y with Head.A4.a4 := v }) (by decide) (fun _ => by rfl)
theorem r_Frame_s_Head_A4_a5 (l : List Frame) (i : Nat) (v : Int) : (l.flatMap E_Frame).set (i * 41 + 33) (vu v) = (l.modify i (fun y => { y with Head.A4.a5 := v })).flatMap E_Frame := rows_set l_Frame l i 33 _ (fun y => { y with Head.A4.a5 := v }) (by decide) (fun _ => by rfl)
theorem r_Frame_s_Head_Seq (l : List Frame) (i : Nat) (v : Int) : (l.flatMap E_Frame).set (i * 41 + 34) (vi v) = (l.modify i (fun y => { y with Head.Seq := v })).flatMap E_Frame := rows_set l_Frame l i 34 _ (fun y => { y with Head.Seq := v }) (by decide) (fun _ => by rfl)
theorem r_Frame_s_Head_Frag (l : List Frame) (i : Nat) (v : Int) : (l.flatMap E_Frame).set (i * 41 + 35) (vi v) = (l.modify i (fun y => { y with Head.Frag := v })).flatMap E_Frame := rows_set l_Frame l i 35 _ (fun y => { y with Head.Frag := v }) (by decide) (fun _ => by rfl)
theorem r_Frame_s_Head_Tid (l : List Frame) (i : Nat) (v : Int) : (l.flatMap E_Frame).set (i * 41 + 36) (vi v) = (l.modify i (fun y => { y with Head.Tid := v })).flatMap E_Frame := rows_set l_Frame l i 36 _ (fun y => { y with Head.Tid := v }) (by decide) (fun _ => by rfl)
theorem r_Frame_s_Head_Ack (l : List Frame) (i : Nat) (v : Int) : (l.flatMap E_Frame).set (i * 41 + 37) (vu v) = (l.modify i (fun y => { y with Head.Ack := v })).flatMap E_Frame := rows_set l_Frame l i 37 _ (fun y => { y with Head.Ack := v }) (by decide) (fun _ => by rfl)
theorem r_Frame_put (l : List Frame) (i : Nat) (x : Frame) (b0 : (List Int)) : putAt (l.flatMap E_Frame) (i * 41) (e_Frame x (.imm (List.map vu b0) b0.length)) = (l.set i { x with Body := b0 }).flatMap E_Frame := rows_put l_Frame (by decide) l i { x with Body := b0 }
theorem r_Frame_app (l : List Frame) (x : Frame) (b0 : (List Int)) : (l.flatMap E_Frame) ++ e_Frame x (S_vu b0) = (l ++ [{ x with Body := b0 }]).flatMap E_Frame := by rw [List.flatMap_append]; simp only [List.flatMap_cons, List.flatMap_nil, List.append_nil]; rfl
theorem r_Frame_cat (l : List Frame) (m : List Frame) : (l.flatMap E_Frame) ++ m.flatMap E_Frame = (l ++ m).flatMap E_Frame := List.flatMap_append.symm
theorem f_S_Frame (l : List Frame) (o : Nat → Ob) (n : Nat) : fz o (n + 3) (S_Frame l) = S_Frame l := by simp only [S_Frame_eq, fz, r_Frame_fz]
theorem q_S_Frame (l : List Frame) (o : Nat → Ob) (n : Nat) : reach o (n + 3) (S_Frame l) = [] := by simp only [S_Frame_eq, reach, r_Frame_rch]
attribute [go_sem] S_Frame_eq l_Frame r_Frame_len r_Frame_get r_Frame_get0 r_Frame_sub r_Frame_sub0 r_Frame_subw r_Frame_take r_Frame_drop r_Frame_fz r_Frame_rch r_Frame_s_Head_Kind r_Frame_s_Head_Sub r_Frame_s_Head_Duration r_Frame_s_Head_A1_a0 r_Frame_s_Head_A1_a1 r_Frame_s_Head_A1_a2 r_Frame_s_Head_A1_a3 r_Frame_s_Head_A1_a4 r_Frame_s_Head_A1_a5 r_Frame_s_Head_A2_a0 r_Frame_s_Head_A2_a1 r_Frame_s_Head_A2_a2 r_Frame_s_Head_A2_a3 r_Frame_s_Head_A2_a4 r_Frame_s_Head_A2_a5 r_Frame_s_Head_A3_a0 r_Frame_s_Head_A3_a1 r_Frame_s_Head_A3_a2 r_Frame_s_Head_A3_a3 r_Frame_s_Head_A3_a4 r_Frame_s_Head_A3_a5 r_Frame_s_Head_A4_a0 r_Frame_s_Head_A4_a1 r_Frame_s_Head_A4_a2 r_Frame_s_Head_A4_a3 r_Frame_s_Head_A4_a4 r_Frame_s_Head_A4_a5 r_Frame_s_Head_Seq r_Frame_s_Head_Frag r_Frame_s_Head_Tid r_Frame_s_Head_Ack r_Frame_put r_Frame_app r_Frame_cat f_S_Frame q_S_Frame

structure Hotspotref18_Step where
  Kind : Int
  N : Int
  Frame : Frame
  deriving DecidableEq

def Hotspotref18_Step.z : Hotspotref18_Step := ⟨0, 0, Frame.z⟩

def e_Hotspotref18_Step (x : Hotspotref18_Step) (s0 : AV) : List AV := [vi x.Kind, vi x.N] ++ (e_Frame x.Frame s0)

theorem e_Hotspotref18_Step_len (x : Hotspotref18_Step) (s0 : AV) : (e_Hotspotref18_Step x s0).length = 43 := by rfl
theorem e_Hotspotref18_Step_sub (x : Hotspotref18_Step) (s0 : AV) : sub? (e_Hotspotref18_Step x s0) 0 43 = some (e_Hotspotref18_Step x s0) := by rfl
theorem e_Hotspotref18_Step_take (x : Hotspotref18_Step) (s0 : AV) : (e_Hotspotref18_Step x s0).take 43 = (e_Hotspotref18_Step x s0) := by rfl
theorem e_Hotspotref18_Step_all (x : Hotspotref18_Step) (s0 : AV) (y : Hotspotref18_Step) (s02 : AV) : putAt (e_Hotspotref18_Step x s0) 0 (e_Hotspotref18_Step y s02) = e_Hotspotref18_Step y s02 := by rfl
theorem e_Hotspotref18_Step_g_Kind (x : Hotspotref18_Step) (s0 : AV) : (e_Hotspotref18_Step x s0)[0]? = some (vi x.Kind) := by rfl
theorem e_Hotspotref18_Step_s_Kind (x : Hotspotref18_Step) (s0 : AV) (v : Int) : (e_Hotspotref18_Step x s0).set 0 (vi v) = e_Hotspotref18_Step { x with Kind := v } s0 := by rfl
theorem e_Hotspotref18_Step_g_N (x : Hotspotref18_Step) (s0 : AV) : (e_Hotspotref18_Step x s0)[1]? = some (vi x.N) := by rfl
theorem e_Hotspotref18_Step_s_N (x : Hotspotref18_Step) (s0 : AV) (v : Int) : (e_Hotspotref18_Step x s0).set 1 (vi v) = e_Hotspotref18_Step { x with N := v } s0 := by rfl
theorem e_Hotspotref18_Step_g_Frame_Head_Kind (x : Hotspotref18_Step) (s0 : AV) : (e_Hotspotref18_Step x s0)[2]? = some (vu x.Frame.Head.Kind) := by rfl
theorem e_Hotspotref18_Step_s_Frame_Head_Kind (x : Hotspotref18_Step) (s0 : AV) (v : Int) : (e_Hotspotref18_Step x s0).set 2 (vu v) = e_Hotspotref18_Step { x with Frame.Head.Kind := v } s0 := by rfl
theorem e_Hotspotref18_Step_g_Frame_Head_Sub (x : Hotspotref18_Step) (s0 : AV) : (e_Hotspotref18_Step x s0)[3]? = some (vu x.Frame.Head.Sub) := by rfl
theorem e_Hotspotref18_Step_s_Frame_Head_Sub (x : Hotspotref18_Step) (s0 : AV) (v : Int) : (e_Hotspotref18_Step x s0).set 3 (vu v) = e_Hotspotref18_Step { x with Frame.Head.Sub := v } s0 := by rfl
theorem e_Hotspotref18_Step_g_Frame_Head_Duration (x : Hotspotref18_Step) (s0 : AV) : (e_Hotspotref18_Step x s0)[11]? = some (vi x.Frame.Head.Duration) := by rfl
theorem e_Hotspotref18_Step_s_Frame_Head_Duration (x : Hotspotref18_Step) (s0 : AV) (v : Int) : (e_Hotspotref18_Step x s0).set 11 (vi v) = e_Hotspotref18_Step { x with Frame.Head.Duration := v } s0 := by rfl
theorem e_Hotspotref18_Step_g_Frame_Head_A1_a0 (x : Hotspotref18_Step) (s0 : AV) : (e_Hotspotref18_Step x s0)[12]? = some (vu x.Frame.Head.A1.a0) := by rfl
theorem e_Hotspotref18_Step_s_Frame_Head_A1_a0 (x : Hotspotref18_Step) (s0 : AV) (v : Int) : (e_Hotspotref18_Step x s0).set 12 (vu v) = e_Hotspotref18_Step { x with Frame.Head.A1.a0 := v } s0 := by rfl
theorem e_Hotspotref18_Step_g_Frame_Head_A1_a1 (x : Hotspotref18_Step) (s0 : AV) : (e_Hotspotref18_Step x s0)[13]? = some (vu x.Frame.Head.A1.a1) := by rfl
theorem e_Hotspotref18_Step_s_Frame_Head_A1_a1 (x : Hotspotref18_Step) (s0 : AV) (v : Int) : (e_Hotspotref18_Step x s0).set 13 (vu v) = e_Hotspotref18_Step { x with Frame.Head.A1.a1 := v } s0 := by rfl
theorem e_Hotspotref18_Step_g_Frame_Head_A1_a2 (x : Hotspotref18_Step) (s0 : AV) : (e_Hotspotref18_Step x s0)[14]? = some (vu x.Frame.Head.A1.a2) := by rfl
theorem e_Hotspotref18_Step_s_Frame_Head_A1_a2 (x : Hotspotref18_Step) (s0 : AV) (v : Int) : (e_Hotspotref18_Step x s0).set 14 (vu v) = e_Hotspotref18_Step { x with Frame.Head.A1.a2 := v } s0 := by rfl
theorem e_Hotspotref18_Step_g_Frame_Head_A1_a3 (x : Hotspotref18_Step) (s0 : AV) : (e_Hotspotref18_Step x s0)[15]? = some (vu x.Frame.Head.A1.a3) := by rfl
theorem e_Hotspotref18_Step_s_Frame_Head_A1_a3 (x : Hotspotref18_Step) (s0 : AV) (v : Int) : (e_Hotspotref18_Step x s0).set 15 (vu v) = e_Hotspotref18_Step { x with Frame.Head.A1.a3 := v } s0 := by rfl
theorem e_Hotspotref18_Step_g_Frame_Head_A1_a4 (x : Hotspotref18_Step) (s0 : AV) : (e_Hotspotref18_Step x s0)[16]? = some (vu x.Frame.Head.A1.a4) := by rfl
theorem e_Hotspotref18_Step_s_Frame_Head_A1_a4 (x : Hotspotref18_Step) (s0 : AV) (v : Int) : (e_Hotspotref18_Step x s0).set 16 (vu v) = e_Hotspotref18_Step { x with Frame.Head.A1.a4 := v } s0 := by rfl
theorem e_Hotspotref18_Step_g_Frame_Head_A1_a5 (x : Hotspotref18_Step) (s0 : AV) : (e_Hotspotref18_Step x s0)[17]? = some (vu x.Frame.Head.A1.a5) := by rfl
theorem e_Hotspotref18_Step_s_Frame_Head_A1_a5 (x : Hotspotref18_Step) (s0 : AV) (v : Int) : (e_Hotspotref18_Step x s0).set 17 (vu v) = e_Hotspotref18_Step { x with Frame.Head.A1.a5 := v } s0 := by rfl
theorem e_Hotspotref18_Step_g_Frame_Head_A2_a0 (x : Hotspotref18_Step) (s0 : AV) : (e_Hotspotref18_Step x s0)[18]? = some (vu x.Frame.Head.A2.a0) := by rfl
theorem e_Hotspotref18_Step_s_Frame_Head_A2_a0 (x : Hotspotref18_Step) (s0 : AV) (v : Int) : (e_Hotspotref18_Step x s0).set 18 (vu v) = e_Hotspotref18_Step { x with Frame.Head.A2.a0 := v } s0 := by rfl
theorem e_Hotspotref18_Step_g_Frame_Head_A2_a1 (x : Hotspotref18_Step) (s0 : AV) : (e_Hotspotref18_Step x s0)[19]? = some (vu x.Frame.Head.A2.a1) := by rfl
theorem e_Hotspotref18_Step_s_Frame_Head_A2_a1 (x : Hotspotref18_Step) (s0 : AV) (v : Int) : (e_Hotspotref18_Step x s0).set 19 (vu v) = e_Hotspotref18_Step { x with Frame.Head.A2.a1 := v } s0 := by rfl
theorem e_Hotspotref18_Step_g_Frame_Head_A2_a2 (x : Hotspotref18_Step) (s0 : AV) : (e_Hotspotref18_Step x s0)[20]? = some (vu x.Frame.Head.A2.a2) := by rfl
theorem e_Hotspotref18_Step_s_Frame_Head_A2_a2 (x : Hotspotref18_Step) (s0 : AV) (v : Int) : (e_Hotspotref18_Step x s0).set 20 (vu v) = e_Hotspotref18_Step { x with Frame.Head.A2.a2 := v } s0 := by rfl
theorem e_Hotspotref18_Step_g_Frame_Head_A2_a3 (x : Hotspotref18_Step) (s0 : AV) : (e_Hotspotref18_Step x s0)[21]? = some (vu x.Frame.Head.A2.a3) := by rfl
theorem e_Hotspotref18_Step_s_Frame_Head_A2_a3 (x : Hotspotref18_Step) (s0 : AV) (v : Int) : (e_Hotspotref18_Step x s0).set 21 (vu v) = e_Hotspotref18_Step { x with Frame.Head.A2.a3 := v } s0 := by rfl
theorem e_Hotspotref18_Step_g_Frame_Head_A2_a4 (x : Hotspotref18_Step) (s0 : AV) : (e_Hotspotref18_Step x s0)[22]? = some (vu x.Frame.Head.A2.a4) := by rfl
theorem e_Hotspotref18_Step_s_Frame_Head_A2_a4 (x : Hotspotref18_Step) (s0 : AV) (v : Int) : (e_Hotspotref18_Step x s0).set 22 (vu v) = e_Hotspotref18_Step { x with Frame.Head.A2.a4 := v } s0 := by rfl
theorem e_Hotspotref18_Step_g_Frame_Head_A2_a5 (x : Hotspotref18_Step) (s0 : AV) : (e_Hotspotref18_Step x s0)[23]? = some (vu x.Frame.Head.A2.a5) := by rfl
theorem e_Hotspotref18_Step_s_Frame_Head_A2_a5 (x : Hotspotref18_Step) (s0 : AV) (v : Int) : (e_Hotspotref18_Step x s0).set 23 (vu v) = e_Hotspotref18_Step { x with Frame.Head.A2.a5 := v } s0 := by rfl
theorem e_Hotspotref18_Step_g_Frame_Head_A3_a0 (x : Hotspotref18_Step) (s0 : AV) : (e_Hotspotref18_Step x s0)[24]? = some (vu x.Frame.Head.A3.a0) := by rfl
theorem e_Hotspotref18_Step_s_Frame_Head_A3_a0 (x : Hotspotref18_Step) (s0 : AV) (v : Int) : (e_Hotspotref18_Step x s0).set 24 (vu v) = e_Hotspotref18_Step { x with Frame.Head.A3.a0 := v } s0 := by rfl
theorem e_Hotspotref18_Step_g_Frame_Head_A3_a1 (x : Hotspotref18_Step) (s0 : AV) : (e_Hotspotref18_Step x s0)[25]? = some (vu x.Frame.Head.A3.a1) := by rfl
theorem e_Hotspotref18_Step_s_Frame_Head_A3_a1 (x : Hotspotref18_Step) (s0 : AV) (v : Int) : (e_Hotspotref18_Step x s0).set 25 (vu v) = e_Hotspotref18_Step { x with Frame.Head.A3.a1 := v } s0 := by rfl
theorem e_Hotspotref18_Step_g_Frame_Head_A3_a2 (x : Hotspotref18_Step) (s0 : AV) : (e_Hotspotref18_Step x s0)[26]? = some (vu x.Frame.Head.A3.a2) := by rfl
theorem e_Hotspotref18_Step_s_Frame_Head_A3_a2 (x : Hotspotref18_Step) (s0 : AV) (v : Int) : (e_Hotspotref18_Step x s0).set 26 (vu v) = e_Hotspotref18_Step { x with Frame.Head.A3.a2 := v } s0 := by rfl
theorem e_Hotspotref18_Step_g_Frame_Head_A3_a3 (x : Hotspotref18_Step) (s0 : AV) : (e_Hotspotref18_Step x s0)[27]? = some (vu x.Frame.Head.A3.a3) := by rfl
theorem e_Hotspotref18_Step_s_Frame_Head_A3_a3 (x : Hotspotref18_Step) (s0 : AV) (v : Int) : (e_Hotspotref18_Step x s0).set 27 (vu v) = e_Hotspotref18_Step { x with Frame.Head.A3.a3 := v } s0 := by rfl
theorem e_Hotspotref18_Step_g_Frame_Head_A3_a4 (x : Hotspotref18_Step) (s0 : AV) : (e_Hotspotref18_Step x s0)[28]? = some (vu x.Frame.Head.A3.a4) := by rfl
theorem e_Hotspotref18_Step_s_Frame_Head_A3_a4 (x : Hotspotref18_Step) (s0 : AV) (v : Int) : (e_Hotspotref18_Step x s0).set 28 (vu v) = e_Hotspotref18_Step { x with Frame.Head.A3.a4 := v } s0 := by rfl
theorem e_Hotspotref18_Step_g_Frame_Head_A3_a5 (x : Hotspotref18_Step) (s0 : AV) : (e_Hotspotref18_Step x s0)[29]? = some (vu x.Frame.Head.A3.a5) := by rfl
theorem e_Hotspotref18_Step_s_Frame_Head_A3_a5 (x : Hotspotref18_Step) (s0 : AV) (v : Int) : (e_Hotspotref18_Step x s0).set 29 (vu v) = e_Hotspotref18_Step { x with Frame.Head.A3.a5 := v } s0 := by rfl
theorem e_Hotspotref18_Step_g_Frame_Head_A4_a0 (x : Hotspotref18_Step) (s0 : AV) : (e_Hotspotref18_Step x s0)[30]? = some (vu x.Frame.Head.A4.a0) := by rfl
theorem e_Hotspotref18_Step_s_Frame_Head_A4_a0 (x : Hotspotref18_Step) (s0 : AV) (v : Int) : (e_Hotspotref18_Step x s0).set 30 (vu v) = e_Hotspotref18_Step { x with Frame.Head.A4.a0 := v } s0 := by rfl
theorem e_Hotspotref18_Step_g_Frame_Head_A4_a1 (x : Hotspotref18_Step) (s0 : AV) : (e_Hotspotref18_Step x s0)[31]? = some (vu x.Frame.Head.A4.a1) := by rfl
theorem e_Hotspotref18_Step_s_Frame_Head_A4_a1 (x : Hotspotref18_Step) (s0 : AV) (v : Int) : (e_Hotspotref18_Step x s0).set 31 (vu v) = e_Hotspotref18_Step { x with Frame.Head.A4.a1 := v } s0 := by rfl
theorem e_Hotspotref18_Step_g_Frame_Head_A4_a2 (x : Hotspotref18_Step) (s0 : AV) : (e_Hotspotref18_Step x s0)[32]? = some (vu x.Frame.Head.A4.a2) := by rfl
theorem e_Hotspotref18_Step_s_Frame_Head_A4_a2 (x : Hotspotref18_Step) (s0 : AV) (v : Int) : (e_Hotspotref18_Step x s0).set 32 (vu v) = e_Hotspotref18_Step { x with Frame.Head.A4.a2 := v } s0 := by rfl
theorem e_Hotspotref18_Step_g_Frame_Head_A4_a3 (x : Hotspotref18_Step) (s0 : AV) : (e_Hotspotref18_Step x s0)[33]? = some (vu x.Frame.Head.A4.a3) := by rfl
theorem e_Hotspotref18_Step_s_Frame_Head_A4_a3 (x : Hotspotref18_Step) (s0 : AV) (v : Int) : (e_Hotspotref18_Step x s0).set 33 (vu v) = e_Hotspotref18_Step { x with Frame.Head.A4.a3 := v } s0 := by rfl
theorem e_Hotspotref18_Step_g_Frame_Head_A4_a4 (x : Hotspotref18_Step) (s0 : AV) : (e_Hotspotref18_Step x s0)[34]? = some (vu x.Frame.Head.A4.a4) := by rfl
theorem e_Hotspotref18_Step_s_Frame_Head_A4_a4 (x : Hotspotref18_Step) (s0 : AV) (v : Int) : (e_Hotspotref18_Step x s0).set 34 (vu v) = e_Hotspotref18_Step { x with Frame.Head.A4.a4 := v } s0 := by rfl
theorem e_Hotspotref18_Step_g_Frame_Head_A4_a5 (x : Hotspotref18_Step) (s0 : AV) : (e_Hotspotref18_Step x s0)[35]? = some (vu x.Frame.Head.A4.a5) := by rfl
theorem e_Hotspotref18_Step_s_Frame_Head_A4_a5 (x : Hotspotref18_Step) (s0 : AV) (v : Int) : (e_Hotspotref18_Step x s0).set 35 (vu v) = e_Hotspotref18_Step { x with Frame.Head.A4.a5 := v } s0 := by rfl
theorem e_Hotspotref18_Step_g_Frame_Head_Seq (x : Hotspotref18_Step) (s0 : AV) : (e_Hotspotref18_Step x s0)[36]? = some (vi x.Frame.Head.Seq) := by rfl
theorem e_Hotspotref18_Step_s_Frame_Head_Seq (x : Hotspotref18_Step) (s0 : AV) (v : Int) : (e_Hotspotref18_Step x s0).set 36 (vi v) = e_Hotspotref18_Step { x with Frame.Head.Seq := v } s0 := by rfl
theorem e_Hotspotref18_Step_g_Frame_Head_Frag (x : Hotspotref18_Step) (s0 : AV) : (e_Hotspotref18_Step x s0)[37]? = some (vi x.Frame.Head.Frag) := by rfl
theorem e_Hotspotref18_Step_s_Frame_Head_Frag (x : Hotspotref18_Step) (s0 : AV) (v : Int) : (e_Hotspotref18_Step x s0).set 37 (vi v) = e_Hotspotref18_Step { x with Frame.Head.Frag := v } s0 := by rfl
theorem e_Hotspotref18_Step_g_Frame_Head_Tid (x : Hotspotref18_Step) (s0 : AV) : (e_Hotspotref18_Step x s0)[38]? = some (vi x.Frame.Head.Tid) := by rfl
theorem e_Hotspotref18_Step_s_Frame_Head_Tid (x : Hotspotref18_Step) (s0 : AV) (v : Int) : (e_Hotspotref18_Step x s0).set 38 (vi v) = e_Hotspotref18_Step { x with Frame.Head.Tid := v } s0 := by rfl
theorem e_Hotspotref18_Step_g_Frame_Head_Ack (x : Hotspotref18_Step) (s0 : AV) : (e_Hotspotref18_Step x s0)[39]? = some (vu x.Frame.Head.Ack) := by rfl
theorem e_Hotspotref18_Step_s_Frame_Head_Ack (x : Hotspotref18_Step) (s0 : AV) (v : Int) : (e_Hotspotref18_Step x s0).set 39 (vu v) = e_Hotspotref18_Step { x with Frame.Head.Ack := v } s0 := by rfl
theorem e_Hotspotref18_Step_g_Frame_Body (x : Hotspotref18_Step) (s0 : AV) : (e_Hotspotref18_Step x s0)[42]? = some s0 := by rfl
theorem e_Hotspotref18_Step_s_Frame_Body (x : Hotspotref18_Step) (s0 : AV) (v : AV) : (e_Hotspotref18_Step x s0).set 42 v = e_Hotspotref18_Step x v := by rfl
theorem e_Hotspotref18_Step_d_Frame (x : Hotspotref18_Step) (s0 : AV) : sub? (e_Hotspotref18_Step x s0) 2 41 = some (e_Frame x.Frame s0) := by rfl
theorem e_Hotspotref18_Step_p_Frame (x : Hotspotref18_Step) (s0 : AV) (v : Frame) (w0 : AV) : putAt (e_Hotspotref18_Step x s0) 2 (e_Frame v w0) = e_Hotspotref18_Step { x with Frame := v } w0 := by rfl
theorem e_Hotspotref18_Step_d_Frame_Head (x : Hotspotref18_Step) (s0 : AV) : sub? (e_Hotspotref18_Step x s0) 2 40 = some (e_Header x.Frame.Head) := by rfl
theorem e_Hotspotref18_Step_p_Frame_Head (x : Hotspotref18_Step) (s0 : AV) (v : Header) : putAt (e_Hotspotref18_Step x s0) 2 (e_Header v) = e_Hotspotref18_Step { x with Frame.Head := v } s0 := by rfl
theorem e_Hotspotref18_Step_d_Frame_Head_A1 (x : Hotspotref18_Step) (s0 : AV) : sub? (e_Hotspotref18_Step x s0) 12 6 = some (e_Addr x.Frame.Head.A1) := by rfl
theorem e_Hotspotref18_Step_p_Frame_Head_A1 (x : Hotspotref18_Step) (s0 : AV) (v : Addr) : putAt (e_Hotspotref18_Step x s0) 12 (e_Addr v) = e_Hotspotref18_Step { x with Frame.Head.A1 := v } s0 := by rfl
theorem e_Hotspotref18_Step_d_Frame_Head_A2 (x : Hotspotref18_Step) (s0 : AV) : sub? (e_Hotspotref18_Step x s0) 18 6 = some (e_Addr x.Frame.Head.A2) := by rfl
theorem e_Hotspotref18_Step_p_Frame_Head_A2 (x : Hotspotref18_Step) (s0 : AV) (v : Addr) : putAt (e_Hotspotref18_Step x s0) 18 (e_Addr v) = e_Hotspotref18_Step { x with Frame.Head.A2 := v } s0 := by rfl
theorem e_Hotspotref18_Step_d_Frame_Head_A3 (x : Hotspotref18_Step) (s0 : AV) : sub? (e_Hotspotref18_Step x s0) 24 6 = some (e_Addr x.Frame.Head.A3) := by rfl
theorem e_Hotspotref18_Step_p_Frame_Head_A3 (x : Hotspotref18_Step) (s0 : AV) (v : Addr) : putAt (e_Hotspotref18_Step x s0) 24 (e_Addr v) = e_Hotspotref18_Step { x with Frame.Head.A3 := v } s0 := by rfl
theorem e_Hotspotref18_Step_d_Frame_Head_A4 (x : Hotspotref18_Step) (s0 : AV) : sub? (e_Hotspotref18_Step x s0) 30 6 = some (e_Addr x.Frame.Head.A4) := by rfl
theorem e_Hotspotref18_Step_p_Frame_Head_A4 (x : Hotspotref18_Step) (s0 : AV) (v : Addr) : putAt (e_Hotspotref18_Step x s0) 30 (e_Addr v) = e_Hotspotref18_Step { x with Frame.Head.A4 := v } s0 := by rfl
theorem e_Hotspotref18_Step_fz (x : Hotspotref18_Step) (s0 : AV) (o : Nat → Ob) (n : Nat) : (e_Hotspotref18_Step x s0).map (fz o (n + 1)) = e_Hotspotref18_Step x (fz o (n + 1) s0) := by rfl
theorem e_Hotspotref18_Step_reach (x : Hotspotref18_Step) (s0 : AV) (o : Nat → Ob) (n : Nat) : (e_Hotspotref18_Step x s0).flatMap (reach o (n + 1)) = reach o (n + 1) s0 := by
  simp only [e_Hotspotref18_Step, e_Frame, e_Header, e_Addr, List.cons_append, List.nil_append, List.append_nil, List.flatMap_cons, List.flatMap_nil, reach_v]
def E_Hotspotref18_Step (x : Hotspotref18_Step) : List AV := e_Hotspotref18_Step x (S_vu x.Frame.Body)
theorem E_Hotspotref18_Step_eq (x : Hotspotref18_Step) : E_Hotspotref18_Step x = e_Hotspotref18_Step x (S_vu x.Frame.Body) := rfl
theorem f_Hotspotref18_Step (x : Hotspotref18_Step) (o : Nat → Ob) (n : Nat) : (E_Hotspotref18_Step x).map (fz o (n + 2)) = E_Hotspotref18_Step x := by simp only [E_Hotspotref18_Step_eq, e_Hotspotref18_Step_fz, f_S_vu]
theorem q_Hotspotref18_Step (x : Hotspotref18_Step) (o : Nat → Ob) (n : Nat) : (E_Hotspotref18_Step x).flatMap (reach o (n + 2)) = [] := by simp only [E_Hotspotref18_Step_eq, e_Hotspotref18_Step_reach, q_S_vu, List.append_nil]
attribute [go_sem] e_Hotspotref18_Step_len e_Hotspotref18_Step_sub e_Hotspotref18_Step_take e_Hotspotref18_Step_all e_Hotspotref18_Step_g_Kind e_Hotspotref18_Step_s_Kind e_Hotspotref18_Step_g_N e_Hotspotref18_Step_s_N e_Hotspotref18_Step_g_Frame_Head_Kind e_Hotspotref18_Step_s_Frame_Head_Kind e_Hotspotref18_Step_g_Frame_Head_Sub e_Hotspotref18_Step_s_Frame_Head_Sub e_Hotspotref18_Step_g_Frame_Head_Duration e_Hotspotref18_Step_s_Frame_Head_Duration e_Hotspotref18_Step_g_Frame_Head_A1_a0 e_Hotspotref18_Step_s_Frame_Head_A1_a0 e_Hotspotref18_Step_g_Frame_Head_A1_a1 e_Hotspotref18_Step_s_Frame_Head_A1_a1 e_Hotspotref18_Step_g_Frame_Head_A1_a2 e_Hotspotref18_Step_s_Frame_Head_A1_a2 e_Hotspotref18_Step_g_Frame_Head_A1_a3 e_Hotspotref18_Step_s_Frame_Head_A1_a3 e_Hotspotref18_Step_g_Frame_Head_A1_a4 e_Hotspotref18_Step_s_Frame_Head_A1_a4 e_Hotspotref18_Step_g_Frame_Head_A1_a5 e_Hotspotref18_Step_s_Frame_Head_A1_a5 e_Hotspotref18_Step_g_Frame_Head_A2_a0 e_Hotspotref18_Step_s_Frame_Head_A2_a0 e_Hotspotref18_Step_g_Frame_Head_A2_a1 e_Hotspotref18_Step_s_Frame_Head_A2_a1 e_Hotspotref18_Step_g_Frame_Head_A2_a2 e_Hotspotref18_Step_s_Frame_Head_A2_a2 e_Hotspotref18_Step_g_Frame_Head_A2_a3 e_Hotspotref18_Step_s_Frame_Head_A2_a3 e_Hotspotref18_Step_g_Frame_Head_A2_a4 e_Hotspotref18_Step_s_Frame_Head_A2_a4 e_Hotspotref18_Step_g_Frame_Head_A2_a5 e_Hotspotref18_Step_s_Frame_Head_A2_a5 e_Hotspotref18_Step_g_Frame_Head_A3_a0 e_Hotspotref18_Step_s_Frame_Head_A3_a0 e_Hotspotref18_Step_g_Frame_Head_A3_a1 e_Hotspotref18_Step_s_Frame_Head_A3_a1 e_Hotspotref18_Step_g_Frame_Head_A3_a2 e_Hotspotref18_Step_s_Frame_Head_A3_a2 e_Hotspotref18_Step_g_Frame_Head_A3_a3 e_Hotspotref18_Step_s_Frame_Head_A3_a3 e_Hotspotref18_Step_g_Frame_Head_A3_a4 e_Hotspotref18_Step_s_Frame_Head_A3_a4 e_Hotspotref18_Step_g_Frame_Head_A3_a5 e_Hotspotref18_Step_s_Frame_Head_A3_a5 e_Hotspotref18_Step_g_Frame_Head_A4_a0 e_Hotspotref18_Step_s_Frame_Head_A4_a0 e_Hotspotref18_Step_g_Frame_Head_A4_a1 e_Hotspotref18_Step_s_Frame_Head_A4_a1 e_Hotspotref18_Step_g_Frame_Head_A4_a2 e_Hotspotref18_Step_s_Frame_Head_A4_a2 e_Hotspotref18_Step_g_Frame_Head_A4_a3 e_Hotspotref18_Step_s_Frame_Head_A4_a3 e_Hotspotref18_Step_g_Frame_Head_A4_a4 e_Hotspotref18_Step_s_Frame_Head_A4_a4 e_Hotspotref18_Step_g_Frame_Head_A4_a5 e_Hotspotref18_Step_s_Frame_Head_A4_a5 e_Hotspotref18_Step_g_Frame_Head_Seq e_Hotspotref18_Step_s_Frame_Head_Seq e_Hotspotref18_Step_g_Frame_Head_Frag e_Hotspotref18_Step_s_Frame_Head_Frag e_Hotspotref18_Step_g_Frame_Head_Tid e_Hotspotref18_Step_s_Frame_Head_Tid e_Hotspotref18_Step_g_Frame_Head_Ack e_Hotspotref18_Step_s_Frame_Head_Ack e_Hotspotref18_Step_g_Frame_Body e_Hotspotref18_Step_s_Frame_Body e_Hotspotref18_Step_d_Frame e_Hotspotref18_Step_p_Frame e_Hotspotref18_Step_d_Frame_Head e_Hotspotref18_Step_p_Frame_Head e_Hotspotref18_Step_d_Frame_Head_A1 e_Hotspotref18_Step_p_Frame_Head_A1 e_Hotspotref18_Step_d_Frame_Head_A2 e_Hotspotref18_Step_p_Frame_Head_A2 e_Hotspotref18_Step_d_Frame_Head_A3 e_Hotspotref18_Step_p_Frame_Head_A3 e_Hotspotref18_Step_d_Frame_Head_A4 e_Hotspotref18_Step_p_Frame_Head_A4 e_Hotspotref18_Step_fz e_Hotspotref18_Step_reach E_Hotspotref18_Step_eq f_Hotspotref18_Step q_Hotspotref18_Step

def S_Hotspotref18_Step (l : List Hotspotref18_Step) : AV := .imm (List.flatMap E_Hotspotref18_Step l) l.length
theorem S_Hotspotref18_Step_eq (l : List Hotspotref18_Step) : S_Hotspotref18_Step l = .imm (List.flatMap E_Hotspotref18_Step l) l.length := rfl
theorem l_Hotspotref18_Step (x : Hotspotref18_Step) : (E_Hotspotref18_Step x).length = 43 := by rfl
theorem r_Hotspotref18_Step_len (l : List Hotspotref18_Step) : (l.flatMap E_Hotspotref18_Step).length = l.length * 43 := flat_len l_Hotspotref18_Step l
theorem r_Hotspotref18_Step_get (l : List Hotspotref18_Step) (i o : Nat) (ho : o < 43) : (l.flatMap E_Hotspotref18_Step)[i * 43 + o]? = l[i]?.bind fun a => (E_Hotspotref18_Step a)[o]? := rows_get l_Hotspotref18_Step l i o ho
theorem r_Hotspotref18_Step_get0 (l : List Hotspotref18_Step) (i : Nat) : (l.flatMap E_Hotspotref18_Step)[i * 43]? = l[i]?.bind fun a => (E_Hotspotref18_Step a)[0]? := rows_get l_Hotspotref18_Step l i 0 (by decide)
theorem r_Hotspotref18_Step_sub (l : List Hotspotref18_Step) (i o n : Nat) (ho : o + n ≤ 43) (hn : 0 < n) : sub? (l.flatMap E_Hotspotref18_Step) (i * 43 + o) n = l[i]?.bind fun a => sub? (E_Hotspotref18_Step a) o n := rows_sub l_Hotspotref18_Step l i o n ho hn
theorem r_Hotspotref18_Step_sub0 (l : List Hotspotref18_Step) (i n : Nat) (ho : n ≤ 43) (hn : 0 < n) : sub? (l.flatMap E_Hotspotref18_Step) (i * 43) n = l[i]?.bind fun a => sub? (E_Hotspotref18_Step a) 0 n := rows_sub l_Hotspotref18_Step l i 0 n (by omega) hn
theorem r_Hotspotref18_Step_subw (l : List Hotspotref18_Step) : sub? (l.flatMap E_Hotspotref18_Step) 0 (l.length * 43) = some (l.flatMap E_Hotspotref18_Step) := rows_subw l_Hotspotref18_Step l
theorem r_Hotspotref18_Step_take (l : List Hotspotref18_Step) (n : Nat) : (l.flatMap E_Hotspotref18_Step).take (n * 43) = (l.take n).flatMap E_Hotspotref18_Step := rows_take l_Hotspotref18_Step l n
theorem r_Hotspotref18_Step_drop (l : List Hotspotref18_Step) (n : Nat) : (l.flatMap E_Hotspotref18_Step).drop (n * 43) = (l.drop n).flatMap E_Hotspotref18_Step := rows_drop l_Hotspotref18_Step l n
theorem r_Hotspotref18_Step_fz (l : List Hotspotref18_Step) (o : Nat → Ob) (n : Nat) : (l.flatMap E_Hotspotref18_Step).map (fz o (n + 2)) = (l.flatMap E_Hotspotref18_Step) := rows_fz (fun a => f_Hotspotref18_Step a o n) l
theorem r_Hotspotref18_Step_rch (l : List Hotspotref18_Step) (o : Nat → Ob) (n : Nat) : (l.flatMap E_Hotspotref18_Step).flatMap (reach o (n + 2)) = [] := rows_reach (fun a => q_Hotspotref18_Step a o n) l
theorem r_Hotspotref18_Step_s_Kind (l : List Hotspotref18_Step) (i : Nat) (v : Int) : (l.flatMap E_Hotspotref18_Step).set (i * 43) (vi v) = (l.modify i (fun y => { y with Kind := v })).flatMap E_Hotspotref18_Step := rows_set l_Hotspotref18_Step l i 0 _ (fun y => { y with Kind := v }) (by decide) (fun _ => by rfl)
theorem r_Hotspotref18_Step_s_N (l : List Hotspotref18_Step) (i : Nat) (v : Int) : (l.flatMap E_Hotspotref18_Step).set (i * 43 + 1) (vi v) = (l.modify i (fun y => { y with N := v })).flatMap E_Hotspotref18_Step := rows_set l_Hotspotref18_Step l i 1 _ (fun y => { y with N := v }) (by decide) (fun _ => by rfl)
theorem r_Hotspotref18_Step_s_Frame_Head_Kind (l : List Hotspotref18_Step) (i : Nat) (v : Int) : (l.flatMap E_Hotspotref18_Step).set (i * 43 + 2) (vu v) = (l.modify i (fun y => { y with Frame.Head.Kind := v })).flatMap E_Hotspotref18_Step := rows_set l_Hotspotref18_Step l i 2 _ (fun y => { y with Frame.Head.Kind := v }) (by decide) (fun _ => by rfl)
theorem r_Hotspotref18_Step_s_Frame_Head_Sub (l : List Hotspotref18_Step) (i : Nat) (v : Int) : (l.flatMap E_Hotspotref18_Step).set (i * 43 + 3) (vu v) = (l.modify i (fun y => { y with Frame.Head.Sub := v })).flatMap E_Hotspotref18_Step := rows_set l_Hotspotref18_Step l i 3 _ (fun y => { y with Frame.Head.Sub := v }) (by decide) (fun _ => by rfl)
theorem r_Hotspotref18_Step_s_Frame_Head_Duration (l : List Hotspotref18_Step) (i : Nat) (v : Int) : (l.flatMap E_Hotspotref18_Step).set (i * 43 + 11) (vi v) = (l.modify i (fun y => { y with Frame.Head.Duration := v })).flatMap E_Hotspotref18_Step := rows_set l_Hotspotref18_Step l i 11 _ (fun y => { y with Frame.Head.Duration := v }) (by decide) (fun _ => by rfl)
theorem r_Hotspotref18_Step_s_Frame_Head_A1_a0 (l : List Hotspotref18_Step) (i : Nat) (v : Int) : (l.flatMap E_Hotspotref18_Step).set (i * 43 + 12) (vu v) = (l.modify i (fun y => { y with Frame.Head.A1.a0 := v })).flatMap E_Hotspotref18_Step := rows_set l_Hotspotref18_Step l i 12 _ (fun y => { y with Frame.Head.A1.a0 := v }) (by decide) (fun _ => by rfl)
theorem r_Hotspotref18_Step_s_Frame_Head_A1_a1 (l : List Hotspotref18_Step) (i : Nat) (v : Int) : (l.flatMap E_Hotspotref18_Step).set (i * 43 + 13) (vu v) = (l.modify i (fun y => { y with Frame.Head.A1.a1 := v })).flatMap E_Hotspotref18_Step := rows_set l_Hotspotref18_Step l i 13 _ (fun y => { y with Frame.Head.A1.a1 := v }) (by decide) (fun _ => by rfl)
theorem r_Hotspotref18_Step_s_Frame_Head_A1_a2 (l : List Hotspotref18_Step) (i : Nat) (v : Int) : (l.flatMap E_Hotspotref18_Step).set (i * 43 + 14) (vu v) = (l.modify i (fun y => { y with Frame.Head.A1.a2 := v })).flatMap E_Hotspotref18_Step := rows_set l_Hotspotref18_Step l i 14 _ (fun y => { y with Frame.Head.A1.a2 := v }) (by decide) (fun _ => by rfl)
theorem r_Hotspotref18_Step_s_Frame_Head_A1_a3 (l : List Hotspotref18_Step) (i : Nat) (v : Int) : (l.flatMap E_Hotspotref18_Step).set (i * 43 + 15) (vu v) = (l.modify i (fun y => { y with Frame.Head.A1.a3 := v })).flatMap E_Hotspotref18_Step := rows_set l_Hotspotref18_Step l i 15 _ (fun y => { y with Frame.Head.A1.a3 := v }) (by decide) (fun _ => by rfl)
theorem r_Hotspotref18_Step_s_Frame_Head_A1_a4 (l : List Hotspotref18_Step) (i : Nat) (v : Int) : (l.flatMap E_Hotspotref18_Step).set (i * 43 + 16) (vu v) = (l.modify i (fun y => { y with Frame.Head.A1.a4 := v })).flatMap E_Hotspotref18_Step := rows_set l_Hotspotref18_Step l i 16 _ (fun y => { y with Frame.Head.A1.a4 := v }) (by decide) (fun _ => by rfl)
theorem r_Hotspotref18_Step_s_Frame_Head_A1_a5 (l : List Hotspotref18_Step) (i : Nat) (v : Int) : (l.flatMap E_Hotspotref18_Step).set (i * 43 + 17) (vu v) = (l.modify i (fun y => { y with Frame.Head.A1.a5 := v })).flatMap E_Hotspotref18_Step := rows_set l_Hotspotref18_Step l i 17 _ (fun y => { y with Frame.Head.A1.a5 := v }) (by decide) (fun _ => by rfl)
theorem r_Hotspotref18_Step_s_Frame_Head_A2_a0 (l : List Hotspotref18_Step) (i : Nat) (v : Int) : (l.flatMap E_Hotspotref18_Step).set (i * 43 + 18) (vu v) = (l.modify i (fun y => { y with Frame.Head.A2.a0 := v })).flatMap E_Hotspotref18_Step := rows_set l_Hotspotref18_Step l i 18 _ (fun y => { y with Frame.Head.A2.a0 := v }) (by decide) (fun _ => by rfl)
theorem r_Hotspotref18_Step_s_Frame_Head_A2_a1 (l : List Hotspotref18_Step) (i : Nat) (v : Int) : (l.flatMap E_Hotspotref18_Step).set (i * 43 + 19) (vu v) = (l.modify i (fun y => { y with Frame.Head.A2.a1 := v })).flatMap E_Hotspotref18_Step := rows_set l_Hotspotref18_Step l i 19 _ (fun y => { y with Frame.Head.A2.a1 := v }) (by decide) (fun _ => by rfl)
theorem r_Hotspotref18_Step_s_Frame_Head_A2_a2 (l : List Hotspotref18_Step) (i : Nat) (v : Int) : (l.flatMap E_Hotspotref18_Step).set (i * 43 + 20) (vu v) = (l.modify i (fun y => { y with Frame.Head.A2.a2 := v })).flatMap E_Hotspotref18_Step := rows_set l_Hotspotref18_Step l i 20 _ (fun y => { y with Frame.Head.A2.a2 := v }) (by decide) (fun _ => by rfl)
theorem r_Hotspotref18_Step_s_Frame_Head_A2_a3 (l : List Hotspotref18_Step) (i : Nat) (v : Int) : (l.flatMap E_Hotspotref18_Step).set (i * 43 + 21) (vu v) = (l.modify i (fun y => { y with Frame.Head.A2.a3 := v })).flatMap E_Hotspotref18_Step := rows_set l_Hotspotref18_Step l i 21 _ (fun y => { y with Frame.Head.A2.a3 := v }) (by decide) (fun _ => by rfl)
theorem r_Hotspotref18_Step_s_Frame_Head_A2_a4 (l : List Hotspotref18_Step) (i : Nat) (v : Int) : (l.flatMap E_Hotspotref18_Step).set (i * 43 + 22) (vu v) = (l.modify i (fun y => { y with Frame.Head.A2.a4 := v })).flatMap E_Hotspotref18_Step := rows_set l_Hotspotref18_Step l i 22 _ (fun y => { y with Frame.Head.A2.a4 := v }) (by decide) (fun _ => by rfl)
theorem r_Hotspotref18_Step_s_Frame_Head_A2_a5 (l : List Hotspotref18_Step) (i : Nat) (v : Int) : (l.flatMap E_Hotspotref18_Step).set (i * 43 + 23) (vu v) = (l.modify i (fun y => { y with Frame.Head.A2.a5 := v })).flatMap E_Hotspotref18_Step := rows_set l_Hotspotref18_Step l i 23 _ (fun y => { y with Frame.Head.A2.a5 := v }) (by decide) (fun _ => by rfl)
theorem r_Hotspotref18_Step_s_Frame_Head_A3_a0 (l : List Hotspotref18_Step) (i : Nat) (v : Int) : (l.flatMap E_Hotspotref18_Step).set (i * 43 + 24) (vu v) = (l.modify i (fun y => { y with Frame.Head.A3.a0 := v })).flatMap E_Hotspotref18_Step := rows_set l_Hotspotref18_Step l i 24 _ (fun y => { y with Frame.Head.A3.a0 := v }) (by decide) (fun _ => by rfl)
theorem r_Hotspotref18_Step_s_Frame_Head_A3_a1 (l : List Hotspotref18_Step) (i : Nat) (v : Int) : (l.flatMap E_Hotspotref18_Step).set (i * 43 + 25) (vu v) = (l.modify i (fun y => { y with Frame.Head.A3.a1 := v })).flatMap E_Hotspotref18_Step := rows_set l_Hotspotref18_Step l i 25 _ (fun y => { y with Frame.Head.A3.a1 := v }) (by decide) (fun _ => by rfl)
theorem r_Hotspotref18_Step_s_Frame_Head_A3_a2 (l : List Hotspotref18_Step) (i : Nat) (v : Int) : (l.flatMap E_Hotspotref18_Step).set (i * 43 + 26) (vu v) = (l.modify i (fun y => { y with Frame.Head.A3.a2 := v })).flatMap E_Hotspotref18_Step := rows_set l_Hotspotref18_Step l i 26 _ (fun y => { y with Frame.Head.A3.a2 := v }) (by decide) (fun _ => by rfl)
theorem r_Hotspotref18_Step_s_Frame_Head_A3_a3 (l : List Hotspotref18_Step) (i : Nat) (v : Int) : (l.flatMap E_Hotspotref18_Step).set (i * 43 + 27) (vu v) = (l.modify i (fun y => { y with Frame.Head.A3.a3 := v })).flatMap E_Hotspotref18_Step := rows_set l_Hotspotref18_Step l i 27 _ (fun y => { y with Frame.Head.A3.a3 := v }) (by decide) (fun _ => by rfl)
theorem r_Hotspotref18_Step_s_Frame_Head_A3_a4 (l : List Hotspotref18_Step) (i : Nat) (v : Int) : (l.flatMap E_Hotspotref18_Step).set (i * 43 + 28) (vu v) = (l.modify i (fun y => { y with Frame.Head.A3.a4 := v })).flatMap E_Hotspotref18_Step := rows_set l_Hotspotref18_Step l i 28 _ (fun y => { y with Frame.Head.A3.a4 := v }) (by decide) (fun _ => by rfl)
theorem r_Hotspotref18_Step_s_Frame_Head_A3_a5 (l : List Hotspotref18_Step) (i : Nat) (v : Int) : (l.flatMap E_Hotspotref18_Step).set (i * 43 + 29) (vu v) = (l.modify i (fun y => { y with Frame.Head.A3.a5 := v })).flatMap E_Hotspotref18_Step := rows_set l_Hotspotref18_Step l i 29 _ (fun y => { y with Frame.Head.A3.a5 := v }) (by decide) (fun _ => by rfl)
theorem r_Hotspotref18_Step_s_Frame_Head_A4_a0 (l : List Hotspotref18_Step) (i : Nat) (v : Int) : (l.flatMap E_Hotspotref18_Step).set (i * 43 + 30) (vu v) = (l.modify i (fun y => { y with Frame.Head.A4.a0 := v })).flatMap E_Hotspotref18_Step := rows_set l_Hotspotref18_Step l i 30 _ (fun y => { y with Frame.Head.A4.a0 := v }) (by decide) (fun _ => by rfl)
theorem r_Hotspotref18_Step_s_Frame_Head_A4_a1 (l : List Hotspotref18_Step) (i : Nat) (v : Int) : (l.flatMap E_Hotspotref18_Step).set (i * 43 + 31) (vu v) = (l.modify i (fun y => { y with Frame.Head.A4.a1 := v })).flatMap E_Hotspotref18_Step := rows_set l_Hotspotref18_Step l i 31 _ (fun y => { y with Frame.Head.A4.a1 := v }) (by decide) (fun _ => by rfl)
theorem r_Hotspotref18_Step_s_Frame_Head_A4_a2 (l : List Hotspotref18_Step) (i : Nat) (v : Int) : (l.flatMap E_Hotspotref18_Step).set (i * 43 + 32) (vu v) = (l.modify i (fun y => { y with Frame.Head.A4.a2 := v })).flatMap E_Hotspotref18_Step := rows_set l_Hotspotref18_Step l i 32 _ (fun y => { y with Frame.Head.A4.a2 := v }) (by decide) (fun _ => by rfl)
theorem r_Hotspotref18_Step_s_Frame_Head_A4_a3 (l : List Hotspotref18_Step) (i : Nat) (v : Int) : (l.flatMap E_Hotspotref18_Step).set (i * 43 + 33) (vu v) = (l.modify i (fun y => { y with Frame.Head.A4.a3 := v })).flatMap E_Hotspotref18_Step := rows_set l_Hotspotref18_Step l i 33 _ (fun y => { y with Frame.Head.A4.a3 := v }) (by decide) (fun _ => by rfl)
theorem r_Hotspotref18_Step_s_Frame_Head_A4_a4 (l : List Hotspotref18_Step) (i : Nat) (v : Int) : (l.flatMap E_Hotspotref18_Step).set (i * 43 + 34) (vu v) = (l.modify i (fun y => { y with Frame.Head.A4.a4 := v })).flatMap E_Hotspotref18_Step := rows_set l_Hotspotref18_Step l i 34 _ (fun y => { y with Frame.Head.A4.a4 := v }) (by decide) (fun _ => by rfl)
theorem r_Hotspotref18_Step_s_Frame_Head_A4_a5 (l : List Hotspotref18_Step) (i : Nat) (v : Int) : (l.flatMap E_Hotspotref18_Step).set (i * 43 + 35) (vu v) = (l.modify i (fun y => { y with Frame.Head.A4.a5 := v })).flatMap E_Hotspotref18_Step := rows_set l_Hotspotref18_Step l i 35 _ (fun y => { y with Frame.Head.A4.a5 := v }) (by decide) (fun _ => by rfl)
theorem r_Hotspotref18_Step_s_Frame_Head_Seq (l : List Hotspotref18_Step) (i : Nat) (v : Int) : (l.flatMap E_Hotspotref18_Step).set (i * 43 + 36) (vi v) = (l.modify i (fun y => { y with Frame.Head.Seq := v })).flatMap E_Hotspotref18_Step := rows_set l_Hotspotref18_Step l i 36 _ (fun y => { y with Frame.Head.Seq := v }) (by decide) (fun _ => by rfl)
theorem r_Hotspotref18_Step_s_Frame_Head_Frag (l : List Hotspotref18_Step) (i : Nat) (v : Int) : (l.flatMap E_Hotspotref18_Step).set (i * 43 + 37) (vi v) = (l.modify i (fun y => { y with Frame.Head.Frag := v })).flatMap E_Hotspotref18_Step := rows_set l_Hotspotref18_Step l i 37 _ (fun y => { y with Frame.Head.Frag := v }) (by decide) (fun _ => by rfl)
theorem r_Hotspotref18_Step_s_Frame_Head_Tid (l : List Hotspotref18_Step) (i : Nat) (v : Int) : (l.flatMap E_Hotspotref18_Step).set (i * 43 + 38) (vi v) = (l.modify i (fun y => { y with Frame.Head.Tid := v })).flatMap E_Hotspotref18_Step := rows_set l_Hotspotref18_Step l i 38 _ (fun y => { y with Frame.Head.Tid := v }) (by decide) (fun _ => by rfl)
theorem r_Hotspotref18_Step_s_Frame_Head_Ack (l : List Hotspotref18_Step) (i : Nat) (v : Int) : (l.flatMap E_Hotspotref18_Step).set (i * 43 + 39) (vu v) = (l.modify i (fun y => { y with Frame.Head.Ack := v })).flatMap E_Hotspotref18_Step := rows_set l_Hotspotref18_Step l i 39 _ (fun y => { y with Frame.Head.Ack := v }) (by decide) (fun _ => by rfl)
theorem r_Hotspotref18_Step_put (l : List Hotspotref18_Step) (i : Nat) (x : Hotspotref18_Step) (b0 : (List Int)) : putAt (l.flatMap E_Hotspotref18_Step) (i * 43) (e_Hotspotref18_Step x (.imm (List.map vu b0) b0.length)) = (l.set i { x with Frame.Body := b0 }).flatMap E_Hotspotref18_Step := rows_put l_Hotspotref18_Step (by decide) l i { x with Frame.Body := b0 }
theorem r_Hotspotref18_Step_app (l : List Hotspotref18_Step) (x : Hotspotref18_Step) (b0 : (List Int)) : (l.flatMap E_Hotspotref18_Step) ++ e_Hotspotref18_Step x (S_vu b0) = (l ++ [{ x with Frame.Body := b0 }]).flatMap E_Hotspotref18_Step := by rw [List.flatMap_append]; simp only [List.flatMap_cons, List.flatMap_nil, List.append_nil]; rfl
theorem r_Hotspotref18_Step_cat (l : List Hotspotref18_Step) (m : List Hotspotref18_Step) : (l.flatMap E_Hotspotref18_Step) ++ m.flatMap E_Hotspotref18_Step = (l ++ m).flatMap E_Hotspotref18_Step := List.flatMap_append.symm
theorem f_S_Hotspotref18_Step (l : List Hotspotref18_Step) (o : Nat → Ob) (n : Nat) : fz o (n + 3) (S_Hotspotref18_Step l) = S_Hotspotref18_Step l := by simp only [S_Hotspotref18_Step_eq, fz, r_Hotspotref18_Step_fz]
theorem q_S_Hotspotref18_Step (l : List Hotspotref18_Step) (o : Nat → Ob) (n : Nat) : reach o (n + 3) (S_Hotspotref18_Step l) = [] := by simp only [S_Hotspotref18_Step_eq, reach, r_Hotspotref18_Step_rch]
attribute [go_sem] S_Hotspotref18_Step_eq l_Hotspotref18_Step r_Hotspotref18_Step_len r_Hotspotref18_Step_get r_Hotspotref18_Step_get0 r_Hotspotref18_Step_sub r_Hotspotref18_Step_sub0 r_Hotspotref18_Step_subw r_Hotspotref18_Step_take r_Hotspotref18_Step_drop r_Hotspotref18_Step_fz r_Hotspotref18_Step_rch r_Hotspotref18_Step_s_Kind r_Hotspotref18_Step_s_N r_Hotspotref18_Step_s_Frame_Head_Kind r_Hotspotref18_Step_s_Frame_Head_Sub r_Hotspotref18_Step_s_Frame_Head_Duration r_Hotspotref18_Step_s_Frame_Head_A1_a0 r_Hotspotref18_Step_s_Frame_Head_A1_a1 r_Hotspotref18_Step_s_Frame_Head_A1_a2 r_Hotspotref18_Step_s_Frame_Head_A1_a3 r_Hotspotref18_Step_s_Frame_Head_A1_a4 r_Hotspotref18_Step_s_Frame_Head_A1_a5 r_Hotspotref18_Step_s_Frame_Head_A2_a0 r_Hotspotref18_Step_s_Frame_Head_A2_a1 r_Hotspotref18_Step_s_Frame_Head_A2_a2 r_Hotspotref18_Step_s_Frame_Head_A2_a3 r_Hotspotref18_Step_s_Frame_Head_A2_a4 r_Hotspotref18_Step_s_Frame_Head_A2_a5 r_Hotspotref18_Step_s_Frame_Head_A3_a0 r_Hotspotref18_Step_s_Frame_Head_A3_a1 r_Hotspotref18_Step_s_Frame_Head_A3_a2 r_Hotspotref18_Step_s_Frame_Head_A3_a3 r_Hotspotref18_Step_s_Frame_Head_A3_a4 r_Hotspotref18_Step_s_Frame_Head_A3_a5 r_Hotspotref18_Step_s_Frame_Head_A4_a0 r_Hotspotref18_Step_s_Frame_Head_A4_a1 r_Hotspotref18_Step_s_Frame_Head_A4_a2 r_Hotspotref18_Step_s_Frame_Head_A4_a3 r_Hotspotref18_Step_s_Frame_Head_A4_a4 r_Hotspotref18_Step_s_Frame_Head_A4_a5 r_Hotspotref18_Step_s_Frame_Head_Seq r_Hotspotref18_Step_s_Frame_Head_Frag r_Hotspotref18_Step_s_Frame_Head_Tid r_Hotspotref18_Step_s_Frame_Head_Ack r_Hotspotref18_Step_put r_Hotspotref18_Step_app r_Hotspotref18_Step_cat f_S_Hotspotref18_Step q_S_Hotspotref18_Step

def S_Reorder (l : List Reorder) : AV := .imm (List.flatMap E_Reorder l) l.length
theorem S_Reorder_eq (l : List Reorder) : S_Reorder l = .imm (List.flatMap E_Reorder l) l.length := rfl
theorem l_Reorder (x : Reorder) : (E_Reorder x).length = 6 := by rfl
theorem c_Reorder (l : List Reorder) : ∀ c ∈ l.flatMap E_Reorder, Clean c := rows_clean E_Reorder_clean l
theorem r_Reorder_len (l : List Reorder) : (l.flatMap E_Reorder).length = l.length * 6 := flat_len l_Reorder l
theorem r_Reorder_get (l : List Reorder) (i o : Nat) (ho : o < 6) : (l.flatMap E_Reorder)[i * 6 + o]? = l[i]?.bind fun a => (E_Reorder a)[o]? := rows_get l_Reorder l i o ho
theorem r_Reorder_get0 (l : List Reorder) (i : Nat) : (l.flatMap E_Reorder)[i * 6]? = l[i]?.bind fun a => (E_Reorder a)[0]? := rows_get l_Reorder l i 0 (by decide)
theorem r_Reorder_sub (l : List Reorder) (i o n : Nat) (ho : o + n ≤ 6) (hn : 0 < n) : sub? (l.flatMap E_Reorder) (i * 6 + o) n = l[i]?.bind fun a => sub? (E_Reorder a) o n := rows_sub l_Reorder l i o n ho hn
theorem r_Reorder_sub0 (l : List Reorder) (i n : Nat) (ho : n ≤ 6) (hn : 0 < n) : sub? (l.flatMap E_Reorder) (i * 6) n = l[i]?.bind fun a => sub? (E_Reorder a) 0 n := rows_sub l_Reorder l i 0 n (by omega) hn
theorem r_Reorder_subw (l : List Reorder) : sub? (l.flatMap E_Reorder) 0 (l.length * 6) = some (l.flatMap E_Reorder) := rows_subw l_Reorder l
theorem r_Reorder_take (l : List Reorder) (n : Nat) : (l.flatMap E_Reorder).take (n * 6) = (l.take n).flatMap E_Reorder := rows_take l_Reorder l n
theorem r_Reorder_drop (l : List Reorder) (n : Nat) : (l.flatMap E_Reorder).drop (n * 6) = (l.drop n).flatMap E_Reorder := rows_drop l_Reorder l n
theorem r_Reorder_fz (l : List Reorder) (o : Nat → Ob) (n : Nat) : (l.flatMap E_Reorder).map (fz o (n + 3)) = (l.flatMap E_Reorder) := rows_fz (fun a => f_Reorder a o n) l
theorem r_Reorder_rch (l : List Reorder) (o : Nat → Ob) (n : Nat) : (l.flatMap E_Reorder).flatMap (reach o (n + 3)) = [] := rows_reach (fun a => q_Reorder a o n) l
theorem r_Reorder_s_Start (l : List Reorder) (i : Nat) (v : Int) : (l.flatMap E_Reorder).set (i * 6) (vi v) = (l.modify i (fun y => { y with Start := v })).flatMap E_Reorder := rows_set l_Reorder l i 0 _ (fun y => { y with Start := v }) (by decide) (fun _ => by rfl)
theorem r_Reorder_s_Size (l : List Reorder) (i : Nat) (v : Int) : (l.flatMap E_Reorder).set (i * 6 + 1) (vi v) = (l.modify i (fun y => { y with Size := v })).flatMap E_Reorder := rows_set l_Reorder l i 1 _ (fun y => { y with Size := v }) (by decide) (fun _ => by rfl)
theorem r_Reorder_s_Hold (l : List Reorder) (i : Nat) (v : Int) : (l.flatMap E_Reorder).set (i * 6 + 2) (vi v) = (l.modify i (fun y => { y with Hold := v })).flatMap E_Reorder := rows_set l_Reorder l i 2 _ (fun y => { y with Hold := v }) (by decide) (fun _ => by rfl)
theorem r_Reorder_s_Seen_Start (l : List Reorder) (i : Nat) (v : Int) : (l.flatMap E_Reorder).set (i * 6 + 4) (vi v) = (l.modify i (fun y => { y with Seen.Start := v })).flatMap E_Reorder := rows_set l_Reorder l i 4 _ (fun y => { y with Seen.Start := v }) (by decide) (fun _ => by rfl)
theorem r_Reorder_s_Seen_Bits (l : List Reorder) (i : Nat) (v : Int) : (l.flatMap E_Reorder).set (i * 6 + 5) (vq v) = (l.modify i (fun y => { y with Seen.Bits := v })).flatMap E_Reorder := rows_set l_Reorder l i 5 _ (fun y => { y with Seen.Bits := v }) (by decide) (fun _ => by rfl)
theorem r_Reorder_put (l : List Reorder) (i : Nat) (x : Reorder) (b0 : (List HeldSeq)) : putAt (l.flatMap E_Reorder) (i * 6) (e_Reorder x (.imm (List.flatMap E_HeldSeq b0) b0.length)) = (l.set i { x with Held := b0 }).flatMap E_Reorder := rows_put l_Reorder (by decide) l i { x with Held := b0 }
theorem r_Reorder_app (l : List Reorder) (x : Reorder) (b0 : (List HeldSeq)) : (l.flatMap E_Reorder) ++ e_Reorder x (S_HeldSeq b0) = (l ++ [{ x with Held := b0 }]).flatMap E_Reorder := by rw [List.flatMap_append]; simp only [List.flatMap_cons, List.flatMap_nil, List.append_nil]; rfl
theorem r_Reorder_cat (l : List Reorder) (m : List Reorder) : (l.flatMap E_Reorder) ++ m.flatMap E_Reorder = (l ++ m).flatMap E_Reorder := List.flatMap_append.symm
theorem f_S_Reorder (l : List Reorder) (o : Nat → Ob) (n : Nat) : fz o (n + 4) (S_Reorder l) = S_Reorder l := by simp only [S_Reorder_eq, fz, r_Reorder_fz]
theorem q_S_Reorder (l : List Reorder) (o : Nat → Ob) (n : Nat) : reach o (n + 4) (S_Reorder l) = [] := by simp only [S_Reorder_eq, reach, r_Reorder_rch]
attribute [go_sem] S_Reorder_eq l_Reorder r_Reorder_len r_Reorder_get r_Reorder_get0 r_Reorder_sub r_Reorder_sub0 r_Reorder_subw r_Reorder_take r_Reorder_drop r_Reorder_fz r_Reorder_rch r_Reorder_s_Start r_Reorder_s_Size r_Reorder_s_Hold r_Reorder_s_Seen_Start r_Reorder_s_Seen_Bits r_Reorder_put r_Reorder_app r_Reorder_cat f_S_Reorder q_S_Reorder

end Go.AX.Z.TR

/-! (TRD) -/

set_option linter.unusedSimpArgs false
set_option linter.unusedVariables false
set_option maxHeartbeats 4000000
set_option maxRecDepth 20000
namespace Go.AX.Z.TR
open Go.AX

def agP : Nat → List (List AV) → List (Nat × AV)
  | _, [] => []
  | i, c :: L => (i, .agg c) :: agP (i + 1) L
theorem fillA_go {sz : Nat} {zs : List AV} (hz : zs.length = sz) : ∀ (L : List (List AV)) (i0 : Nat) (pre : List AV), pre.length = i0 * sz → (∀ c ∈ L, c.length = sz) → fillA (fun i => some (i * sz, sz)) (pre ++ rep L.length zs) (agP i0 L) = some (pre ++ L.flatten)
  | [], i0, pre, _, _ => by simp [agP, fillA, rep]
  | c :: L, i0, pre, hp, hL => by
    have hc := hL c (by simp)
    have ih := fillA_go hz L (i0 + 1) (pre ++ c) (by rw [List.length_append, hp, hc, Nat.succ_mul]) (fun d hd => hL d (by simp [hd]))
    have e : putAt (pre ++ rep (c :: L).length zs) (i0 * sz) c = pre ++ c ++ rep L.length zs := by
      rw [List.length_cons, rep, ← hp]
      rw [putAt_in (by rw [List.length_append, List.length_append, hz, hc]; omega), List.take_left, List.drop_append, List.drop_eq_nil_of_le (by omega), List.nil_append, show pre.length + c.length - pre.length = zs.length by omega, List.drop_left]
    rw [agP, fillA]
    simp only [cellsOf]
    rw [if_pos ⟨hc, by rw [List.length_append, hp, List.length_cons, rep, List.length_append, hz, hc]; omega⟩, e, ih, List.flatten_cons, List.append_assoc]
theorem tmL_tgt {s : AS} {F : List Nat} {σ : List (Option Nat)} {xs ys zs : List AV} (h : TmL s F σ xs ys) (e : ys = zs) : TmL s F σ xs zs := e ▸ h

def reorder_number (a0 : Int) : Option Bool :=
  some ((decide (0 ≤ a0)) && (decide (a0 < 4096)))

def window_number (a0 : Int) : Option Bool :=
  some ((decide (0 ≤ a0)) && (decide (a0 < 4096)))

def window_Check (a0 : Window) : Option Int :=
  ((window_number a0.Start).bind fun x16 =>
  bif (!x16) then
    some 8
  else
    some 0)

def window_Dist (a0 : Int) (a1 : Int) : Option Int :=
  some (IntKind.wrap .i64 (band .u64 (IntKind.wrap .u64 ((IntKind.wrap .u64 a1) - (IntKind.wrap .u64 a0))) 4095))

def reorder_moment (a0 : Int) : Option Bool :=
  some ((decide (0 ≤ a0)) && (decide (a0 ≤ 1099511627776)))

def reorder_Check_L2 (a0 : Reorder) : Nat → (Int × Int) → Option (Ex Int Unit)
  | 0, _ => none
  | n8 + 1, d20 =>
    bif decide (d20.2 < (a0.Held.length : Int)) then
      ((idx a0.Held d20.2).bind fun x21 =>
      ((window_Dist a0.Start x21.Frame.Head.Seq).bind fun x22 =>
      ((reorder_number x21.Frame.Head.Seq).bind fun x23 =>
      ((
        bif (!x23) then
          some true
        else
          ((reorder_moment x21.At).bind fun x24 =>
          some (!x24))).bind fun x25 =>
      bif ((x25 || (decide (x22 ≤ d20.1))) || (decide (a0.Size ≤ x22))) then
        some (Ex.ret 8)
      else
        reorder_Check_L2 a0 n8 (x22, IntKind.wrap .i64 (d20.2 + 1))))))
    else
      some (Ex.go ())

def reorder_Check (a0 : Reorder) : Option Int :=
  ((reorder_number a0.Start).bind fun x15 =>
  ((
    bif (((((!x15) || (decide (a0.Size < 1))) || (decide (64 < a0.Size))) || (decide (a0.Hold < 0))) || (decide (16777216 < a0.Hold))) then
      some true
    else
      ((window_Check a0.Seen).bind fun x16 =>
      some (x16 != 0))).bind fun x17 =>
  bif x17 then
    some 8
  else
    ((
      reorder_Check_L2 a0 big (0, 0)).bind fun o19 =>
    (o19.k fun d18 =>
    some 0))))

def header_Twin (a0 : Frame) : Option Frame :=
  ((chk (decide (a0.Body.length ≤ 140737488355328))).bind fun x30 =>
  some a0)

def reorder_twin_L2 (a0 : (List HeldSeq)) : Nat → (List HeldSeq × Int) → Option ((List HeldSeq))
  | 0, _ => none
  | n2 + 1, d29 =>
    bif decide (d29.2 < (a0.length : Int)) then
      ((idx a0 d29.2).bind fun x30 =>
      ((header_Twin x30.Frame).bind fun x31 =>
      ((chk (decide (((d29.1).length + 1) * 112 ≤ 140737488355328))).bind fun x32 =>
      reorder_twin_L2 a0 n2 ((d29.1 ++ [{ HeldSeq.z with At := x30.At, Frame := { x31 with Body := x31.Body } }]), IntKind.wrap .i64 (d29.2 + 1)))))
    else
      some d29.1

def reorder_twin (a0 : (List HeldSeq)) : Option (List HeldSeq) :=
  ((
    reorder_twin_L2 a0 big ([], 0)).bind fun d28 =>
  some d28)

def reorder_place_1 (a0 : HeldSeq) (a1 : Int) (a2 : Reorder) : Option Int :=
  ((window_Dist a2.Start a0.Frame.Head.Seq).bind fun x38 =>
  some (IntKind.wrap .i64 (x38 - a1)))

def slices_BinarySearchFunc_api_HeldSeq_api_HeldSeq_int_L2 (a0 : (List HeldSeq)) (a1 : Int) (a2 : Reorder) : Nat → (Int × Int) → Option (Int)
  | 0, _ => none
  | n2 + 1, d37 =>
    bif decide (d37.1 < d37.2) then
      ((idx a0 (IntKind.wrap .i64 (((IntKind.wrap .u64 (IntKind.wrap .i64 (d37.1 + d37.2)))).fdiv (2 ^ (min 1 64))))).bind fun x38 =>
      ((reorder_place_1 x38 a1 a2).bind fun x39 =>
      bif decide (x39 < 0) then
        slices_BinarySearchFunc_api_HeldSeq_api_HeldSeq_int_L2 a0 a1 a2 n2 (IntKind.wrap .i64 ((IntKind.wrap .i64 (((IntKind.wrap .u64 (IntKind.wrap .i64 (d37.1 + d37.2)))).fdiv (2 ^ (min 1 64)))) + 1), d37.2)
      else
        slices_BinarySearchFunc_api_HeldSeq_api_HeldSeq_int_L2 a0 a1 a2 n2 (d37.1, IntKind.wrap .i64 (((IntKind.wrap .u64 (IntKind.wrap .i64 (d37.1 + d37.2)))).fdiv (2 ^ (min 1 64))))))
    else
      some d37.1

def slices_BinarySearchFunc_api_HeldSeq_api_HeldSeq_int (a0 : (List HeldSeq)) (a1 : Int) (a2 : Reorder) : Option (Int × Bool) :=
  ((
    slices_BinarySearchFunc_api_HeldSeq_api_HeldSeq_int_L2 a0 a1 a2 big (0, (a0.length : Int))).bind fun d36 =>
  ((
    bif decide (d36 < (a0.length : Int)) then
      ((idx a0 d36).bind fun x40 =>
      ((reorder_place_1 x40 a1 a2).bind fun x41 =>
      some (x41 == 0)))
    else
      some false).bind fun x42 =>
  some (d36, x42)))

def reorder_place (a0 : Reorder) (a1 : Int) : Option (Int × Bool) :=
  ((window_Dist a0.Start a1).bind fun x35 =>
  ((slices_BinarySearchFunc_api_HeldSeq_api_HeldSeq_int a0.Held x35 a0).bind fun x36 =>
  some (x36.1, x36.2)))

def window_Add (a0 : Int) (a1 : Int) : Option Int :=
  some (IntKind.wrap .i64 (band .u64 (IntKind.wrap .u64 ((IntKind.wrap .u64 a0) + (IntKind.wrap .u64 a1))) 4095))

def reorder_move_L2 (x35 : (Int × Bool)) (a0 : Reorder) : Nat → (List Frame × Int) → Option ((List Frame))
  | 0, _ => none
  | n2 + 1, d38 =>
    bif decide (d38.2 < (((x35.1).toNat : Nat) : Int)) then
      ((chk (decide (d38.2 < ((x35.1).toNat : Int)))).bind fun x39 =>
      ((idx a0.Held d38.2).bind fun x40 =>
      ((chk (decide (((d38.1).length + 1) * 104 ≤ 140737488355328))).bind fun x41 =>
      reorder_move_L2 x35 a0 n2 ((d38.1 ++ [x40.Frame]), IntKind.wrap .i64 (d38.2 + 1)))))
    else
      some d38.1

def reorder_move_L5 : Nat → (Reorder × List HeldSeq × List Frame) → Option ((Reorder × List HeldSeq × List Frame))
  | 0, _ => none
  | n7 + 1, d44 =>
    ((
      bif decide (0 < (((d44.2.1).length : Nat) : Int)) then
        ((idx d44.2.1 0).bind fun x45 =>
        some (x45.Frame.Head.Seq == d44.1.Start))
      else
        some false).bind fun x46 =>
    bif x46 then
      ((idx d44.2.1 0).bind fun x47 =>
      ((chk (decide (((d44.2.2).length + 1) * 104 ≤ 140737488355328))).bind fun x48 =>
      ((window_Add d44.1.Start 1).bind fun x49 =>
      ((chk (decide (1 ≤ ((d44.2.1).length : Int)))).bind fun x50 =>
      reorder_move_L5 n7 ({ d44.1 with Start := x49 }, (List.drop 1 d44.2.1), (d44.2.2 ++ [x47.Frame]))))))
    else
      some (d44.1, d44.2.1, d44.2.2))

def reorder_move (a0 : Reorder) (a1 : Int) : Option (List Frame × Reorder × List HeldSeq) :=
  ((reorder_place a0 a1).bind fun x35 =>
  ((chk (decide (0 ≤ x35.1) && decide (x35.1 ≤ (a0.Held.length : Int)))).bind fun x36 =>
  ((
    reorder_move_L2 x35 a0 big ([], 0)).bind fun d37 =>
  ((chk (decide (0 ≤ x35.1) && decide (x35.1 ≤ (a0.Held.length : Int)))).bind fun x42 =>
  ((
    reorder_move_L5 big ({ a0 with Start := a1 }, (List.drop ((x35.1).toNat) a0.Held), d37)).bind fun d43 =>
  some (d43.2.2, d43.1, d43.2.1))))))

def reorder_Bar (a0 : Reorder) (a1 : Int) : Option ((List Frame) × Reorder × Int) :=
  ((reorder_Check a0).bind fun x15 =>
  bif (x15 != 0) then
    some ([], Reorder.z, x15)
  else
    ((reorder_number a1).bind fun x16 =>
    bif (!x16) then
      some ([], Reorder.z, 2)
    else
      ((reorder_twin a0.Held).bind fun x17 =>
      ((window_Dist a0.Start a1).bind fun x18 =>
      bif decide (2048 ≤ x18) then
        some ([], { a0 with Held := x17 }, 0)
      else
        ((reorder_move { a0 with Held := x17 } a1).bind fun x19 =>
        some (x19.1, { x19.2.1 with Held := x19.2.2 }, 0))))))

def reorder_Expire_L0 (b : Reorder) (now : Int) (l : List HeldSeq) : Nat → Option (Ex (List Frame × Reorder × Int) Unit)
  | 0 => some (Ex.go ())
  | c + 1 =>
    ((l[c]?).bind fun x =>
    bif decide ((IntKind.wrap .i64 (x.At + b.Hold)) ≤ now) then
      ((window_Add x.Frame.Head.Seq 1).bind fun y =>
      ((reorder_move { b with Held := l } y).bind fun z =>
      some (Ex.ret (z.1, { z.2.1 with Held := z.2.2 }, 0))))
    else
      reorder_Expire_L0 b now l c)

def reorder_Expire (a0 : Reorder) (a1 : Int) : Option ((List Frame) × Reorder × Int) :=
  ((reorder_Check a0).bind fun x26 =>
  bif (x26 != 0) then
    some ([], Reorder.z, x26)
  else
    ((reorder_moment a1).bind fun x27 =>
    bif (!x27) then
      some ([], Reorder.z, 2)
    else
      ((reorder_twin a0.Held).bind fun x28 =>
      ((chk (decide (x28.length < 4611686018427387904))).bind fun x29 =>
      ((reorder_Expire_L0 a0 a1 x28 x28.length).bind fun o30 =>
      (o30.k fun d31 =>
      some ([], { a0 with Held := x28 }, 0)))))))

def hotspotref05_Same (a0 : Frame) (a1 : Frame) : Option Bool :=
  some ((decide (a0.Head = a1.Head)) && (sEq a0.Body a1.Body))

def hotspotref18_Same_L2 (a0 : Reorder) (a1 : Reorder) : Nat → Int → Option (Ex Bool Unit)
  | 0, _ => none
  | n7 + 1, d50 =>
    bif decide (d50 < (a0.Held.length : Int)) then
      ((idx a0.Held d50).bind fun x51 =>
      ((idx a1.Held d50).bind fun x52 =>
      ((
        bif (x51.At != x52.At) then
          some true
        else
          ((hotspotref05_Same x51.Frame x52.Frame).bind fun x53 =>
          some (!x53))).bind fun x54 =>
      bif x54 then
        some (Ex.ret false)
      else
        hotspotref18_Same_L2 a0 a1 n7 (IntKind.wrap .i64 (d50 + 1)))))
    else
      some (Ex.go ())

def hotspotref18_Same (a0 : Reorder) (a1 : Reorder) : Option Bool :=
  bif (((((a0.Start != a1.Start) || (a0.Size != a1.Size)) || (a0.Hold != a1.Hold)) || (!decide (a0.Seen = a1.Seen))) || ((a0.Held.length : Int) != (a1.Held.length : Int))) then
    some false
  else
    ((
      hotspotref18_Same_L2 a0 a1 big 0).bind fun o49 =>
    (o49.k fun d48 =>
    some true))

def reorder_Due_1 (a0 : HeldSeq) (a1 : HeldSeq) : Option Int :=
  some (IntKind.wrap .i64 (a0.At - a1.At))

def slices_MinFunc_api_HeldSeq_api_HeldSeq_L3 (a0 : (List HeldSeq)) : Nat → (HeldSeq × Int) → Option (HeldSeq)
  | 0, _ => none
  | n4 + 1, d65 =>
    bif decide (d65.2 < (a0.length : Int)) then
      ((idx a0 d65.2).bind fun x66 =>
      ((reorder_Due_1 x66 { d65.1 with Frame.Body := (d65.1).Frame.Body }).bind fun x67 =>
      bif decide (x67 < 0) then
        slices_MinFunc_api_HeldSeq_api_HeldSeq_L3 a0 n4 (x66, IntKind.wrap .i64 (d65.2 + 1))
      else
        slices_MinFunc_api_HeldSeq_api_HeldSeq_L3 a0 n4 ({ d65.1 with Frame.Body := (d65.1).Frame.Body }, IntKind.wrap .i64 (d65.2 + 1))))
    else
      some { d65.1 with Frame.Body := (d65.1).Frame.Body }

def slices_MinFunc_api_HeldSeq_api_HeldSeq (a0 : (List HeldSeq)) : Option HeldSeq :=
  ((
    bif decide ((a0.length : Int) < 1) then
      none
    else
      some ()).bind fun d62 =>
  ((idx a0 0).bind fun x63 =>
  ((
    slices_MinFunc_api_HeldSeq_api_HeldSeq_L3 a0 big (x63, 1)).bind fun d64 =>
  some { d64 with Frame.Body := (d64).Frame.Body })))

def reorder_Due (a0 : Reorder) : Option (Int × Bool) :=
  ((reorder_Check a0).bind fun x61 =>
  bif ((x61 != 0) || ((a0.Held.length : Int) == 0)) then
    some (0, false)
  else
    ((slices_MinFunc_api_HeldSeq_api_HeldSeq a0.Held).bind fun x62 =>
    some (IntKind.wrap .i64 (x62.At + a0.Hold), true)))

def reorder_Report (a0 : Reorder) : Option (Window × Int) :=
  ((reorder_Check a0).bind fun x70 =>
  bif (x70 != 0) then
    some (Window.z, x70)
  else
    some (a0.Seen, 0))

def reorder_New (a0 : Int) (a1 : Int) (a2 : Int) : Option (Reorder × Int) :=
  ((reorder_Check { Reorder.z with Hold := a2, Seen := { Window.z with Start := a0 }, Size := a1, Start := a0 }).bind fun x28 =>
  bif (x28 != 0) then
    some (Reorder.z, 2)
  else
    some ({ Reorder.z with Hold := a2, Seen := { Window.z with Start := a0 }, Size := a1, Start := a0 }, 0))

def hotspotlaw18_frame (a0 : Int) : Option Frame :=
  some { Frame.z with Body := [IntKind.wrap .u8 a0], Head := { Header.z with Seq := a0 } }

def window_check (a0 : Window) (a1 : Int) : Option Int :=
  ((window_Check a0).bind fun x39 =>
  bif (x39 != 0) then
    some x39
  else
    ((window_number a1).bind fun x40 =>
    bif (!x40) then
      some 2
    else
      some 0))

def window_Move (a0 : Window) (a1 : Int) : Option (Window × Int) :=
  ((window_check a0 a1).bind fun x39 =>
  bif (x39 != 0) then
    some (Window.z, x39)
  else
    ((window_Dist a0.Start a1).bind fun x40 =>
    bif decide (x40 < 2048) then
      ((chk (decide (¬ x40 < 0))).bind fun x41 =>
      some ({ Window.z with Bits := (a0.Bits).fdiv (2 ^ (min (x40).toNat 64)), Start := a1 }, 0))
    else
      ((chk (decide (¬ (IntKind.wrap .i64 (4096 - x40)) < 0))).bind fun x42 =>
      some ({ Window.z with Bits := IntKind.wrap .u64 (a0.Bits * 2 ^ (min ((IntKind.wrap .i64 (4096 - x40))).toNat 64)), Start := a1 }, 0))))

def window_Mark (a0 : Window) (a1 : Int) : Option (Window × Int) :=
  ((window_check a0 a1).bind fun x41 =>
  bif (x41 != 0) then
    some (Window.z, x41)
  else
    ((window_Dist a0.Start a1).bind fun x42 =>
    bif decide (64 ≤ x42) then
      some (Window.z, 21)
    else
      ((chk (decide (¬ x42 < 0))).bind fun x43 =>
      some ({ a0 with Bits := bor .u64 a0.Bits (IntKind.wrap .u64 (1 * 2 ^ (min (x42).toNat 64))) }, 0))))

def reorder_note (a0 : Window) (a1 : Int) : Option Window :=
  ((window_Dist a0.Start a1).bind fun x37 =>
  bif decide (2048 ≤ x37) then
    some a0
  else
    ((
      bif decide (64 ≤ x37) then
        ((window_Add a1 (-63)).bind fun x39 =>
        ((window_Move a0 x39).bind fun x40 =>
        some x40.1))
      else
        some a0).bind fun d38 =>
    ((window_Mark d38 a1).bind fun x41 =>
    some x41.1)))

def slices_Insert_api_HeldSeq_api_HeldSeq_0 (a0 : Int) (a1 : List HeldSeq) (a2 : List HeldSeq) : Option (List HeldSeq) :=
  ((chk (decide (0 ≤ a0) && decide (a0 ≤ (a1.length : Int)))).bind fun x45 =>
  bif (((a2.length : Nat) : Int) == 0) then
    some a1
  else
    bif (a0 == ((a1.length : Nat) : Int)) then
      ((chk (decide ((a1.length + a2.length) * 112 ≤ 140737488355328))).bind fun x46 =>
      some (a1 ++ a2))
    else
      none)

def slices_Insert_api_HeldSeq_api_HeldSeq (a0 : Int) (a1 : List HeldSeq) (a2 : List HeldSeq) : Option (List HeldSeq) :=
  ((chk (decide (0 ≤ a0) && decide (a0 ≤ (a1.length : Int)))).bind fun x13 =>
  bif (((a2.length : Nat) : Int) == 0) then
    some a1
  else
    bif (a0 == ((a1.length : Nat) : Int)) then
      ((chk (decide ((a1.length + a2.length) * 112 ≤ 140737488355328))).bind fun x14 =>
      some (a1 ++ a2))
    else
      ((chk (decide (a2.length = 1) && decide ((a1.length + 1) * 112 ≤ 140737488355328))).bind fun x15 =>
      some (a1.take a0.toNat ++ a2 ++ a1.drop a0.toNat)))

def reorder_Put (a0 : Reorder) (a1 : Frame) (a2 : Int) : Option ((List Frame) × Reorder × Int) :=
  ((reorder_Check a0).bind fun x31 =>
  bif (x31 != 0) then
    some ([], Reorder.z, x31)
  else
    ((reorder_moment a2).bind fun x32 =>
    ((
      bif (!x32) then
        some true
      else
        ((reorder_number a1.Head.Seq).bind fun x33 =>
        some (!x33))).bind fun x34 =>
    bif x34 then
      some ([], Reorder.z, 2)
    else
      ((window_Dist a0.Start a1.Head.Seq).bind fun x35 =>
      ((reorder_place a0 a1.Head.Seq).bind fun x36 =>
      bif ((decide (2048 ≤ x35)) || x36.2) then
        some ([], Reorder.z, 21)
      else
        ((reorder_note a0.Seen a1.Head.Seq).bind fun x37 =>
        ((reorder_twin a0.Held).bind fun x38 =>
        ((header_Twin a1).bind fun x39 =>
        ((slices_Insert_api_HeldSeq_api_HeldSeq x36.1 x38 [{ HeldSeq.z with At := a2, Frame := { x39 with Body := x39.Body } }]).bind fun x40 =>
        ((
          bif decide (a0.Size ≤ x35) then
            ((window_Add a1.Head.Seq (IntKind.wrap .i64 (1 - a0.Size))).bind fun x42 =>
            some x42)
          else
            some a0.Start).bind fun d41 =>
        ((reorder_move { a0 with Held := x40, Seen := x37 } d41).bind fun x43 =>
        some (x43.1, { x43.2.1 with Held := x43.2.2 }, 0))))))))))))

def hotspotlaw18_numbers_L2 (a0 : (List Frame)) (a1 : (List Int)) : Nat → Int → Option (Ex Bool Unit)
  | 0, _ => none
  | n3 + 1, d55 =>
    bif decide (d55 < (a0.length : Int)) then
      ((idx a0 d55).bind fun x56 =>
      ((idx a1 d55).bind fun x57 =>
      ((hotspotlaw18_frame x57).bind fun x58 =>
      ((hotspotref05_Same x56 x58).bind fun x59 =>
      bif (!x59) then
        some (Ex.ret false)
      else
        hotspotlaw18_numbers_L2 a0 a1 n3 (IntKind.wrap .i64 (d55 + 1))))))
    else
      some (Ex.go ())

def hotspotlaw18_numbers (a0 : (List Frame)) (a1 : (List Int)) : Option Bool :=
  bif ((a0.length : Int) != (a1.length : Int)) then
    some false
  else
    ((
      hotspotlaw18_numbers_L2 a0 a1 big 0).bind fun o54 =>
    (o54.k fun d53 =>
    some true))

def hotspotlaw18_alive : Option Bool :=
  ((reorder_New 4094 4 100).bind fun x28 =>
  ((hotspotlaw18_frame 4095).bind fun x29 =>
  ((reorder_Put x28.1 x29 5).bind fun x30 =>
  ((hotspotlaw18_frame 4094).bind fun x31 =>
  ((reorder_Put x30.2.1 x31 6).bind fun x32 =>
  ((hotspotlaw18_frame 2).bind fun x33 =>
  ((reorder_Put x32.2.1 x33 7).bind fun x34 =>
  ((reorder_Due x34.2.1).bind fun x35 =>
  ((reorder_Expire x34.2.1 107).bind fun x36 =>
  ((hotspotlaw18_frame 10).bind fun x37 =>
  ((reorder_Put x36.2.1 x37 200).bind fun x38 =>
  ((
    bif ((x28.2 == 0) && (x30.2.2 == 0)) then
      ((hotspotlaw18_numbers x30.1 []).bind fun x39 =>
      some x39)
    else
      some false).bind fun x40 =>
  bif (x40 && (x32.2.2 == 0)) then
    ((hotspotlaw18_numbers x32.1 [4094, 4095]).bind fun x41 =>
    ((
      bif ((x41 && (x32.2.1.Start == 0)) && (x34.2.2 == 0)) then
        ((hotspotlaw18_numbers x34.1 []).bind fun x42 =>
        some x42)
      else
        some false).bind fun x43 =>
    bif (((x43 && (x35.1 == 107)) && x35.2) && (x36.2.2 == 0)) then
      ((hotspotlaw18_numbers x36.1 [2]).bind fun x44 =>
      ((
        bif ((x44 && (x36.2.1.Start == 3)) && (x38.2.2 == 0)) then
          ((hotspotlaw18_numbers x38.1 []).bind fun x45 =>
          some x45)
        else
          some false).bind fun x46 =>
      some ((x46 && (x38.2.1.Start == 7)) && ((x38.2.1.Held.length : Int) == 1))))
    else
      some false))
  else
    some false))))))))))))

def hotspotlaw18_ReorderNames_C13 (x138 : Frame) (x139 : Frame) (x140 : Frame) (x141 : Frame) (x142 : Frame) : List Reorder :=
  [{ Reorder.z with Size := 1, Start := 4096 }, { Reorder.z with Size := 65 }, { Reorder.z with Hold := (-1), Size := 2 }, { Reorder.z with Held := [{ HeldSeq.z with Frame := { x138 with Body := x138.Body } }], Size := 2 }, { Reorder.z with Held := [{ HeldSeq.z with Frame := { x139 with Body := x139.Body } }], Size := 2 }, { Reorder.z with Held := [{ HeldSeq.z with Frame := { x140 with Body := x140.Body } }, { HeldSeq.z with Frame := { x141 with Body := x141.Body } }], Size := 4 }, { Reorder.z with Held := [{ HeldSeq.z with At := (-1), Frame := { x142 with Body := x142.Body } }], Size := 2 }, { Reorder.z with Seen := { Window.z with Start := (-1) }, Size := 2 }]

def hotspotlaw18_ReorderNames_L17 (x138 : Frame) (x139 : Frame) (x140 : Frame) (x141 : Frame) (x142 : Frame) : Nat → Int → Option (Ex Bool Unit)
  | 0, _ => none
  | n4 + 1, d145 =>
    bif decide (d145 < ((hotspotlaw18_ReorderNames_C13 x138 x139 x140 x141 x142).length : Int)) then
      ((idx (hotspotlaw18_ReorderNames_C13 x138 x139 x140 x141 x142) d145).bind fun x146 =>
      ((reorder_Check x146).bind fun x147 =>
      bif (x147 != 8) then
        some (Ex.ret false)
      else
        hotspotlaw18_ReorderNames_L17 x138 x139 x140 x141 x142 n4 (IntKind.wrap .i64 (d145 + 1))))
    else
      some (Ex.go ())

def hotspotlaw18_ReorderNames : Option Bool :=
  ((reorder_New 4096 1 0).bind fun x111 =>
  ((reorder_New 0 65 0).bind fun x112 =>
  ((reorder_New 0 0 0).bind fun x113 =>
  ((reorder_New 0 1 16777217).bind fun x114 =>
  ((reorder_New 10 8 50).bind fun x115 =>
  ((hotspotlaw18_frame 12).bind fun x116 =>
  ((reorder_Put x115.1 x116 1).bind fun x117 =>
  ((hotspotlaw18_frame 12).bind fun x118 =>
  ((reorder_Put x117.2.1 x118 2).bind fun x119 =>
  ((hotspotlaw18_frame 9).bind fun x120 =>
  ((reorder_Put x117.2.1 x120 2).bind fun x121 =>
  ((hotspotlaw18_frame 2058).bind fun x122 =>
  ((reorder_Put x117.2.1 x122 2).bind fun x123 =>
  ((hotspotlaw18_frame 2057).bind fun x124 =>
  ((reorder_Put x117.2.1 x124 2).bind fun x125 =>
  ((hotspotlaw18_frame 4096).bind fun x126 =>
  ((reorder_Put x117.2.1 x126 2).bind fun x127 =>
  ((hotspotlaw18_frame 13).bind fun x128 =>
  ((reorder_Put x117.2.1 x128 (-1)).bind fun x129 =>
  ((hotspotlaw18_frame 4096).bind fun x130 =>
  ((reorder_Put Reorder.z x130 (-1)).bind fun x131 =>
  ((reorder_Bar x117.2.1 9).bind fun x132 =>
  ((reorder_Bar x117.2.1 11).bind fun x133 =>
  ((reorder_Bar x117.2.1 (-1)).bind fun x134 =>
  ((reorder_Expire x117.2.1 50).bind fun x135 =>
  ((reorder_Expire x117.2.1 (-1)).bind fun x136 =>
  ((reorder_Report x117.2.1).bind fun x137 =>
  ((hotspotlaw18_frame 0).bind fun x138 =>
  ((hotspotlaw18_frame 2).bind fun x139 =>
  ((hotspotlaw18_frame 2).bind fun x140 =>
  ((hotspotlaw18_frame 1).bind fun x141 =>
  ((hotspotlaw18_frame 1).bind fun x142 =>
  ((
    hotspotlaw18_ReorderNames_L17 x138 x139 x140 x141 x142 big 0).bind fun o144 =>
  (o144.k fun d143 =>
  bif ((((x119.2.2 == 21) && (x121.2.2 == 21)) && (x123.2.2 == 21)) && (x125.2.2 == 0)) then
    ((hotspotlaw18_numbers x125.1 [12]).bind fun x148 =>
    ((
      bif (x132.2.2 == 0) then
        ((hotspotlaw18_numbers x132.1 []).bind fun x149 =>
        some x149)
      else
        some false).bind fun x150 =>
    ((
      bif x150 then
        ((hotspotref18_Same x132.2.1 x117.2.1).bind fun x151 =>
        some x151)
      else
        some false).bind fun x152 =>
    ((
      bif (x152 && (x133.2.2 == 0)) then
        ((hotspotlaw18_numbers x133.1 []).bind fun x153 =>
        some x153)
      else
        some false).bind fun x154 =>
    (hotspotlaw18_alive.bind fun x155 =>
    ((
      bif ((((x155 && ((((((x111.2 == 2) && (x112.2 == 2)) && (x113.2 == 2)) && (x114.2 == 2)) && (x115.2 == 0)) && (x117.2.2 == 0))) && (((((x148 && (x125.2.1.Start == 2050)) && ((x125.2.1.Held.length : Int) == 1)) && (x127.2.2 == 2)) && (x129.2.2 == 2)) && (x131.2.2 == 8))) && (((x154 && (x133.2.1.Start == 11)) && ((x133.2.1.Held.length : Int) == 1)) && (x134.2.2 == 2))) && (x135.2.2 == 0)) then
        ((hotspotlaw18_numbers x135.1 []).bind fun x156 =>
        some x156)
      else
        some false).bind fun x157 =>
    some (((x157 && (x136.2.2 == 2)) && (x137.2 == 0)) && (decide (x137.1 = { Window.z with Bits := 4, Start := 10 })))))))))
  else
    ((
      bif (x132.2.2 == 0) then
        ((hotspotlaw18_numbers x132.1 []).bind fun x158 =>
        some x158)
      else
        some false).bind fun x159 =>
    ((
      bif x159 then
        ((hotspotref18_Same x132.2.1 x117.2.1).bind fun x160 =>
        some x160)
      else
        some false).bind fun x161 =>
    ((
      bif (x161 && (x133.2.2 == 0)) then
        ((hotspotlaw18_numbers x133.1 []).bind fun x162 =>
        some x162)
      else
        some false).bind fun x163 =>
    (hotspotlaw18_alive.bind fun x164 =>
    ((
      bif ((((x164 && ((((((x111.2 == 2) && (x112.2 == 2)) && (x113.2 == 2)) && (x114.2 == 2)) && (x115.2 == 0)) && (x117.2.2 == 0))) && false) && (((x163 && (x133.2.1.Start == 11)) && ((x133.2.1.Held.length : Int) == 1)) && (x134.2.2 == 2))) && (x135.2.2 == 0)) then
        ((hotspotlaw18_numbers x135.1 []).bind fun x165 =>
        some x165)
      else
        some false).bind fun x166 =>
    some (((x166 && (x136.2.2 == 2)) && (x137.2 == 0)) && (decide (x137.1 = { Window.z with Bits := 4, Start := 10 }))))))))))))))))))))))))))))))))))))))))))

end Go.AX.Z.TR

/-! (TRF) -/

namespace Go.AX.Z.TR
open Go.AX Go.Proofs

def tab : List (TypeId × List (Option IntKind)) :=
  [(25, [some .i64, some .u64]),
   (41, [some .u8, some .u8, none, none, none, none, none, none, none, some .i64, some .u8, some .u8, some .u8, some .u8, some .u8, some .u8, some .u8, some .u8, some .u8, some .u8, some .u8, some .u8, some .u8, some .u8, some .u8, some .u8, some .u8, some .u8, some .u8, some .u8, some .u8, some .u8, some .u8, some .u8, some .i64, some .i64, some .i64, some .u8, none, none])]

noncomputable def K : Ctx := ⟨Try.prog, fun _ => none, tabK tab⟩

theorem ag22 : agB K.P 22 = some false := by kernel_rfl
theorem ag23 : agB K.P 23 = some false := by kernel_rfl
theorem ag25 : agB K.P 25 = some true := by kernel_rfl
theorem ag27 : agB K.P 27 = some true := by kernel_rfl
theorem ag28 : agB K.P 28 = some false := by kernel_rfl
theorem ag3 : agB K.P 3 = some false := by kernel_rfl
theorem ag41 : agB K.P 41 = some true := by kernel_rfl
theorem ag42 : agB K.P 42 = some false := by kernel_rfl
theorem ag44 : agB K.P 44 = some true := by kernel_rfl
theorem ag46 : agB K.P 46 = some false := by kernel_rfl
theorem ag58 : agB K.P 58 = some true := by kernel_rfl
theorem ag75 : agB K.P 75 = some true := by kernel_rfl
theorem bl25 : bldS K.P 25 = some [(0, 1), (1, 1)] := by kernel_rfl
theorem bl27 : bldS K.P 27 = some [(0, 1), (1, 1), (2, 1), (3, 1), (4, 2)] := by kernel_rfl
theorem bl41 : bldS K.P 41 = some [(0, 1), (1, 1), (2, 1), (3, 1), (4, 1), (5, 1), (6, 1), (7, 1), (8, 1), (9, 1), (10, 6), (16, 6), (22, 6), (28, 6), (34, 1), (35, 1), (36, 1), (37, 1), (38, 1), (39, 1)] := by kernel_rfl
theorem bl44 : bldS K.P 44 = some [(0, 40), (40, 1)] := by kernel_rfl
theorem bl58 : bldS K.P 58 = some [(0, 1), (1, 41)] := by kernel_rfl
theorem bs42_9 : isBS K.P 42 9 = true := by kernel_rfl
theorem by27 : byOf K.P 27 = some 64 := by kernel_rfl
theorem by3 : byOf K.P 3 = some 8 := by kernel_rfl
theorem by44 : byOf K.P 44 = some 104 := by kernel_rfl
theorem by5 : byOf K.P 5 = some 1 := by kernel_rfl
theorem by58 : byOf K.P 58 = some 112 := by kernel_rfl
theorem by75 : byOf K.P 75 = some 120 := by kernel_rfl
theorem ek25 : K.eqk 25 = some [some .i64, some .u64] := by kernel_rfl
theorem ek41 : K.eqk 41 = some [some .u8, some .u8, none, none, none, none, none, none, none, some .i64, some .u8, some .u8, some .u8, some .u8, some .u8, some .u8, some .u8, some .u8, some .u8, some .u8, some .u8, some .u8, some .u8, some .u8, some .u8, some .u8, some .u8, some .u8, some .u8, some .u8, some .u8, some .u8, some .u8, some .u8, some .i64, some .i64, some .i64, some .u8, none, none] := by kernel_rfl
theorem el22 : elS K.P 22 = some 58 := by kernel_rfl
theorem el42 : elS K.P 42 = some 5 := by kernel_rfl
theorem el46 : elS K.P 46 = some 44 := by kernel_rfl
theorem el71 : elS K.P 71 = some 75 := by kernel_rfl
theorem el78 : elS K.P 78 = some 27 := by kernel_rfl
theorem el94 : elS K.P 94 = some 3 := by kernel_rfl
theorem fl25_0 : flE K.P 25 0 = some (0, 3) := by kernel_rfl
theorem fl25_1 : flE K.P 25 1 = some (1, 23) := by kernel_rfl
theorem fl27_0 : flE K.P 27 0 = some (0, 3) := by kernel_rfl
theorem fl27_1 : flE K.P 27 1 = some (1, 3) := by kernel_rfl
theorem fl27_2 : flE K.P 27 2 = some (2, 3) := by kernel_rfl
theorem fl27_3 : flE K.P 27 3 = some (3, 22) := by kernel_rfl
theorem fl27_4 : flE K.P 27 4 = some (4, 25) := by kernel_rfl
theorem fl41_14 : flE K.P 41 14 = some (34, 3) := by kernel_rfl
theorem fl44_0 : flE K.P 44 0 = some (0, 41) := by kernel_rfl
theorem fl44_1 : flE K.P 44 1 = some (40, 42) := by kernel_rfl
theorem fl58_0 : flE K.P 58 0 = some (0, 3) := by kernel_rfl
theorem fl58_1 : flE K.P 58 1 = some (1, 44) := by kernel_rfl
theorem fl75_0 : flE K.P 75 0 = some (0, 3) := by kernel_rfl
theorem fl75_1 : flE K.P 75 1 = some (1, 3) := by kernel_rfl
theorem fl75_2 : flE K.P 75 2 = some (2, 44) := by kernel_rfl
theorem in105 : inK K.P 105 = some .u64 := by kernel_rfl
theorem in23 : inK K.P 23 = some .u64 := by kernel_rfl
theorem in3 : inK K.P 3 = some .i64 := by kernel_rfl
theorem in5 : inK K.P 5 = some .u8 := by kernel_rfl
theorem isb4 : isBl K.P 4 = true := by kernel_rfl
theorem ni9 : inK K.P 9 = none := by kernel_rfl
theorem sz22 : szOf K.P 22 = some 1 := by kernel_rfl
theorem sz23 : szOf K.P 23 = some 1 := by kernel_rfl
theorem sz25 : szOf K.P 25 = some 2 := by kernel_rfl
theorem sz27 : szOf K.P 27 = some 6 := by kernel_rfl
theorem sz28 : szOf K.P 28 = some 1 := by kernel_rfl
theorem sz3 : szOf K.P 3 = some 1 := by kernel_rfl
theorem sz41 : szOf K.P 41 = some 40 := by kernel_rfl
theorem sz42 : szOf K.P 42 = some 1 := by kernel_rfl
theorem sz44 : szOf K.P 44 = some 41 := by kernel_rfl
theorem sz46 : szOf K.P 46 = some 1 := by kernel_rfl
theorem sz5 : szOf K.P 5 = some 1 := by kernel_rfl
theorem sz58 : szOf K.P 58 = some 42 := by kernel_rfl
theorem sz75 : szOf K.P 75 = some 43 := by kernel_rfl
theorem un105 : K.P.underlying 105 = some (.int .u64) := by kernel_rfl
theorem un22 : K.P.underlying 22 = some (.slice 58) := by kernel_rfl
theorem un23 : K.P.underlying 23 = some (.int .u64) := by kernel_rfl
theorem un3 : K.P.underlying 3 = some (.int .i64) := by kernel_rfl
theorem un42 : K.P.underlying 42 = some (.slice 5) := by kernel_rfl
theorem un46 : K.P.underlying 46 = some (.slice 44) := by kernel_rfl
theorem un71 : K.P.underlying 71 = some (.slice 75) := by kernel_rfl
theorem un78 : K.P.underlying 78 = some (.slice 27) := by kernel_rfl
theorem un94 : K.P.underlying 94 = some (.slice 3) := by kernel_rfl
theorem ze25 : zer K.P 25 = some (e_Window Window.z) := by kernel_rfl
theorem ze27 : zer K.P 27 = some (e_Reorder Reorder.z vnil) := by kernel_rfl
theorem ze28 : zer K.P 28 = some [.v (.int .i64 0)] := by kernel_rfl
theorem ze3 : zer K.P 3 = some [.v (.int .i64 0)] := by kernel_rfl
theorem ze41 : zer K.P 41 = some (e_Header Header.z) := by kernel_rfl
theorem ze44 : zer K.P 44 = some (e_Frame Frame.z vnil) := by kernel_rfl
theorem ze46 : zer K.P 46 = some [.v (.slice none 0 0)] := by kernel_rfl
theorem ze5 : zer K.P 5 = some [.v (.int .u8 0)] := by kernel_rfl
theorem ze58 : zer K.P 58 = some (e_HeldSeq HeldSeq.z vnil) := by kernel_rfl
theorem ze75 : zer K.P 75 = some (e_Hotspotref18_Step Hotspotref18_Step.z vnil) := by kernel_rfl
attribute [go_sem] ag22 ag23 ag25 ag27 ag28 ag3 ag41 ag42 ag44 ag46 ag58 ag75 bl25 bl27 bl41 bl44 bl58 bs42_9 by27 by3 by44 by5 by58 by75 ek25 ek41 el22 el42 el46 el71 el78 el94 fl25_0 fl25_1 fl27_0 fl27_1 fl27_2 fl27_3 fl27_4 fl41_14 fl44_0 fl44_1 fl58_0 fl58_1 fl75_0 fl75_1 fl75_2 in105 in23 in3 in5 isb4 ni9 sz22 sz23 sz25 sz27 sz28 sz3 sz41 sz42 sz44 sz46 sz5 sz58 sz75 un105 un22 un23 un3 un42 un46 un71 un78 un94 ze25 ze27 ze28 ze3 ze41 ze44 ze46 ze5 ze58 ze75
theorem mixed : K.P.follows .mixedOrders = true := by kernel_rfl
theorem hC : COk K := ⟨EqOk.of_tab (tab := tab) rfl (by kernel_rfl), mixed⟩
theorem rs39 : Try.f39.results = #[.tmp 2] := rfl
theorem rs58 : Try.f58.results = #[.tmp 2] := rfl
theorem rs40 : Try.f40.results = #[.tmp 2] := rfl
theorem rs38 : Try.f38.results = #[.tmp 4] := rfl
theorem rs41 : Try.f41.results = #[.tmp 2] := rfl
theorem rs14 : Try.f14.results = #[.tmp 2] := rfl
theorem rs54 : Try.f54.results = #[.cell 2 44] := rfl
theorem rs43 : Try.f43.results = #[.tmp 2] := rfl
theorem rs63 : Try.f63.results = #[.tmp 5] := rfl
theorem rs62 : Try.f62.results = #[.tmp 6, .tmp 7] := rfl
theorem rs51 : Try.f51.results = #[.tmp 4, .tmp 5] := rfl
theorem rs32 : Try.f32.results = #[.tmp 4] := rfl
theorem rs44 : Try.f44.results = #[.tmp 4, .cell 5 27] := rfl
theorem rs18 : Try.f18.results = #[.tmp 4, .cell 5 27, .tmp 6] := rfl
theorem rs20 : Try.f20.results = #[.cell 4 46, .cell 5 27, .cell 6 28] := rfl
theorem rs30 : Try.f30.results = #[.tmp 4] := rfl
theorem rs13 : Try.f13.results = #[.tmp 4] := rfl
theorem rs50 : Try.f50.results = #[.tmp 4] := rfl
theorem rs49 : Try.f49.results = #[.cell 4 58] := rfl
theorem rs23 : Try.f23.results = #[.tmp 2, .tmp 3] := rfl
theorem rs25 : Try.f25.results = #[.cell 2 25, .tmp 3] := rfl
theorem rs11 : Try.f11.results = #[.cell 6 27, .tmp 7] := rfl
theorem rs33 : Try.f33.results = #[.cell 2 44] := rfl
theorem rs57 : Try.f57.results = #[.tmp 4] := rfl
theorem rs64 : Try.f64.results = #[.cell 4 25, .tmp 5] := rfl
theorem rs65 : Try.f65.results = #[.cell 4 25, .tmp 5] := rfl
theorem rs52 : Try.f52.results = #[.cell 4 25] := rfl
theorem rs53 : Try.f53.results = #[.tmp 6] := rfl
theorem rs28 : Try.f28.results = #[.tmp 6, .cell 7 27, .tmp 8] := rfl
theorem rs34 : Try.f34.results = #[.tmp 4] := rfl
theorem rs31 : Try.f31.results = #[.tmp 0] := rfl
theorem rs10 : Try.f10.results = #[.tmp 0] := rfl

end Go.AX.Z.TR

/-! (TRI) -/

set_option linter.unusedSimpArgs false
set_option linter.unusedVariables false
set_option maxHeartbeats 1000000
namespace Go.AX.Z.TR
open Go.AX Go.Proofs

/-- What slices.Backward hands out. -/
def backX (l : List HeldSeq) : List (List AV) := (List.range l.length).map fun i => [vi ((l.length - 1 - i : Nat) : Int), match l[l.length - 1 - i]? with | some x => .agg (E_HeldSeq x) | none => .unk]
theorem backX_len (l : List HeldSeq) : (backX l).length = l.length := by simp [backX]
theorem backX_get {l : List HeldSeq} {k i : Nat} {x : HeldSeq} (hk : k + i + 1 = l.length) (hx : l[i]? = some x) : (backX l)[k]? = some [vi (i : Int), .agg (E_HeldSeq x)] := by
  have e : l.length - 1 - k = i := by omega
  have h : (List.range l.length)[k]? = some k := by rw [List.getElem?_range (by omega)]
  unfold backX
  rw [List.getElem?_map, h]
  simp only [Option.map_some, e, hx]
theorem backX_inv {l : List HeldSeq} {k : Nat} {x : List AV} (h : (backX l)[k]? = some x) : ∃ i e, k + i + 1 = l.length ∧ l[i]? = some e ∧ x = [vi (i : Int), .agg (E_HeldSeq e)] := by
  have hk : k < l.length := by rw [← backX_len l]; exact (List.getElem?_eq_some_iff.1 h).1
  have hi : l.length - 1 - k < l.length := by omega
  have := backX_get (k := k) (i := l.length - 1 - k) (by omega) (List.getElem?_eq_getElem hi)
  rw [h] at this
  cases this
  exact ⟨_, _, by omega, List.getElem?_eq_getElem hi, rfl⟩

def tB (y : Value) (q : Nat) : Nat → AV := upd (upd (fun _ => .unk) 1 (.ptr q 0)) 0 (.v y)

theorem back_iter (l : List HeldSeq) (hL : l.length < 4611686018427387904) (p q : Nat) : Iter K 61 [.ptr p 0] (fun hs => hs.objs p = .live [.ref q 0 l.length 42] ∧ hs.objs q = .live (List.flatMap E_HeldSeq l)) (backX l) := by
  intro lo lb ρ0 V0 J Jx hlb hJ hJx hJc hJxc hy ρ V hs W h0
  have hAb : ∀ i, Abides K (J i) := fun i => ⟨fun ρ V hs W h => ⟨(hJ i ρ V hs W h).2.1, (hJ i ρ V hs W h).2.2.1⟩, hJc i⟩
  have hAx : Abides K Jx := ⟨hJx, hJxc⟩
  obtain ⟨loc, hloc, rfl⟩ : ∃ loc, ρ0 p = some loc ∧ lb = #[.pointer (some ⟨loc.b, loc.base + 0, none⟩)] := by
    obtain ⟨e1, e2⟩ := hlb
    obtain ⟨lb⟩ := lb
    match lb, e1, e2 with
    | [y], _, e2 =>
      have := e2 0 _ y rfl rfl
      cases this with
      | ptr _ _ loc h => exact ⟨loc, h, rfl⟩
  obtain ⟨Y, hY⟩ : ∃ Y, Value.func (.yield lo) #[] #[] = Y := ⟨_, rfl⟩
  refine callsIn_of_wp (fn := Try.f61) Try.func61 rfl trivial ?_ rfl
  have hst0 := StJ.start (N := Try.f61.ntmps) (t := tB Y p) (J := J 0) (args := #[.func (.yield lo) #[] #[]] ++ #[.pointer (some ⟨loc.b, loc.base + 0, none⟩)]) (by show 2 ≤ 19; decide) h0 (fun i y hy => by
    match i, hy with
    | 0, hy => cases hy; rw [hY]; exact .v _
    | 1, hy => cases hy; exact .ptr p 0 loc ((hJ 0 _ _ _ _ h0).1.rho _ _ hloc)) (fun i hi => by
    have hi : 2 ≤ i := hi
    unfold tB
    rw [upd_ne _ _ (by omega), upd_ne _ _ (by omega)])
  have hRd : ∀ i ρ V hs W, J i ρ V hs W → hs.objs p = .live [.ref q 0 l.length 42] ∧ hs.objs q = .live (List.flatMap E_HeldSeq l) := fun i ρ V hs W h => (hJ i ρ V hs W h).2.2.2
  refine wpIn_seq ?_
  obtain ⟨r1, r2⟩ := hRd _ _ _ _ _ hst0.j
  refine iter_region hC (hAb 0) (by decide +kernel) (by decide +kernel) (K := fun t => t 0 = .v Y ∧ t 1 = .ptr p 0 ∧ t 3 = vi ((l.length : Int) - 1)) hst0 ?_ ?_
  · unfold tB
    simp only [go_sem, Nat.reduceEqDiff, reduceIte, Nat.reduceAdd, Nat.reduceMul, Nat.reduceSub, Nat.reduceLT, Nat.reduceLeDiff, Int.reduceToNat, Int.reduceBEq, Int.reduceBNe, Int.reduceLT, Int.reduceLE, Int.reduceAdd, Int.reduceSub, Int.reduceMul, Int.reduceNeg, Int.reduceEq, Int.reduceNe, r1, wrapI (show -4611686018427387904 ≤ (l.length : Int) - 1 by omega) (show (l.length : Int) - 1 < 4611686018427387904 by omega)]
    try exact ⟨rfl, rfl, rfl, rfl⟩
  intro ρ1 V1 hs1 a1 W1 t1 ⟨e0, e1, e3⟩ _ hst1
  refine wpIn_block ?_
  refine wpIn_loop (I := fun a w => ∃ (k c : Nat) (ρ : Rho) (V : View) (hs : HS) (t : Nat → AV), k + c = l.length ∧ t 0 = .v Y ∧ t 1 = .ptr p 0 ∧ t 3 = vi ((c : Int) - 1) ∧ StJ Try.f61.ntmps t (J k) ρ V hs a w)
    (fun a _ => (match a.tmps.getD 3 undef with | .int _ n => (n + 1).toNat | _ => 0)) ⟨0, l.length, ρ1, V1, hs1, t1, by omega, e0, e1, e3, hst1⟩ ?_
  rintro a w ⟨k, c, ρ2, V2, hs2, t2, hk, e0, e1, e3, hst2⟩
  have hk3 : a.tmps.getD 3 undef = .int .i64 ((c : Int) - 1) := by
    have := hst2.tm 3
    rw [e3] at this
    exact Rel.v_inv this
  refine wpIn_seq ?_
  refine wpIn_seq ?_
  refine iter_region hC (hAb _) (by decide +kernel) (by decide +kernel) (K := fun t => t 0 = .v Y ∧ t 1 = .ptr p 0 ∧ t 3 = vi ((c : Int) - 1) ∧ t 8 = vb (decide (0 ≤ (c : Int) - 1))) hst2 ?_ ?_
  · simp only [go_sem, Nat.reduceEqDiff, reduceIte, Nat.reduceAdd, Nat.reduceMul, Nat.reduceSub, Nat.reduceLT, Nat.reduceLeDiff, Int.reduceToNat, Int.reduceBEq, Int.reduceBNe, Int.reduceLT, Int.reduceLE, Int.reduceAdd, Int.reduceSub, Int.reduceMul, Int.reduceNeg, Int.reduceEq, Int.reduceNe, e0, e1, e3]
    try exact ⟨rfl, rfl, rfl, rfl, rfl⟩
  intro ρ3 V3 hs3 a3 W3 t3 ⟨e0, e1, e3, e8⟩ _ hst3
  have hc8 : a3.eval (.tmp 8) = .bool (decide (0 ≤ (c : Int) - 1)) := by
    have := ev_rel (C := K) (s := { toHS := hs3, tmps := t3 }) hst3.tm ((hAb _).inv _ _ _ _ hst3.j).2 (.tmp 8)
    rw [show ev K { toHS := hs3, tmps := t3 } (.tmp 8) = t3 8 from rfl, e8] at this
    exact Rel.v_inv this
  refine wpIn_cond_split hc8 (fun hlt => ?_) (fun hge => ?_)
  · obtain ⟨i, rfl⟩ : ∃ i, c = i + 1 := ⟨c - 1, by have := of_decide_eq_true hlt; omega⟩
    have e3 : t3 3 = vi (i : Int) := by rw [e3]; congr 2; omega
    have hil : i < l.length := by omega
    obtain ⟨x, hx⟩ : ∃ x, l[i]? = some x := ⟨_, List.getElem?_eq_getElem hil⟩
    refine wpIn_skip ?_
    refine wpIn_seq ?_
    refine wpIn_block ?_
    refine wpIn_seq ?_
    obtain ⟨r1, r2⟩ := hRd _ _ _ _ _ hst3.j
    obtain ⟨f0, f1, f2, f3⟩ := idx_some (show idx l (i : Int) = some x by rw [idxN]; exact hx)
    rw [Int.toNat_natCast] at f2
    refine iter_yield hC (hAb _) (hAb (k + 1)) hAx (by decide +kernel) (by decide +kernel) 6 _ rfl (l := lo) rfl rfl rfl (x := [vi (i : Int), .agg (E_HeldSeq x)]) (b := true) hst3
      (K1 := fun t => t 0 = .v Y ∧ t 1 = .ptr p 0 ∧ t 3 = vi (i : Int) ∧ t 11 = .v Y ∧ t 12 = vi (i : Int) ∧ t 16 = .agg (E_HeldSeq x))
      (K2 := fun r t => t 0 = .v Y ∧ t 1 = .ptr p 0 ∧ t 3 = vi (i : Int) ∧ t 18 = vb (match r with | some false => true | _ => false)) ?_ ?_ ?_ ?_ ?_ ?_ ?_ ?_
    · simp only [go_sem, Nat.reduceEqDiff, reduceIte, Nat.reduceAdd, Nat.reduceMul, Nat.reduceSub, Nat.reduceLT, Nat.reduceLeDiff, Int.reduceToNat, Int.reduceBEq, Int.reduceBNe, Int.reduceLT, Int.reduceLE, Int.reduceAdd, Int.reduceSub, Int.reduceMul, Int.reduceNeg, Int.reduceEq, Int.reduceNe, e0, e1, e3, r1, r2, f0, f1, f2, Int.toNat_natCast]
      try exact ⟨rfl, rfl, rfl, rfl, rfl, rfl⟩
    · rintro t1 _
      exact .inl ⟨rfl, rfl⟩
    · rintro _ t1 hs' ⟨_, _, _, h11, h12, h16⟩
      exact ⟨by rw [hY]; exact h11, by show [t1 12, t1 16] = _; rw [h12, h16]⟩
    · intro _ ρ' V' hs' W' args' _ hj hargs
      exact hy _ _ _ _ _ _ _ hj (backX_get (by omega) hx) hargs
    · rintro r t1 hs' ⟨e0, e1, e3, _⟩ hr
      cases r with
      | none => cases hr
      | some r =>
        cases r <;> simp only [go_sem, Nat.reduceEqDiff, reduceIte, Nat.reduceAdd, Nat.reduceMul, Nat.reduceSub, Nat.reduceLT, Nat.reduceLeDiff, Int.reduceToNat, Int.reduceBEq, Int.reduceBNe, Int.reduceLT, Int.reduceLE, Int.reduceAdd, Int.reduceSub, Int.reduceMul, Int.reduceNeg, Int.reduceEq, Int.reduceNe, e0, e1, e3] <;> first | rfl | exact ⟨rfl, rfl, rfl, rfl, rfl⟩
    · intro h; cases h
    · rintro _ ρ5 V5 hs5 a5 W5 t5 ⟨e0, e1, e3, e18⟩ _ hst5
      have hc : a5.eval (.tmp 18) = .bool false := by
        have := ev_rel (C := K) (s := { toHS := hs5, tmps := t5 }) hst5.tm ((hAb _).inv _ _ _ _ hst5.j).2 (.tmp 18)
        rw [show ev K { toHS := hs5, tmps := t5 } (.tmp 18) = t5 18 from rfl, e18] at this
        exact Rel.v_inv this
      refine wpIn_cond_false hc (wpIn_skip ?_)
      refine iter_region hC (hAb _) (by decide +kernel) (by decide +kernel) (K := fun t => t 0 = .v Y ∧ t 1 = .ptr p 0 ∧ t 3 = vi ((i : Int) - 1)) hst5 ?_ ?_
      · simp only [go_sem, Nat.reduceEqDiff, reduceIte, Nat.reduceAdd, Nat.reduceMul, Nat.reduceSub, Nat.reduceLT, Nat.reduceLeDiff, Int.reduceToNat, Int.reduceBEq, Int.reduceBNe, Int.reduceLT, Int.reduceLE, Int.reduceAdd, Int.reduceSub, Int.reduceMul, Int.reduceNeg, Int.reduceEq, Int.reduceNe, e0, e1, e3, wrapI (show -4611686018427387904 ≤ (i : Int) - 1 by omega) (show (i : Int) - 1 < 4611686018427387904 by omega)]
        try exact ⟨rfl, rfl, rfl, rfl⟩
      rintro ρ6 V6 hs6 a6 W6 t6 ⟨e0, e1, e3⟩ _ hst6
      refine ⟨⟨k + 1, i, ρ6, V6, hs6, t6, by omega, e0, e1, e3, hst6⟩, ?_⟩
      have h3 : a6.tmps.getD 3 undef = .int .i64 ((i : Int) - 1) := by
        have := hst6.tm 3
        rw [e3] at this
        exact Rel.v_inv this
      show (match a6.tmps.getD 3 undef with | .int _ n => (n + 1).toNat | _ => 0) < (match a.tmps.getD 3 undef with | .int _ n => (n + 1).toNat | _ => 0)
      rw [h3, hk3]
      show ((i : Int) - 1 + 1).toNat < (((i + 1 : Nat) : Int) - 1 + 1).toNat
      omega
    · rintro _ ρ5 V5 hs5 a5 W5 t5 ⟨e0, e1, e3, e18⟩ _ hst5
      have hc : a5.eval (.tmp 18) = .bool true := by
        have := ev_rel (C := K) (s := { toHS := hs5, tmps := t5 }) hst5.tm (hAx.inv _ _ _ _ hst5.j).2 (.tmp 18)
        rw [show ev K { toHS := hs5, tmps := t5 } (.tmp 18) = t5 18 from rfl, e18] at this
        exact Rel.v_inv this
      refine wpIn_cond_true hc (wpIn_ret ?_)
      exact iter_end (R := fun e W' => (∃ v, e = .returned v) ∧ ∃ ρ' V' hs', J (backX l).length ρ' V' hs' W' ∨ Jx ρ' V' hs' W') hst5 rfl (fun v h => ⟨⟨v, rfl⟩, _, _, _, .inr h⟩)
  · have hc0 : c = 0 := by have := of_decide_eq_false hge; omega
    subst hc0
    refine wpIn_exit ?_
    exact iter_end (R := fun e W' => (∃ v, e = .returned v) ∧ ∃ ρ' V' hs', J (backX l).length ρ' V' hs' W' ∨ Jx ρ' V' hs' W') hst3 rfl (fun v h => ⟨⟨v, rfl⟩, _, _, _, .inl (by rw [backX_len, ← hk]; exact h)⟩)

theorem back_snd (n q : Nat) (hs : HS) : Snd K 47 [.ref q 0 n 42] hs (fun r hs' => r = .clo 61 [] [.ptr hs.next 0] ∧ hs'.objs = upd hs.objs hs.next (.live [.ref q 0 n 42]) ∧ hs.next < hs'.next) := by
  obtain ⟨objs, nx⟩ := hs
  refine snd_of_awp hC (fn := Try.f47) Try.func47 rfl rfl (by decide +kernel) (Nat.le_of_ble_eq_true rfl) ?_
  refine awp_reg fun KK hKK => ?_
  refine xw_id ?_
  simp only [init, List.getD_cons_zero, go_sem, Nat.reduceEqDiff, reduceIte, Nat.reduceAdd]
  refine hKK _ ?_; clear hKK KK
  refine awp_reg fun KK hKK => ?_
  refine xw_id ?_
  simp only [go_sem, Nat.reduceEqDiff, reduceIte, Nat.reduceAdd]
  refine hKK _ ?_; clear hKK KK
  refine awp_ret1 ?_
  refine end_ret0 (fn := Try.f47) (rs := #[.tmp 2]) rfl (by simp only [go_sem, resV, resAll, resOf, packR, Nat.reduceEqDiff, reduceIte, Nat.reduceAdd]; rfl) ?_
  exact ⟨rfl, rfl, by show nx < nx + 2 + 2; omega⟩

end Go.AX.Z.TR
