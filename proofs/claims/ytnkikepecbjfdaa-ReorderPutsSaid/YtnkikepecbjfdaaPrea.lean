/- A part of the proof: the types, the facts of the program and the functions, read plainly. -/
import Derived.Test.YtnkikepecbjfdaaCorec
import Derived.Test.YtnkikepecbjfdaaProg
import Derived.KernelRfl
set_option linter.unusedVariables false
set_option linter.unusedSimpArgs false

/-! (TRS) -/

set_option linter.unusedSimpArgs false
set_option linter.unusedVariables false
namespace Go.AX.Z.TR
open Go.AX
structure Addr where
 a0 : Int
 a1 : Int
 a2 : Int
 a3 : Int
 a4 : Int
 a5 : Int
 deriving DecidableEq

def Addr.z : Addr := ⟨0, 0, 0, 0, 0, 0⟩

def e_Addr (x : Addr) : List AV := [vu x.a0, vu x.a1, vu x.a2, vu x.a3, vu x.a4, vu x.a5]

theorem e_Addr_len (x : Addr) : (e_Addr x).length = 6 := by rfl
theorem e_Addr_sub (x : Addr) : sub? (e_Addr x) 0 6 = some (e_Addr x) := by rfl
theorem e_Addr_take (x : Addr) : (e_Addr x).take 6 = (e_Addr x) := by rfl
theorem e_Addr_all (x : Addr) (y : Addr) : putAt (e_Addr x) 0 (e_Addr y) = e_Addr y := by rfl
theorem e_Addr_fz (x : Addr) (o : Nat → Ob) (n : Nat) : (e_Addr x).map (fz o (n + 1)) = e_Addr x := by rfl
theorem e_Addr_reach (x : Addr) (o : Nat → Ob) (n : Nat) : (e_Addr x).flatMap (reach o (n + 1)) = [] := by
 simp only [e_Addr, List.cons_append, List.nil_append, List.append_nil, List.flatMap_cons, List.flatMap_nil, reach_v]
theorem e_Addr_clean (x : Addr) : ∀ c ∈ (e_Addr x), Clean c := by
 simp only [e_Addr, List.cons_append, List.nil_append]
 repeat' (first | exact Clean.v _ | assumption | exact List.forall_mem_nil _ | refine List.forall_mem_cons.2 ⟨?_, ?_⟩)
theorem e_Addr_tm {st : AS} {F : List Nat} {σ : List (Option Nat)} (x : Addr) : TmL st F σ (e_Addr x) (e_Addr x) := by
 simp only [e_Addr, List.cons_append, List.nil_append]
 repeat' (first | exact TmL.nil | (refine TmL.cons (Tm.v _) ?_) | (refine TmL.cons (by assumption) ?_))
theorem f_Addr (x : Addr) (o : Nat → Ob) (n : Nat) : (e_Addr x).map (fz o (n + 1)) = e_Addr x := by simp only [e_Addr_fz]
theorem q_Addr (x : Addr) (o : Nat → Ob) (n : Nat) : (e_Addr x).flatMap (reach o (n + 1)) = [] := by simp only [e_Addr_reach, List.append_nil]
attribute [go_sem] e_Addr_len e_Addr_sub e_Addr_take e_Addr_all e_Addr_fz e_Addr_reach f_Addr q_Addr

structure Header where
 Kind : Int
 Sub : Int
 ToDs : Bool
 FromDs : Bool
 More : Bool
 Retry : Bool
 Sleep : Bool
 MoreData : Bool
 Protected : Bool
 Duration : Int
 A1 : Addr
 A2 : Addr
 A3 : Addr
 A4 : Addr
 Seq : Int
 Frag : Int
 Tid : Int
 Ack : Int
 Amsdu : Bool
 Eosp : Bool
 deriving DecidableEq

def Header.z : Header := ⟨0, 0, false, false, false, false, false, false, false, 0, Addr.z, Addr.z, Addr.z, Addr.z, 0, 0, 0, 0, false, false⟩

def e_Header (x : Header) : List AV := [vu x.Kind, vu x.Sub, vb x.ToDs, vb x.FromDs, vb x.More, vb x.Retry, vb x.Sleep, vb x.MoreData, vb x.Protected, vi x.Duration] ++ (e_Addr x.A1) ++ (e_Addr x.A2) ++ (e_Addr x.A3) ++ (e_Addr x.A4) ++ [vi x.Seq, vi x.Frag, vi x.Tid, vu x.Ack, vb x.Amsdu, vb x.Eosp]

theorem e_Header_len (x : Header) : (e_Header x).length = 40 := by rfl
theorem e_Header_sub (x : Header) : sub? (e_Header x) 0 40 = some (e_Header x) := by rfl
theorem e_Header_take (x : Header) : (e_Header x).take 40 = (e_Header x) := by rfl
theorem e_Header_all (x : Header) (y : Header) : putAt (e_Header x) 0 (e_Header y) = e_Header y := by rfl
theorem e_Header_fz (x : Header) (o : Nat → Ob) (n : Nat) : (e_Header x).map (fz o (n + 1)) = e_Header x := by rfl
theorem e_Header_reach (x : Header) (o : Nat → Ob) (n : Nat) : (e_Header x).flatMap (reach o (n + 1)) = [] := by
 simp only [e_Header, e_Addr, List.cons_append, List.nil_append, List.append_nil, List.flatMap_cons, List.flatMap_nil, reach_v]
theorem e_Header_clean (x : Header) : ∀ c ∈ (e_Header x), Clean c := by
 simp only [e_Header, e_Addr, List.cons_append, List.nil_append]
 repeat' (first | exact Clean.v _ | assumption | exact List.forall_mem_nil _ | refine List.forall_mem_cons.2 ⟨?_, ?_⟩)
theorem e_Header_tm {st : AS} {F : List Nat} {σ : List (Option Nat)} (x : Header) : TmL st F σ (e_Header x) (e_Header x) := by
 simp only [e_Header, e_Addr, List.cons_append, List.nil_append]
 repeat' (first | exact TmL.nil | (refine TmL.cons (Tm.v _) ?_) | (refine TmL.cons (by assumption) ?_))
theorem f_Header (x : Header) (o : Nat → Ob) (n : Nat) : (e_Header x).map (fz o (n + 1)) = e_Header x := by simp only [e_Header_fz]
theorem q_Header (x : Header) (o : Nat → Ob) (n : Nat) : (e_Header x).flatMap (reach o (n + 1)) = [] := by simp only [e_Header_reach, List.append_nil]
theorem e_Header_kinds (x : Header) : kindsOk [some .u8, some .u8, none, none, none, none, none, none, none, some .i64, some .u8, some .u8, some .u8, some .u8, some .u8, some .u8, some .u8, some .u8, some .u8, some .u8, some .u8, some .u8, some .u8, some .u8, some .u8, some .u8, some .u8, some .u8, some .u8, some .u8, some .u8, some .u8, some .u8, some .u8, some .i64, some .i64, some .i64, some .u8, none, none] (e_Header x) = true := by rfl
theorem e_Header_eq (x y : Header) : eqCells (e_Header x) (e_Header y) = decide (x = y) := by
 rw [Bool.eq_iff_iff]
 simp only [e_Header, e_Addr, List.cons_append, List.nil_append, List.append_nil, eqCells, eqv, Bool.and_eq_true, beq_iff_eq, decide_eq_true_eq, and_true]
 constructor
 ·
  intro h
  obtain ⟨v1, v2, v3, v4, v5, v6, v7, v8, v9, v10, ⟨v11, v12, v13, v14, v15, v16⟩, ⟨v17, v18, v19, v20, v21, v22⟩, ⟨v23, v24, v25, v26, v27, v28⟩, ⟨v29, v30, v31, v32, v33, v34⟩, v35, v36, v37, v38, v39, v40⟩ := x
  obtain ⟨v41', v42', v43', v44', v45', v46', v47', v48', v49', v50', ⟨v51', v52', v53', v54', v55', v56'⟩, ⟨v57', v58', v59', v60', v61', v62'⟩, ⟨v63', v64', v65', v66', v67', v68'⟩, ⟨v69', v70', v71', v72', v73', v74'⟩, v75', v76', v77', v78', v79', v80'⟩ := y
  simp_all
 ·
  rintro rfl
  simp
attribute [go_sem] e_Header_len e_Header_sub e_Header_take e_Header_all e_Header_fz e_Header_reach e_Header_kinds e_Header_eq f_Header q_Header

structure Frame where
 Head : Header
 Body : (List Int)
 deriving DecidableEq

def Frame.z : Frame := ⟨Header.z, []⟩

def e_Frame (x : Frame) (s0 : AV) : List AV := (e_Header x.Head) ++ [s0]

theorem e_Frame_len (x : Frame) (s0 : AV) : (e_Frame x s0).length = 41 := by rfl
theorem e_Frame_sub (x : Frame) (s0 : AV) : sub? (e_Frame x s0) 0 41 = some (e_Frame x s0) := by rfl
theorem e_Frame_take (x : Frame) (s0 : AV) : (e_Frame x s0).take 41 = (e_Frame x s0) := by rfl
theorem e_Frame_all (x : Frame) (s0 : AV) (y : Frame) (s02 : AV) : putAt (e_Frame x s0) 0 (e_Frame y s02) = e_Frame y s02 := by rfl
theorem e_Frame_g_Head_Seq (x : Frame) (s0 : AV) : (e_Frame x s0)[34]? = some (vi x.Head.Seq) := by rfl
theorem e_Frame_g_Body (x : Frame) (s0 : AV) : (e_Frame x s0)[40]? = some s0 := by rfl
theorem e_Frame_s_Body (x : Frame) (s0 : AV) (v : AV) : (e_Frame x s0).set 40 v = e_Frame x v := by rfl
theorem e_Frame_d_Head (x : Frame) (s0 : AV) : sub? (e_Frame x s0) 0 40 = some (e_Header x.Head) := by rfl
theorem e_Frame_p_Head (x : Frame) (s0 : AV) (v : Header) : putAt (e_Frame x s0) 0 (e_Header v) = e_Frame { x with Head := v } s0 := by rfl
theorem e_Frame_fz (x : Frame) (s0 : AV) (o : Nat → Ob) (n : Nat) : (e_Frame x s0).map (fz o (n + 1)) = e_Frame x (fz o (n + 1) s0) := by rfl
theorem e_Frame_reach (x : Frame) (s0 : AV) (o : Nat → Ob) (n : Nat) : (e_Frame x s0).flatMap (reach o (n + 1)) = reach o (n + 1) s0 := by
 simp only [e_Frame, e_Header, e_Addr, List.cons_append, List.nil_append, List.append_nil, List.flatMap_cons, List.flatMap_nil, reach_v]
theorem e_Frame_clean (x : Frame) (s0 : AV) (h_s0 : Clean s0) : ∀ c ∈ (e_Frame x s0), Clean c := by
 simp only [e_Frame, e_Header, e_Addr, List.cons_append, List.nil_append]
 repeat' (first | exact Clean.v _ | assumption | exact List.forall_mem_nil _ | refine List.forall_mem_cons.2 ⟨?_, ?_⟩)
theorem e_Frame_tm {st : AS} {F : List Nat} {σ : List (Option Nat)} (x : Frame) (s0 : AV) (s02 : AV) (h_s0 : Tm st F σ s0 s02) : TmL st F σ (e_Frame x s0) (e_Frame x s02) := by
 simp only [e_Frame, e_Header, e_Addr, List.cons_append, List.nil_append]
 repeat' (first | exact TmL.nil | (refine TmL.cons (Tm.v _) ?_) | (refine TmL.cons (by assumption) ?_))
theorem e_Frame_tmx {st : AS} {F : List Nat} {σ : List (Option Nat)} {x y : Frame} {s0 s02 : AV} (hxy : e_Frame y s02 = e_Frame x s02) (h_s0 : Tm st F σ s0 s02) : TmL st F σ (e_Frame x s0) (e_Frame y s02) := by
 rw [hxy]; exact e_Frame_tm x s0 s02 h_s0
theorem e_Frame_ren (x : Frame) {s0 : (Nat → Nat) → AV} (h_s0 : RenM s0) : RenML fun q => e_Frame x (s0 q) := by
 simp only [e_Frame, e_Header, e_Addr, List.cons_append, List.nil_append]
 repeat' (first | exact RenML.nil | (refine RenML.cons (RenM.const (Clean.v _)) ?_) | (refine RenML.cons (by assumption) ?_))
theorem e_Frame_frl {q nx off : Nat} (x : Frame) {s0 : AV} {s02 : AV} (h_s0 : Fr q nx off s0 s02) : FrL q nx off (e_Frame x s0) (e_Frame x s02) := by
 simp only [e_Frame, e_Header, e_Addr, List.cons_append, List.nil_append]
 repeat' (first | exact FrL.nil | (refine FrL.cons _ _ _ _ (by assumption) ?_) | (refine FrL.cons _ _ _ _ (Fr.same _) ?_))
def E_Frame (x : Frame) : List AV := e_Frame x (S_vu x.Body)
theorem E_Frame_eq (x : Frame) : E_Frame x = e_Frame x (S_vu x.Body) := rfl
theorem E_Frame_clean (x : Frame) : ∀ c ∈ E_Frame x, Clean c := e_Frame_clean x _ (S_vu_clean _)
theorem f_Frame (x : Frame) (o : Nat → Ob) (n : Nat) : (E_Frame x).map (fz o (n + 2)) = E_Frame x := by simp only [E_Frame_eq, e_Frame_fz, f_S_vu]
theorem q_Frame (x : Frame) (o : Nat → Ob) (n : Nat) : (E_Frame x).flatMap (reach o (n + 2)) = [] := by simp only [E_Frame_eq, e_Frame_reach, q_S_vu, List.append_nil]
attribute [go_sem] e_Frame_len e_Frame_sub e_Frame_take e_Frame_all e_Frame_g_Head_Seq e_Frame_g_Body e_Frame_s_Body e_Frame_d_Head e_Frame_p_Head e_Frame_fz e_Frame_reach E_Frame_eq f_Frame q_Frame

structure HeldSeq where
 At : Int
 Frame : Frame
 deriving DecidableEq

def HeldSeq.z : HeldSeq := ⟨0, Frame.z⟩

def e_HeldSeq (x : HeldSeq) (s0 : AV) : List AV := [vi x.At] ++ (e_Frame x.Frame s0)

theorem e_HeldSeq_len (x : HeldSeq) (s0 : AV) : (e_HeldSeq x s0).length = 42 := by rfl
theorem e_HeldSeq_sub (x : HeldSeq) (s0 : AV) : sub? (e_HeldSeq x s0) 0 42 = some (e_HeldSeq x s0) := by rfl
theorem e_HeldSeq_take (x : HeldSeq) (s0 : AV) : (e_HeldSeq x s0).take 42 = (e_HeldSeq x s0) := by rfl
theorem e_HeldSeq_all (x : HeldSeq) (s0 : AV) (y : HeldSeq) (s02 : AV) : putAt (e_HeldSeq x s0) 0 (e_HeldSeq y s02) = e_HeldSeq y s02 := by rfl
theorem e_HeldSeq_g_At (x : HeldSeq) (s0 : AV) : (e_HeldSeq x s0)[0]? = some (vi x.At) := by rfl
theorem e_HeldSeq_s_At (x : HeldSeq) (s0 : AV) (v : Int) : (e_HeldSeq x s0).set 0 (vi v) = e_HeldSeq { x with At := v } s0 := by rfl
theorem e_HeldSeq_g_Frame_Head_Seq (x : HeldSeq) (s0 : AV) : (e_HeldSeq x s0)[35]? = some (vi x.Frame.Head.Seq) := by rfl
theorem e_HeldSeq_g_Frame_Body (x : HeldSeq) (s0 : AV) : (e_HeldSeq x s0)[41]? = some s0 := by rfl
theorem e_HeldSeq_d_Frame (x : HeldSeq) (s0 : AV) : sub? (e_HeldSeq x s0) 1 41 = some (e_Frame x.Frame s0) := by rfl
theorem e_HeldSeq_p_Frame (x : HeldSeq) (s0 : AV) (v : Frame) (w0 : AV) : putAt (e_HeldSeq x s0) 1 (e_Frame v w0) = e_HeldSeq { x with Frame := v } w0 := by rfl
theorem e_HeldSeq_fz (x : HeldSeq) (s0 : AV) (o : Nat → Ob) (n : Nat) : (e_HeldSeq x s0).map (fz o (n + 1)) = e_HeldSeq x (fz o (n + 1) s0) := by rfl
theorem e_HeldSeq_reach (x : HeldSeq) (s0 : AV) (o : Nat → Ob) (n : Nat) : (e_HeldSeq x s0).flatMap (reach o (n + 1)) = reach o (n + 1) s0 := by
 simp only [e_HeldSeq, e_Frame, e_Header, e_Addr, List.cons_append, List.nil_append, List.append_nil, List.flatMap_cons, List.flatMap_nil, reach_v]
theorem e_HeldSeq_clean (x : HeldSeq) (s0 : AV) (h_s0 : Clean s0) : ∀ c ∈ (e_HeldSeq x s0), Clean c := by
 simp only [e_HeldSeq, e_Frame, e_Header, e_Addr, List.cons_append, List.nil_append]
 repeat' (first | exact Clean.v _ | assumption | exact List.forall_mem_nil _ | refine List.forall_mem_cons.2 ⟨?_, ?_⟩)
theorem e_HeldSeq_tm {st : AS} {F : List Nat} {σ : List (Option Nat)} (x : HeldSeq) (s0 : AV) (s02 : AV) (h_s0 : Tm st F σ s0 s02) : TmL st F σ (e_HeldSeq x s0) (e_HeldSeq x s02) := by
 simp only [e_HeldSeq, e_Frame, e_Header, e_Addr, List.cons_append, List.nil_append]
 repeat' (first | exact TmL.nil | (refine TmL.cons (Tm.v _) ?_) | (refine TmL.cons (by assumption) ?_))
theorem e_HeldSeq_tmx {st : AS} {F : List Nat} {σ : List (Option Nat)} {x y : HeldSeq} {s0 s02 : AV} (hxy : e_HeldSeq y s02 = e_HeldSeq x s02) (h_s0 : Tm st F σ s0 s02) : TmL st F σ (e_HeldSeq x s0) (e_HeldSeq y s02) := by
 rw [hxy]; exact e_HeldSeq_tm x s0 s02 h_s0
theorem e_HeldSeq_ren (x : HeldSeq) {s0 : (Nat → Nat) → AV} (h_s0 : RenM s0) : RenML fun q => e_HeldSeq x (s0 q) := by
 simp only [e_HeldSeq, e_Frame, e_Header, e_Addr, List.cons_append, List.nil_append]
 repeat' (first | exact RenML.nil | (refine RenML.cons (RenM.const (Clean.v _)) ?_) | (refine RenML.cons (by assumption) ?_))
theorem e_HeldSeq_frl {q nx off : Nat} (x : HeldSeq) {s0 : AV} {s02 : AV} (h_s0 : Fr q nx off s0 s02) : FrL q nx off (e_HeldSeq x s0) (e_HeldSeq x s02) := by
 simp only [e_HeldSeq, e_Frame, e_Header, e_Addr, List.cons_append, List.nil_append]
 repeat' (first | exact FrL.nil | (refine FrL.cons _ _ _ _ (by assumption) ?_) | (refine FrL.cons _ _ _ _ (Fr.same _) ?_))
def E_HeldSeq (x : HeldSeq) : List AV := e_HeldSeq x (S_vu x.Frame.Body)
theorem E_HeldSeq_eq (x : HeldSeq) : E_HeldSeq x = e_HeldSeq x (S_vu x.Frame.Body) := rfl
theorem E_HeldSeq_clean (x : HeldSeq) : ∀ c ∈ E_HeldSeq x, Clean c := e_HeldSeq_clean x _ (S_vu_clean _)
theorem f_HeldSeq (x : HeldSeq) (o : Nat → Ob) (n : Nat) : (E_HeldSeq x).map (fz o (n + 2)) = E_HeldSeq x := by simp only [E_HeldSeq_eq, e_HeldSeq_fz, f_S_vu]
theorem q_HeldSeq (x : HeldSeq) (o : Nat → Ob) (n : Nat) : (E_HeldSeq x).flatMap (reach o (n + 2)) = [] := by simp only [E_HeldSeq_eq, e_HeldSeq_reach, q_S_vu, List.append_nil]
attribute [go_sem] e_HeldSeq_len e_HeldSeq_sub e_HeldSeq_take e_HeldSeq_all e_HeldSeq_g_At e_HeldSeq_s_At e_HeldSeq_g_Frame_Head_Seq e_HeldSeq_g_Frame_Body e_HeldSeq_d_Frame e_HeldSeq_p_Frame e_HeldSeq_fz e_HeldSeq_reach E_HeldSeq_eq f_HeldSeq q_HeldSeq

def S_HeldSeq (l : List HeldSeq) : AV := .imm (List.flatMap E_HeldSeq l) l.length
theorem S_HeldSeq_eq (l : List HeldSeq) : S_HeldSeq l = .imm (List.flatMap E_HeldSeq l) l.length := rfl
theorem l_HeldSeq (x : HeldSeq) : (E_HeldSeq x).length = 42 := by rfl
theorem S_HeldSeq_clean (l : List HeldSeq) : Clean (S_HeldSeq l) := Clean.imm (rows_clean E_HeldSeq_clean l)
theorem c_HeldSeq (l : List HeldSeq) : ∀ c ∈ l.flatMap E_HeldSeq, Clean c := rows_clean E_HeldSeq_clean l
theorem r_HeldSeq_len (l : List HeldSeq) : (l.flatMap E_HeldSeq).length = l.length * 42 := flat_len l_HeldSeq l
theorem r_HeldSeq_get (l : List HeldSeq) (i o : Nat) (ho : o < 42) : (l.flatMap E_HeldSeq)[i * 42 + o]? = l[i]?.bind fun a => (E_HeldSeq a)[o]? := rows_get l_HeldSeq l i o ho
theorem r_HeldSeq_get0 (l : List HeldSeq) (i : Nat) : (l.flatMap E_HeldSeq)[i * 42]? = l[i]?.bind fun a => (E_HeldSeq a)[0]? := rows_get l_HeldSeq l i 0 (by decide)
theorem r_HeldSeq_sub (l : List HeldSeq) (i o n : Nat) (ho : o + n ≤ 42) (hn : 0 < n) : sub? (l.flatMap E_HeldSeq) (i * 42 + o) n = l[i]?.bind fun a => sub? (E_HeldSeq a) o n := rows_sub l_HeldSeq l i o n ho hn
theorem r_HeldSeq_sub0 (l : List HeldSeq) (i n : Nat) (ho : n ≤ 42) (hn : 0 < n) : sub? (l.flatMap E_HeldSeq) (i * 42) n = l[i]?.bind fun a => sub? (E_HeldSeq a) 0 n := rows_sub l_HeldSeq l i 0 n (by omega) hn
theorem r_HeldSeq_getL (l : List HeldSeq) (o : Nat) : (l.flatMap E_HeldSeq)[o]? = l[o / 42]?.bind fun a => (E_HeldSeq a)[o % 42]? := rows_getL l_HeldSeq (by decide) l o
theorem r_HeldSeq_subL (l : List HeldSeq) (o n : Nat) (ho : o % 42 + n ≤ 42) (hn : 0 < n) : sub? (l.flatMap E_HeldSeq) o n = l[o / 42]?.bind fun a => sub? (E_HeldSeq a) (o % 42) n := rows_subL l_HeldSeq l o n ho hn
theorem r_HeldSeq_subw (l : List HeldSeq) : sub? (l.flatMap E_HeldSeq) 0 (l.length * 42) = some (l.flatMap E_HeldSeq) := rows_subw l_HeldSeq l
theorem r_HeldSeq_take (l : List HeldSeq) (n : Nat) : (l.flatMap E_HeldSeq).take (n * 42) = (l.take n).flatMap E_HeldSeq := rows_take l_HeldSeq l n
theorem r_HeldSeq_drop (l : List HeldSeq) (n : Nat) : (l.flatMap E_HeldSeq).drop (n * 42) = (l.drop n).flatMap E_HeldSeq := rows_drop l_HeldSeq l n
theorem r_HeldSeq_fz (l : List HeldSeq) (o : Nat → Ob) (n : Nat) : (l.flatMap E_HeldSeq).map (fz o (n + 2)) = (l.flatMap E_HeldSeq) := rows_fz (fun a => f_HeldSeq a o n) l
theorem r_HeldSeq_rch (l : List HeldSeq) (o : Nat → Ob) (n : Nat) : (l.flatMap E_HeldSeq).flatMap (reach o (n + 2)) = [] := rows_reach (fun a => q_HeldSeq a o n) l
theorem r_HeldSeq_s_At (l : List HeldSeq) (i : Nat) (v : Int) : (l.flatMap E_HeldSeq).set (i * 42) (vi v) = (l.modify i (fun y => { y with At := v })).flatMap E_HeldSeq := rows_set l_HeldSeq l i 0 _ (fun y => { y with At := v }) (by decide) (fun _ => by rfl)
theorem r_HeldSeq_s_Frame_Head_Kind (l : List HeldSeq) (i : Nat) (v : Int) : (l.flatMap E_HeldSeq).set (i * 42 + 1) (vu v) = (l.modify i (fun y => { y with Frame.Head.Kind := v })).flatMap E_HeldSeq := rows_set l_HeldSeq l i 1 _ (fun y => { y with Frame.Head.Kind := v }) (by decide) (fun _ => by rfl)
theorem r_HeldSeq_s_Frame_Head_Sub (l : List HeldSeq) (i : Nat) (v : Int) : (l.flatMap E_HeldSeq).set (i * 42 + 2) (vu v) = (l.modify i (fun y => { y with Frame.Head.Sub := v })).flatMap E_HeldSeq := rows_set l_HeldSeq l i 2 _ (fun y => { y with Frame.Head.Sub := v }) (by decide) (fun _ => by rfl)
theorem r_HeldSeq_s_Frame_Head_ToDs (l : List HeldSeq) (i : Nat) (v : Bool) : (l.flatMap E_HeldSeq).set (i * 42 + 3) (vb v) = (l.modify i (fun y => { y with Frame.Head.ToDs := v })).flatMap E_HeldSeq := rows_set l_HeldSeq l i 3 _ (fun y => { y with Frame.Head.ToDs := v }) (by decide) (fun _ => by rfl)
theorem r_HeldSeq_s_Frame_Head_FromDs (l : List HeldSeq) (i : Nat) (v : Bool) : (l.flatMap E_HeldSeq).set (i * 42 + 4) (vb v) = (l.modify i (fun y => { y with Frame.Head.FromDs := v })).flatMap E_HeldSeq := rows_set l_HeldSeq l i 4 _ (fun y => { y with Frame.Head.FromDs := v }) (by decide) (fun _ => by rfl)
theorem r_HeldSeq_s_Frame_Head_More (l : List HeldSeq) (i : Nat) (v : Bool) : (l.flatMap E_HeldSeq).set (i * 42 + 5) (vb v) = (l.modify i (fun y => { y with Frame.Head.More := v })).flatMap E_HeldSeq := rows_set l_HeldSeq l i 5 _ (fun y => { y with Frame.Head.More := v }) (by decide) (fun _ => by rfl)
theorem r_HeldSeq_s_Frame_Head_Retry (l : List HeldSeq) (i : Nat) (v : Bool) : (l.flatMap E_HeldSeq).set (i * 42 + 6) (vb v) = (l.modify i (fun y => { y with Frame.Head.Retry := v })).flatMap E_HeldSeq := rows_set l_HeldSeq l i 6 _ (fun y => { y with Frame.Head.Retry := v }) (by decide) (fun _ => by rfl)
theorem r_HeldSeq_s_Frame_Head_Sleep (l : List HeldSeq) (i : Nat) (v : Bool) : (l.flatMap E_HeldSeq).set (i * 42 + 7) (vb v) = (l.modify i (fun y => { y with Frame.Head.Sleep := v })).flatMap E_HeldSeq := rows_set l_HeldSeq l i 7 _ (fun y => { y with Frame.Head.Sleep := v }) (by decide) (fun _ => by rfl)
theorem r_HeldSeq_s_Frame_Head_MoreData (l : List HeldSeq) (i : Nat) (v : Bool) : (l.flatMap E_HeldSeq).set (i * 42 + 8) (vb v) = (l.modify i (fun y => { y with Frame.Head.MoreData := v })).flatMap E_HeldSeq := rows_set l_HeldSeq l i 8 _ (fun y => { y with Frame.Head.MoreData := v }) (by decide) (fun _ => by rfl)
theorem r_HeldSeq_s_Frame_Head_Protected (l : List HeldSeq) (i : Nat) (v : Bool) : (l.flatMap E_HeldSeq).set (i * 42 + 9) (vb v) = (l.modify i (fun y => { y with Frame.Head.Protected := v })).flatMap E_HeldSeq := rows_set l_HeldSeq l i 9 _ (fun y => { y with Frame.Head.Protected := v }) (by decide) (fun _ => by rfl)
theorem r_HeldSeq_s_Frame_Head_Duration (l : List HeldSeq) (i : Nat) (v : Int) : (l.flatMap E_HeldSeq).set (i * 42 + 10) (vi v) = (l.modify i (fun y => { y with Frame.Head.Duration := v })).flatMap E_HeldSeq := rows_set l_HeldSeq l i 10 _ (fun y => { y with Frame.Head.Duration := v }) (by decide) (fun _ => by rfl)
theorem r_HeldSeq_s_Frame_Head_A1_a0 (l : List HeldSeq) (i : Nat) (v : Int) : (l.flatMap E_HeldSeq).set (i * 42 + 11) (vu v) = (l.modify i (fun y => { y with Frame.Head.A1.a0 := v })).flatMap E_HeldSeq := rows_set l_HeldSeq l i 11 _ (fun y => { y with Frame.Head.A1.a0 := v }) (by decide) (fun _ => by rfl)
theorem r_HeldSeq_s_Frame_Head_A1_a1 (l : List HeldSeq) (i : Nat) (v : Int) : (l.flatMap E_HeldSeq).set (i * 42 + 12) (vu v) = (l.modify i (fun y => { y with Frame.Head.A1.a1 := v })).flatMap E_HeldSeq := rows_set l_HeldSeq l i 12 _ (fun y => { y with Frame.Head.A1.a1 := v }) (by decide) (fun _ => by rfl)
theorem r_HeldSeq_s_Frame_Head_A1_a2 (l : List HeldSeq) (i : Nat) (v : Int) : (l.flatMap E_HeldSeq).set (i * 42 + 13) (vu v) = (l.modify i (fun y => { y with Frame.Head.A1.a2 := v })).flatMap E_HeldSeq := rows_set l_HeldSeq l i 13 _ (fun y => { y with Frame.Head.A1.a2 := v }) (by decide) (fun _ => by rfl)
theorem r_HeldSeq_s_Frame_Head_A1_a3 (l : List HeldSeq) (i : Nat) (v : Int) : (l.flatMap E_HeldSeq).set (i * 42 + 14) (vu v) = (l.modify i (fun y => { y with Frame.Head.A1.a3 := v })).flatMap E_HeldSeq := rows_set l_HeldSeq l i 14 _ (fun y => { y with Frame.Head.A1.a3 := v }) (by decide) (fun _ => by rfl)
theorem r_HeldSeq_s_Frame_Head_A1_a4 (l : List HeldSeq) (i : Nat) (v : Int) : (l.flatMap E_HeldSeq).set (i * 42 + 15) (vu v) = (l.modify i (fun y => { y with Frame.Head.A1.a4 := v })).flatMap E_HeldSeq := rows_set l_HeldSeq l i 15 _ (fun y => { y with Frame.Head.A1.a4 := v }) (by decide) (fun _ => by rfl)
theorem r_HeldSeq_s_Frame_Head_A1_a5 (l : List HeldSeq) (i : Nat) (v : Int) : (l.flatMap E_HeldSeq).set (i * 42 + 16) (vu v) = (l.modify i (fun y => { y with Frame.Head.A1.a5 := v })).flatMap E_HeldSeq := rows_set l_HeldSeq l i 16 _ (fun y => { y with Frame.Head.A1.a5 := v }) (by decide) (fun _ => by rfl)
theorem r_HeldSeq_s_Frame_Head_A2_a0 (l : List HeldSeq) (i : Nat) (v : Int) : (l.flatMap E_HeldSeq).set (i * 42 + 17) (vu v) = (l.modify i (fun y => { y with Frame.Head.A2.a0 := v })).flatMap E_HeldSeq := rows_set l_HeldSeq l i 17 _ (fun y => { y with Frame.Head.A2.a0 := v }) (by decide) (fun _ => by rfl)
theorem r_HeldSeq_s_Frame_Head_A2_a1 (l : List HeldSeq) (i : Nat) (v : Int) : (l.flatMap E_HeldSeq).set (i * 42 + 18) (vu v) = (l.modify i (fun y => { y with Frame.Head.A2.a1 := v })).flatMap E_HeldSeq := rows_set l_HeldSeq l i 18 _ (fun y => { y with Frame.Head.A2.a1 := v }) (by decide) (fun _ => by rfl)
theorem r_HeldSeq_s_Frame_Head_A2_a2 (l : List HeldSeq) (i : Nat) (v : Int) : (l.flatMap E_HeldSeq).set (i * 42 + 19) (vu v) = (l.modify i (fun y => { y with Frame.Head.A2.a2 := v })).flatMap E_HeldSeq := rows_set l_HeldSeq l i 19 _ (fun y => { y with Frame.Head.A2.a2 := v }) (by decide) (fun _ => by rfl)
theorem r_HeldSeq_s_Frame_Head_A2_a3 (l : List HeldSeq) (i : Nat) (v : Int) : (l.flatMap E_HeldSeq).set (i * 42 + 20) (vu v) = (l.modify i (fun y => { y with Frame.Head.A2.a3 := v })).flatMap E_HeldSeq := rows_set l_HeldSeq l i 20 _ (fun y => { y with Frame.Head.A2.a3 := v }) (by decide) (fun _ => by rfl)
theorem r_HeldSeq_s_Frame_Head_A2_a4 (l : List HeldSeq) (i : Nat) (v : Int) : (l.flatMap E_HeldSeq).set (i * 42 + 21) (vu v) = (l.modify i (fun y => { y with Frame.Head.A2.a4 := v })).flatMap E_HeldSeq := rows_set l_HeldSeq l i 21 _ (fun y => { y with Frame.Head.A2.a4 := v }) (by decide) (fun _ => by rfl)
theorem r_HeldSeq_s_Frame_Head_A2_a5 (l : List HeldSeq) (i : Nat) (v : Int) : (l.flatMap E_HeldSeq).set (i * 42 + 22) (vu v) = (l.modify i (fun y => { y with Frame.Head.A2.a5 := v })).flatMap E_HeldSeq := rows_set l_HeldSeq l i 22 _ (fun y => { y with Frame.Head.A2.a5 := v }) (by decide) (fun _ => by rfl)
theorem r_HeldSeq_s_Frame_Head_A3_a0 (l : List HeldSeq) (i : Nat) (v : Int) : (l.flatMap E_HeldSeq).set (i * 42 + 23) (vu v) = (l.modify i (fun y => { y with Frame.Head.A3.a0 := v })).flatMap E_HeldSeq := rows_set l_HeldSeq l i 23 _ (fun y => { y with Frame.Head.A3.a0 := v }) (by decide) (fun _ => by rfl)
theorem r_HeldSeq_s_Frame_Head_A3_a1 (l : List HeldSeq) (i : Nat) (v : Int) : (l.flatMap E_HeldSeq).set (i * 42 + 24) (vu v) = (l.modify i (fun y => { y with Frame.Head.A3.a1 := v })).flatMap E_HeldSeq := rows_set l_HeldSeq l i 24 _ (fun y => { y with Frame.Head.A3.a1 := v }) (by decide) (fun _ => by rfl)
theorem r_HeldSeq_s_Frame_Head_A3_a2 (l : List HeldSeq) (i : Nat) (v : Int) : (l.flatMap E_HeldSeq).set (i * 42 + 25) (vu v) = (l.modify i (fun y => { y with Frame.Head.A3.a2 := v })).flatMap E_HeldSeq := rows_set l_HeldSeq l i 25 _ (fun y => { y with Frame.Head.A3.a2 := v }) (by decide) (fun _ => by rfl)
theorem r_HeldSeq_s_Frame_Head_A3_a3 (l : List HeldSeq) (i : Nat) (v : Int) : (l.flatMap E_HeldSeq).set (i * 42 + 26) (vu v) = (l.modify i (fun y => { y with Frame.Head.A3.a3 := v })).flatMap E_HeldSeq := rows_set l_HeldSeq l i 26 _ (fun y => { y with Frame.Head.A3.a3 := v }) (by decide) (fun _ => by rfl)
theorem r_HeldSeq_s_Frame_Head_A3_a4 (l : List HeldSeq) (i : Nat) (v : Int) : (l.flatMap E_HeldSeq).set (i * 42 + 27) (vu v) = (l.modify i (fun y => { y with Frame.Head.A3.a4 := v })).flatMap E_HeldSeq := rows_set l_HeldSeq l i 27 _ (fun y => { y with Frame.Head.A3.a4 := v }) (by decide) (fun _ => by rfl)
theorem r_HeldSeq_s_Frame_Head_A3_a5 (l : List HeldSeq) (i : Nat) (v : Int) : (l.flatMap E_HeldSeq).set (i * 42 + 28) (vu v) = (l.modify i (fun y => { y with Frame.Head.A3.a5 := v })).flatMap E_HeldSeq := rows_set l_HeldSeq l i 28 _ (fun y => { y with Frame.Head.A3.a5 := v }) (by decide) (fun _ => by rfl)
theorem r_HeldSeq_s_Frame_Head_A4_a0 (l : List HeldSeq) (i : Nat) (v : Int) : (l.flatMap E_HeldSeq).set (i * 42 + 29) (vu v) = (l.modify i (fun y => { y with Frame.Head.A4.a0 := v })).flatMap E_HeldSeq := rows_set l_HeldSeq l i 29 _ (fun y => { y with Frame.Head.A4.a0 := v }) (by decide) (fun _ => by rfl)
theorem r_HeldSeq_s_Frame_Head_A4_a1 (l : List HeldSeq) (i : Nat) (v : Int) : (l.flatMap E_HeldSeq).set (i * 42 + 30) (vu v) = (l.modify i (fun y => { y with Frame.Head.A4.a1 := v })).flatMap E_HeldSeq := rows_set l_HeldSeq l i 30 _ (fun y => { y with Frame.Head.A4.a1 := v }) (by decide) (fun _ => by rfl)
theorem r_HeldSeq_s_Frame_Head_A4_a2 (l : List HeldSeq) (i : Nat) (v : Int) : (l.flatMap E_HeldSeq).set (i * 42 + 31) (vu v) = (l.modify i (fun y => { y with Frame.Head.A4.a2 := v })).flatMap E_HeldSeq := rows_set l_HeldSeq l i 31 _ (fun y => { y with Frame.Head.A4.a2 := v }) (by decide) (fun _ => by rfl)
theorem r_HeldSeq_s_Frame_Head_A4_a3 (l : List HeldSeq) (i : Nat) (v : Int) : (l.flatMap E_HeldSeq).set (i * 42 + 32) (vu v) = (l.modify i (fun y => { y with Frame.Head.A4.a3 := v })).flatMap E_HeldSeq := rows_set l_HeldSeq l i 32 _ (fun y => { y with Frame.Head.A4.a3 := v }) (by decide) (fun _ => by rfl)
theorem r_HeldSeq_s_Frame_Head_A4_a4 (l : List HeldSeq) (i : Nat) (v : Int) : (l.flatMap E_HeldSeq).set (i * 42 + 33) (vu v) = (l.modify i (fun y => { y with Frame.Head.A4.a4 := v })).flatMap E_HeldSeq := rows_set l_HeldSeq l i 33 _ (fun y => { y with Frame.Head.A4.a4 := v }) (by decide) (fun _ => by rfl)
theorem r_HeldSeq_s_Frame_Head_A4_a5 (l : List HeldSeq) (i : Nat) (v : Int) : (l.flatMap E_HeldSeq).set (i * 42 + 34) (vu v) = (l.modify i (fun y => { y with Frame.Head.A4.a5 := v })).flatMap E_HeldSeq := rows_set l_HeldSeq l i 34 _ (fun y => { y with Frame.Head.A4.a5 := v }) (by decide) (fun _ => by rfl)
theorem r_HeldSeq_s_Frame_Head_Seq (l : List HeldSeq) (i : Nat) (v : Int) : (l.flatMap E_HeldSeq).set (i * 42 + 35) (vi v) = (l.modify i (fun y => { y with Frame.Head.Seq := v })).flatMap E_HeldSeq := rows_set l_HeldSeq l i 35 _ (fun y => { y with Frame.Head.Seq := v }) (by decide) (fun _ => by rfl)
theorem r_HeldSeq_s_Frame_Head_Frag (l : List HeldSeq) (i : Nat) (v : Int) : (l.flatMap E_HeldSeq).set (i * 42 + 36) (vi v) = (l.modify i (fun y => { y with Frame.Head.Frag := v })).flatMap E_HeldSeq := rows_set l_HeldSeq l i 36 _ (fun y => { y with Frame.Head.Frag := v }) (by decide) (fun _ => by rfl)
theorem r_HeldSeq_s_Frame_Head_Tid (l : List HeldSeq) (i : Nat) (v : Int) : (l.flatMap E_HeldSeq).set (i * 42 + 37) (vi v) = (l.modify i (fun y => { y with Frame.Head.Tid := v })).flatMap E_HeldSeq := rows_set l_HeldSeq l i 37 _ (fun y => { y with Frame.Head.Tid := v }) (by decide) (fun _ => by rfl)
theorem r_HeldSeq_s_Frame_Head_Ack (l : List HeldSeq) (i : Nat) (v : Int) : (l.flatMap E_HeldSeq).set (i * 42 + 38) (vu v) = (l.modify i (fun y => { y with Frame.Head.Ack := v })).flatMap E_HeldSeq := rows_set l_HeldSeq l i 38 _ (fun y => { y with Frame.Head.Ack := v }) (by decide) (fun _ => by rfl)
theorem r_HeldSeq_s_Frame_Head_Amsdu (l : List HeldSeq) (i : Nat) (v : Bool) : (l.flatMap E_HeldSeq).set (i * 42 + 39) (vb v) = (l.modify i (fun y => { y with Frame.Head.Amsdu := v })).flatMap E_HeldSeq := rows_set l_HeldSeq l i 39 _ (fun y => { y with Frame.Head.Amsdu := v }) (by decide) (fun _ => by rfl)
theorem r_HeldSeq_s_Frame_Head_Eosp (l : List HeldSeq) (i : Nat) (v : Bool) : (l.flatMap E_HeldSeq).set (i * 42 + 40) (vb v) = (l.modify i (fun y => { y with Frame.Head.Eosp := v })).flatMap E_HeldSeq := rows_set l_HeldSeq l i 40 _ (fun y => { y with Frame.Head.Eosp := v }) (by decide) (fun _ => by rfl)
theorem r_HeldSeq_put (l : List HeldSeq) (i : Nat) (x : HeldSeq) (b0 : (List Int)) : putAt (l.flatMap E_HeldSeq) (i * 42) (e_HeldSeq x (.imm (List.map vu b0) b0.length)) = (l.set i { x with Frame.Body := b0 }).flatMap E_HeldSeq := rows_put l_HeldSeq (by decide) l i { x with Frame.Body := b0 }
theorem r_HeldSeq_app (l : List HeldSeq) (x : HeldSeq) (b0 : (List Int)) : (l.flatMap E_HeldSeq) ++ e_HeldSeq x (S_vu b0) = (l ++ [{ x with Frame.Body := b0 }]).flatMap E_HeldSeq := by rw [List.flatMap_append]; simp only [List.flatMap_cons, List.flatMap_nil, List.append_nil]; rfl
theorem r_HeldSeq_cat (l : List HeldSeq) (m : List HeldSeq) : (l.flatMap E_HeldSeq) ++ m.flatMap E_HeldSeq = (l ++ m).flatMap E_HeldSeq := List.flatMap_append.symm
theorem f_S_HeldSeq (l : List HeldSeq) (o : Nat → Ob) (n : Nat) : fz o (n + 3) (S_HeldSeq l) = S_HeldSeq l := by simp only [S_HeldSeq_eq, fz, r_HeldSeq_fz]
theorem q_S_HeldSeq (l : List HeldSeq) (o : Nat → Ob) (n : Nat) : reach o (n + 3) (S_HeldSeq l) = [] := by simp only [S_HeldSeq_eq, reach, r_HeldSeq_rch]
attribute [go_sem] S_HeldSeq_eq l_HeldSeq r_HeldSeq_len r_HeldSeq_get r_HeldSeq_get0 r_HeldSeq_sub r_HeldSeq_sub0 r_HeldSeq_subw r_HeldSeq_take r_HeldSeq_drop r_HeldSeq_fz r_HeldSeq_rch r_HeldSeq_s_At r_HeldSeq_s_Frame_Head_Kind r_HeldSeq_s_Frame_Head_Sub r_HeldSeq_s_Frame_Head_ToDs r_HeldSeq_s_Frame_Head_FromDs r_HeldSeq_s_Frame_Head_More r_HeldSeq_s_Frame_Head_Retry r_HeldSeq_s_Frame_Head_Sleep r_HeldSeq_s_Frame_Head_MoreData r_HeldSeq_s_Frame_Head_Protected r_HeldSeq_s_Frame_Head_Duration r_HeldSeq_s_Frame_Head_A1_a0 r_HeldSeq_s_Frame_Head_A1_a1 r_HeldSeq_s_Frame_Head_A1_a2 r_HeldSeq_s_Frame_Head_A1_a3 r_HeldSeq_s_Frame_Head_A1_a4 r_HeldSeq_s_Frame_Head_A1_a5 r_HeldSeq_s_Frame_Head_A2_a0 r_HeldSeq_s_Frame_Head_A2_a1 r_HeldSeq_s_Frame_Head_A2_a2 r_HeldSeq_s_Frame_Head_A2_a3 r_HeldSeq_s_Frame_Head_A2_a4 r_HeldSeq_s_Frame_Head_A2_a5 r_HeldSeq_s_Frame_Head_A3_a0 r_HeldSeq_s_Frame_Head_A3_a1 r_HeldSeq_s_Frame_Head_A3_a2 r_HeldSeq_s_Frame_Head_A3_a3 r_HeldSeq_s_Frame_Head_A3_a4 r_HeldSeq_s_Frame_Head_A3_a5 r_HeldSeq_s_Frame_Head_A4_a0 r_HeldSeq_s_Frame_Head_A4_a1 r_HeldSeq_s_Frame_Head_A4_a2 r_HeldSeq_s_Frame_Head_A4_a3 r_HeldSeq_s_Frame_Head_A4_a4 r_HeldSeq_s_Frame_Head_A4_a5 r_HeldSeq_s_Frame_Head_Seq r_HeldSeq_s_Frame_Head_Frag r_HeldSeq_s_Frame_Head_Tid r_HeldSeq_s_Frame_Head_Ack r_HeldSeq_s_Frame_Head_Amsdu r_HeldSeq_s_Frame_Head_Eosp r_HeldSeq_put r_HeldSeq_app r_HeldSeq_cat f_S_HeldSeq q_S_HeldSeq

structure Window where
 Start : Int
 Bits : Int
 deriving DecidableEq

def Window.z : Window := ⟨0, 0⟩

def e_Window (x : Window) : List AV := [vi x.Start, vq x.Bits]

theorem e_Window_len (x : Window) : (e_Window x).length = 2 := by rfl
theorem e_Window_sub (x : Window) : sub? (e_Window x) 0 2 = some (e_Window x) := by rfl
theorem e_Window_take (x : Window) : (e_Window x).take 2 = (e_Window x) := by rfl
theorem e_Window_all (x : Window) (y : Window) : putAt (e_Window x) 0 (e_Window y) = e_Window y := by rfl
theorem e_Window_g_Start (x : Window) : (e_Window x)[0]? = some (vi x.Start) := by rfl
theorem e_Window_s_Start (x : Window) (v : Int) : (e_Window x).set 0 (vi v) = e_Window { x with Start := v } := by rfl
theorem e_Window_g_Bits (x : Window) : (e_Window x)[1]? = some (vq x.Bits) := by rfl
theorem e_Window_s_Bits (x : Window) (v : Int) : (e_Window x).set 1 (vq v) = e_Window { x with Bits := v } := by rfl
theorem e_Window_fz (x : Window) (o : Nat → Ob) (n : Nat) : (e_Window x).map (fz o (n + 1)) = e_Window x := by rfl
theorem e_Window_reach (x : Window) (o : Nat → Ob) (n : Nat) : (e_Window x).flatMap (reach o (n + 1)) = [] := by
 simp only [e_Window, List.cons_append, List.nil_append, List.append_nil, List.flatMap_cons, List.flatMap_nil, reach_v]
theorem e_Window_clean (x : Window) : ∀ c ∈ (e_Window x), Clean c := by
 simp only [e_Window, List.cons_append, List.nil_append]
 repeat' (first | exact Clean.v _ | assumption | exact List.forall_mem_nil _ | refine List.forall_mem_cons.2 ⟨?_, ?_⟩)
theorem e_Window_tm {st : AS} {F : List Nat} {σ : List (Option Nat)} (x : Window) : TmL st F σ (e_Window x) (e_Window x) := by
 simp only [e_Window, List.cons_append, List.nil_append]
 repeat' (first | exact TmL.nil | (refine TmL.cons (Tm.v _) ?_) | (refine TmL.cons (by assumption) ?_))
theorem f_Window (x : Window) (o : Nat → Ob) (n : Nat) : (e_Window x).map (fz o (n + 1)) = e_Window x := by simp only [e_Window_fz]
theorem q_Window (x : Window) (o : Nat → Ob) (n : Nat) : (e_Window x).flatMap (reach o (n + 1)) = [] := by simp only [e_Window_reach, List.append_nil]
theorem e_Window_kinds (x : Window) : kindsOk [some .i64, some .u64] (e_Window x) = true := by rfl
theorem e_Window_eq (x y : Window) : eqCells (e_Window x) (e_Window y) = decide (x = y) := by
 rw [Bool.eq_iff_iff]
 simp only [e_Window, List.cons_append, List.nil_append, List.append_nil, eqCells, eqv, Bool.and_eq_true, beq_iff_eq, decide_eq_true_eq, and_true]
 constructor
 ·
  intro h
  obtain ⟨v1, v2⟩ := x
  obtain ⟨v3', v4'⟩ := y
  simp_all
 ·
  rintro rfl
  simp
attribute [go_sem] e_Window_len e_Window_sub e_Window_take e_Window_all e_Window_g_Start e_Window_s_Start e_Window_g_Bits e_Window_s_Bits e_Window_fz e_Window_reach e_Window_kinds e_Window_eq f_Window q_Window

structure Reorder where
 Start : Int
 Size : Int
 Hold : Int
 Held : (List HeldSeq)
 Seen : Window
 deriving DecidableEq

def Reorder.z : Reorder := ⟨0, 0, 0, [], Window.z⟩

def e_Reorder (x : Reorder) (s0 : AV) : List AV := [vi x.Start, vi x.Size, vi x.Hold, s0] ++ (e_Window x.Seen)

theorem e_Reorder_len (x : Reorder) (s0 : AV) : (e_Reorder x s0).length = 6 := by rfl
theorem e_Reorder_sub (x : Reorder) (s0 : AV) : sub? (e_Reorder x s0) 0 6 = some (e_Reorder x s0) := by rfl
theorem e_Reorder_take (x : Reorder) (s0 : AV) : (e_Reorder x s0).take 6 = (e_Reorder x s0) := by rfl
theorem e_Reorder_all (x : Reorder) (s0 : AV) (y : Reorder) (s02 : AV) : putAt (e_Reorder x s0) 0 (e_Reorder y s02) = e_Reorder y s02 := by rfl
theorem e_Reorder_g_Start (x : Reorder) (s0 : AV) : (e_Reorder x s0)[0]? = some (vi x.Start) := by rfl
theorem e_Reorder_s_Start (x : Reorder) (s0 : AV) (v : Int) : (e_Reorder x s0).set 0 (vi v) = e_Reorder { x with Start := v } s0 := by rfl
theorem e_Reorder_g_Size (x : Reorder) (s0 : AV) : (e_Reorder x s0)[1]? = some (vi x.Size) := by rfl
theorem e_Reorder_g_Hold (x : Reorder) (s0 : AV) : (e_Reorder x s0)[2]? = some (vi x.Hold) := by rfl
theorem e_Reorder_g_Held (x : Reorder) (s0 : AV) : (e_Reorder x s0)[3]? = some s0 := by rfl
theorem e_Reorder_s_Held (x : Reorder) (s0 : AV) (v : AV) : (e_Reorder x s0).set 3 v = e_Reorder x v := by rfl
theorem e_Reorder_g_Seen_Start (x : Reorder) (s0 : AV) : (e_Reorder x s0)[4]? = some (vi x.Seen.Start) := by rfl
theorem e_Reorder_d_Seen (x : Reorder) (s0 : AV) : sub? (e_Reorder x s0) 4 2 = some (e_Window x.Seen) := by rfl
theorem e_Reorder_p_Seen (x : Reorder) (s0 : AV) (v : Window) : putAt (e_Reorder x s0) 4 (e_Window v) = e_Reorder { x with Seen := v } s0 := by rfl
theorem e_Reorder_fz (x : Reorder) (s0 : AV) (o : Nat → Ob) (n : Nat) : (e_Reorder x s0).map (fz o (n + 1)) = e_Reorder x (fz o (n + 1) s0) := by rfl
theorem e_Reorder_reach (x : Reorder) (s0 : AV) (o : Nat → Ob) (n : Nat) : (e_Reorder x s0).flatMap (reach o (n + 1)) = reach o (n + 1) s0 := by
 simp only [e_Reorder, e_Window, List.cons_append, List.nil_append, List.append_nil, List.flatMap_cons, List.flatMap_nil, reach_v]
theorem e_Reorder_clean (x : Reorder) (s0 : AV) (h_s0 : Clean s0) : ∀ c ∈ (e_Reorder x s0), Clean c := by
 simp only [e_Reorder, e_Window, List.cons_append, List.nil_append]
 repeat' (first | exact Clean.v _ | assumption | exact List.forall_mem_nil _ | refine List.forall_mem_cons.2 ⟨?_, ?_⟩)
theorem e_Reorder_tm {st : AS} {F : List Nat} {σ : List (Option Nat)} (x : Reorder) (s0 : AV) (s02 : AV) (h_s0 : Tm st F σ s0 s02) : TmL st F σ (e_Reorder x s0) (e_Reorder x s02) := by
 simp only [e_Reorder, e_Window, List.cons_append, List.nil_append]
 repeat' (first | exact TmL.nil | (refine TmL.cons (Tm.v _) ?_) | (refine TmL.cons (by assumption) ?_))
theorem e_Reorder_tmx {st : AS} {F : List Nat} {σ : List (Option Nat)} {x y : Reorder} {s0 s02 : AV} (hxy : e_Reorder y s02 = e_Reorder x s02) (h_s0 : Tm st F σ s0 s02) : TmL st F σ (e_Reorder x s0) (e_Reorder y s02) := by
 rw [hxy]; exact e_Reorder_tm x s0 s02 h_s0
theorem e_Reorder_ren (x : Reorder) {s0 : (Nat → Nat) → AV} (h_s0 : RenM s0) : RenML fun q => e_Reorder x (s0 q) := by
 simp only [e_Reorder, e_Window, List.cons_append, List.nil_append]
 repeat' (first | exact RenML.nil | (refine RenML.cons (RenM.const (Clean.v _)) ?_) | (refine RenML.cons (by assumption) ?_))
theorem e_Reorder_frl {q nx off : Nat} (x : Reorder) {s0 : AV} {s02 : AV} (h_s0 : Fr q nx off s0 s02) : FrL q nx off (e_Reorder x s0) (e_Reorder x s02) := by
 simp only [e_Reorder, e_Window, List.cons_append, List.nil_append]
 repeat' (first | exact FrL.nil | (refine FrL.cons _ _ _ _ (by assumption) ?_) | (refine FrL.cons _ _ _ _ (Fr.same _) ?_))
def E_Reorder (x : Reorder) : List AV := e_Reorder x (S_HeldSeq x.Held)
theorem E_Reorder_eq (x : Reorder) : E_Reorder x = e_Reorder x (S_HeldSeq x.Held) := rfl
theorem E_Reorder_clean (x : Reorder) : ∀ c ∈ E_Reorder x, Clean c := e_Reorder_clean x _ (S_HeldSeq_clean _)
theorem f_Reorder (x : Reorder) (o : Nat → Ob) (n : Nat) : (E_Reorder x).map (fz o (n + 3)) = E_Reorder x := by simp only [E_Reorder_eq, e_Reorder_fz, f_S_HeldSeq]
theorem q_Reorder (x : Reorder) (o : Nat → Ob) (n : Nat) : (E_Reorder x).flatMap (reach o (n + 3)) = [] := by simp only [E_Reorder_eq, e_Reorder_reach, q_S_HeldSeq, List.append_nil]
attribute [go_sem] e_Reorder_len e_Reorder_sub e_Reorder_take e_Reorder_all e_Reorder_g_Start e_Reorder_s_Start e_Reorder_g_Size e_Reorder_g_Hold e_Reorder_g_Held e_Reorder_s_Held e_Reorder_g_Seen_Start e_Reorder_d_Seen e_Reorder_p_Seen e_Reorder_fz e_Reorder_reach E_Reorder_eq f_Reorder q_Reorder

def S_Frame (l : List Frame) : AV := .imm (List.flatMap E_Frame l) l.length
theorem S_Frame_eq (l : List Frame) : S_Frame l = .imm (List.flatMap E_Frame l) l.length := rfl
theorem l_Frame (x : Frame) : (E_Frame x).length = 41 := by rfl
theorem S_Frame_clean (l : List Frame) : Clean (S_Frame l) := Clean.imm (rows_clean E_Frame_clean l)
theorem c_Frame (l : List Frame) : ∀ c ∈ l.flatMap E_Frame, Clean c := rows_clean E_Frame_clean l
theorem r_Frame_len (l : List Frame) : (l.flatMap E_Frame).length = l.length * 41 := flat_len l_Frame l
theorem r_Frame_get (l : List Frame) (i o : Nat) (ho : o < 41) : (l.flatMap E_Frame)[i * 41 + o]? = l[i]?.bind fun a => (E_Frame a)[o]? := rows_get l_Frame l i o ho
theorem r_Frame_get0 (l : List Frame) (i : Nat) : (l.flatMap E_Frame)[i * 41]? = l[i]?.bind fun a => (E_Frame a)[0]? := rows_get l_Frame l i 0 (by decide)
theorem r_Frame_sub (l : List Frame) (i o n : Nat) (ho : o + n ≤ 41) (hn : 0 < n) : sub? (l.flatMap E_Frame) (i * 41 + o) n = l[i]?.bind fun a => sub? (E_Frame a) o n := rows_sub l_Frame l i o n ho hn
theorem r_Frame_sub0 (l : List Frame) (i n : Nat) (ho : n ≤ 41) (hn : 0 < n) : sub? (l.flatMap E_Frame) (i * 41) n = l[i]?.bind fun a => sub? (E_Frame a) 0 n := rows_sub l_Frame l i 0 n (by omega) hn
theorem r_Frame_getL (l : List Frame) (o : Nat) : (l.flatMap E_Frame)[o]? = l[o / 41]?.bind fun a => (E_Frame a)[o % 41]? := rows_getL l_Frame (by decide) l o
theorem r_Frame_subL (l : List Frame) (o n : Nat) (ho : o % 41 + n ≤ 41) (hn : 0 < n) : sub? (l.flatMap E_Frame) o n = l[o / 41]?.bind fun a => sub? (E_Frame a) (o % 41) n := rows_subL l_Frame l o n ho hn
theorem r_Frame_subw (l : List Frame) : sub? (l.flatMap E_Frame) 0 (l.length * 41) = some (l.flatMap E_Frame) := rows_subw l_Frame l
theorem r_Frame_take (l : List Frame) (n : Nat) : (l.flatMap E_Frame).take (n * 41) = (l.take n).flatMap E_Frame := rows_take l_Frame l n
theorem r_Frame_drop (l : List Frame) (n : Nat) : (l.flatMap E_Frame).drop (n * 41) = (l.drop n).flatMap E_Frame := rows_drop l_Frame l n
theorem r_Frame_fz (l : List Frame) (o : Nat → Ob) (n : Nat) : (l.flatMap E_Frame).map (fz o (n + 2)) = (l.flatMap E_Frame) := rows_fz (fun a => f_Frame a o n) l
theorem r_Frame_rch (l : List Frame) (o : Nat → Ob) (n : Nat) : (l.flatMap E_Frame).flatMap (reach o (n + 2)) = [] := rows_reach (fun a => q_Frame a o n) l
theorem r_Frame_s_Head_Kind (l : List Frame) (i : Nat) (v : Int) : (l.flatMap E_Frame).set (i * 41) (vu v) = (l.modify i (fun y => { y with Head.Kind := v })).flatMap E_Frame := rows_set l_Frame l i 0 _ (fun y => { y with Head.Kind := v }) (by decide) (fun _ => by rfl)
theorem r_Frame_s_Head_Sub (l : List Frame) (i : Nat) (v : Int) : (l.flatMap E_Frame).set (i * 41 + 1) (vu v) = (l.modify i (fun y => { y with Head.Sub := v })).flatMap E_Frame := rows_set l_Frame l i 1 _ (fun y => { y with Head.Sub := v }) (by decide) (fun _ => by rfl)
theorem r_Frame_s_Head_ToDs (l : List Frame) (i : Nat) (v : Bool) : (l.flatMap E_Frame).set (i * 41 + 2) (vb v) = (l.modify i (fun y => { y with Head.ToDs := v })).flatMap E_Frame := rows_set l_Frame l i 2 _ (fun y => { y with Head.ToDs := v }) (by decide) (fun _ => by rfl)
theorem r_Frame_s_Head_FromDs (l : List Frame) (i : Nat) (v : Bool) : (l.flatMap E_Frame).set (i * 41 + 3) (vb v) = (l.modify i (fun y => { y with Head.FromDs := v })).flatMap E_Frame := rows_set l_Frame l i 3 _ (fun y => { y with Head.FromDs := v }) (by decide) (fun _ => by rfl)
theorem r_Frame_s_Head_More (l : List Frame) (i : Nat) (v : Bool) : (l.flatMap E_Frame).set (i * 41 + 4) (vb v) = (l.modify i (fun y => { y with Head.More := v })).flatMap E_Frame := rows_set l_Frame l i 4 _ (fun y => { y with Head.More := v }) (by decide) (fun _ => by rfl)
theorem r_Frame_s_Head_Retry (l : List Frame) (i : Nat) (v : Bool) : (l.flatMap E_Frame).set (i * 41 + 5) (vb v) = (l.modify i (fun y => { y with Head.Retry := v })).flatMap E_Frame := rows_set l_Frame l i 5 _ (fun y => { y with Head.Retry := v }) (by decide) (fun _ => by rfl)
theorem r_Frame_s_Head_Sleep (l : List Frame) (i : Nat) (v : Bool) : (l.flatMap E_Frame).set (i * 41 + 6) (vb v) = (l.modify i (fun y => { y with Head.Sleep := v })).flatMap E_Frame := rows_set l_Frame l i 6 _ (fun y => { y with Head.Sleep := v }) (by decide) (fun _ => by rfl)
theorem r_Frame_s_Head_MoreData (l : List Frame) (i : Nat) (v : Bool) : (l.flatMap E_Frame).set (i * 41 + 7) (vb v) = (l.modify i (fun y => { y with Head.MoreData := v })).flatMap E_Frame := rows_set l_Frame l i 7 _ (fun y => { y with Head.MoreData := v }) (by decide) (fun _ => by rfl)
theorem r_Frame_s_Head_Protected (l : List Frame) (i : Nat) (v : Bool) : (l.flatMap E_Frame).set (i * 41 + 8) (vb v) = (l.modify i (fun y => { y with Head.Protected := v })).flatMap E_Frame := rows_set l_Frame l i 8 _ (fun y => { y with Head.Protected := v }) (by decide) (fun _ => by rfl)
theorem r_Frame_s_Head_Duration (l : List Frame) (i : Nat) (v : Int) : (l.flatMap E_Frame).set (i * 41 + 9) (vi v) = (l.modify i (fun y => { y with Head.Duration := v })).flatMap E_Frame := rows_set l_Frame l i 9 _ (fun y => { y with Head.Duration := v }) (by decide) (fun _ => by rfl)
theorem r_Frame_s_Head_A1_a0 (l : List Frame) (i : Nat) (v : Int) : (l.flatMap E_Frame).set (i * 41 + 10) (vu v) = (l.modify i (fun y => { y with Head.A1.a0 := v })).flatMap E_Frame := rows_set l_Frame l i 10 _ (fun y => { y with Head.A1.a0 := v }) (by decide) (fun _ => by rfl)
theorem r_Frame_s_Head_A1_a1 (l : List Frame) (i : Nat) (v : Int) : (l.flatMap E_Frame).set (i * 41 + 11) (vu v) = (l.modify i (fun y => { y with Head.A1.a1 := v })).flatMap E_Frame := rows_set l_Frame l i 11 _ (fun y => { y with Head.A1.a1 := v }) (by decide) (fun _ => by rfl)
theorem r_Frame_s_Head_A1_a2 (l : List Frame) (i : Nat) (v : Int) : (l.flatMap E_Frame).set (i * 41 + 12) (vu v) = (l.modify i (fun y => { y with Head.A1.a2 := v })).flatMap E_Frame := rows_set l_Frame l i 12 _ (fun y => { y with Head.A1.a2 := v }) (by decide) (fun _ => by rfl)
theorem r_Frame_s_Head_A1_a3 (l : List Frame) (i : Nat) (v : Int) : (l.flatMap E_Frame).set (i * 41 + 13) (vu v) = (l.modify i (fun y => { y with Head.A1.a3 := v })).flatMap E_Frame := rows_set l_Frame l i 13 _ (fun y => { y with Head.A1.a3 := v }) (by decide) (fun _ => by rfl)
theorem r_Frame_s_Head_A1_a4 (l : List Frame) (i : Nat) (v : Int) : (l.flatMap E_Frame).set (i * 41 + 14) (vu v) = (l.modify i (fun y => { y with Head.A1.a4 := v })).flatMap E_Frame := rows_set l_Frame l i 14 _ (fun y => { y with Head.A1.a4 := v }) (by decide) (fun _ => by rfl)
theorem r_Frame_s_Head_A1_a5 (l : List Frame) (i : Nat) (v : Int) : (l.flatMap E_Frame).set (i * 41 + 15) (vu v) = (l.modify i (fun y => { y with Head.A1.a5 := v })).flatMap E_Frame := rows_set l_Frame l i 15 _ (fun y => { y with Head.A1.a5 := v }) (by decide) (fun _ => by rfl)
theorem r_Frame_s_Head_A2_a0 (l : List Frame) (i : Nat) (v : Int) : (l.flatMap E_Frame).set (i * 41 + 16) (vu v) = (l.modify i (fun y => { y with Head.A2.a0 := v })).flatMap E_Frame := rows_set l_Frame l i 16 _ (fun y => { y with Head.A2.a0 := v }) (by decide) (fun _ => by rfl)
theorem r_Frame_s_Head_A2_a1 (l : List Frame) (i : Nat) (v : Int) : (l.flatMap E_Frame).set (i * 41 + 17) (vu v) = (l.modify i (fun y => { y with Head.A2.a1 := v })).flatMap E_Frame := rows_set l_Frame l i 17 _ (fun y => { y with Head.A2.a1 := v }) (by decide) (fun _ => by rfl)
theorem r_Frame_s_Head_A2_a2 (l : List Frame) (i : Nat) (v : Int) : (l.flatMap E_Frame).set (i * 41 + 18) (vu v) = (l.modify i (fun y => { y with Head.A2.a2 := v })).flatMap E_Frame := rows_set l_Frame l i 18 _ (fun y => { y with Head.A2.a2 := v }) (by decide) (fun _ => by rfl)
theorem r_Frame_s_Head_A2_a3 (l : List Frame) (i : Nat) (v : Int) : (l.flatMap E_Frame).set (i * 41 + 19) (vu v) = (l.modify i (fun y => { y with Head.A2.a3 := v })).flatMap E_Frame := rows_set l_Frame l i 19 _ (fun y => { y with Head.A2.a3 := v }) (by decide) (fun _ => by rfl)
theorem r_Frame_s_Head_A2_a4 (l : List Frame) (i : Nat) (v : Int) : (l.flatMap E_Frame).set (i * 41 + 20) (vu v) = (l.modify i (fun y => { y with Head.A2.a4 := v })).flatMap E_Frame := rows_set l_Frame l i 20 _ (fun y => { y with Head.A2.a4 := v }) (by decide) (fun _ => by rfl)
theorem r_Frame_s_Head_A2_a5 (l : List Frame) (i : Nat) (v : Int) : (l.flatMap E_Frame).set (i * 41 + 21) (vu v) = (l.modify i (fun y => { y with Head.A2.a5 := v })).flatMap E_Frame := rows_set l_Frame l i 21 _ (fun y => { y with Head.A2.a5 := v }) (by decide) (fun _ => by rfl)
theorem r_Frame_s_Head_A3_a0 (l : List Frame) (i : Nat) (v : Int) : (l.flatMap E_Frame).set (i * 41 + 22) (vu v) = (l.modify i (fun y => { y with Head.A3.a0 := v })).flatMap E_Frame := rows_set l_Frame l i 22 _ (fun y => { y with Head.A3.a0 := v }) (by decide) (fun _ => by rfl)
theorem r_Frame_s_Head_A3_a1 (l : List Frame) (i : Nat) (v : Int) : (l.flatMap E_Frame).set (i * 41 + 23) (vu v) = (l.modify i (fun y => { y with Head.A3.a1 := v })).flatMap E_Frame := rows_set l_Frame l i 23 _ (fun y => { y with Head.A3.a1 := v }) (by decide) (fun _ => by rfl)
theorem r_Frame_s_Head_A3_a2 (l : List Frame) (i : Nat) (v : Int) : (l.flatMap E_Frame).set (i * 41 + 24) (vu v) = (l.modify i (fun y => { y with Head.A3.a2 := v })).flatMap E_Frame := rows_set l_Frame l i 24 _ (fun y => { y with Head.A3.a2 := v }) (by decide) (fun _ => by rfl)
theorem r_Frame_s_Head_A3_a3 (l : List Frame) (i : Nat) (v : Int) : (l.flatMap E_Frame).set (i * 41 + 25) (vu v) = (l.modify i (fun y => { y with Head.A3.a3 := v })).flatMap E_Frame := rows_set l_Frame l i 25 _ (fun y => { y with Head.A3.a3 := v }) (by decide) (fun _ => by rfl)
theorem r_Frame_s_Head_A3_a4 (l : List Frame) (i : Nat) (v : Int) : (l.flatMap E_Frame).set (i * 41 + 26) (vu v) = (l.modify i (fun y => { y with Head.A3.a4 := v })).flatMap E_Frame := rows_set l_Frame l i 26 _ (fun y => { y with Head.A3.a4 := v }) (by decide) (fun _ => by rfl)
theorem r_Frame_s_Head_A3_a5 (l : List Frame) (i : Nat) (v : Int) : (l.flatMap E_Frame).set (i * 41 + 27) (vu v) = (l.modify i (fun y => { y with Head.A3.a5 := v })).flatMap E_Frame := rows_set l_Frame l i 27 _ (fun y => { y with Head.A3.a5 := v }) (by decide) (fun _ => by rfl)
theorem r_Frame_s_Head_A4_a0 (l : List Frame) (i : Nat) (v : Int) : (l.flatMap E_Frame).set (i * 41 + 28) (vu v) = (l.modify i (fun y => { y with Head.A4.a0 := v })).flatMap E_Frame := rows_set l_Frame l i 28 _ (fun y => { y with Head.A4.a0 := v }) (by decide) (fun _ => by rfl)
theorem r_Frame_s_Head_A4_a1 (l : List Frame) (i : Nat) (v : Int) : (l.flatMap E_Frame).set (i * 41 + 29) (vu v) = (l.modify i (fun y => { y with Head.A4.a1 := v })).flatMap E_Frame := rows_set l_Frame l i 29 _ (fun y => { y with Head.A4.a1 := v }) (by decide) (fun _ => by rfl)
theorem r_Frame_s_Head_A4_a2 (l : List Frame) (i : Nat) (v : Int) : (l.flatMap E_Frame).set (i * 41 + 30) (vu v) = (l.modify i (fun y => { y with Head.A4.a2 := v })).flatMap E_Frame := rows_set l_Frame l i 30 _ (fun y => { y with Head.A4.a2 := v }) (by decide) (fun _ => by rfl)
theorem r_Frame_s_Head_A4_a3 (l : List Frame) (i : Nat) (v : Int) : (l.flatMap E_Frame).set (i * 41 + 31) (vu v) = (l.modify i (fun y => { y with Head.A4.a3 := v })).flatMap E_Frame := rows_set l_Frame l i 31 _ (fun y => { y with Head.A4.a3 := v }) (by decide) (fun _ => by rfl)
theorem r_Frame_s_Head_A4_a4 (l : List Frame) (i : Nat) (v : Int) : (l.flatMap E_Frame).set (i * 41 + 32) (vu v) = (l.modify i (fun y => { y with Head.A4.a4 := v })).flatMap E_Frame := rows_set l_Frame l i 32 _ (fun y => { y with Head.A4.a4 := v }) (by decide) (fun _ => by rfl)
theorem r_Frame_s_Head_A4_a5 (l : List Frame) (i : Nat) (v : Int) : (l.flatMap E_Frame).set (i * 41 + 33) (vu v) = (l.modify i (fun y => { y with Head.A4.a5 := v })).flatMap E_Frame := rows_set l_Frame l i 33 _ (fun y => { y with Head.A4.a5 := v }) (by decide) (fun _ => by rfl)
theorem r_Frame_s_Head_Seq (l : List Frame) (i : Nat) (v : Int) : (l.flatMap E_Frame).set (i * 41 + 34) (vi v) = (l.modify i (fun y => { y with Head.Seq := v })).flatMap E_Frame := rows_set l_Frame l i 34 _ (fun y => { y with Head.Seq := v }) (by decide) (fun _ => by rfl)
theorem r_Frame_s_Head_Frag (l : List Frame) (i : Nat) (v : Int) : (l.flatMap E_Frame).set (i * 41 + 35) (vi v) = (l.modify i (fun y => { y with Head.Frag := v })).flatMap E_Frame := rows_set l_Frame l i 35 _ (fun y => { y with Head.Frag := v }) (by decide) (fun _ => by rfl)
theorem r_Frame_s_Head_Tid (l : List Frame) (i : Nat) (v : Int) : (l.flatMap E_Frame).set (i * 41 + 36) (vi v) = (l.modify i (fun y => { y with Head.Tid := v })).flatMap E_Frame := rows_set l_Frame l i 36 _ (fun y => { y with Head.Tid := v }) (by decide) (fun _ => by rfl)
theorem r_Frame_s_Head_Ack (l : List Frame) (i : Nat) (v : Int) : (l.flatMap E_Frame).set (i * 41 + 37) (vu v) = (l.modify i (fun y => { y with Head.Ack := v })).flatMap E_Frame := rows_set l_Frame l i 37 _ (fun y => { y with Head.Ack := v }) (by decide) (fun _ => by rfl)
theorem r_Frame_s_Head_Amsdu (l : List Frame) (i : Nat) (v : Bool) : (l.flatMap E_Frame).set (i * 41 + 38) (vb v) = (l.modify i (fun y => { y with Head.Amsdu := v })).flatMap E_Frame := rows_set l_Frame l i 38 _ (fun y => { y with Head.Amsdu := v }) (by decide) (fun _ => by rfl)
theorem r_Frame_s_Head_Eosp (l : List Frame) (i : Nat) (v : Bool) : (l.flatMap E_Frame).set (i * 41 + 39) (vb v) = (l.modify i (fun y => { y with Head.Eosp := v })).flatMap E_Frame := rows_set l_Frame l i 39 _ (fun y => { y with Head.Eosp := v }) (by decide) (fun _ => by rfl)
theorem r_Frame_put (l : List Frame) (i : Nat) (x : Frame) (b0 : (List Int)) : putAt (l.flatMap E_Frame) (i * 41) (e_Frame x (.imm (List.map vu b0) b0.length)) = (l.set i { x with Body := b0 }).flatMap E_Frame := rows_put l_Frame (by decide) l i { x with Body := b0 }
theorem r_Frame_app (l : List Frame) (x : Frame) (b0 : (List Int)) : (l.flatMap E_Frame) ++ e_Frame x (S_vu b0) = (l ++ [{ x with Body := b0 }]).flatMap E_Frame := by rw [List.flatMap_append]; simp only [List.flatMap_cons, List.flatMap_nil, List.append_nil]; rfl
theorem r_Frame_cat (l : List Frame) (m : List Frame) : (l.flatMap E_Frame) ++ m.flatMap E_Frame = (l ++ m).flatMap E_Frame := List.flatMap_append.symm
theorem f_S_Frame (l : List Frame) (o : Nat → Ob) (n : Nat) : fz o (n + 3) (S_Frame l) = S_Frame l := by simp only [S_Frame_eq, fz, r_Frame_fz]
theorem q_S_Frame (l : List Frame) (o : Nat → Ob) (n : Nat) : reach o (n + 3) (S_Frame l) = [] := by simp only [S_Frame_eq, reach, r_Frame_rch]
attribute [go_sem] S_Frame_eq l_Frame r_Frame_len r_Frame_get r_Frame_get0 r_Frame_sub r_Frame_sub0 r_Frame_subw r_Frame_take r_Frame_drop r_Frame_fz r_Frame_rch r_Frame_s_Head_Kind r_Frame_s_Head_Sub r_Frame_s_Head_ToDs r_Frame_s_Head_FromDs r_Frame_s_Head_More r_Frame_s_Head_Retry r_Frame_s_Head_Sleep r_Frame_s_Head_MoreData r_Frame_s_Head_Protected r_Frame_s_Head_Duration r_Frame_s_Head_A1_a0 r_Frame_s_Head_A1_a1 r_Frame_s_Head_A1_a2 r_Frame_s_Head_A1_a3 r_Frame_s_Head_A1_a4 r_Frame_s_Head_A1_a5 r_Frame_s_Head_A2_a0 r_Frame_s_Head_A2_a1 r_Frame_s_Head_A2_a2 r_Frame_s_Head_A2_a3 r_Frame_s_Head_A2_a4 r_Frame_s_Head_A2_a5 r_Frame_s_Head_A3_a0 r_Frame_s_Head_A3_a1 r_Frame_s_Head_A3_a2 r_Frame_s_Head_A3_a3 r_Frame_s_Head_A3_a4 r_Frame_s_Head_A3_a5 r_Frame_s_Head_A4_a0 r_Frame_s_Head_A4_a1 r_Frame_s_Head_A4_a2 r_Frame_s_Head_A4_a3 r_Frame_s_Head_A4_a4 r_Frame_s_Head_A4_a5 r_Frame_s_Head_Seq r_Frame_s_Head_Frag r_Frame_s_Head_Tid r_Frame_s_Head_Ack r_Frame_s_Head_Amsdu r_Frame_s_Head_Eosp r_Frame_put r_Frame_app r_Frame_cat f_S_Frame q_S_Frame

end Go.AX.Z.TR

/-! (TRD) -/

set_option linter.unusedSimpArgs false
set_option linter.unusedVariables false
set_option maxHeartbeats 4000000
set_option maxRecDepth 20000
namespace Go.AX.Z.TR
open Go.AX

def hotspotref05_Great (a0 : Frame) : Option Bool :=
 some (decide (2400 < (a0.Body.length : Int)))

def hotspotref18_Great_L2 (a0 : Reorder) : Nat → Int → Option (Ex Bool Unit)
 | 0, _ => none
 | n4 + 1, d5 =>
  bif decide (d5 < (a0.Held.length : Int)) then
   ((idx a0.Held d5).bind fun x6 =>
   ((hotspotref05_Great x6.Frame).bind fun x7 =>
   bif x7 then
    some (Ex.ret true)
   else
    hotspotref18_Great_L2 a0 n4 (IntKind.wrap .i64 (d5 + 1))))
  else
   some (Ex.go ())

def hotspotref18_Great (a0 : Reorder) (a1 : Frame) : Option Bool :=
 ((
  bif decide (70 < (a0.Held.length : Int)) then
   some true
  else
   ((hotspotref05_Great a1).bind fun x1 =>
   some x1)).bind fun x2 =>
 bif x2 then
  some true
 else
  ((
   hotspotref18_Great_L2 a0 big 0).bind fun o4 =>
  (o4.k fun d3 =>
  some false)))

def hotspotref05_Twin (a0 : Frame) : Option Frame :=
 ((chk (decide (a0.Body.length ≤ 140737488355328))).bind fun x11 =>
 some { Frame.z with Body := a0.Body, Head := a0.Head })

def hotspotref18_Twin_L2 (a0 : Reorder) : Nat → (List HeldSeq × Int) → Option ((List HeldSeq))
 | 0, _ => none
 | n2 + 1, d10 =>
  bif decide (d10.2 < (a0.Held.length : Int)) then
   ((idx a0.Held d10.2).bind fun x11 =>
   ((hotspotref05_Twin x11.Frame).bind fun x12 =>
   ((chk (decide ((d10.1.length + 1) * 112 ≤ 140737488355328))).bind fun x13 =>
   hotspotref18_Twin_L2 a0 n2 ((d10.1 ++ [{ HeldSeq.z with At := x11.At, Frame := x12 }]), IntKind.wrap .i64 (d10.2 + 1)))))
  else
   some d10.1

def hotspotref18_Twin (a0 : Reorder) : Option Reorder :=
 ((
  hotspotref18_Twin_L2 a0 big ([], 0)).bind fun d9 =>
 some { a0 with Held := d9 })

def reorder_number (a0 : Int) : Option Bool :=
 some ((decide (0 ≤ a0)) && (decide (a0 < 4096)))

def window_number (a0 : Int) : Option Bool :=
 some ((decide (0 ≤ a0)) && (decide (a0 < 4096)))

def window_Check (a0 : Window) : Option Int :=
 ((window_number a0.Start).bind fun x17 =>
 bif (!x17) then
  some 8
 else
  some 0)

def window_Dist (a0 : Int) (a1 : Int) : Option Int :=
 some (IntKind.wrap .i64 (band .u64 (IntKind.wrap .u64 ((IntKind.wrap .u64 a1) - (IntKind.wrap .u64 a0))) 4095))

def reorder_moment (a0 : Int) : Option Bool :=
 some ((decide (0 ≤ a0)) && (decide (a0 ≤ 1099511627776)))

def reorder_Check_L2 (a0 : Reorder) : Nat → (Int × Int) → Option (Ex Int Unit)
 | 0, _ => none
 | n8 + 1, d21 =>
  bif decide (d21.2 < (a0.Held.length : Int)) then
   ((idx a0.Held d21.2).bind fun x22 =>
   ((window_Dist a0.Start x22.Frame.Head.Seq).bind fun x23 =>
   ((reorder_number x22.Frame.Head.Seq).bind fun x24 =>
   ((
    bif (!x24) then
     some true
    else
     ((reorder_moment x22.At).bind fun x25 =>
     some (!x25))).bind fun x26 =>
   bif ((x26 || (decide (x23 ≤ d21.1))) || (decide (a0.Size ≤ x23))) then
    some (Ex.ret 8)
   else
    reorder_Check_L2 a0 n8 (x23, IntKind.wrap .i64 (d21.2 + 1))))))
  else
   some (Ex.go ())

def reorder_Check (a0 : Reorder) : Option Int :=
 ((reorder_number a0.Start).bind fun x16 =>
 ((
  bif (((((!x16) || (decide (a0.Size < 1))) || (decide (64 < a0.Size))) || (decide (a0.Hold < 0))) || (decide (16777216 < a0.Hold))) then
   some true
  else
   ((window_Check a0.Seen).bind fun x17 =>
   some (x17 != 0))).bind fun x18 =>
 bif x18 then
  some 8
 else
  ((
   reorder_Check_L2 a0 big (0, 0)).bind fun o20 =>
  (o20.k fun d19 =>
  some 0))))

def reorder_place_1 (a0 : HeldSeq) (a1 : Int) (a2 : Reorder) : Option Int :=
 ((window_Dist a2.Start a0.Frame.Head.Seq).bind fun x35 =>
 some (IntKind.wrap .i64 (x35 - a1)))

def slices_BinarySearchFunc_api_HeldSeq_api_HeldSeq_int_L2 (a0 : (List HeldSeq)) (a1 : Int) (a2 : Reorder) : Nat → (Int × Int) → Option (Int)
 | 0, _ => none
 | n2 + 1, d34 =>
  bif decide (d34.1 < d34.2) then
   ((idx a0 (IntKind.wrap .i64 (((IntKind.wrap .u64 (IntKind.wrap .i64 (d34.1 + d34.2)))).fdiv (2 ^ (min 1 64))))).bind fun x35 =>
   ((reorder_place_1 x35 a1 a2).bind fun x36 =>
   bif decide (x36 < 0) then
    slices_BinarySearchFunc_api_HeldSeq_api_HeldSeq_int_L2 a0 a1 a2 n2 (IntKind.wrap .i64 ((IntKind.wrap .i64 (((IntKind.wrap .u64 (IntKind.wrap .i64 (d34.1 + d34.2)))).fdiv (2 ^ (min 1 64)))) + 1), d34.2)
   else
    slices_BinarySearchFunc_api_HeldSeq_api_HeldSeq_int_L2 a0 a1 a2 n2 (d34.1, IntKind.wrap .i64 (((IntKind.wrap .u64 (IntKind.wrap .i64 (d34.1 + d34.2)))).fdiv (2 ^ (min 1 64))))))
  else
   some d34.1

def slices_BinarySearchFunc_api_HeldSeq_api_HeldSeq_int (a0 : (List HeldSeq)) (a1 : Int) (a2 : Reorder) : Option (Int × Bool) :=
 ((
  slices_BinarySearchFunc_api_HeldSeq_api_HeldSeq_int_L2 a0 a1 a2 big (0, (a0.length : Int))).bind fun d33 =>
 bif decide (d33 < (a0.length : Int)) then
  ((idx a0 d33).bind fun x37 =>
  ((reorder_place_1 x37 a1 a2).bind fun x38 =>
  some (d33, (x38 == 0))))
 else
  some (d33, false))

def reorder_place (a0 : Reorder) (a1 : Int) : Option (Int × Bool) :=
 ((window_Dist a0.Start a1).bind fun x32 =>
 ((slices_BinarySearchFunc_api_HeldSeq_api_HeldSeq_int a0.Held x32 a0).bind fun x33 =>
 some (x33.1, x33.2)))

def window_Add (a0 : Int) (a1 : Int) : Option Int :=
 some (IntKind.wrap .i64 (band .u64 (IntKind.wrap .u64 ((IntKind.wrap .u64 a0) + (IntKind.wrap .u64 a1))) 4095))

def window_check (a0 : Window) (a1 : Int) : Option Int :=
 ((window_Check a0).bind fun x37 =>
 bif (x37 != 0) then
  some x37
 else
  ((window_number a1).bind fun x38 =>
  bif (!x38) then
   some 2
  else
   some 0))

def window_Move (a0 : Window) (a1 : Int) : Option (Window × Int) :=
 ((window_check a0 a1).bind fun x37 =>
 bif (x37 != 0) then
  some (Window.z, x37)
 else
  ((window_Dist a0.Start a1).bind fun x38 =>
  bif decide (x38 < 2048) then
   ((chk (decide (¬ x38 < 0))).bind fun x39 =>
   some ({ Window.z with Bits := (a0.Bits).fdiv (2 ^ (min (x38).toNat 64)), Start := a1 }, 0))
  else
   ((chk (decide (¬ (IntKind.wrap .i64 (4096 - x38)) < 0))).bind fun x40 =>
   some ({ Window.z with Bits := IntKind.wrap .u64 (a0.Bits * 2 ^ (min ((IntKind.wrap .i64 (4096 - x38))).toNat 64)), Start := a1 }, 0))))

def window_Mark (a0 : Window) (a1 : Int) : Option (Window × Int) :=
 ((window_check a0 a1).bind fun x39 =>
 bif (x39 != 0) then
  some (Window.z, x39)
 else
  ((window_Dist a0.Start a1).bind fun x40 =>
  bif decide (64 ≤ x40) then
   some (Window.z, 21)
  else
   ((chk (decide (¬ x40 < 0))).bind fun x41 =>
   some ({ a0 with Bits := bor .u64 a0.Bits (IntKind.wrap .u64 (1 * 2 ^ (min (x40).toNat 64))) }, 0))))

def reorder_note (a0 : Window) (a1 : Int) : Option Window :=
 ((window_Dist a0.Start a1).bind fun x35 =>
 bif decide (2048 ≤ x35) then
  some a0
 else
  ((
   bif decide (64 ≤ x35) then
    ((window_Add a1 (-63)).bind fun x37 =>
    ((window_Move a0 x37).bind fun x38 =>
    some x38.1))
   else
    some a0).bind fun d36 =>
  ((window_Mark d36 a1).bind fun x39 =>
  some x39.1)))

def header_Twin (a0 : Frame) : Option Frame :=
 ((chk (decide (a0.Body.length ≤ 140737488355328))).bind fun x43 =>
 some a0)

def reorder_twin_L2 (a0 : (List HeldSeq)) : Nat → (List HeldSeq × Int) → Option ((List HeldSeq))
 | 0, _ => none
 | n2 + 1, d42 =>
  bif decide (d42.2 < (a0.length : Int)) then
   ((idx a0 d42.2).bind fun x43 =>
   ((header_Twin x43.Frame).bind fun x44 =>
   ((chk (decide ((d42.1.length + 1) * 112 ≤ 140737488355328))).bind fun x45 =>
   reorder_twin_L2 a0 n2 ((d42.1 ++ [{ HeldSeq.z with At := x43.At, Frame := x44 }]), IntKind.wrap .i64 (d42.2 + 1)))))
  else
   some d42.1

def reorder_twin (a0 : (List HeldSeq)) : Option (List HeldSeq) :=
 ((
  reorder_twin_L2 a0 big ([], 0)).bind fun d41 =>
 some d41)

def slices_Insert_api_HeldSeq_api_HeldSeq_0 (a0 : Int) (a1 : List HeldSeq) (a2 : List HeldSeq) : Option (List HeldSeq) :=
 ((chk (decide (0 ≤ a0) && decide (a0 ≤ (a1.length : Int)))).bind fun x48 =>
 bif (((a2.length : Nat) : Int) == 0) then
  some a1
 else
  bif (a0 == ((a1.length : Nat) : Int)) then
   ((chk (decide ((a1.length + a2.length) * 112 ≤ 140737488355328))).bind fun x49 =>
   some (a1 ++ a2))
  else
   none)

def slices_Insert_api_HeldSeq_api_HeldSeq (a0 : Int) (a1 : List HeldSeq) (a2 : List HeldSeq) : Option (List HeldSeq) :=
 ((chk (decide (0 ≤ a0) && decide (a0 ≤ (a1.length : Int)))).bind fun x13 =>
 bif (((a2.length : Nat) : Int) == 0) then
  some a1
 else
  bif (a0 == ((a1.length : Nat) : Int)) then
   ((chk (decide ((a1.length + a2.length) * 112 ≤ 140737488355328))).bind fun x14 =>
   some (a1 ++ a2))
  else
   ((chk (decide (a2.length = 1) && decide ((a1.length + 1) * 112 ≤ 140737488355328))).bind fun x15 =>
   some (a1.take a0.toNat ++ a2 ++ a1.drop a0.toNat)))

def reorder_move_L2 (a0 : Reorder) : Nat → (List Frame × Nat × Int × Int) → Option ((List Frame))
 | 0, _ => none
 | n2 + 1, d56 =>
  bif decide (d56.2.2.2 < d56.2.2.1) then
   ((chk (decide (d56.2.2.2 < (d56.2.1 : Int)))).bind fun x57 =>
   ((idx a0.Held d56.2.2.2).bind fun x58 =>
   ((chk (decide ((d56.1.length + 1) * 104 ≤ 140737488355328))).bind fun x59 =>
   reorder_move_L2 a0 n2 ((d56.1 ++ [x58.Frame]), d56.2.1, d56.2.2.1, IntKind.wrap .i64 (d56.2.2.2 + 1)))))
  else
   some d56.1

def reorder_move_L5 : Nat → (Reorder × List HeldSeq × List Frame) → Option ((Reorder × List HeldSeq × List Frame))
 | 0, _ => none
 | n7 + 1, d62 =>
  ((
   bif decide (0 < ((d62.2.1.length : Nat) : Int)) then
    ((idx d62.2.1 0).bind fun x63 =>
    some (x63.Frame.Head.Seq == d62.1.Start))
   else
    some false).bind fun x64 =>
  bif x64 then
   ((idx d62.2.1 0).bind fun x65 =>
   ((chk (decide ((d62.2.2.length + 1) * 104 ≤ 140737488355328))).bind fun x66 =>
   ((window_Add d62.1.Start 1).bind fun x67 =>
   ((chk (decide (1 ≤ (d62.2.1.length : Int)))).bind fun x68 =>
   reorder_move_L5 n7 ({ d62.1 with Start := x67 }, (List.drop 1 d62.2.1), (d62.2.2 ++ [x65.Frame]))))))
  else
   some (d62.1, d62.2.1, d62.2.2))

def reorder_move (a0 : Reorder) (a1 : Int) : Option (List Frame × Reorder × List HeldSeq) :=
 ((reorder_place a0 a1).bind fun x53 =>
 ((chk (decide (0 ≤ x53.1) && decide (x53.1 ≤ (a0.Held.length : Int)))).bind fun x54 =>
 ((
  reorder_move_L2 a0 big ([], (x53.1).toNat, (((x53.1).toNat : Nat) : Int), 0)).bind fun d55 =>
 ((chk (decide (0 ≤ x53.1) && decide (x53.1 ≤ (a0.Held.length : Int)))).bind fun x60 =>
 ((
  reorder_move_L5 big ({ a0 with Start := a1 }, (List.drop ((x53.1).toNat) a0.Held), d55)).bind fun d61 =>
 some (d61.2.2, d61.1, d61.2.1))))))

def reorder_Put (a0 : Reorder) (a1 : Frame) (a2 : Int) : Option ((List Frame) × Reorder × Int) :=
 ((reorder_Check a0).bind fun x16 =>
 bif (x16 != 0) then
  some ([], Reorder.z, x16)
 else
  ((reorder_moment a2).bind fun x17 =>
  ((
   bif (!x17) then
    some true
   else
    ((reorder_number a1.Head.Seq).bind fun x18 =>
    some (!x18))).bind fun x19 =>
  bif x19 then
   some ([], Reorder.z, 2)
  else
   ((window_Dist a0.Start a1.Head.Seq).bind fun x20 =>
   ((reorder_place a0 a1.Head.Seq).bind fun x21 =>
   bif ((decide (2048 ≤ x20)) || x21.2) then
    some ([], Reorder.z, 21)
   else
    ((reorder_note a0.Seen a1.Head.Seq).bind fun x22 =>
    ((reorder_twin a0.Held).bind fun x23 =>
    ((header_Twin a1).bind fun x24 =>
    ((slices_Insert_api_HeldSeq_api_HeldSeq x21.1 x23 [{ HeldSeq.z with At := a2, Frame := x24 }]).bind fun x25 =>
    ((
     bif decide (a0.Size ≤ x20) then
      ((window_Add a1.Head.Seq (IntKind.wrap .i64 (1 - a0.Size))).bind fun x27 =>
      some x27)
     else
      some a0.Start).bind fun d26 =>
    ((reorder_move { a0 with Held := x25, Seen := x22 } d26).bind fun x28 =>
    some (x28.1, { x28.2.1 with Held := x28.2.2 }, 0))))))))))))

def hotspotref17_Number (a0 : Int) : Option Bool :=
 some ((decide (0 ≤ a0)) && (decide (a0 ≤ 4095)))

def hotspotref18_Moment (a0 : Int) : Option Bool :=
 some ((decide (0 ≤ a0)) && (decide (a0 ≤ 1099511627776)))

def hotspotref17_Rest (a0 : Int) : Option Int :=
 bif decide (((a0).tmod 4096) < 0) then
  some (IntKind.wrap .i64 (((a0).tmod 4096) + 4096))
 else
  some ((a0).tmod 4096)

def hotspotref17_Dist_L2 (x39 : Int) : Nat → (Int × Int) → Option (Int)
 | 0, _ => none
 | n2 + 1, d41 =>
  bif (d41.1 != x39) then
   hotspotref17_Dist_L2 x39 n2 (((IntKind.wrap .i64 (d41.1 + 1))).tmod 4096, IntKind.wrap .i64 (d41.2 + 1))
  else
   some d41.2

def hotspotref17_Dist (a0 : Int) (a1 : Int) : Option Int :=
 ((hotspotref17_Rest a0).bind fun x38 =>
 ((hotspotref17_Rest a1).bind fun x39 =>
 ((
  hotspotref17_Dist_L2 x39 big (x38, 0)).bind fun d40 =>
 some d40)))

def hotspotref18_Valid_L2 (a0 : Reorder) : Nat → Int → Option (Ex Bool Unit)
 | 0, _ => none
 | n8 + 1, d35 =>
  bif decide (d35 < (a0.Held.length : Int)) then
   ((idx a0.Held d35).bind fun x36 =>
   ((hotspotref17_Number x36.Frame.Head.Seq).bind fun x37 =>
   ((
    bif (!x37) then
     some true
    else
     ((hotspotref18_Moment x36.At).bind fun x38 =>
     some (!x38))).bind fun x39 =>
   bif x39 then
    some (Ex.ret false)
   else
    ((hotspotref17_Dist a0.Start x36.Frame.Head.Seq).bind fun x40 =>
    ((
     bif ((decide (x40 < 1)) || (decide (a0.Size ≤ x40))) then
      some true
     else
      ((
       bif decide (0 < d35) then
        ((idx a0.Held (IntKind.wrap .i64 (d35 - 1))).bind fun x41 =>
        ((hotspotref17_Dist a0.Start x41.Frame.Head.Seq).bind fun x42 =>
        some (decide (x40 ≤ x42))))
       else
        some false).bind fun x43 =>
      some x43)).bind fun x44 =>
    bif x44 then
     some (Ex.ret false)
    else
     hotspotref18_Valid_L2 a0 n8 (IntKind.wrap .i64 (d35 + 1)))))))
  else
   some (Ex.go ())

def hotspotref18_Valid (a0 : Reorder) : Option Bool :=
 ((hotspotref17_Number a0.Start).bind fun x30 =>
 ((
  bif (((((!x30) || (decide (a0.Size < 1))) || (decide (64 < a0.Size))) || (decide (a0.Hold < 0))) || (decide (16777216 < a0.Hold))) then
   some true
  else
   ((hotspotref17_Number a0.Seen.Start).bind fun x31 =>
   some (!x31))).bind fun x32 =>
 bif x32 then
  some false
 else
  ((
   hotspotref18_Valid_L2 a0 big 0).bind fun o34 =>
  (o34.k fun d33 =>
  some true))))

def hotspotref18_take_L2 (a0 : (List HeldSeq)) (a1 : Int) : Nat → (List Frame × List HeldSeq × Int) → Option ((List Frame × List HeldSeq))
 | 0, _ => none
 | n2 + 1, d51 =>
  bif decide (d51.2.2 < (a0.length : Int)) then
   ((idx a0 d51.2.2).bind fun x52 =>
   bif (x52.Frame.Head.Seq == a1) then
    ((chk (decide ((d51.1.length + 1) * 104 ≤ 140737488355328))).bind fun x53 =>
    hotspotref18_take_L2 a0 a1 n2 ((d51.1 ++ [x52.Frame]), d51.2.1, IntKind.wrap .i64 (d51.2.2 + 1)))
   else
    ((chk (decide ((d51.2.1.length + 1) * 112 ≤ 140737488355328))).bind fun x54 =>
    hotspotref18_take_L2 a0 a1 n2 (d51.1, (d51.2.1 ++ [x52]), IntKind.wrap .i64 (d51.2.2 + 1))))
  else
   some (d51.1, d51.2.1)

def hotspotref18_take (a0 : (List HeldSeq)) (a1 : Int) : Option ((List Frame) × (List HeldSeq)) :=
 ((
  hotspotref18_take_L2 a0 a1 big ([], [], 0)).bind fun d50 =>
 some (d50.1, d50.2))

def hotspotref17_Add (a0 : Int) (a1 : Int) : Option Int :=
 ((hotspotref17_Rest a0).bind fun x57 =>
 ((hotspotref17_Rest a1).bind fun x58 =>
 some (((IntKind.wrap .i64 (x57 + x58))).tmod 4096)))

def hotspotref17_Numbers_L2 (a0 : Int) : Nat → (List Int × Int) → Option ((List Int))
 | 0, _ => none
 | n2 + 1, d64 =>
  bif decide (d64.2 < 64) then
   ((chk (decide ((d64.1.length + 1) * 8 ≤ 140737488355328))).bind fun x65 =>
   hotspotref17_Numbers_L2 a0 n2 ((d64.1 ++ [((IntKind.wrap .i64 (a0 + d64.2))).tmod 4096]), IntKind.wrap .i64 (d64.2 + 1)))
  else
   some d64.1

def hotspotref17_Numbers (a0 : Int) : Option (List Int) :=
 ((
  hotspotref17_Numbers_L2 a0 big ([], 0)).bind fun d63 =>
 some d63)

def hotspotref17_bit_L2 (a1 : Int) : Nat → (Int × Int) → Option (Int)
 | 0, _ => none
 | n2 + 1, d69 =>
  bif decide (d69.2 < a1) then
   hotspotref17_bit_L2 a1 n2 (IntKind.wrap .u64 ((d69.1).tdiv 2), IntKind.wrap .i64 (d69.2 + 1))
  else
   some d69.1

def hotspotref17_bit (a0 : Int) (a1 : Int) : Option Bool :=
 ((
  hotspotref17_bit_L2 a1 big (a0, 0)).bind fun d68 =>
 some (((d68).tmod 2) == 1))

def hotspotref17_Marked_L2 (a0 : Window) (x63 : (List Int)) : Nat → (List Int × Int) → Option ((List Int))
 | 0, _ => none
 | n3 + 1, d65 =>
  bif decide (d65.2 < 64) then
   ((hotspotref17_bit a0.Bits d65.2).bind fun x66 =>
   bif x66 then
    ((idx x63 d65.2).bind fun x67 =>
    ((chk (decide ((d65.1.length + 1) * 8 ≤ 140737488355328))).bind fun x68 =>
    hotspotref17_Marked_L2 a0 x63 n3 ((d65.1 ++ [x67]), IntKind.wrap .i64 (d65.2 + 1))))
   else
    hotspotref17_Marked_L2 a0 x63 n3 (d65.1, IntKind.wrap .i64 (d65.2 + 1)))
  else
   some d65.1

def hotspotref17_Marked (a0 : Window) : Option (List Int) :=
 ((hotspotref17_Number a0.Start).bind fun x62 =>
 bif (!x62) then
  some []
 else
  ((hotspotref17_Numbers a0.Start).bind fun x63 =>
  ((
   hotspotref17_Marked_L2 a0 x63 big ([], 0)).bind fun d64 =>
  some d64)))

def hotspotref17_Of_L7 (a1 : (List Int)) (x70 : (List Int)) (d72 : (Window × Int)) : Nat → Int → Option (Window)
 | 0, _ => none
 | n7 + 1, d75 =>
  bif decide (d75 < (a1.length : Int)) then
   ((idx a1 d75).bind fun x76 =>
   ((idx x70 d72.2).bind fun x77 =>
   bif (x76 == x77) then
    some { d72.1 with Bits := IntKind.wrap .u64 ((IntKind.wrap .u64 (d72.1.Bits * 2)) + 1) }
   else
    hotspotref17_Of_L7 a1 x70 d72 n7 (IntKind.wrap .i64 (d75 + 1))))
  else
   some { d72.1 with Bits := IntKind.wrap .u64 (d72.1.Bits * 2) }

def hotspotref17_Of_L3 (a1 : (List Int)) (x70 : (List Int)) : Nat → (Window × Int) → Option (Window)
 | 0, _ => none
 | n2 + 1, d72 =>
  bif decide (0 ≤ d72.2) then
   ((
    ((
     hotspotref17_Of_L7 a1 x70 d72 big 0).bind fun d74 =>
    some d74)).bind fun d73 =>
   hotspotref17_Of_L3 a1 x70 n2 (d73, IntKind.wrap .i64 (d72.2 - 1)))
  else
   some d72.1

def hotspotref17_Of (a0 : Int) (a1 : (List Int)) : Option Window :=
 ((hotspotref17_Numbers a0).bind fun x70 =>
 ((
  hotspotref17_Of_L3 a1 x70 big ({ Window.z with Start := a0 }, 63)).bind fun d71 =>
 some d71))

def hotspotref17_Move (a0 : Window) (a1 : Int) : Option (Window × Int) :=
 ((hotspotref17_Number a0.Start).bind fun x60 =>
 bif (!x60) then
  some (Window.z, 8)
 else
  ((hotspotref17_Number a1).bind fun x61 =>
  bif (!x61) then
   some (Window.z, 2)
  else
   ((hotspotref17_Marked a0).bind fun x62 =>
   ((hotspotref17_Of a1 x62).bind fun x63 =>
   some (x63, 0)))))

def hotspotref17_Mark (a0 : Window) (a1 : Int) : Option (Window × Int) :=
 ((hotspotref17_Number a0.Start).bind fun x60 =>
 bif (!x60) then
  some (Window.z, 8)
 else
  ((hotspotref17_Number a1).bind fun x61 =>
  bif (!x61) then
   some (Window.z, 2)
  else
   ((hotspotref17_Dist a0.Start a1).bind fun x62 =>
   bif decide (64 ≤ x62) then
    some (Window.z, 21)
   else
    ((hotspotref17_Marked a0).bind fun x63 =>
    ((chk (decide ((x63.length + 1) * 8 ≤ 140737488355328))).bind fun x64 =>
    ((hotspotref17_Of a0.Start (x63 ++ [a1])).bind fun x65 =>
    some (x65, 0)))))))

def hotspotref18_Note (a0 : Window) (a1 : Int) : Option Window :=
 ((hotspotref17_Dist a0.Start a1).bind fun x56 =>
 bif decide (2048 ≤ x56) then
  some a0
 else
  ((
   bif decide (64 ≤ x56) then
    ((hotspotref17_Add a1 (-63)).bind fun x58 =>
    ((hotspotref17_Move a0 x58).bind fun x59 =>
    some x59.1))
   else
    some a0).bind fun d57 =>
  ((hotspotref17_Mark d57 a1).bind fun x60 =>
  some x60.1)))

def hotspotref18_move_L2 : Nat → (Int × Reorder × List HeldSeq × List Frame) → Option ((Reorder × List Frame))
 | 0, _ => none
 | n2 + 1, d65 =>
  ((hotspotref18_take d65.2.2.1 d65.2.1.Start).bind fun x66 =>
  bif ((decide (d65.1 ≤ 0)) && (((x66.1.length : Nat) : Int) == 0)) then
   some ({ d65.2.1 with Held := d65.2.2.1 }, d65.2.2.2)
  else
   ((chk (decide ((d65.2.2.2.length + x66.1.length) * 104 ≤ 140737488355328))).bind fun x67 =>
   ((hotspotref17_Add d65.2.1.Start 1).bind fun x68 =>
   hotspotref18_move_L2 n2 (IntKind.wrap .i64 (d65.1 - 1), { d65.2.1 with Start := x68 }, x66.2, (d65.2.2.2 ++ x66.1)))))

def hotspotref18_move_L9 (d64 : (Reorder × List Frame)) (x72 : Int) : Nat → (List HeldSeq × Int) → Option ((List HeldSeq))
 | 0, _ => none
 | n12 + 1, d74 =>
  bif decide (d74.2 < (d64.1.Held.length : Int)) then
   ((idx d64.1.Held d74.2).bind fun x75 =>
   bif (x75.Frame.Head.Seq == x72) then
    ((chk (decide ((d74.1.length + 1) * 112 ≤ 140737488355328))).bind fun x76 =>
    hotspotref18_move_L9 d64 x72 n12 ((d74.1 ++ [x75]), IntKind.wrap .i64 (d74.2 + 1)))
   else
    hotspotref18_move_L9 d64 x72 n12 (d74.1, IntKind.wrap .i64 (d74.2 + 1)))
  else
   some d74.1

def hotspotref18_move_L5 (d64 : (Reorder × List Frame)) : Nat → (List HeldSeq × Int) → Option ((List HeldSeq))
 | 0, _ => none
 | n7 + 1, d70 =>
  bif decide (d70.2 < 64) then
   ((
    ((hotspotref17_Add d64.1.Start d70.2).bind fun x72 =>
    ((
     hotspotref18_move_L9 d64 x72 big (d70.1, 0)).bind fun d73 =>
    some d73))).bind fun d71 =>
   hotspotref18_move_L5 d64 n7 (d71, IntKind.wrap .i64 (d70.2 + 1)))
  else
   some d70.1

def hotspotref18_move (a0 : Reorder) (a1 : Int) : Option ((List Frame) × Reorder) :=
 ((
  hotspotref18_move_L2 big (a1, a0, a0.Held, [])).bind fun d64 =>
 ((
  hotspotref18_move_L5 d64 big ([], 0)).bind fun d69 =>
 some (d64.2, { d64.1 with Held := d69 })))

def hotspotref18_Put (a0 : Reorder) (a1 : Frame) (a2 : Int) : Option ((List Frame) × Reorder × Int) :=
 ((hotspotref18_Valid a0).bind fun x30 =>
 bif (!x30) then
  some ([], Reorder.z, 8)
 else
  ((hotspotref18_Moment a2).bind fun x31 =>
  ((
   bif (!x31) then
    some true
   else
    ((hotspotref17_Number a1.Head.Seq).bind fun x32 =>
    some (!x32))).bind fun x33 =>
  bif x33 then
   some ([], Reorder.z, 2)
  else
   ((hotspotref17_Dist a0.Start a1.Head.Seq).bind fun x34 =>
   ((hotspotref18_take a0.Held a1.Head.Seq).bind fun x35 =>
   bif ((decide (2048 ≤ x34)) || (decide (0 < ((x35.1.length : Nat) : Int)))) then
    some ([], Reorder.z, 21)
   else
    ((hotspotref18_Note a0.Seen a1.Head.Seq).bind fun x36 =>
    ((chk (decide ((a0.Held.length) * 112 ≤ 140737488355328))).bind fun x37 =>
    ((chk (decide ((a0.Held.length + 1) * 112 ≤ 140737488355328))).bind fun x38 =>
    ((hotspotref18_move { a0 with Held := (a0.Held ++ [{ HeldSeq.z with At := a2, Frame := a1 }]), Seen := x36 } (if IntKind.wrap .i64 ((IntKind.wrap .i64 (x34 - a0.Size)) + 1) < 0 then 0 else IntKind.wrap .i64 ((IntKind.wrap .i64 (x34 - a0.Size)) + 1))).bind fun x39 =>
    some (x39.1, x39.2, 0))))))))))

def hotspotref05_Same (a0 : Frame) (a1 : Frame) : Option Bool :=
 some ((decide (a0.Head = a1.Head)) && (sEq a0.Body a1.Body))

def hotspotref05_SameAll_L2 (a0 : (List Frame)) (a1 : (List Frame)) : Nat → Int → Option (Ex Bool Unit)
 | 0, _ => none
 | n3 + 1, d43 =>
  bif decide (d43 < (a0.length : Int)) then
   ((idx a0 d43).bind fun x44 =>
   ((idx a1 d43).bind fun x45 =>
   ((hotspotref05_Same x44 x45).bind fun x46 =>
   bif (!x46) then
    some (Ex.ret false)
   else
    hotspotref05_SameAll_L2 a0 a1 n3 (IntKind.wrap .i64 (d43 + 1)))))
  else
   some (Ex.go ())

def hotspotref05_SameAll (a0 : (List Frame)) (a1 : (List Frame)) : Option Bool :=
 bif ((a0.length : Int) != (a1.length : Int)) then
  some false
 else
  ((
   hotspotref05_SameAll_L2 a0 a1 big 0).bind fun o42 =>
  (o42.k fun d41 =>
  some true))

def hotspotref18_Same_L2 (a0 : Reorder) (a1 : Reorder) : Nat → Int → Option (Ex Bool Unit)
 | 0, _ => none
 | n7 + 1, d50 =>
  bif decide (d50 < (a0.Held.length : Int)) then
   ((idx a0.Held d50).bind fun x51 =>
   ((idx a1.Held d50).bind fun x52 =>
   ((
    bif (x51.At != x52.At) then
     some true
    else
     ((hotspotref05_Same x51.Frame x52.Frame).bind fun x53 =>
     some (!x53))).bind fun x54 =>
   bif x54 then
    some (Ex.ret false)
   else
    hotspotref18_Same_L2 a0 a1 n7 (IntKind.wrap .i64 (d50 + 1)))))
  else
   some (Ex.go ())

def hotspotref18_Same (a0 : Reorder) (a1 : Reorder) : Option Bool :=
 bif (((((a0.Start != a1.Start) || (a0.Size != a1.Size)) || (a0.Hold != a1.Hold)) || (!decide (a0.Seen = a1.Seen))) || ((a0.Held.length : Int) != (a1.Held.length : Int))) then
  some false
 else
  ((
   hotspotref18_Same_L2 a0 a1 big 0).bind fun o49 =>
  (o49.k fun d48 =>
  some true))

def hotspotlaw18_ReorderPuts_L8 (x4 : ((List Frame) × Reorder × Int)) (d10 : Int) : Nat → Unit → Option (Unit)
 | 0, _ => none
 | n10 + 1, d13 =>
  ((idx x4.1 d10).bind fun x14 =>
  bif decide (0 < (x14.Body.length : Int)) then
   ((idx x14.Body 0).bind fun x15 =>
   none)
  else
   some ())

def hotspotlaw18_ReorderPuts_L4 (x4 : ((List Frame) × Reorder × Int)) : Nat → Int → Option (Unit)
 | 0, _ => none
 | n5 + 1, d10 =>
  bif decide (d10 < ((x4.1.length : Nat) : Int)) then
   ((
    ((
     hotspotlaw18_ReorderPuts_L8 x4 d10 big ()).bind fun d12 =>
    some ())).bind fun d11 =>
   hotspotlaw18_ReorderPuts_L4 x4 n5 (IntKind.wrap .i64 (d10 + 1)))
  else
   some ()

def hotspotlaw18_ReorderPuts_L15 (d17 : (List HeldSeq × Int)) : Nat → Unit → Option (Unit)
 | 0, _ => none
 | n21 + 1, d21 =>
  ((idx (d17.1.modify (d17.2.toNat) fun y => { y with At := (-5) }) d17.2).bind fun x22 =>
  bif decide (0 < (x22.Frame.Body.length : Int)) then
   ((idx x22.Frame.Body 0).bind fun x23 =>
   none)
  else
   some ())

def hotspotlaw18_ReorderPuts_L11 : Nat → (List HeldSeq × Int) → Option (Unit)
 | 0, _ => none
 | n14 + 1, d17 =>
  bif decide (d17.2 < ((d17.1.length : Nat) : Int)) then
   ((
    ((idx d17.1 d17.2).bind fun x19 =>
    ((
     hotspotlaw18_ReorderPuts_L15 d17 big ()).bind fun d20 =>
    some ()))).bind fun d18 =>
   hotspotlaw18_ReorderPuts_L11 n14 ((d17.1.modify (d17.2.toNat) fun y => { y with At := (-5) }), IntKind.wrap .i64 (d17.2 + 1)))
  else
   some ()

def hotspotlaw18_ReorderPuts (a0 : Reorder) (a1 : Frame) (a2 : Int) : Option Bool :=
 ((hotspotref18_Great a0 a1).bind fun x1 =>
 bif x1 then
  some true
 else
  ((hotspotref18_Twin a0).bind fun x2 =>
  ((hotspotref05_Twin a1).bind fun x3 =>
  ((reorder_Put a0 a1 a2).bind fun x4 =>
  ((hotspotref18_Put a0 a1 a2).bind fun x5 =>
  ((hotspotref05_SameAll x4.1 x5.1).bind fun x6 =>
  ((
   bif x6 then
    ((hotspotref18_Same x4.2.1 x5.2.1).bind fun x7 =>
    some x7)
   else
    some false).bind fun x8 =>
  ((
   hotspotlaw18_ReorderPuts_L4 x4 big 0).bind fun d9 =>
  ((
   hotspotlaw18_ReorderPuts_L11 big (x4.2.1.Held, 0)).bind fun d16 =>
  ((
   bif (x8 && (x4.2.2 == x5.2.2)) then
    ((hotspotref18_Same a0 x2).bind fun x24 =>
    some x24)
   else
    some false).bind fun x25 =>
  ((
   bif x25 then
    ((hotspotref05_Same a1 x3).bind fun x26 =>
    some x26)
   else
    some false).bind fun x27 =>
  some x27)))))))))))

end Go.AX.Z.TR

/-! (TRF) -/

namespace Go.AX.Z.TR
open Go.AX Go.Proofs

/-- The types that are compared by their cells. -/
def tab : List (TypeId × List (Option IntKind)) :=
 [(25, [some .i64, some .u64]),
  (41, [some .u8, some .u8, none, none, none, none, none, none, none, some .i64, some .u8, some .u8, some .u8, some .u8, some .u8, some .u8, some .u8, some .u8, some .u8, some .u8, some .u8, some .u8, some .u8, some .u8, some .u8, some .u8, some .u8, some .u8, some .u8, some .u8, some .u8, some .u8, some .u8, some .u8, some .i64, some .i64, some .i64, some .u8, none, none])]

noncomputable def K : Ctx := ⟨Try.prog, fun _ => none, tabK tab⟩

theorem ag22 : agB K.P 22 = some false := by kernel_rfl
theorem ag23 : agB K.P 23 = some false := by kernel_rfl
theorem ag25 : agB K.P 25 = some true := by kernel_rfl
theorem ag27 : agB K.P 27 = some true := by kernel_rfl
theorem ag3 : agB K.P 3 = some false := by kernel_rfl
theorem ag41 : agB K.P 41 = some true := by kernel_rfl
theorem ag42 : agB K.P 42 = some false := by kernel_rfl
theorem ag44 : agB K.P 44 = some true := by kernel_rfl
theorem ag5 : agB K.P 5 = some false := by kernel_rfl
theorem ag58 : agB K.P 58 = some true := by kernel_rfl
theorem bl25 : bldS K.P 25 = some [(0, 1), (1, 1)] := by kernel_rfl
theorem bl27 : bldS K.P 27 = some [(0, 1), (1, 1), (2, 1), (3, 1), (4, 2)] := by kernel_rfl
theorem bl44 : bldS K.P 44 = some [(0, 40), (40, 1)] := by kernel_rfl
theorem bl58 : bldS K.P 58 = some [(0, 1), (1, 41)] := by kernel_rfl
theorem bs42_9 : isBS K.P 42 9 = true := by kernel_rfl
theorem by3 : byOf K.P 3 = some 8 := by kernel_rfl
theorem by44 : byOf K.P 44 = some 104 := by kernel_rfl
theorem by5 : byOf K.P 5 = some 1 := by kernel_rfl
theorem by58 : byOf K.P 58 = some 112 := by kernel_rfl
theorem ek25 : K.eqk 25 = some [some .i64, some .u64] := by kernel_rfl
theorem ek41 : K.eqk 41 = some [some .u8, some .u8, none, none, none, none, none, none, none, some .i64, some .u8, some .u8, some .u8, some .u8, some .u8, some .u8, some .u8, some .u8, some .u8, some .u8, some .u8, some .u8, some .u8, some .u8, some .u8, some .u8, some .u8, some .u8, some .u8, some .u8, some .u8, some .u8, some .u8, some .u8, some .i64, some .i64, some .i64, some .u8, none, none] := by kernel_rfl
theorem el22 : elS K.P 22 = some 58 := by kernel_rfl
theorem el42 : elS K.P 42 = some 5 := by kernel_rfl
theorem el46 : elS K.P 46 = some 44 := by kernel_rfl
theorem el94 : elS K.P 94 = some 3 := by kernel_rfl
theorem eln3 : elS K.P 3 = none := by kernel_rfl
theorem fl25_0 : flE K.P 25 0 = some (0, 3) := by kernel_rfl
theorem fl25_1 : flE K.P 25 1 = some (1, 23) := by kernel_rfl
theorem fl27_0 : flE K.P 27 0 = some (0, 3) := by kernel_rfl
theorem fl27_1 : flE K.P 27 1 = some (1, 3) := by kernel_rfl
theorem fl27_2 : flE K.P 27 2 = some (2, 3) := by kernel_rfl
theorem fl27_3 : flE K.P 27 3 = some (3, 22) := by kernel_rfl
theorem fl27_4 : flE K.P 27 4 = some (4, 25) := by kernel_rfl
theorem fl41_14 : flE K.P 41 14 = some (34, 3) := by kernel_rfl
theorem fl44_0 : flE K.P 44 0 = some (0, 41) := by kernel_rfl
theorem fl44_1 : flE K.P 44 1 = some (40, 42) := by kernel_rfl
theorem fl58_0 : flE K.P 58 0 = some (0, 3) := by kernel_rfl
theorem fl58_1 : flE K.P 58 1 = some (1, 44) := by kernel_rfl
theorem in105 : inK K.P 105 = some .u64 := by kernel_rfl
theorem in23 : inK K.P 23 = some .u64 := by kernel_rfl
theorem in3 : inK K.P 3 = some .i64 := by kernel_rfl
theorem ni9 : inK K.P 9 = none := by kernel_rfl
theorem sz22 : szOf K.P 22 = some 1 := by kernel_rfl
theorem sz23 : szOf K.P 23 = some 1 := by kernel_rfl
theorem sz25 : szOf K.P 25 = some 2 := by kernel_rfl
theorem sz27 : szOf K.P 27 = some 6 := by kernel_rfl
theorem sz3 : szOf K.P 3 = some 1 := by kernel_rfl
theorem sz41 : szOf K.P 41 = some 40 := by kernel_rfl
theorem sz42 : szOf K.P 42 = some 1 := by kernel_rfl
theorem sz44 : szOf K.P 44 = some 41 := by kernel_rfl
theorem sz5 : szOf K.P 5 = some 1 := by kernel_rfl
theorem sz58 : szOf K.P 58 = some 42 := by kernel_rfl
theorem un105 : K.P.underlying 105 = some (.int .u64) := by kernel_rfl
theorem un22 : K.P.underlying 22 = some (.slice 58) := by kernel_rfl
theorem un23 : K.P.underlying 23 = some (.int .u64) := by kernel_rfl
theorem un3 : K.P.underlying 3 = some (.int .i64) := by kernel_rfl
theorem un42 : K.P.underlying 42 = some (.slice 5) := by kernel_rfl
theorem un46 : K.P.underlying 46 = some (.slice 44) := by kernel_rfl
theorem un94 : K.P.underlying 94 = some (.slice 3) := by kernel_rfl
theorem ze25 : zer K.P 25 = some (e_Window Window.z) := by kernel_rfl
theorem ze27 : zer K.P 27 = some (e_Reorder Reorder.z vnil) := by kernel_rfl
theorem ze3 : zer K.P 3 = some [.v (.int .i64 0)] := by kernel_rfl
theorem ze44 : zer K.P 44 = some (e_Frame Frame.z vnil) := by kernel_rfl
theorem ze5 : zer K.P 5 = some [.v (.int .u8 0)] := by kernel_rfl
theorem ze58 : zer K.P 58 = some (e_HeldSeq HeldSeq.z vnil) := by kernel_rfl
attribute [go_sem] ag22 ag23 ag25 ag27 ag3 ag41 ag42 ag44 ag5 ag58 bl25 bl27 bl44 bl58 bs42_9 by3 by44 by5 by58 ek25 ek41 el22 el42 el46 el94 eln3 fl25_0 fl25_1 fl27_0 fl27_1 fl27_2 fl27_3 fl27_4 fl41_14 fl44_0 fl44_1 fl58_0 fl58_1 in105 in23 in3 ni9 sz22 sz23 sz25 sz27 sz3 sz41 sz42 sz44 sz5 sz58 un105 un22 un23 un3 un42 un46 un94 ze25 ze27 ze3 ze44 ze5 ze58
theorem mixed : K.P.follows .mixedOrders = true := by kernel_rfl
theorem hC : COk K := ⟨EqOk.of_tab (tab := tab) rfl (by kernel_rfl), mixed⟩
theorem rs42 : Try.f42.results = #[.tmp 2] := rfl
theorem rs16 : Try.f16.results = #[.tmp 4] := rfl
theorem rs27 : Try.f27.results = #[.cell 2 44] := rfl
theorem rs17 : Try.f17.results = #[.cell 2 27] := rfl
theorem rs39 : Try.f39.results = #[.tmp 2] := rfl
theorem rs58 : Try.f58.results = #[.tmp 2] := rfl
theorem rs40 : Try.f40.results = #[.tmp 2] := rfl
theorem rs38 : Try.f38.results = #[.tmp 4] := rfl
theorem rs41 : Try.f41.results = #[.tmp 2] := rfl
theorem rs14 : Try.f14.results = #[.tmp 2] := rfl
theorem rs63 : Try.f63.results = #[.tmp 5] := rfl
theorem rs62 : Try.f62.results = #[.tmp 6, .tmp 7] := rfl
theorem rs51 : Try.f51.results = #[.tmp 4, .tmp 5] := rfl
theorem rs32 : Try.f32.results = #[.tmp 4] := rfl
theorem rs57 : Try.f57.results = #[.tmp 4] := rfl
theorem rs64 : Try.f64.results = #[.cell 4 25, .tmp 5] := rfl
theorem rs65 : Try.f65.results = #[.cell 4 25, .tmp 5] := rfl
theorem rs52 : Try.f52.results = #[.cell 4 25] := rfl
theorem rs54 : Try.f54.results = #[.cell 2 44] := rfl
theorem rs43 : Try.f43.results = #[.tmp 2] := rfl
theorem rs53 : Try.f53.results = #[.tmp 6] := rfl
theorem rs44 : Try.f44.results = #[.tmp 4, .cell 5 27] := rfl
theorem rs28 : Try.f28.results = #[.tmp 6, .cell 7 27, .tmp 8] := rfl
theorem rs15 : Try.f15.results = #[.tmp 2] := rfl
theorem rs48 : Try.f48.results = #[.tmp 2] := rfl
theorem rs59 : Try.f59.results = #[.tmp 2] := rfl
theorem rs45 : Try.f45.results = #[.tmp 4] := rfl
theorem rs26 : Try.f26.results = #[.tmp 2] := rfl
theorem rs55 : Try.f55.results = #[.tmp 4, .tmp 5] := rfl
theorem rs60 : Try.f60.results = #[.tmp 4] := rfl
theorem rs74 : Try.f74.results = #[.tmp 2] := rfl
theorem rs75 : Try.f75.results = #[.tmp 4] := rfl
theorem rs72 : Try.f72.results = #[.tmp 2] := rfl
theorem rs71 : Try.f71.results = #[.cell 4 25] := rfl
theorem rs68 : Try.f68.results = #[.cell 4 25, .tmp 5] := rfl
theorem rs69 : Try.f69.results = #[.cell 4 25, .tmp 5] := rfl
theorem rs56 : Try.f56.results = #[.cell 4 25] := rfl
theorem rs46 : Try.f46.results = #[.tmp 4, .cell 5 27] := rfl
theorem rs29 : Try.f29.results = #[.tmp 6, .cell 7 27, .tmp 8] := rfl
theorem rs30 : Try.f30.results = #[.tmp 4] := rfl
theorem rs22 : Try.f22.results = #[.tmp 4] := rfl
theorem rs13 : Try.f13.results = #[.tmp 4] := rfl
theorem rs5 : Try.f5.results = #[.tmp 6] := rfl

end Go.AX.Z.TR

/-! (TFS) -/

set_option linter.unusedSimpArgs false
set_option linter.unusedVariables false
namespace Go.AX.Z.TR.F
open Go.AX

/-- A number: the blocks from it on are new. -/
class FN where
 n : Nat
variable [FN]

/-! ## Frames whose bodies lie in new blocks -/

def T_vu (l : List Int) : AV := .fim FN.n (l.map vu) l.length
theorem T_vu_eq (l : List Int) : T_vu l = .fim FN.n (l.map vu) l.length := rfl
theorem T_vu_clean (l : List Int) : Clean (T_vu l) := Clean.fim (vu_clean l)
theorem f_T_vu (l : List Int) (o : Nat → Ob) (n : Nat) : fz o (n + 2) (T_vu l) = T_vu l := by simp only [T_vu_eq, fz, vu_fz]
theorem q_T_vu (l : List Int) (o : Nat → Ob) (n : Nat) : reach o (n + 2) (T_vu l) = [] := by simp only [T_vu_eq, reach, vu_rch]
attribute [go_sem] T_vu_eq f_T_vu q_T_vu

def E_Frame (x : Frame) : List AV := e_Frame x (T_vu x.Body)
theorem E_Frame_eq (x : Frame) : E_Frame x = e_Frame x (T_vu x.Body) := rfl
theorem E_Frame_clean (x : Frame) : ∀ c ∈ E_Frame x, Clean c := e_Frame_clean x _ (T_vu_clean _)
theorem f_Frame (x : Frame) (o : Nat → Ob) (n : Nat) : (E_Frame x).map (fz o (n + 2)) = E_Frame x := by simp only [E_Frame_eq, e_Frame_fz, f_T_vu]
theorem q_Frame (x : Frame) (o : Nat → Ob) (n : Nat) : (E_Frame x).flatMap (reach o (n + 2)) = [] := by simp only [E_Frame_eq, e_Frame_reach, q_T_vu, List.append_nil]
attribute [go_sem] E_Frame_eq f_Frame q_Frame
def E_HeldSeq (x : HeldSeq) : List AV := e_HeldSeq x (T_vu x.Frame.Body)
theorem E_HeldSeq_eq (x : HeldSeq) : E_HeldSeq x = e_HeldSeq x (T_vu x.Frame.Body) := rfl
theorem E_HeldSeq_clean (x : HeldSeq) : ∀ c ∈ E_HeldSeq x, Clean c := e_HeldSeq_clean x _ (T_vu_clean _)
theorem f_HeldSeq (x : HeldSeq) (o : Nat → Ob) (n : Nat) : (E_HeldSeq x).map (fz o (n + 2)) = E_HeldSeq x := by simp only [E_HeldSeq_eq, e_HeldSeq_fz, f_T_vu]
theorem q_HeldSeq (x : HeldSeq) (o : Nat → Ob) (n : Nat) : (E_HeldSeq x).flatMap (reach o (n + 2)) = [] := by simp only [E_HeldSeq_eq, e_HeldSeq_reach, q_T_vu, List.append_nil]
attribute [go_sem] E_HeldSeq_eq f_HeldSeq q_HeldSeq
def S_HeldSeq (l : List HeldSeq) : AV := .imm (List.flatMap E_HeldSeq l) l.length
theorem S_HeldSeq_eq (l : List HeldSeq) : S_HeldSeq l = .imm (List.flatMap E_HeldSeq l) l.length := rfl
theorem l_HeldSeq (x : HeldSeq) : (E_HeldSeq x).length = 42 := by rfl
theorem S_HeldSeq_clean (l : List HeldSeq) : Clean (S_HeldSeq l) := Clean.imm (rows_clean E_HeldSeq_clean l)
theorem c_HeldSeq (l : List HeldSeq) : ∀ c ∈ l.flatMap E_HeldSeq, Clean c := rows_clean E_HeldSeq_clean l
theorem r_HeldSeq_len (l : List HeldSeq) : (l.flatMap E_HeldSeq).length = l.length * 42 := flat_len l_HeldSeq l
theorem r_HeldSeq_get (l : List HeldSeq) (i o : Nat) (ho : o < 42) : (l.flatMap E_HeldSeq)[i * 42 + o]? = l[i]?.bind fun a => (E_HeldSeq a)[o]? := rows_get l_HeldSeq l i o ho
theorem r_HeldSeq_get0 (l : List HeldSeq) (i : Nat) : (l.flatMap E_HeldSeq)[i * 42]? = l[i]?.bind fun a => (E_HeldSeq a)[0]? := rows_get l_HeldSeq l i 0 (by decide)
theorem r_HeldSeq_sub (l : List HeldSeq) (i o n : Nat) (ho : o + n ≤ 42) (hn : 0 < n) : sub? (l.flatMap E_HeldSeq) (i * 42 + o) n = l[i]?.bind fun a => sub? (E_HeldSeq a) o n := rows_sub l_HeldSeq l i o n ho hn
theorem r_HeldSeq_sub0 (l : List HeldSeq) (i n : Nat) (ho : n ≤ 42) (hn : 0 < n) : sub? (l.flatMap E_HeldSeq) (i * 42) n = l[i]?.bind fun a => sub? (E_HeldSeq a) 0 n := rows_sub l_HeldSeq l i 0 n (by omega) hn
theorem r_HeldSeq_getL (l : List HeldSeq) (o : Nat) : (l.flatMap E_HeldSeq)[o]? = l[o / 42]?.bind fun a => (E_HeldSeq a)[o % 42]? := rows_getL l_HeldSeq (by decide) l o
theorem r_HeldSeq_subL (l : List HeldSeq) (o n : Nat) (ho : o % 42 + n ≤ 42) (hn : 0 < n) : sub? (l.flatMap E_HeldSeq) o n = l[o / 42]?.bind fun a => sub? (E_HeldSeq a) (o % 42) n := rows_subL l_HeldSeq l o n ho hn
theorem r_HeldSeq_subw (l : List HeldSeq) : sub? (l.flatMap E_HeldSeq) 0 (l.length * 42) = some (l.flatMap E_HeldSeq) := rows_subw l_HeldSeq l
theorem r_HeldSeq_take (l : List HeldSeq) (n : Nat) : (l.flatMap E_HeldSeq).take (n * 42) = (l.take n).flatMap E_HeldSeq := rows_take l_HeldSeq l n
theorem r_HeldSeq_drop (l : List HeldSeq) (n : Nat) : (l.flatMap E_HeldSeq).drop (n * 42) = (l.drop n).flatMap E_HeldSeq := rows_drop l_HeldSeq l n
theorem r_HeldSeq_fz (l : List HeldSeq) (o : Nat → Ob) (n : Nat) : (l.flatMap E_HeldSeq).map (fz o (n + 2)) = (l.flatMap E_HeldSeq) := rows_fz (fun a => f_HeldSeq a o n) l
theorem r_HeldSeq_rch (l : List HeldSeq) (o : Nat → Ob) (n : Nat) : (l.flatMap E_HeldSeq).flatMap (reach o (n + 2)) = [] := rows_reach (fun a => q_HeldSeq a o n) l
theorem r_HeldSeq_s_At (l : List HeldSeq) (i : Nat) (v : Int) : (l.flatMap E_HeldSeq).set (i * 42) (vi v) = (l.modify i (fun y => { y with At := v })).flatMap E_HeldSeq := rows_set l_HeldSeq l i 0 _ (fun y => { y with At := v }) (by decide) (fun _ => by rfl)
theorem r_HeldSeq_s_Frame_Head_Kind (l : List HeldSeq) (i : Nat) (v : Int) : (l.flatMap E_HeldSeq).set (i * 42 + 1) (vu v) = (l.modify i (fun y => { y with Frame.Head.Kind := v })).flatMap E_HeldSeq := rows_set l_HeldSeq l i 1 _ (fun y => { y with Frame.Head.Kind := v }) (by decide) (fun _ => by rfl)
theorem r_HeldSeq_s_Frame_Head_Sub (l : List HeldSeq) (i : Nat) (v : Int) : (l.flatMap E_HeldSeq).set (i * 42 + 2) (vu v) = (l.modify i (fun y => { y with Frame.Head.Sub := v })).flatMap E_HeldSeq := rows_set l_HeldSeq l i 2 _ (fun y => { y with Frame.Head.Sub := v }) (by decide) (fun _ => by rfl)
theorem r_HeldSeq_s_Frame_Head_ToDs (l : List HeldSeq) (i : Nat) (v : Bool) : (l.flatMap E_HeldSeq).set (i * 42 + 3) (vb v) = (l.modify i (fun y => { y with Frame.Head.ToDs := v })).flatMap E_HeldSeq := rows_set l_HeldSeq l i 3 _ (fun y => { y with Frame.Head.ToDs := v }) (by decide) (fun _ => by rfl)
theorem r_HeldSeq_s_Frame_Head_FromDs (l : List HeldSeq) (i : Nat) (v : Bool) : (l.flatMap E_HeldSeq).set (i * 42 + 4) (vb v) = (l.modify i (fun y => { y with Frame.Head.FromDs := v })).flatMap E_HeldSeq := rows_set l_HeldSeq l i 4 _ (fun y => { y with Frame.Head.FromDs := v }) (by decide) (fun _ => by rfl)
theorem r_HeldSeq_s_Frame_Head_More (l : List HeldSeq) (i : Nat) (v : Bool) : (l.flatMap E_HeldSeq).set (i * 42 + 5) (vb v) = (l.modify i (fun y => { y with Frame.Head.More := v })).flatMap E_HeldSeq := rows_set l_HeldSeq l i 5 _ (fun y => { y with Frame.Head.More := v }) (by decide) (fun _ => by rfl)
theorem r_HeldSeq_s_Frame_Head_Retry (l : List HeldSeq) (i : Nat) (v : Bool) : (l.flatMap E_HeldSeq).set (i * 42 + 6) (vb v) = (l.modify i (fun y => { y with Frame.Head.Retry := v })).flatMap E_HeldSeq := rows_set l_HeldSeq l i 6 _ (fun y => { y with Frame.Head.Retry := v }) (by decide) (fun _ => by rfl)
theorem r_HeldSeq_s_Frame_Head_Sleep (l : List HeldSeq) (i : Nat) (v : Bool) : (l.flatMap E_HeldSeq).set (i * 42 + 7) (vb v) = (l.modify i (fun y => { y with Frame.Head.Sleep := v })).flatMap E_HeldSeq := rows_set l_HeldSeq l i 7 _ (fun y => { y with Frame.Head.Sleep := v }) (by decide) (fun _ => by rfl)
theorem r_HeldSeq_s_Frame_Head_MoreData (l : List HeldSeq) (i : Nat) (v : Bool) : (l.flatMap E_HeldSeq).set (i * 42 + 8) (vb v) = (l.modify i (fun y => { y with Frame.Head.MoreData := v })).flatMap E_HeldSeq := rows_set l_HeldSeq l i 8 _ (fun y => { y with Frame.Head.MoreData := v }) (by decide) (fun _ => by rfl)
theorem r_HeldSeq_s_Frame_Head_Protected (l : List HeldSeq) (i : Nat) (v : Bool) : (l.flatMap E_HeldSeq).set (i * 42 + 9) (vb v) = (l.modify i (fun y => { y with Frame.Head.Protected := v })).flatMap E_HeldSeq := rows_set l_HeldSeq l i 9 _ (fun y => { y with Frame.Head.Protected := v }) (by decide) (fun _ => by rfl)
theorem r_HeldSeq_s_Frame_Head_Duration (l : List HeldSeq) (i : Nat) (v : Int) : (l.flatMap E_HeldSeq).set (i * 42 + 10) (vi v) = (l.modify i (fun y => { y with Frame.Head.Duration := v })).flatMap E_HeldSeq := rows_set l_HeldSeq l i 10 _ (fun y => { y with Frame.Head.Duration := v }) (by decide) (fun _ => by rfl)
theorem r_HeldSeq_s_Frame_Head_A1_a0 (l : List HeldSeq) (i : Nat) (v : Int) : (l.flatMap E_HeldSeq).set (i * 42 + 11) (vu v) = (l.modify i (fun y => { y with Frame.Head.A1.a0 := v })).flatMap E_HeldSeq := rows_set l_HeldSeq l i 11 _ (fun y => { y with Frame.Head.A1.a0 := v }) (by decide) (fun _ => by rfl)
theorem r_HeldSeq_s_Frame_Head_A1_a1 (l : List HeldSeq) (i : Nat) (v : Int) : (l.flatMap E_HeldSeq).set (i * 42 + 12) (vu v) = (l.modify i (fun y => { y with Frame.Head.A1.a1 := v })).flatMap E_HeldSeq := rows_set l_HeldSeq l i 12 _ (fun y => { y with Frame.Head.A1.a1 := v }) (by decide) (fun _ => by rfl)
theorem r_HeldSeq_s_Frame_Head_A1_a2 (l : List HeldSeq) (i : Nat) (v : Int) : (l.flatMap E_HeldSeq).set (i * 42 + 13) (vu v) = (l.modify i (fun y => { y with Frame.Head.A1.a2 := v })).flatMap E_HeldSeq := rows_set l_HeldSeq l i 13 _ (fun y => { y with Frame.Head.A1.a2 := v }) (by decide) (fun _ => by rfl)
theorem r_HeldSeq_s_Frame_Head_A1_a3 (l : List HeldSeq) (i : Nat) (v : Int) : (l.flatMap E_HeldSeq).set (i * 42 + 14) (vu v) = (l.modify i (fun y => { y with Frame.Head.A1.a3 := v })).flatMap E_HeldSeq := rows_set l_HeldSeq l i 14 _ (fun y => { y with Frame.Head.A1.a3 := v }) (by decide) (fun _ => by rfl)
theorem r_HeldSeq_s_Frame_Head_A1_a4 (l : List HeldSeq) (i : Nat) (v : Int) : (l.flatMap E_HeldSeq).set (i * 42 + 15) (vu v) = (l.modify i (fun y => { y with Frame.Head.A1.a4 := v })).flatMap E_HeldSeq := rows_set l_HeldSeq l i 15 _ (fun y => { y with Frame.Head.A1.a4 := v }) (by decide) (fun _ => by rfl)
theorem r_HeldSeq_s_Frame_Head_A1_a5 (l : List HeldSeq) (i : Nat) (v : Int) : (l.flatMap E_HeldSeq).set (i * 42 + 16) (vu v) = (l.modify i (fun y => { y with Frame.Head.A1.a5 := v })).flatMap E_HeldSeq := rows_set l_HeldSeq l i 16 _ (fun y => { y with Frame.Head.A1.a5 := v }) (by decide) (fun _ => by rfl)
theorem r_HeldSeq_s_Frame_Head_A2_a0 (l : List HeldSeq) (i : Nat) (v : Int) : (l.flatMap E_HeldSeq).set (i * 42 + 17) (vu v) = (l.modify i (fun y => { y with Frame.Head.A2.a0 := v })).flatMap E_HeldSeq := rows_set l_HeldSeq l i 17 _ (fun y => { y with Frame.Head.A2.a0 := v }) (by decide) (fun _ => by rfl)
theorem r_HeldSeq_s_Frame_Head_A2_a1 (l : List HeldSeq) (i : Nat) (v : Int) : (l.flatMap E_HeldSeq).set (i * 42 + 18) (vu v) = (l.modify i (fun y => { y with Frame.Head.A2.a1 := v })).flatMap E_HeldSeq := rows_set l_HeldSeq l i 18 _ (fun y => { y with Frame.Head.A2.a1 := v }) (by decide) (fun _ => by rfl)
theorem r_HeldSeq_s_Frame_Head_A2_a2 (l : List HeldSeq) (i : Nat) (v : Int) : (l.flatMap E_HeldSeq).set (i * 42 + 19) (vu v) = (l.modify i (fun y => { y with Frame.Head.A2.a2 := v })).flatMap E_HeldSeq := rows_set l_HeldSeq l i 19 _ (fun y => { y with Frame.Head.A2.a2 := v }) (by decide) (fun _ => by rfl)
theorem r_HeldSeq_s_Frame_Head_A2_a3 (l : List HeldSeq) (i : Nat) (v : Int) : (l.flatMap E_HeldSeq).set (i * 42 + 20) (vu v) = (l.modify i (fun y => { y with Frame.Head.A2.a3 := v })).flatMap E_HeldSeq := rows_set l_HeldSeq l i 20 _ (fun y => { y with Frame.Head.A2.a3 := v }) (by decide) (fun _ => by rfl)
theorem r_HeldSeq_s_Frame_Head_A2_a4 (l : List HeldSeq) (i : Nat) (v : Int) : (l.flatMap E_HeldSeq).set (i * 42 + 21) (vu v) = (l.modify i (fun y => { y with Frame.Head.A2.a4 := v })).flatMap E_HeldSeq := rows_set l_HeldSeq l i 21 _ (fun y => { y with Frame.Head.A2.a4 := v }) (by decide) (fun _ => by rfl)
theorem r_HeldSeq_s_Frame_Head_A2_a5 (l : List HeldSeq) (i : Nat) (v : Int) : (l.flatMap E_HeldSeq).set (i * 42 + 22) (vu v) = (l.modify i (fun y => { y with Frame.Head.A2.a5 := v })).flatMap E_HeldSeq := rows_set l_HeldSeq l i 22 _ (fun y => { y with Frame.Head.A2.a5 := v }) (by decide) (fun _ => by rfl)
theorem r_HeldSeq_s_Frame_Head_A3_a0 (l : List HeldSeq) (i : Nat) (v : Int) : (l.flatMap E_HeldSeq).set (i * 42 + 23) (vu v) = (l.modify i (fun y => { y with Frame.Head.A3.a0 := v })).flatMap E_HeldSeq := rows_set l_HeldSeq l i 23 _ (fun y => { y with Frame.Head.A3.a0 := v }) (by decide) (fun _ => by rfl)
theorem r_HeldSeq_s_Frame_Head_A3_a1 (l : List HeldSeq) (i : Nat) (v : Int) : (l.flatMap E_HeldSeq).set (i * 42 + 24) (vu v) = (l.modify i (fun y => { y with Frame.Head.A3.a1 := v })).flatMap E_HeldSeq := rows_set l_HeldSeq l i 24 _ (fun y => { y with Frame.Head.A3.a1 := v }) (by decide) (fun _ => by rfl)
theorem r_HeldSeq_s_Frame_Head_A3_a2 (l : List HeldSeq) (i : Nat) (v : Int) : (l.flatMap E_HeldSeq).set (i * 42 + 25) (vu v) = (l.modify i (fun y => { y with Frame.Head.A3.a2 := v })).flatMap E_HeldSeq := rows_set l_HeldSeq l i 25 _ (fun y => { y with Frame.Head.A3.a2 := v }) (by decide) (fun _ => by rfl)
theorem r_HeldSeq_s_Frame_Head_A3_a3 (l : List HeldSeq) (i : Nat) (v : Int) : (l.flatMap E_HeldSeq).set (i * 42 + 26) (vu v) = (l.modify i (fun y => { y with Frame.Head.A3.a3 := v })).flatMap E_HeldSeq := rows_set l_HeldSeq l i 26 _ (fun y => { y with Frame.Head.A3.a3 := v }) (by decide) (fun _ => by rfl)
theorem r_HeldSeq_s_Frame_Head_A3_a4 (l : List HeldSeq) (i : Nat) (v : Int) : (l.flatMap E_HeldSeq).set (i * 42 + 27) (vu v) = (l.modify i (fun y => { y with Frame.Head.A3.a4 := v })).flatMap E_HeldSeq := rows_set l_HeldSeq l i 27 _ (fun y => { y with Frame.Head.A3.a4 := v }) (by decide) (fun _ => by rfl)
theorem r_HeldSeq_s_Frame_Head_A3_a5 (l : List HeldSeq) (i : Nat) (v : Int) : (l.flatMap E_HeldSeq).set (i * 42 + 28) (vu v) = (l.modify i (fun y => { y with Frame.Head.A3.a5 := v })).flatMap E_HeldSeq := rows_set l_HeldSeq l i 28 _ (fun y => { y with Frame.Head.A3.a5 := v }) (by decide) (fun _ => by rfl)
theorem r_HeldSeq_s_Frame_Head_A4_a0 (l : List HeldSeq) (i : Nat) (v : Int) : (l.flatMap E_HeldSeq).set (i * 42 + 29) (vu v) = (l.modify i (fun y => { y with Frame.Head.A4.a0 := v })).flatMap E_HeldSeq := rows_set l_HeldSeq l i 29 _ (fun y => { y with Frame.Head.A4.a0 := v }) (by decide) (fun _ => by rfl)
theorem r_HeldSeq_s_Frame_Head_A4_a1 (l : List HeldSeq) (i : Nat) (v : Int) : (l.flatMap E_HeldSeq).set (i * 42 + 30) (vu v) = (l.modify i (fun y => { y with Frame.Head.A4.a1 := v })).flatMap E_HeldSeq := rows_set l_HeldSeq l i 30 _ (fun y => { y with Frame.Head.A4.a1 := v }) (by decide) (fun _ => by rfl)
theorem r_HeldSeq_s_Frame_Head_A4_a2 (l : List HeldSeq) (i : Nat) (v : Int) : (l.flatMap E_HeldSeq).set (i * 42 + 31) (vu v) = (l.modify i (fun y => { y with Frame.Head.A4.a2 := v })).flatMap E_HeldSeq := rows_set l_HeldSeq l i 31 _ (fun y => { y with Frame.Head.A4.a2 := v }) (by decide) (fun _ => by rfl)
theorem r_HeldSeq_s_Frame_Head_A4_a3 (l : List HeldSeq) (i : Nat) (v : Int) : (l.flatMap E_HeldSeq).set (i * 42 + 32) (vu v) = (l.modify i (fun y => { y with Frame.Head.A4.a3 := v })).flatMap E_HeldSeq := rows_set l_HeldSeq l i 32 _ (fun y => { y with Frame.Head.A4.a3 := v }) (by decide) (fun _ => by rfl)
theorem r_HeldSeq_s_Frame_Head_A4_a4 (l : List HeldSeq) (i : Nat) (v : Int) : (l.flatMap E_HeldSeq).set (i * 42 + 33) (vu v) = (l.modify i (fun y => { y with Frame.Head.A4.a4 := v })).flatMap E_HeldSeq := rows_set l_HeldSeq l i 33 _ (fun y => { y with Frame.Head.A4.a4 := v }) (by decide) (fun _ => by rfl)
theorem r_HeldSeq_s_Frame_Head_A4_a5 (l : List HeldSeq) (i : Nat) (v : Int) : (l.flatMap E_HeldSeq).set (i * 42 + 34) (vu v) = (l.modify i (fun y => { y with Frame.Head.A4.a5 := v })).flatMap E_HeldSeq := rows_set l_HeldSeq l i 34 _ (fun y => { y with Frame.Head.A4.a5 := v }) (by decide) (fun _ => by rfl)
theorem r_HeldSeq_s_Frame_Head_Seq (l : List HeldSeq) (i : Nat) (v : Int) : (l.flatMap E_HeldSeq).set (i * 42 + 35) (vi v) = (l.modify i (fun y => { y with Frame.Head.Seq := v })).flatMap E_HeldSeq := rows_set l_HeldSeq l i 35 _ (fun y => { y with Frame.Head.Seq := v }) (by decide) (fun _ => by rfl)
theorem r_HeldSeq_s_Frame_Head_Frag (l : List HeldSeq) (i : Nat) (v : Int) : (l.flatMap E_HeldSeq).set (i * 42 + 36) (vi v) = (l.modify i (fun y => { y with Frame.Head.Frag := v })).flatMap E_HeldSeq := rows_set l_HeldSeq l i 36 _ (fun y => { y with Frame.Head.Frag := v }) (by decide) (fun _ => by rfl)
theorem r_HeldSeq_s_Frame_Head_Tid (l : List HeldSeq) (i : Nat) (v : Int) : (l.flatMap E_HeldSeq).set (i * 42 + 37) (vi v) = (l.modify i (fun y => { y with Frame.Head.Tid := v })).flatMap E_HeldSeq := rows_set l_HeldSeq l i 37 _ (fun y => { y with Frame.Head.Tid := v }) (by decide) (fun _ => by rfl)
theorem r_HeldSeq_s_Frame_Head_Ack (l : List HeldSeq) (i : Nat) (v : Int) : (l.flatMap E_HeldSeq).set (i * 42 + 38) (vu v) = (l.modify i (fun y => { y with Frame.Head.Ack := v })).flatMap E_HeldSeq := rows_set l_HeldSeq l i 38 _ (fun y => { y with Frame.Head.Ack := v }) (by decide) (fun _ => by rfl)
theorem r_HeldSeq_s_Frame_Head_Amsdu (l : List HeldSeq) (i : Nat) (v : Bool) : (l.flatMap E_HeldSeq).set (i * 42 + 39) (vb v) = (l.modify i (fun y => { y with Frame.Head.Amsdu := v })).flatMap E_HeldSeq := rows_set l_HeldSeq l i 39 _ (fun y => { y with Frame.Head.Amsdu := v }) (by decide) (fun _ => by rfl)
theorem r_HeldSeq_s_Frame_Head_Eosp (l : List HeldSeq) (i : Nat) (v : Bool) : (l.flatMap E_HeldSeq).set (i * 42 + 40) (vb v) = (l.modify i (fun y => { y with Frame.Head.Eosp := v })).flatMap E_HeldSeq := rows_set l_HeldSeq l i 40 _ (fun y => { y with Frame.Head.Eosp := v }) (by decide) (fun _ => by rfl)
theorem r_HeldSeq_put (l : List HeldSeq) (i : Nat) (x : HeldSeq) (b0 : (List Int)) : putAt (l.flatMap E_HeldSeq) (i * 42) (e_HeldSeq x (.fim FN.n (List.map vu b0) b0.length)) = (l.set i { x with Frame.Body := b0 }).flatMap E_HeldSeq := rows_put l_HeldSeq (by decide) l i { x with Frame.Body := b0 }
theorem r_HeldSeq_app (l : List HeldSeq) (x : HeldSeq) (b0 : (List Int)) : (l.flatMap E_HeldSeq) ++ e_HeldSeq x (T_vu b0) = (l ++ [{ x with Frame.Body := b0 }]).flatMap E_HeldSeq := by rw [List.flatMap_append]; simp only [List.flatMap_cons, List.flatMap_nil, List.append_nil]; rfl
theorem r_HeldSeq_cat (l : List HeldSeq) (m : List HeldSeq) : (l.flatMap E_HeldSeq) ++ m.flatMap E_HeldSeq = (l ++ m).flatMap E_HeldSeq := List.flatMap_append.symm
theorem f_S_HeldSeq (l : List HeldSeq) (o : Nat → Ob) (n : Nat) : fz o (n + 3) (S_HeldSeq l) = S_HeldSeq l := by simp only [S_HeldSeq_eq, fz, r_HeldSeq_fz]
theorem q_S_HeldSeq (l : List HeldSeq) (o : Nat → Ob) (n : Nat) : reach o (n + 3) (S_HeldSeq l) = [] := by simp only [S_HeldSeq_eq, reach, r_HeldSeq_rch]
attribute [go_sem] S_HeldSeq_eq l_HeldSeq r_HeldSeq_len r_HeldSeq_get r_HeldSeq_get0 r_HeldSeq_sub r_HeldSeq_sub0 r_HeldSeq_subw r_HeldSeq_take r_HeldSeq_drop r_HeldSeq_fz r_HeldSeq_rch r_HeldSeq_s_At r_HeldSeq_s_Frame_Head_Kind r_HeldSeq_s_Frame_Head_Sub r_HeldSeq_s_Frame_Head_ToDs r_HeldSeq_s_Frame_Head_FromDs r_HeldSeq_s_Frame_Head_More r_HeldSeq_s_Frame_Head_Retry r_HeldSeq_s_Frame_Head_Sleep r_HeldSeq_s_Frame_Head_MoreData r_HeldSeq_s_Frame_Head_Protected r_HeldSeq_s_Frame_Head_Duration r_HeldSeq_s_Frame_Head_A1_a0 r_HeldSeq_s_Frame_Head_A1_a1 r_HeldSeq_s_Frame_Head_A1_a2 r_HeldSeq_s_Frame_Head_A1_a3 r_HeldSeq_s_Frame_Head_A1_a4 r_HeldSeq_s_Frame_Head_A1_a5 r_HeldSeq_s_Frame_Head_A2_a0 r_HeldSeq_s_Frame_Head_A2_a1 r_HeldSeq_s_Frame_Head_A2_a2 r_HeldSeq_s_Frame_Head_A2_a3 r_HeldSeq_s_Frame_Head_A2_a4 r_HeldSeq_s_Frame_Head_A2_a5 r_HeldSeq_s_Frame_Head_A3_a0 r_HeldSeq_s_Frame_Head_A3_a1 r_HeldSeq_s_Frame_Head_A3_a2 r_HeldSeq_s_Frame_Head_A3_a3 r_HeldSeq_s_Frame_Head_A3_a4 r_HeldSeq_s_Frame_Head_A3_a5 r_HeldSeq_s_Frame_Head_A4_a0 r_HeldSeq_s_Frame_Head_A4_a1 r_HeldSeq_s_Frame_Head_A4_a2 r_HeldSeq_s_Frame_Head_A4_a3 r_HeldSeq_s_Frame_Head_A4_a4 r_HeldSeq_s_Frame_Head_A4_a5 r_HeldSeq_s_Frame_Head_Seq r_HeldSeq_s_Frame_Head_Frag r_HeldSeq_s_Frame_Head_Tid r_HeldSeq_s_Frame_Head_Ack r_HeldSeq_s_Frame_Head_Amsdu r_HeldSeq_s_Frame_Head_Eosp r_HeldSeq_put r_HeldSeq_app r_HeldSeq_cat f_S_HeldSeq q_S_HeldSeq
def E_Reorder (x : Reorder) : List AV := e_Reorder x (S_HeldSeq x.Held)
theorem E_Reorder_eq (x : Reorder) : E_Reorder x = e_Reorder x (S_HeldSeq x.Held) := rfl
theorem E_Reorder_clean (x : Reorder) : ∀ c ∈ E_Reorder x, Clean c := e_Reorder_clean x _ (S_HeldSeq_clean _)
theorem f_Reorder (x : Reorder) (o : Nat → Ob) (n : Nat) : (E_Reorder x).map (fz o (n + 3)) = E_Reorder x := by simp only [E_Reorder_eq, e_Reorder_fz, f_S_HeldSeq]
theorem q_Reorder (x : Reorder) (o : Nat → Ob) (n : Nat) : (E_Reorder x).flatMap (reach o (n + 3)) = [] := by simp only [E_Reorder_eq, e_Reorder_reach, q_S_HeldSeq, List.append_nil]
attribute [go_sem] E_Reorder_eq f_Reorder q_Reorder
def S_Frame (l : List Frame) : AV := .imm (List.flatMap E_Frame l) l.length
theorem S_Frame_eq (l : List Frame) : S_Frame l = .imm (List.flatMap E_Frame l) l.length := rfl
theorem l_Frame (x : Frame) : (E_Frame x).length = 41 := by rfl
theorem S_Frame_clean (l : List Frame) : Clean (S_Frame l) := Clean.imm (rows_clean E_Frame_clean l)
theorem c_Frame (l : List Frame) : ∀ c ∈ l.flatMap E_Frame, Clean c := rows_clean E_Frame_clean l
theorem r_Frame_len (l : List Frame) : (l.flatMap E_Frame).length = l.length * 41 := flat_len l_Frame l
theorem r_Frame_get (l : List Frame) (i o : Nat) (ho : o < 41) : (l.flatMap E_Frame)[i * 41 + o]? = l[i]?.bind fun a => (E_Frame a)[o]? := rows_get l_Frame l i o ho
theorem r_Frame_get0 (l : List Frame) (i : Nat) : (l.flatMap E_Frame)[i * 41]? = l[i]?.bind fun a => (E_Frame a)[0]? := rows_get l_Frame l i 0 (by decide)
theorem r_Frame_sub (l : List Frame) (i o n : Nat) (ho : o + n ≤ 41) (hn : 0 < n) : sub? (l.flatMap E_Frame) (i * 41 + o) n = l[i]?.bind fun a => sub? (E_Frame a) o n := rows_sub l_Frame l i o n ho hn
theorem r_Frame_sub0 (l : List Frame) (i n : Nat) (ho : n ≤ 41) (hn : 0 < n) : sub? (l.flatMap E_Frame) (i * 41) n = l[i]?.bind fun a => sub? (E_Frame a) 0 n := rows_sub l_Frame l i 0 n (by omega) hn
theorem r_Frame_getL (l : List Frame) (o : Nat) : (l.flatMap E_Frame)[o]? = l[o / 41]?.bind fun a => (E_Frame a)[o % 41]? := rows_getL l_Frame (by decide) l o
theorem r_Frame_subL (l : List Frame) (o n : Nat) (ho : o % 41 + n ≤ 41) (hn : 0 < n) : sub? (l.flatMap E_Frame) o n = l[o / 41]?.bind fun a => sub? (E_Frame a) (o % 41) n := rows_subL l_Frame l o n ho hn
theorem r_Frame_subw (l : List Frame) : sub? (l.flatMap E_Frame) 0 (l.length * 41) = some (l.flatMap E_Frame) := rows_subw l_Frame l
theorem r_Frame_take (l : List Frame) (n : Nat) : (l.flatMap E_Frame).take (n * 41) = (l.take n).flatMap E_Frame := rows_take l_Frame l n
theorem r_Frame_drop (l : List Frame) (n : Nat) : (l.flatMap E_Frame).drop (n * 41) = (l.drop n).flatMap E_Frame := rows_drop l_Frame l n
theorem r_Frame_fz (l : List Frame) (o : Nat → Ob) (n : Nat) : (l.flatMap E_Frame).map (fz o (n + 2)) = (l.flatMap E_Frame) := rows_fz (fun a => f_Frame a o n) l
theorem r_Frame_rch (l : List Frame) (o : Nat → Ob) (n : Nat) : (l.flatMap E_Frame).flatMap (reach o (n + 2)) = [] := rows_reach (fun a => q_Frame a o n) l
theorem r_Frame_s_Head_Kind (l : List Frame) (i : Nat) (v : Int) : (l.flatMap E_Frame).set (i * 41) (vu v) = (l.modify i (fun y => { y with Head.Kind := v })).flatMap E_Frame := rows_set l_Frame l i 0 _ (fun y => { y with Head.Kind := v }) (by decide) (fun _ => by rfl)
theorem r_Frame_s_Head_Sub (l : List Frame) (i : Nat) (v : Int) : (l.flatMap E_Frame).set (i * 41 + 1) (vu v) = (l.modify i (fun y => { y with Head.Sub := v })).flatMap E_Frame := rows_set l_Frame l i 1 _ (fun y => { y with Head.Sub := v }) (by decide) (fun _ => by rfl)
theorem r_Frame_s_Head_ToDs (l : List Frame) (i : Nat) (v : Bool) : (l.flatMap E_Frame).set (i * 41 + 2) (vb v) = (l.modify i (fun y => { y with Head.ToDs := v })).flatMap E_Frame := rows_set l_Frame l i 2 _ (fun y => { y with Head.ToDs := v }) (by decide) (fun _ => by rfl)
theorem r_Frame_s_Head_FromDs (l : List Frame) (i : Nat) (v : Bool) : (l.flatMap E_Frame).set (i * 41 + 3) (vb v) = (l.modify i (fun y => { y with Head.FromDs := v })).flatMap E_Frame := rows_set l_Frame l i 3 _ (fun y => { y with Head.FromDs := v }) (by decide) (fun _ => by rfl)
theorem r_Frame_s_Head_More (l : List Frame) (i : Nat) (v : Bool) : (l.flatMap E_Frame).set (i * 41 + 4) (vb v) = (l.modify i (fun y => { y with Head.More := v })).flatMap E_Frame := rows_set l_Frame l i 4 _ (fun y => { y with Head.More := v }) (by decide) (fun _ => by rfl)
theorem r_Frame_s_Head_Retry (l : List Frame) (i : Nat) (v : Bool) : (l.flatMap E_Frame).set (i * 41 + 5) (vb v) = (l.modify i (fun y => { y with Head.Retry := v })).flatMap E_Frame := rows_set l_Frame l i 5 _ (fun y => { y with Head.Retry := v }) (by decide) (fun _ => by rfl)
theorem r_Frame_s_Head_Sleep (l : List Frame) (i : Nat) (v : Bool) : (l.flatMap E_Frame).set (i * 41 + 6) (vb v) = (l.modify i (fun y => { y with Head.Sleep := v })).flatMap E_Frame := rows_set l_Frame l i 6 _ (fun y => { y with Head.Sleep := v }) (by decide) (fun _ => by rfl)
theorem r_Frame_s_Head_MoreData (l : List Frame) (i : Nat) (v : Bool) : (l.flatMap E_Frame).set (i * 41 + 7) (vb v) = (l.modify i (fun y => { y with Head.MoreData := v })).flatMap E_Frame := rows_set l_Frame l i 7 _ (fun y => { y with Head.MoreData := v }) (by decide) (fun _ => by rfl)
theorem r_Frame_s_Head_Protected (l : List Frame) (i : Nat) (v : Bool) : (l.flatMap E_Frame).set (i * 41 + 8) (vb v) = (l.modify i (fun y => { y with Head.Protected := v })).flatMap E_Frame := rows_set l_Frame l i 8 _ (fun y => { y with Head.Protected := v }) (by decide) (fun _ => by rfl)
theorem r_Frame_s_Head_Duration (l : List Frame) (i : Nat) (v : Int) : (l.flatMap E_Frame).set (i * 41 + 9) (vi v) = (l.modify i (fun y => { y with Head.Duration := v })).flatMap E_Frame := rows_set l_Frame l i 9 _ (fun y => { y with Head.Duration := v }) (by decide) (fun _ => by rfl)
theorem r_Frame_s_Head_A1_a0 (l : List Frame) (i : Nat) (v : Int) : (l.flatMap E_Frame).set (i * 41 + 10) (vu v) = (l.modify i (fun y => { y with Head.A1.a0 := v })).flatMap E_Frame := rows_set l_Frame l i 10 _ (fun y => { y with Head.A1.a0 := v }) (by decide) (fun _ => by rfl)
theorem r_Frame_s_Head_A1_a1 (l : List Frame) (i : Nat) (v : Int) : (l.flatMap E_Frame).set (i * 41 + 11) (vu v) = (l.modify i (fun y => { y with Head.A1.a1 := v })).flatMap E_Frame := rows_set l_Frame l i 11 _ (fun y => { y with Head.A1.a1 := v }) (by decide) (fun _ => by rfl)
theorem r_Frame_s_Head_A1_a2 (l : List Frame) (i : Nat) (v : Int) : (l.flatMap E_Frame).set (i * 41 + 12) (vu v) = (l.modify i (fun y => { y with Head.A1.a2 := v })).flatMap E_Frame := rows_set l_Frame l i 12 _ (fun y => { y with Head.A1.a2 := v }) (by decide) (fun _ => by rfl)
theorem r_Frame_s_Head_A1_a3 (l : List Frame) (i : Nat) (v : Int) : (l.flatMap E_Frame).set (i * 41 + 13) (vu v) = (l.modify i (fun y => { y with Head.A1.a3 := v })).flatMap E_Frame := rows_set l_Frame l i 13 _ (fun y => { y with Head.A1.a3 := v }) (by decide) (fun _ => by rfl)
theorem r_Frame_s_Head_A1_a4 (l : List Frame) (i : Nat) (v : Int) : (l.flatMap E_Frame).set (i * 41 + 14) (vu v) = (l.modify i (fun y => { y with Head.A1.a4 := v })).flatMap E_Frame := rows_set l_Frame l i 14 _ (fun y => { y with Head.A1.a4 := v }) (by decide) (fun _ => by rfl)
theorem r_Frame_s_Head_A1_a5 (l : List Frame) (i : Nat) (v : Int) : (l.flatMap E_Frame).set (i * 41 + 15) (vu v) = (l.modify i (fun y => { y with Head.A1.a5 := v })).flatMap E_Frame := rows_set l_Frame l i 15 _ (fun y => { y with Head.A1.a5 := v }) (by decide) (fun _ => by rfl)
theorem r_Frame_s_Head_A2_a0 (l : List Frame) (i : Nat) (v : Int) : (l.flatMap E_Frame).set (i * 41 + 16) (vu v) = (l.modify i (fun y => { y with Head.A2.a0 := v })).flatMap E_Frame := rows_set l_Frame l i 16 _ (fun y => { y with Head.A2.a0 := v }) (by decide) (fun _ => by rfl)
theorem r_Frame_s_Head_A2_a1 (l : List Frame) (i : Nat) (v : Int) : (l.flatMap E_Frame).set (i * 41 + 17) (vu v) = (l.modify i (fun y => { y with Head.A2.a1 := v })).flatMap E_Frame := rows_set l_Frame l i 17 _ (fun y => { y with Head.A2.a1 := v }) (by decide) (fun _ => by rfl)
theorem r_Frame_s_Head_A2_a2 (l : List Frame) (i : Nat) (v : Int) : (l.flatMap E_Frame).set (i * 41 + 18) (vu v) = (l.modify i (fun y => { y with Head.A2.a2 := v })).flatMap E_Frame := rows_set l_Frame l i 18 _ (fun y => { y with Head.A2.a2 := v }) (by decide) (fun _ => by rfl)
theorem r_Frame_s_Head_A2_a3 (l : List Frame) (i : Nat) (v : Int) : (l.flatMap E_Frame).set (i * 41 + 19) (vu v) = (l.modify i (fun y => { y with Head.A2.a3 := v })).flatMap E_Frame := rows_set l_Frame l i 19 _ (fun y => { y with Head.A2.a3 := v }) (by decide) (fun _ => by rfl)
theorem r_Frame_s_Head_A2_a4 (l : List Frame) (i : Nat) (v : Int) : (l.flatMap E_Frame).set (i * 41 + 20) (vu v) = (l.modify i (fun y => { y with Head.A2.a4 := v })).flatMap E_Frame := rows_set l_Frame l i 20 _ (fun y => { y with Head.A2.a4 := v }) (by decide) (fun _ => by rfl)
theorem r_Frame_s_Head_A2_a5 (l : List Frame) (i : Nat) (v : Int) : (l.flatMap E_Frame).set (i * 41 + 21) (vu v) = (l.modify i (fun y => { y with Head.A2.a5 := v })).flatMap E_Frame := rows_set l_Frame l i 21 _ (fun y => { y with Head.A2.a5 := v }) (by decide) (fun _ => by rfl)
theorem r_Frame_s_Head_A3_a0 (l : List Frame) (i : Nat) (v : Int) : (l.flatMap E_Frame).set (i * 41 + 22) (vu v) = (l.modify i (fun y => { y with Head.A3.a0 := v })).flatMap E_Frame := rows_set l_Frame l i 22 _ (fun y => { y with Head.A3.a0 := v }) (by decide) (fun _ => by rfl)
theorem r_Frame_s_Head_A3_a1 (l : List Frame) (i : Nat) (v : Int) : (l.flatMap E_Frame).set (i * 41 + 23) (vu v) = (l.modify i (fun y => { y with Head.A3.a1 := v })).flatMap E_Frame := rows_set l_Frame l i 23 _ (fun y => { y with Head.A3.a1 := v }) (by decide) (fun _ => by rfl)
theorem r_Frame_s_Head_A3_a2 (l : List Frame) (i : Nat) (v : Int) : (l.flatMap E_Frame).set (i * 41 + 24) (vu v) = (l.modify i (fun y => { y with Head.A3.a2 := v })).flatMap E_Frame := rows_set l_Frame l i 24 _ (fun y => { y with Head.A3.a2 := v }) (by decide) (fun _ => by rfl)
theorem r_Frame_s_Head_A3_a3 (l : List Frame) (i : Nat) (v : Int) : (l.flatMap E_Frame).set (i * 41 + 25) (vu v) = (l.modify i (fun y => { y with Head.A3.a3 := v })).flatMap E_Frame := rows_set l_Frame l i 25 _ (fun y => { y with Head.A3.a3 := v }) (by decide) (fun _ => by rfl)
theorem r_Frame_s_Head_A3_a4 (l : List Frame) (i : Nat) (v : Int) : (l.flatMap E_Frame).set (i * 41 + 26) (vu v) = (l.modify i (fun y => { y with Head.A3.a4 := v })).flatMap E_Frame := rows_set l_Frame l i 26 _ (fun y => { y with Head.A3.a4 := v }) (by decide) (fun _ => by rfl)
theorem r_Frame_s_Head_A3_a5 (l : List Frame) (i : Nat) (v : Int) : (l.flatMap E_Frame).set (i * 41 + 27) (vu v) = (l.modify i (fun y => { y with Head.A3.a5 := v })).flatMap E_Frame := rows_set l_Frame l i 27 _ (fun y => { y with Head.A3.a5 := v }) (by decide) (fun _ => by rfl)
theorem r_Frame_s_Head_A4_a0 (l : List Frame) (i : Nat) (v : Int) : (l.flatMap E_Frame).set (i * 41 + 28) (vu v) = (l.modify i (fun y => { y with Head.A4.a0 := v })).flatMap E_Frame := rows_set l_Frame l i 28 _ (fun y => { y with Head.A4.a0 := v }) (by decide) (fun _ => by rfl)
theorem r_Frame_s_Head_A4_a1 (l : List Frame) (i : Nat) (v : Int) : (l.flatMap E_Frame).set (i * 41 + 29) (vu v) = (l.modify i (fun y => { y with Head.A4.a1 := v })).flatMap E_Frame := rows_set l_Frame l i 29 _ (fun y => { y with Head.A4.a1 := v }) (by decide) (fun _ => by rfl)
theorem r_Frame_s_Head_A4_a2 (l : List Frame) (i : Nat) (v : Int) : (l.flatMap E_Frame).set (i * 41 + 30) (vu v) = (l.modify i (fun y => { y with Head.A4.a2 := v })).flatMap E_Frame := rows_set l_Frame l i 30 _ (fun y => { y with Head.A4.a2 := v }) (by decide) (fun _ => by rfl)
theorem r_Frame_s_Head_A4_a3 (l : List Frame) (i : Nat) (v : Int) : (l.flatMap E_Frame).set (i * 41 + 31) (vu v) = (l.modify i (fun y => { y with Head.A4.a3 := v })).flatMap E_Frame := rows_set l_Frame l i 31 _ (fun y => { y with Head.A4.a3 := v }) (by decide) (fun _ => by rfl)
theorem r_Frame_s_Head_A4_a4 (l : List Frame) (i : Nat) (v : Int) : (l.flatMap E_Frame).set (i * 41 + 32) (vu v) = (l.modify i (fun y => { y with Head.A4.a4 := v })).flatMap E_Frame := rows_set l_Frame l i 32 _ (fun y => { y with Head.A4.a4 := v }) (by decide) (fun _ => by rfl)
theorem r_Frame_s_Head_A4_a5 (l : List Frame) (i : Nat) (v : Int) : (l.flatMap E_Frame).set (i * 41 + 33) (vu v) = (l.modify i (fun y => { y with Head.A4.a5 := v })).flatMap E_Frame := rows_set l_Frame l i 33 _ (fun y => { y with Head.A4.a5 := v }) (by decide) (fun _ => by rfl)
theorem r_Frame_s_Head_Seq (l : List Frame) (i : Nat) (v : Int) : (l.flatMap E_Frame).set (i * 41 + 34) (vi v) = (l.modify i (fun y => { y with Head.Seq := v })).flatMap E_Frame := rows_set l_Frame l i 34 _ (fun y => { y with Head.Seq := v }) (by decide) (fun _ => by rfl)
theorem r_Frame_s_Head_Frag (l : List Frame) (i : Nat) (v : Int) : (l.flatMap E_Frame).set (i * 41 + 35) (vi v) = (l.modify i (fun y => { y with Head.Frag := v })).flatMap E_Frame := rows_set l_Frame l i 35 _ (fun y => { y with Head.Frag := v }) (by decide) (fun _ => by rfl)
theorem r_Frame_s_Head_Tid (l : List Frame) (i : Nat) (v : Int) : (l.flatMap E_Frame).set (i * 41 + 36) (vi v) = (l.modify i (fun y => { y with Head.Tid := v })).flatMap E_Frame := rows_set l_Frame l i 36 _ (fun y => { y with Head.Tid := v }) (by decide) (fun _ => by rfl)
theorem r_Frame_s_Head_Ack (l : List Frame) (i : Nat) (v : Int) : (l.flatMap E_Frame).set (i * 41 + 37) (vu v) = (l.modify i (fun y => { y with Head.Ack := v })).flatMap E_Frame := rows_set l_Frame l i 37 _ (fun y => { y with Head.Ack := v }) (by decide) (fun _ => by rfl)
theorem r_Frame_s_Head_Amsdu (l : List Frame) (i : Nat) (v : Bool) : (l.flatMap E_Frame).set (i * 41 + 38) (vb v) = (l.modify i (fun y => { y with Head.Amsdu := v })).flatMap E_Frame := rows_set l_Frame l i 38 _ (fun y => { y with Head.Amsdu := v }) (by decide) (fun _ => by rfl)
theorem r_Frame_s_Head_Eosp (l : List Frame) (i : Nat) (v : Bool) : (l.flatMap E_Frame).set (i * 41 + 39) (vb v) = (l.modify i (fun y => { y with Head.Eosp := v })).flatMap E_Frame := rows_set l_Frame l i 39 _ (fun y => { y with Head.Eosp := v }) (by decide) (fun _ => by rfl)
theorem r_Frame_put (l : List Frame) (i : Nat) (x : Frame) (b0 : (List Int)) : putAt (l.flatMap E_Frame) (i * 41) (e_Frame x (.fim FN.n (List.map vu b0) b0.length)) = (l.set i { x with Body := b0 }).flatMap E_Frame := rows_put l_Frame (by decide) l i { x with Body := b0 }
theorem r_Frame_app (l : List Frame) (x : Frame) (b0 : (List Int)) : (l.flatMap E_Frame) ++ e_Frame x (T_vu b0) = (l ++ [{ x with Body := b0 }]).flatMap E_Frame := by rw [List.flatMap_append]; simp only [List.flatMap_cons, List.flatMap_nil, List.append_nil]; rfl
theorem r_Frame_cat (l : List Frame) (m : List Frame) : (l.flatMap E_Frame) ++ m.flatMap E_Frame = (l ++ m).flatMap E_Frame := List.flatMap_append.symm
theorem f_S_Frame (l : List Frame) (o : Nat → Ob) (n : Nat) : fz o (n + 3) (S_Frame l) = S_Frame l := by simp only [S_Frame_eq, fz, r_Frame_fz]
theorem q_S_Frame (l : List Frame) (o : Nat → Ob) (n : Nat) : reach o (n + 3) (S_Frame l) = [] := by simp only [S_Frame_eq, reach, r_Frame_rch]
attribute [go_sem] S_Frame_eq l_Frame r_Frame_len r_Frame_get r_Frame_get0 r_Frame_sub r_Frame_sub0 r_Frame_subw r_Frame_take r_Frame_drop r_Frame_fz r_Frame_rch r_Frame_s_Head_Kind r_Frame_s_Head_Sub r_Frame_s_Head_ToDs r_Frame_s_Head_FromDs r_Frame_s_Head_More r_Frame_s_Head_Retry r_Frame_s_Head_Sleep r_Frame_s_Head_MoreData r_Frame_s_Head_Protected r_Frame_s_Head_Duration r_Frame_s_Head_A1_a0 r_Frame_s_Head_A1_a1 r_Frame_s_Head_A1_a2 r_Frame_s_Head_A1_a3 r_Frame_s_Head_A1_a4 r_Frame_s_Head_A1_a5 r_Frame_s_Head_A2_a0 r_Frame_s_Head_A2_a1 r_Frame_s_Head_A2_a2 r_Frame_s_Head_A2_a3 r_Frame_s_Head_A2_a4 r_Frame_s_Head_A2_a5 r_Frame_s_Head_A3_a0 r_Frame_s_Head_A3_a1 r_Frame_s_Head_A3_a2 r_Frame_s_Head_A3_a3 r_Frame_s_Head_A3_a4 r_Frame_s_Head_A3_a5 r_Frame_s_Head_A4_a0 r_Frame_s_Head_A4_a1 r_Frame_s_Head_A4_a2 r_Frame_s_Head_A4_a3 r_Frame_s_Head_A4_a4 r_Frame_s_Head_A4_a5 r_Frame_s_Head_Seq r_Frame_s_Head_Frag r_Frame_s_Head_Tid r_Frame_s_Head_Ack r_Frame_s_Head_Amsdu r_Frame_s_Head_Eosp r_Frame_put r_Frame_app r_Frame_cat f_S_Frame q_S_Frame

end Go.AX.Z.TR.F

/-! (TFF) -/

set_option linter.unusedSimpArgs false
set_option linter.unusedVariables false
set_option maxHeartbeats 4000000
set_option maxRecDepth 20000
namespace Go.AX.Z.TR.F
open Go.AX Go.Proofs
set_option linter.unusedSectionVars false
variable [FN]

/-- The context, where a block below the new ones is known. -/
noncomputable def K : Ctx := ⟨TR.K.P, fun g => if g + 1 = FN.n then some [] else none, TR.K.eqk⟩
theorem hC : COk K := ⟨TR.hC.eq, TR.hC.mixed⟩

theorem ag22 : agB K.P 22 = some false := TR.ag22
theorem ag23 : agB K.P 23 = some false := TR.ag23
theorem ag25 : agB K.P 25 = some true := TR.ag25
theorem ag27 : agB K.P 27 = some true := TR.ag27
theorem ag3 : agB K.P 3 = some false := TR.ag3
theorem ag41 : agB K.P 41 = some true := TR.ag41
theorem ag42 : agB K.P 42 = some false := TR.ag42
theorem ag44 : agB K.P 44 = some true := TR.ag44
theorem ag5 : agB K.P 5 = some false := TR.ag5
theorem ag58 : agB K.P 58 = some true := TR.ag58
theorem bl25 : bldS K.P 25 = some [(0, 1), (1, 1)] := TR.bl25
theorem bl27 : bldS K.P 27 = some [(0, 1), (1, 1), (2, 1), (3, 1), (4, 2)] := TR.bl27
theorem bl44 : bldS K.P 44 = some [(0, 40), (40, 1)] := TR.bl44
theorem bl58 : bldS K.P 58 = some [(0, 1), (1, 41)] := TR.bl58
theorem bs42_9 : isBS K.P 42 9 = true := TR.bs42_9
theorem by3 : byOf K.P 3 = some 8 := TR.by3
theorem by44 : byOf K.P 44 = some 104 := TR.by44
theorem by5 : byOf K.P 5 = some 1 := TR.by5
theorem by58 : byOf K.P 58 = some 112 := TR.by58
theorem ek25 : K.eqk 25 = some [some .i64, some .u64] := TR.ek25
theorem ek41 : K.eqk 41 = some [some .u8, some .u8, none, none, none, none, none, none, none, some .i64, some .u8, some .u8, some .u8, some .u8, some .u8, some .u8, some .u8, some .u8, some .u8, some .u8, some .u8, some .u8, some .u8, some .u8, some .u8, some .u8, some .u8, some .u8, some .u8, some .u8, some .u8, some .u8, some .u8, some .u8, some .i64, some .i64, some .i64, some .u8, none, none] := TR.ek41
theorem el22 : elS K.P 22 = some 58 := TR.el22
theorem el42 : elS K.P 42 = some 5 := TR.el42
theorem el46 : elS K.P 46 = some 44 := TR.el46
theorem el94 : elS K.P 94 = some 3 := TR.el94
theorem eln3 : elS K.P 3 = none := TR.eln3
theorem fl25_0 : flE K.P 25 0 = some (0, 3) := TR.fl25_0
theorem fl25_1 : flE K.P 25 1 = some (1, 23) := TR.fl25_1
theorem fl27_0 : flE K.P 27 0 = some (0, 3) := TR.fl27_0
theorem fl27_1 : flE K.P 27 1 = some (1, 3) := TR.fl27_1
theorem fl27_2 : flE K.P 27 2 = some (2, 3) := TR.fl27_2
theorem fl27_3 : flE K.P 27 3 = some (3, 22) := TR.fl27_3
theorem fl27_4 : flE K.P 27 4 = some (4, 25) := TR.fl27_4
theorem fl41_14 : flE K.P 41 14 = some (34, 3) := TR.fl41_14
theorem fl44_0 : flE K.P 44 0 = some (0, 41) := TR.fl44_0
theorem fl44_1 : flE K.P 44 1 = some (40, 42) := TR.fl44_1
theorem fl58_0 : flE K.P 58 0 = some (0, 3) := TR.fl58_0
theorem fl58_1 : flE K.P 58 1 = some (1, 44) := TR.fl58_1
theorem in105 : inK K.P 105 = some .u64 := TR.in105
theorem in23 : inK K.P 23 = some .u64 := TR.in23
theorem in3 : inK K.P 3 = some .i64 := TR.in3
theorem ni9 : inK K.P 9 = none := TR.ni9
theorem sz22 : szOf K.P 22 = some 1 := TR.sz22
theorem sz23 : szOf K.P 23 = some 1 := TR.sz23
theorem sz25 : szOf K.P 25 = some 2 := TR.sz25
theorem sz27 : szOf K.P 27 = some 6 := TR.sz27
theorem sz3 : szOf K.P 3 = some 1 := TR.sz3
theorem sz41 : szOf K.P 41 = some 40 := TR.sz41
theorem sz42 : szOf K.P 42 = some 1 := TR.sz42
theorem sz44 : szOf K.P 44 = some 41 := TR.sz44
theorem sz5 : szOf K.P 5 = some 1 := TR.sz5
theorem sz58 : szOf K.P 58 = some 42 := TR.sz58
theorem un105 : K.P.underlying 105 = some (.int .u64) := TR.un105
theorem un22 : K.P.underlying 22 = some (.slice 58) := TR.un22
theorem un23 : K.P.underlying 23 = some (.int .u64) := TR.un23
theorem un3 : K.P.underlying 3 = some (.int .i64) := TR.un3
theorem un42 : K.P.underlying 42 = some (.slice 5) := TR.un42
theorem un46 : K.P.underlying 46 = some (.slice 44) := TR.un46
theorem un94 : K.P.underlying 94 = some (.slice 3) := TR.un94
theorem ze25 : zer K.P 25 = some (e_Window Window.z) := TR.ze25
theorem ze27 : zer K.P 27 = some (e_Reorder Reorder.z vnil) := TR.ze27
theorem ze3 : zer K.P 3 = some [.v (.int .i64 0)] := TR.ze3
theorem ze44 : zer K.P 44 = some (e_Frame Frame.z vnil) := TR.ze44
theorem ze5 : zer K.P 5 = some [.v (.int .u8 0)] := TR.ze5
theorem ze58 : zer K.P 58 = some (e_HeldSeq HeldSeq.z vnil) := TR.ze58
theorem mixed : K.P.follows .mixedOrders = true := TR.mixed
attribute [go_sem] ag22 ag23 ag25 ag27 ag3 ag41 ag42 ag44 ag5 ag58 bl25 bl27 bl44 bl58 bs42_9 by3 by44 by5 by58 ek25 ek41 el22 el42 el46 el94 eln3 fl25_0 fl25_1 fl27_0 fl27_1 fl27_2 fl27_3 fl27_4 fl41_14 fl44_0 fl44_1 fl58_0 fl58_1 in105 in23 in3 ni9 sz22 sz23 sz25 sz27 sz3 sz41 sz42 sz44 sz5 sz58 un105 un22 un23 un3 un42 un46 un94 ze25 ze27 ze3 ze44 ze5 ze58

end Go.AX.Z.TR.F
