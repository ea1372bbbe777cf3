/- A part of the proof: the types, the facts of the program and the functions, read plainly. -/
import Derived.Test.YtpjogfcpmcbafaaCorec
import Derived.Test.YtpjogfcpmcbafaaProg
import Derived.KernelRfl
set_option linter.unusedVariables false
set_option linter.unusedSimpArgs false

/-! (TNS) -/

set_option linter.unusedSimpArgs false
set_option linter.unusedVariables false
namespace Go.AX.Z.TN
open Go.AX
structure ai where
 Start : Int
 Size : Int
 Limit : Int
 Life : Int
 Hold : Int
 Burst : Int
 Round : Int
 deriving DecidableEq

def ai.z : ai := ⟨0, 0, 0, 0, 0, 0, 0⟩

def ag (x : ai) : List AV := [vi x.Start, vi x.Size, vi x.Limit, vi x.Life, vi x.Hold, vi x.Burst, vi x.Round]

theorem sM (x : ai) : (ag x).length = 7 := by rfl
theorem sA (x : ai) : cr (ag x) 0 7 = some (ag x) := by rfl
theorem rh (x : ai) : (ag x).take 7 = (ag x) := by rfl
theorem rS (x : ai) (y : ai) : cE (ag x) 0 (ag y) = ag y := by rfl
theorem oG (x : ai) : (ag x)[0]? = some (vi x.Start) := by rfl
theorem oB (x : ai) (v : Int) : (ag x).set 0 (vi v) = ag { x with Start := v } := by rfl
theorem pE (x : ai) : (ag x)[1]? = some (vi x.Size) := by rfl
theorem pP (x : ai) (v : Int) : (ag x).set 1 (vi v) = ag { x with Size := v } := by rfl
theorem ow (x : ai) : (ag x)[2]? = some (vi x.Limit) := by rfl
theorem oD (x : ai) (v : Int) : (ag x).set 2 (vi v) = ag { x with Limit := v } := by rfl
theorem o9 (x : ai) : (ag x)[3]? = some (vi x.Life) := by rfl
theorem pS (x : ai) (v : Int) : (ag x).set 3 (vi v) = ag { x with Life := v } := by rfl
theorem pQ (x : ai) : (ag x)[4]? = some (vi x.Hold) := by rfl
theorem pq (x : ai) (v : Int) : (ag x).set 4 (vi v) = ag { x with Hold := v } := by rfl
theorem oJ (x : ai) : (ag x)[5]? = some (vi x.Burst) := by rfl
theorem oC (x : ai) (v : Int) : (ag x).set 5 (vi v) = ag { x with Burst := v } := by rfl
theorem oq (x : ai) : (ag x)[6]? = some (vi x.Round) := by rfl
theorem oy (x : ai) (v : Int) : (ag x).set 6 (vi v) = ag { x with Round := v } := by rfl
theorem mY (x : ai) (o : Nat → Ob) (n : Nat) : (ag x).map (fz o (n + 1)) = ag x := by rfl
theorem kT (x : ai) (o : Nat → Ob) (n : Nat) : (ag x).flatMap (bq o (n + 1)) = [] := by
 simp only [ag, List.cons_append, List.nil_append, List.append_nil, List.flatMap_cons, List.flatMap_nil, fB]
theorem be (x : ai) : ∀ c ∈ (ag x), aD c := by
 simp only [ag, List.cons_append, List.nil_append]
 repeat' (first | exact aD.v _ | assumption | exact List.forall_mem_nil _ | refine List.forall_mem_cons.2 ⟨?_, ?_⟩)
theorem qr (x : ai) (o : Nat → Ob) (n : Nat) : (ag x).map (fz o (n + 1)) = ag x := by simp only [mY]
theorem qO (x : ai) (o : Nat → Ob) (n : Nat) : (ag x).flatMap (bq o (n + 1)) = [] := by simp only [kT, List.append_nil]
attribute [go_sem] sM sA rh rS oG oB pE pP ow oD o9 pS pQ pq oJ oC oq oy mY kT qr qO

structure aq where
 Delivered : (List Int)
 Acked : (List Int)
 Dropped : (List Int)
 Rounds : Int
 deriving DecidableEq

def aq.z : aq := ⟨[], [], [], 0⟩

def aC (x : aq) (s0 : AV) (s1 : AV) (s2 : AV) : List AV := [s0, s1, s2, vi x.Rounds]

theorem qn (x : aq) (s0 : AV) (s1 : AV) (s2 : AV) : (aC x s0 s1 s2).length = 4 := by rfl
theorem qp (x : aq) (s0 : AV) (s1 : AV) (s2 : AV) : cr (aC x s0 s1 s2) 0 4 = some (aC x s0 s1 s2) := by rfl
theorem pI (x : aq) (s0 : AV) (s1 : AV) (s2 : AV) : (aC x s0 s1 s2).take 4 = (aC x s0 s1 s2) := by rfl
theorem qk (x : aq) (s0 : AV) (s1 : AV) (s2 : AV) (y : aq) (s02 : AV) (s12 : AV) (s22 : AV) : cE (aC x s0 s1 s2) 0 (aC y s02 s12 s22) = aC y s02 s12 s22 := by rfl
theorem lg (x : aq) (s0 : AV) (s1 : AV) (s2 : AV) : (aC x s0 s1 s2)[0]? = some s0 := by rfl
theorem kU (x : aq) (s0 : AV) (s1 : AV) (s2 : AV) (v : AV) : (aC x s0 s1 s2).set 0 v = aC x v s1 s2 := by rfl
theorem mV (x : aq) (s0 : AV) (s1 : AV) (s2 : AV) : (aC x s0 s1 s2)[1]? = some s1 := by rfl
theorem mJ (x : aq) (s0 : AV) (s1 : AV) (s2 : AV) (v : AV) : (aC x s0 s1 s2).set 1 v = aC x s0 v s2 := by rfl
theorem lS (x : aq) (s0 : AV) (s1 : AV) (s2 : AV) : (aC x s0 s1 s2)[2]? = some s2 := by rfl
theorem lU (x : aq) (s0 : AV) (s1 : AV) (s2 : AV) (v : AV) : (aC x s0 s1 s2).set 2 v = aC x s0 s1 v := by rfl
theorem l8 (x : aq) (s0 : AV) (s1 : AV) (s2 : AV) : (aC x s0 s1 s2)[3]? = some (vi x.Rounds) := by rfl
theorem mi (x : aq) (s0 : AV) (s1 : AV) (s2 : AV) (v : Int) : (aC x s0 s1 s2).set 3 (vi v) = aC { x with Rounds := v } s0 s1 s2 := by rfl
theorem lG (x : aq) (s0 : AV) (s1 : AV) (s2 : AV) (o : Nat → Ob) (n : Nat) : (aC x s0 s1 s2).map (fz o (n + 1)) = aC x (fz o (n + 1) s0) (fz o (n + 1) s1) (fz o (n + 1) s2) := by rfl
theorem jK (x : aq) (s0 : AV) (s1 : AV) (s2 : AV) (o : Nat → Ob) (n : Nat) : (aC x s0 s1 s2).flatMap (bq o (n + 1)) = bq o (n + 1) s0 ++ (bq o (n + 1) s1 ++ bq o (n + 1) s2) := by
 simp only [aC, List.cons_append, List.nil_append, List.append_nil, List.flatMap_cons, List.flatMap_nil, fB]
theorem oE (x : aq) (s0 : AV) (s1 : AV) (s2 : AV) (h_s0 : aD s0) (h_s1 : aD s1) (h_s2 : aD s2) : ∀ c ∈ (aC x s0 s1 s2), aD c := by
 simp only [aC, List.cons_append, List.nil_append]
 repeat' (first | exact aD.v _ | assumption | exact List.forall_mem_nil _ | refine List.forall_mem_cons.2 ⟨?_, ?_⟩)
theorem rB {st : AS} {F : List Nat} {σ : List (Option Nat)} (x : aq) (s0 : AV) (s1 : AV) (s2 : AV) (s02 : AV) (s12 : AV) (s22 : AV) (h_s0 : Tm st F σ s0 s02) (h_s1 : Tm st F σ s1 s12) (h_s2 : Tm st F σ s2 s22) : TmL st F σ (aC x s0 s1 s2) (aC x s02 s12 s22) := by
 simp only [aC, List.cons_append, List.nil_append]
 repeat' (first | exact TmL.nil | (refine TmL.cons (Tm.v _) ?_) | (refine TmL.cons (by assumption) ?_))
theorem aY {st : AS} {F : List Nat} {σ : List (Option Nat)} {x y : aq} {s0 s1 s2 s02 s12 s22 : AV} (hxy : aC y s02 s12 s22 = aC x s02 s12 s22) (h_s0 : Tm st F σ s0 s02) (h_s1 : Tm st F σ s1 s12) (h_s2 : Tm st F σ s2 s22) : TmL st F σ (aC x s0 s1 s2) (aC y s02 s12 s22) := by
 rw [hxy]; exact rB x s0 s1 s2 s02 s12 s22 h_s0 h_s1 h_s2
theorem qj (x : aq) {s0 s1 s2 : (Nat → Nat) → AV} (h_s0 : aK s0) (h_s1 : aK s1) (h_s2 : aK s2) : RenML fun q => aC x (s0 q) (s1 q) (s2 q) := by
 simp only [aC, List.cons_append, List.nil_append]
 repeat' (first | exact RenML.nil | (refine RenML.cons (aK.const (aD.v _)) ?_) | (refine RenML.cons (by assumption) ?_))
def dZ (x : aq) : List AV := aC x (mj x.Delivered) (mj x.Acked) (mj x.Dropped)
theorem iN (x : aq) : dZ x = aC x (mj x.Delivered) (mj x.Acked) (mj x.Dropped) := rfl
theorem gD (x : aq) : ∀ c ∈ dZ x, aD c := oE x _ _ _ (dE _) (dE _) (dE _)
theorem ur (x : aq) (o : Nat → Ob) (n : Nat) : (dZ x).map (fz o (n + 2)) = dZ x := by simp only [iN, lG, yP, yP, yP]
theorem um (x : aq) (o : Nat → Ob) (n : Nat) : (dZ x).flatMap (bq o (n + 2)) = [] := by simp only [iN, jK, yT, yT, yT, List.append_nil]
attribute [go_sem] qn qp pI qk lg kU mV mJ lS lU l8 mi lG jK iN ur um

def kj (l : List ai) : AV := .imm (List.flatMap ag l) l.length
theorem jQ (l : List ai) : kj l = .imm (List.flatMap ag l) l.length := rfl
theorem co (x : ai) : (ag x).length = 7 := by rfl
theorem qJ (l : List ai) : ∀ c ∈ l.flatMap ag, aD c := iP be l
theorem sE (l : List ai) : (l.flatMap ag).length = l.length * 7 := fu co l
theorem r9 (l : List ai) (i o : Nat) (ho : o < 7) : (l.flatMap ag)[i * 7 + o]? = l[i]?.bind fun a => (ag a)[o]? := jB co l i o ho
theorem ru (l : List ai) (i : Nat) : (l.flatMap ag)[i * 7]? = l[i]?.bind fun a => (ag a)[0]? := jB co l i 0 (by decide)
theorem rW (l : List ai) (i o n : Nat) (ho : o + n ≤ 7) (hn : 0 < n) : cr (l.flatMap ag) (i * 7 + o) n = l[i]?.bind fun a => cr (ag a) o n := jy co l i o n ho hn
theorem rQ (l : List ai) (i n : Nat) (ho : n ≤ 7) (hn : 0 < n) : cr (l.flatMap ag) (i * 7) n = l[i]?.bind fun a => cr (ag a) 0 n := jy co l i 0 n (by omega) hn
theorem q9 (l : List ai) : cr (l.flatMap ag) 0 (l.length * 7) = some (l.flatMap ag) := qh co l
theorem rt (l : List ai) (n : Nat) : (l.flatMap ag).take (n * 7) = (l.take n).flatMap ag := i8 co l n
theorem ry (l : List ai) (n : Nat) : (l.flatMap ag).drop (n * 7) = (l.drop n).flatMap ag := jW co l n
theorem mX (l : List ai) (o : Nat → Ob) (n : Nat) : (l.flatMap ag).map (fz o (n + 1)) = (l.flatMap ag) := uQ (fun a => qr a o n) l
theorem lZ (l : List ai) (o : Nat → Ob) (n : Nat) : (l.flatMap ag).flatMap (bq o (n + 1)) = [] := nB (fun a => qO a o n) l
theorem oz (l : List ai) (i : Nat) (v : Int) : (l.flatMap ag).set (i * 7) (vi v) = (l.modify i (fun y => { y with Start := v })).flatMap ag := dF co l i 0 _ (fun y => { y with Start := v }) (by decide) (fun _ => by rfl)
theorem pJ (l : List ai) (i : Nat) (v : Int) : (l.flatMap ag).set (i * 7 + 1) (vi v) = (l.modify i (fun y => { y with Size := v })).flatMap ag := dF co l i 1 _ (fun y => { y with Size := v }) (by decide) (fun _ => by rfl)
theorem ov (l : List ai) (i : Nat) (v : Int) : (l.flatMap ag).set (i * 7 + 2) (vi v) = (l.modify i (fun y => { y with Limit := v })).flatMap ag := dF co l i 2 _ (fun y => { y with Limit := v }) (by decide) (fun _ => by rfl)
theorem oX (l : List ai) (i : Nat) (v : Int) : (l.flatMap ag).set (i * 7 + 3) (vi v) = (l.modify i (fun y => { y with Life := v })).flatMap ag := dF co l i 3 _ (fun y => { y with Life := v }) (by decide) (fun _ => by rfl)
theorem pY (l : List ai) (i : Nat) (v : Int) : (l.flatMap ag).set (i * 7 + 4) (vi v) = (l.modify i (fun y => { y with Hold := v })).flatMap ag := dF co l i 4 _ (fun y => { y with Hold := v }) (by decide) (fun _ => by rfl)
theorem oH (l : List ai) (i : Nat) (v : Int) : (l.flatMap ag).set (i * 7 + 5) (vi v) = (l.modify i (fun y => { y with Burst := v })).flatMap ag := dF co l i 5 _ (fun y => { y with Burst := v }) (by decide) (fun _ => by rfl)
theorem ox (l : List ai) (i : Nat) (v : Int) : (l.flatMap ag).set (i * 7 + 6) (vi v) = (l.modify i (fun y => { y with Round := v })).flatMap ag := dF co l i 6 _ (fun y => { y with Round := v }) (by decide) (fun _ => by rfl)
theorem so (l : List ai) (i : Nat) (x : ai) : cE (l.flatMap ag) (i * 7) (ag x) = (l.set i x).flatMap ag := sI co (by decide) l i x
theorem sC (l : List ai) (x : ai) : (l.flatMap ag) ++ ag x = (l ++ [x]).flatMap ag := by simp
theorem sj (l : List ai) (m : List ai) : (l.flatMap ag) ++ m.flatMap ag = (l ++ m).flatMap ag := List.flatMap_append.symm
theorem ul (l : List ai) (o : Nat → Ob) (n : Nat) : fz o (n + 2) (kj l) = kj l := by simp only [jQ, fz, mX]
theorem uD (l : List ai) (o : Nat → Ob) (n : Nat) : bq o (n + 2) (kj l) = [] := by simp only [jQ, bq, lZ]
attribute [go_sem] jQ co sE r9 ru rW rQ q9 rt ry mX lZ oz pJ ov oX pY oH ox so sC sj ul uD

structure Addr where
 a0 : Int
 a1 : Int
 a2 : Int
 a3 : Int
 a4 : Int
 a5 : Int
 deriving DecidableEq

def Addr.z : Addr := ⟨0, 0, 0, 0, 0, 0⟩

def dV (x : Addr) : List AV := [vu x.a0, vu x.a1, vu x.a2, vu x.a3, vu x.a4, vu x.a5]

theorem Bq (x : Addr) : (dV x).length = 6 := by rfl
theorem BL (x : Addr) : cr (dV x) 0 6 = some (dV x) := by rfl
theorem Aj (x : Addr) : (dV x).take 6 = (dV x) := by rfl
theorem BG (x : Addr) (y : Addr) : cE (dV x) 0 (dV y) = dV y := by rfl
theorem ym (x : Addr) (o : Nat → Ob) (n : Nat) : (dV x).map (fz o (n + 1)) = dV x := by rfl
theorem sH (x : Addr) (o : Nat → Ob) (n : Nat) : (dV x).flatMap (bq o (n + 1)) = [] := by
 simp only [dV, List.cons_append, List.nil_append, List.append_nil, List.flatMap_cons, List.flatMap_nil, fB]
theorem H7 (x : Addr) (o : Nat → Ob) (n : Nat) : (dV x).map (fz o (n + 1)) = dV x := by simp only [ym]
theorem JH (x : Addr) (o : Nat → Ob) (n : Nat) : (dV x).flatMap (bq o (n + 1)) = [] := by simp only [sH, List.append_nil]
attribute [go_sem] Bq BL Aj BG ym sH H7 JH

structure jm where
 Kind : Int
 Sub : Int
 ToDs : Bool
 FromDs : Bool
 More : Bool
 Retry : Bool
 Sleep : Bool
 MoreData : Bool
 Protected : Bool
 Duration : Int
 A1 : Addr
 A2 : Addr
 A3 : Addr
 A4 : Addr
 Seq : Int
 Frag : Int
 Tid : Int
 Ack : Int
 Amsdu : Bool
 Eosp : Bool
 deriving DecidableEq

def jm.z : jm := ⟨0, 0, false, false, false, false, false, false, false, 0, Addr.z, Addr.z, Addr.z, Addr.z, 0, 0, 0, 0, false, false⟩

def cS (x : jm) : List AV := [vu x.Kind, vu x.Sub, vb x.ToDs, vb x.FromDs, vb x.More, vb x.Retry, vb x.Sleep, vb x.MoreData, vb x.Protected, vi x.Duration] ++ (dV x.A1) ++ (dV x.A2) ++ (dV x.A3) ++ (dV x.A4) ++ [vi x.Seq, vi x.Frag, vi x.Tid, vu x.Ack, vb x.Amsdu, vb x.Eosp]

theorem yL (x : jm) : (cS x).length = 40 := by rfl
theorem yC (x : jm) : cr (cS x) 0 40 = some (cS x) := by rfl
theorem xO (x : jm) : (cS x).take 40 = (cS x) := by rfl
theorem yO (x : jm) (y : jm) : cE (cS x) 0 (cS y) = cS y := by rfl
theorem ue (x : jm) (o : Nat → Ob) (n : Nat) : (cS x).map (fz o (n + 1)) = cS x := by rfl
theorem pm (x : jm) (o : Nat → Ob) (n : Nat) : (cS x).flatMap (bq o (n + 1)) = [] := by
 simp only [cS, dV, List.cons_append, List.nil_append, List.append_nil, List.flatMap_cons, List.flatMap_nil, fB]
theorem EG (x : jm) (o : Nat → Ob) (n : Nat) : (cS x).map (fz o (n + 1)) = cS x := by simp only [ue]
theorem Eu (x : jm) (o : Nat → Ob) (n : Nat) : (cS x).flatMap (bq o (n + 1)) = [] := by simp only [pm, List.append_nil]
attribute [go_sem] yL yC xO yO ue pm EG Eu

structure Frame where
 Head : jm
 Body : (List Int)
 deriving DecidableEq

def Frame.z : Frame := ⟨jm.z, []⟩

def bw (x : Frame) (s0 : AV) : List AV := (cS x.Head) ++ [s0]

theorem Am (x : Frame) (s0 : AV) : (bw x s0).length = 41 := by rfl
theorem z9 (x : Frame) (s0 : AV) : cr (bw x s0) 0 41 = some (bw x s0) := by rfl
theorem zx (x : Frame) (s0 : AV) : (bw x s0).take 41 = (bw x s0) := by rfl
theorem zN (x : Frame) (s0 : AV) (y : Frame) (s02 : AV) : cE (bw x s0) 0 (bw y s02) = bw y s02 := by rfl
theorem pf (x : Frame) (s0 : AV) (v : Bool) : (bw x s0).set 5 (vb v) = bw { x with Head.Retry := v } s0 := by rfl
theorem rz (x : Frame) (s0 : AV) : (bw x s0)[34]? = some (vi x.Head.Seq) := by rfl
theorem rk (x : Frame) (s0 : AV) (v : Int) : (bw x s0).set 34 (vi v) = bw { x with Head.Seq := v } s0 := by rfl
theorem rj (x : Frame) (s0 : AV) (v : Int) : (bw x s0).set 36 (vi v) = bw { x with Head.Tid := v } s0 := by rfl
theorem v7 (x : Frame) (s0 : AV) : (bw x s0)[40]? = some s0 := by rfl
theorem wu (x : Frame) (s0 : AV) (v : AV) : (bw x s0).set 40 v = bw x v := by rfl
theorem vQ (x : Frame) (s0 : AV) (o : Nat → Ob) (n : Nat) : (bw x s0).map (fz o (n + 1)) = bw x (fz o (n + 1) s0) := by rfl
theorem qT (x : Frame) (s0 : AV) (o : Nat → Ob) (n : Nat) : (bw x s0).flatMap (bq o (n + 1)) = bq o (n + 1) s0 := by
 simp only [bw, cS, dV, List.cons_append, List.nil_append, List.append_nil, List.flatMap_cons, List.flatMap_nil, fB]
theorem xF (x : Frame) (s0 : AV) (h_s0 : aD s0) : ∀ c ∈ (bw x s0), aD c := by
 simp only [bw, cS, dV, List.cons_append, List.nil_append]
 repeat' (first | exact aD.v _ | assumption | exact List.forall_mem_nil _ | refine List.forall_mem_cons.2 ⟨?_, ?_⟩)
theorem BQ {st : AS} {F : List Nat} {σ : List (Option Nat)} (x : Frame) (s0 : AV) (s02 : AV) (h_s0 : Tm st F σ s0 s02) : TmL st F σ (bw x s0) (bw x s02) := by
 simp only [bw, cS, dV, List.cons_append, List.nil_append]
 repeat' (first | exact TmL.nil | (refine TmL.cons (Tm.v _) ?_) | (refine TmL.cons (by assumption) ?_))
theorem dg {st : AS} {F : List Nat} {σ : List (Option Nat)} {x y : Frame} {s0 s02 : AV} (hxy : bw y s02 = bw x s02) (h_s0 : Tm st F σ s0 s02) : TmL st F σ (bw x s0) (bw y s02) := by
 rw [hxy]; exact BQ x s0 s02 h_s0
def bl (x : Frame) : List AV := bw x (r6 x.Body)
theorem rm (x : Frame) : bl x = bw x (r6 x.Body) := rfl
theorem dP (x : Frame) : ∀ c ∈ bl x, aD c := xF x _ (ra _)
theorem B3 (x : Frame) (o : Nat → Ob) (n : Nat) : (bl x).map (fz o (n + 2)) = bl x := by simp only [rm, vQ, yF]
theorem BY (x : Frame) (o : Nat → Ob) (n : Nat) : (bl x).flatMap (bq o (n + 2)) = [] := by simp only [rm, qT, zz, List.append_nil]
attribute [go_sem] Am z9 zx zN pf rz rk rj v7 wu vQ qT rm B3 BY

structure ay where
 At : Int
 Tries : Int
 Flying : Bool
 Frame : Frame
 deriving DecidableEq

def ay.z : ay := ⟨0, 0, false, Frame.z⟩

def bu (x : ay) (s0 : AV) : List AV := [vi x.At, vi x.Tries, vb x.Flying] ++ (bw x.Frame s0)

theorem xA (x : ay) (s0 : AV) : (bu x s0).length = 44 := by rfl
theorem xz (x : ay) (s0 : AV) : cr (bu x s0) 0 44 = some (bu x s0) := by rfl
theorem vX (x : ay) (s0 : AV) : (bu x s0).take 44 = (bu x s0) := by rfl
theorem xI (x : ay) (s0 : AV) (y : ay) (s02 : AV) : cE (bu x s0) 0 (bu y s02) = bu y s02 := by rfl
theorem vT (x : ay) (s0 : AV) : (bu x s0)[0]? = some (vi x.At) := by rfl
theorem wz (x : ay) (s0 : AV) (v : Int) : (bu x s0).set 0 (vi v) = bu { x with At := v } s0 := by rfl
theorem sP (x : ay) (s0 : AV) : (bu x s0)[1]? = some (vi x.Tries) := by rfl
theorem rL (x : ay) (s0 : AV) : (bu x s0)[2]? = some (vb x.Flying) := by rfl
theorem lH (x : ay) (s0 : AV) : (bu x s0)[37]? = some (vi x.Frame.Head.Seq) := by rfl
theorem sJ (x : ay) (s0 : AV) : cr (bu x s0) 3 41 = some (bw x.Frame s0) := by rfl
theorem sK (x : ay) (s0 : AV) (v : Frame) (w0 : AV) : cE (bu x s0) 3 (bw v w0) = bu { x with Frame := v } w0 := by rfl
theorem sB (x : ay) (s0 : AV) (o : Nat → Ob) (n : Nat) : (bu x s0).map (fz o (n + 1)) = bu x (fz o (n + 1) s0) := by rfl
theorem nV (x : ay) (s0 : AV) (o : Nat → Ob) (n : Nat) : (bu x s0).flatMap (bq o (n + 1)) = bq o (n + 1) s0 := by
 simp only [bu, bw, cS, dV, List.cons_append, List.nil_append, List.append_nil, List.flatMap_cons, List.flatMap_nil, fB]
theorem uE (x : ay) (s0 : AV) (h_s0 : aD s0) : ∀ c ∈ (bu x s0), aD c := by
 simp only [bu, bw, cS, dV, List.cons_append, List.nil_append]
 repeat' (first | exact aD.v _ | assumption | exact List.forall_mem_nil _ | refine List.forall_mem_cons.2 ⟨?_, ?_⟩)
theorem zi {st : AS} {F : List Nat} {σ : List (Option Nat)} (x : ay) (s0 : AV) (s02 : AV) (h_s0 : Tm st F σ s0 s02) : TmL st F σ (bu x s0) (bu x s02) := by
 simp only [bu, bw, cS, dV, List.cons_append, List.nil_append]
 repeat' (first | exact TmL.nil | (refine TmL.cons (Tm.v _) ?_) | (refine TmL.cons (by assumption) ?_))
theorem qQ {st : AS} {F : List Nat} {σ : List (Option Nat)} {x y : ay} {s0 s02 : AV} (hxy : bu y s02 = bu x s02) (h_s0 : Tm st F σ s0 s02) : TmL st F σ (bu x s0) (bu y s02) := by
 rw [hxy]; exact zi x s0 s02 h_s0
theorem qA (x : ay) {s0 : (Nat → Nat) → AV} (h_s0 : aK s0) : RenML fun q => bu x (s0 q) := by
 simp only [bu, bw, cS, dV, List.cons_append, List.nil_append]
 repeat' (first | exact RenML.nil | (refine RenML.cons (aK.const (aD.v _)) ?_) | (refine RenML.cons (by assumption) ?_))
def aj (x : ay) : List AV := bu x (r6 x.Frame.Body)
theorem nh (x : ay) : aj x = bu x (r6 x.Frame.Body) := rfl
theorem iK (x : ay) : ∀ c ∈ aj x, aD c := uE x _ (ra _)
theorem yh (x : ay) (o : Nat → Ob) (n : Nat) : (aj x).map (fz o (n + 2)) = aj x := by simp only [nh, sB, yF]
theorem yq (x : ay) (o : Nat → Ob) (n : Nat) : (aj x).flatMap (bq o (n + 2)) = [] := by simp only [nh, nV, zz, List.append_nil]
attribute [go_sem] xA xz vX xI vT wz sP rL lH sJ sK sB nV nh yh yq

def gX (l : List ay) : AV := .imm (List.flatMap aj l) l.length
theorem nc (l : List ay) : gX l = .imm (List.flatMap aj l) l.length := rfl
theorem c9 (x : ay) : (aj x).length = 44 := by rfl
theorem nI (l : List ay) : aD (gX l) := aD.imm (iP iK l)
theorem ak (l : List ay) : ∀ c ∈ l.flatMap aj, aD c := iP iK l
theorem xb (l : List ay) : (l.flatMap aj).length = l.length * 44 := fu c9 l
theorem xo (l : List ay) (i o : Nat) (ho : o < 44) : (l.flatMap aj)[i * 44 + o]? = l[i]?.bind fun a => (aj a)[o]? := jB c9 l i o ho
theorem wy (l : List ay) (i : Nat) : (l.flatMap aj)[i * 44]? = l[i]?.bind fun a => (aj a)[0]? := jB c9 l i 0 (by decide)
theorem xK (l : List ay) (i o n : Nat) (ho : o + n ≤ 44) (hn : 0 < n) : cr (l.flatMap aj) (i * 44 + o) n = l[i]?.bind fun a => cr (aj a) o n := jy c9 l i o n ho hn
theorem vg (l : List ay) (i n : Nat) (ho : n ≤ 44) (hn : 0 < n) : cr (l.flatMap aj) (i * 44) n = l[i]?.bind fun a => cr (aj a) 0 n := jy c9 l i 0 n (by omega) hn
theorem vv (l : List ay) (o : Nat) : (l.flatMap aj)[o]? = l[o / 44]?.bind fun a => (aj a)[o % 44]? := xV c9 (by decide) l o
theorem wi (l : List ay) (o n : Nat) (ho : o % 44 + n ≤ 44) (hn : 0 < n) : cr (l.flatMap aj) o n = l[o / 44]?.bind fun a => cr (aj a) (o % 44) n := yn c9 l o n ho hn
theorem vc (l : List ay) : cr (l.flatMap aj) 0 (l.length * 44) = some (l.flatMap aj) := qh c9 l
theorem vW (l : List ay) (n : Nat) : (l.flatMap aj).take (n * 44) = (l.take n).flatMap aj := i8 c9 l n
theorem uT (l : List ay) (n : Nat) : (l.flatMap aj).drop (n * 44) = (l.drop n).flatMap aj := jW c9 l n
theorem sv (l : List ay) (o : Nat → Ob) (n : Nat) : (l.flatMap aj).map (fz o (n + 2)) = (l.flatMap aj) := uQ (fun a => yh a o n) l
theorem qC (l : List ay) (o : Nat → Ob) (n : Nat) : (l.flatMap aj).flatMap (bq o (n + 2)) = [] := nB (fun a => yq a o n) l
theorem wF (l : List ay) (i : Nat) (v : Int) : (l.flatMap aj).set (i * 44) (vi v) = (l.modify i (fun y => { y with At := v })).flatMap aj := dF c9 l i 0 _ (fun y => { y with At := v }) (by decide) (fun _ => by rfl)
theorem sL (l : List ay) (i : Nat) (v : Int) : (l.flatMap aj).set (i * 44 + 1) (vi v) = (l.modify i (fun y => { y with Tries := v })).flatMap aj := dF c9 l i 1 _ (fun y => { y with Tries := v }) (by decide) (fun _ => by rfl)
theorem rq (l : List ay) (i : Nat) (v : Bool) : (l.flatMap aj).set (i * 44 + 2) (vb v) = (l.modify i (fun y => { y with Flying := v })).flatMap aj := dF c9 l i 2 _ (fun y => { y with Flying := v }) (by decide) (fun _ => by rfl)
theorem kL (l : List ay) (i : Nat) (v : Bool) : (l.flatMap aj).set (i * 44 + 8) (vb v) = (l.modify i (fun y => { y with Frame.Head.Retry := v })).flatMap aj := dF c9 l i 8 _ (fun y => { y with Frame.Head.Retry := v }) (by decide) (fun _ => by rfl)
theorem lL (l : List ay) (i : Nat) (v : Int) : (l.flatMap aj).set (i * 44 + 37) (vi v) = (l.modify i (fun y => { y with Frame.Head.Seq := v })).flatMap aj := dF c9 l i 37 _ (fun y => { y with Frame.Head.Seq := v }) (by decide) (fun _ => by rfl)
theorem lP (l : List ay) (i : Nat) (v : Int) : (l.flatMap aj).set (i * 44 + 39) (vi v) = (l.modify i (fun y => { y with Frame.Head.Tid := v })).flatMap aj := dF c9 l i 39 _ (fun y => { y with Frame.Head.Tid := v }) (by decide) (fun _ => by rfl)
theorem xD (l : List ay) (i : Nat) (x : ay) (b0 : (List Int)) : cE (l.flatMap aj) (i * 44) (bu x (.imm (List.map vu b0) b0.length)) = (l.set i { x with Frame.Body := b0 }).flatMap aj := sI c9 (by decide) l i { x with Frame.Body := b0 }
theorem xC (l : List ay) (x : ay) (b0 : (List Int)) : (l.flatMap aj) ++ bu x (r6 b0) = (l ++ [{ x with Frame.Body := b0 }]).flatMap aj := by rw [List.flatMap_append]; simp only [List.flatMap_cons, List.flatMap_nil, List.append_nil]; rfl
theorem xP (l : List ay) (m : List ay) : (l.flatMap aj) ++ m.flatMap aj = (l ++ m).flatMap aj := List.flatMap_append.symm
theorem oQ (l : List ay) (o : Nat → Ob) (n : Nat) : fz o (n + 3) (gX l) = gX l := by simp only [nc, fz, sv]
theorem p8 (l : List ay) (o : Nat → Ob) (n : Nat) : bq o (n + 3) (gX l) = [] := by simp only [nc, bq, qC]
attribute [go_sem] nc c9 xb xo wy xK vg vc vW uT sv qC wF sL rq kL lL lP xD xC xP oQ p8

structure Sender where
 Tid : Int
 Phase : Int
 Token : Int
 Next : Int
 Size : Int
 Limit : Int
 Life : Int
 Out : (List ay)
 Bar : Bool
 deriving DecidableEq

def Sender.z : Sender := ⟨0, 0, 0, 0, 0, 0, 0, [], false⟩

def aB (x : Sender) (s0 : AV) : List AV := [vi x.Tid, vu x.Phase, vi x.Token, vi x.Next, vi x.Size, vi x.Limit, vi x.Life, s0, vb x.Bar]

theorem yV (x : Sender) (s0 : AV) : (aB x s0).length = 9 := by rfl
theorem yU (x : Sender) (s0 : AV) : cr (aB x s0) 0 9 = some (aB x s0) := by rfl
theorem xp (x : Sender) (s0 : AV) : (aB x s0).take 9 = (aB x s0) := by rfl
theorem zj (x : Sender) (s0 : AV) (y : Sender) (s02 : AV) : cE (aB x s0) 0 (aB y s02) = aB y s02 := by rfl
theorem u6 (x : Sender) (s0 : AV) : (aB x s0)[0]? = some (vi x.Tid) := by rfl
theorem vV (x : Sender) (s0 : AV) (v : Int) : (aB x s0).set 0 (vi v) = aB { x with Tid := v } s0 := by rfl
theorem tF (x : Sender) (s0 : AV) : (aB x s0)[1]? = some (vu x.Phase) := by rfl
theorem tg (x : Sender) (s0 : AV) (v : Int) : (aB x s0).set 1 (vu v) = aB { x with Phase := v } s0 := by rfl
theorem sZ (x : Sender) (s0 : AV) : (aB x s0)[2]? = some (vi x.Token) := by rfl
theorem tj (x : Sender) (s0 : AV) (v : Int) : (aB x s0).set 2 (vi v) = aB { x with Token := v } s0 := by rfl
theorem uI (x : Sender) (s0 : AV) : (aB x s0)[3]? = some (vi x.Next) := by rfl
theorem uk (x : Sender) (s0 : AV) (v : Int) : (aB x s0).set 3 (vi v) = aB { x with Next := v } s0 := by rfl
theorem uv (x : Sender) (s0 : AV) : (aB x s0)[4]? = some (vi x.Size) := by rfl
theorem uq (x : Sender) (s0 : AV) (v : Int) : (aB x s0).set 4 (vi v) = aB { x with Size := v } s0 := by rfl
theorem tf (x : Sender) (s0 : AV) : (aB x s0)[5]? = some (vi x.Limit) := by rfl
theorem sU (x : Sender) (s0 : AV) (v : Int) : (aB x s0).set 5 (vi v) = aB { x with Limit := v } s0 := by rfl
theorem uj (x : Sender) (s0 : AV) : (aB x s0)[6]? = some (vi x.Life) := by rfl
theorem uz (x : Sender) (s0 : AV) (v : Int) : (aB x s0).set 6 (vi v) = aB { x with Life := v } s0 := by rfl
theorem vZ (x : Sender) (s0 : AV) : (aB x s0)[7]? = some s0 := by rfl
theorem wg (x : Sender) (s0 : AV) (v : AV) : (aB x s0).set 7 v = aB x v := by rfl
theorem vU (x : Sender) (s0 : AV) : (aB x s0)[8]? = some (vb x.Bar) := by rfl
theorem vA (x : Sender) (s0 : AV) (v : Bool) : (aB x s0).set 8 (vb v) = aB { x with Bar := v } s0 := by rfl
theorem ub (x : Sender) (s0 : AV) (o : Nat → Ob) (n : Nat) : (aB x s0).map (fz o (n + 1)) = aB x (fz o (n + 1) s0) := by rfl
theorem oP (x : Sender) (s0 : AV) (o : Nat → Ob) (n : Nat) : (aB x s0).flatMap (bq o (n + 1)) = bq o (n + 1) s0 := by
 simp only [aB, List.cons_append, List.nil_append, List.append_nil, List.flatMap_cons, List.flatMap_nil, fB]
theorem vn (x : Sender) (s0 : AV) (h_s0 : aD s0) : ∀ c ∈ (aB x s0), aD c := by
 simp only [aB, List.cons_append, List.nil_append]
 repeat' (first | exact aD.v _ | assumption | exact List.forall_mem_nil _ | refine List.forall_mem_cons.2 ⟨?_, ?_⟩)
theorem Aq {st : AS} {F : List Nat} {σ : List (Option Nat)} (x : Sender) (s0 : AV) (s02 : AV) (h_s0 : Tm st F σ s0 s02) : TmL st F σ (aB x s0) (aB x s02) := by
 simp only [aB, List.cons_append, List.nil_append]
 repeat' (first | exact TmL.nil | (refine TmL.cons (Tm.v _) ?_) | (refine TmL.cons (by assumption) ?_))
theorem ap {st : AS} {F : List Nat} {σ : List (Option Nat)} {x y : Sender} {s0 s02 : AV} (hxy : aB y s02 = aB x s02) (h_s0 : Tm st F σ s0 s02) : TmL st F σ (aB x s0) (aB y s02) := by
 rw [hxy]; exact Aq x s0 s02 h_s0
theorem bL (x : Sender) {s0 : (Nat → Nat) → AV} (h_s0 : aK s0) : RenML fun q => aB x (s0 q) := by
 simp only [aB, List.cons_append, List.nil_append]
 repeat' (first | exact RenML.nil | (refine RenML.cons (aK.const (aD.v _)) ?_) | (refine RenML.cons (by assumption) ?_))
def bD (x : Sender) : List AV := aB x (gX x.Out)
theorem pz (x : Sender) : bD x = aB x (gX x.Out) := rfl
theorem ba (x : Sender) : ∀ c ∈ bD x, aD c := vn x _ (nI _)
theorem D8 (x : Sender) (o : Nat → Ob) (n : Nat) : (bD x).map (fz o (n + 3)) = bD x := by simp only [pz, ub, oQ]
theorem D9 (x : Sender) (o : Nat → Ob) (n : Nat) : (bD x).flatMap (bq o (n + 3)) = [] := by simp only [pz, oP, p8, List.append_nil]
attribute [go_sem] yV yU xp zj u6 vV tF tg sZ tj uI uk uv uq tf sU uj uz vZ wg vU vA ub oP pz D8 D9

structure aA where
 At : Int
 Frame : Frame
 deriving DecidableEq

def aA.z : aA := ⟨0, Frame.z⟩

def cd (x : aA) (s0 : AV) : List AV := [vi x.At] ++ (bw x.Frame s0)

theorem mc (x : aA) (s0 : AV) : (cd x s0).length = 42 := by rfl
theorem xL (x : aA) (s0 : AV) : cr (cd x s0) 0 42 = some (cd x s0) := by rfl
theorem wQ (x : aA) (s0 : AV) : (cd x s0).take 42 = (cd x s0) := by rfl
theorem xc (x : aA) (s0 : AV) (y : aA) (s02 : AV) : cE (cd x s0) 0 (cd y s02) = cd y s02 := by rfl
theorem wG (x : aA) (s0 : AV) : (cd x s0)[0]? = some (vi x.At) := by rfl
theorem vC (x : aA) (s0 : AV) (v : Int) : (cd x s0).set 0 (vi v) = cd { x with At := v } s0 := by rfl
theorem lM (x : aA) (s0 : AV) : (cd x s0)[35]? = some (vi x.Frame.Head.Seq) := by rfl
theorem sb (x : aA) (s0 : AV) : cr (cd x s0) 1 41 = some (bw x.Frame s0) := by rfl
theorem rR (x : aA) (s0 : AV) (v : Frame) (w0 : AV) : cE (cd x s0) 1 (bw v w0) = cd { x with Frame := v } w0 := by rfl
theorem si (x : aA) (s0 : AV) (o : Nat → Ob) (n : Nat) : (cd x s0).map (fz o (n + 1)) = cd x (fz o (n + 1) s0) := by rfl
theorem nK (x : aA) (s0 : AV) (o : Nat → Ob) (n : Nat) : (cd x s0).flatMap (bq o (n + 1)) = bq o (n + 1) s0 := by
 simp only [cd, bw, cS, dV, List.cons_append, List.nil_append, List.append_nil, List.flatMap_cons, List.flatMap_nil, fB]
theorem uo (x : aA) (s0 : AV) (h_s0 : aD s0) : ∀ c ∈ (cd x s0), aD c := by
 simp only [cd, bw, cS, dV, List.cons_append, List.nil_append]
 repeat' (first | exact aD.v _ | assumption | exact List.forall_mem_nil _ | refine List.forall_mem_cons.2 ⟨?_, ?_⟩)
def al (x : aA) : List AV := cd x (r6 x.Frame.Body)
theorem nd (x : aA) : al x = cd x (r6 x.Frame.Body) := rfl
theorem kK (x : aA) : ∀ c ∈ al x, aD c := uo x _ (ra _)
theorem yf (x : aA) (o : Nat → Ob) (n : Nat) : (al x).map (fz o (n + 2)) = al x := by simp only [nd, si, yF]
theorem yb (x : aA) (o : Nat → Ob) (n : Nat) : (al x).flatMap (bq o (n + 2)) = [] := by simp only [nd, nK, zz, List.append_nil]
attribute [go_sem] mc xL wQ xc wG vC lM sb rR si nK nd yf yb

def eZ (l : List aA) : AV := .imm (List.flatMap al l) l.length
theorem nf (l : List aA) : eZ l = .imm (List.flatMap al l) l.length := rfl
theorem c6 (x : aA) : (al x).length = 42 := by rfl
theorem gq (l : List aA) : aD (eZ l) := aD.imm (iP kK l)
theorem az (l : List aA) : ∀ c ∈ l.flatMap al, aD c := iP kK l
theorem gv (l : List aA) : (l.flatMap al).length = l.length * 42 := fu c6 l
theorem xu (l : List aA) (i o : Nat) (ho : o < 42) : (l.flatMap al)[i * 42 + o]? = l[i]?.bind fun a => (al a)[o]? := jB c6 l i o ho
theorem wx (l : List aA) (i : Nat) : (l.flatMap al)[i * 42]? = l[i]?.bind fun a => (al a)[0]? := jB c6 l i 0 (by decide)
theorem xe (l : List aA) (i o n : Nat) (ho : o + n ≤ 42) (hn : 0 < n) : cr (l.flatMap al) (i * 42 + o) n = l[i]?.bind fun a => cr (al a) o n := jy c6 l i o n ho hn
theorem vS (l : List aA) (i n : Nat) (ho : n ≤ 42) (hn : 0 < n) : cr (l.flatMap al) (i * 42) n = l[i]?.bind fun a => cr (al a) 0 n := jy c6 l i 0 n (by omega) hn
theorem oO (l : List aA) (o : Nat) : (l.flatMap al)[o]? = l[o / 42]?.bind fun a => (al a)[o % 42]? := xV c6 (by decide) l o
theorem o0 (l : List aA) (o n : Nat) (ho : o % 42 + n ≤ 42) (hn : 0 < n) : cr (l.flatMap al) o n = l[o / 42]?.bind fun a => cr (al a) (o % 42) n := yn c6 l o n ho hn
theorem vN (l : List aA) : cr (l.flatMap al) 0 (l.length * 42) = some (l.flatMap al) := qh c6 l
theorem uZ (l : List aA) (n : Nat) : (l.flatMap al).take (n * 42) = (l.take n).flatMap al := i8 c6 l n
theorem v8 (l : List aA) (n : Nat) : (l.flatMap al).drop (n * 42) = (l.drop n).flatMap al := jW c6 l n
theorem sc (l : List aA) (o : Nat → Ob) (n : Nat) : (l.flatMap al).map (fz o (n + 2)) = (l.flatMap al) := uQ (fun a => yf a o n) l
theorem qK (l : List aA) (o : Nat → Ob) (n : Nat) : (l.flatMap al).flatMap (bq o (n + 2)) = [] := nB (fun a => yb a o n) l
theorem vk (l : List aA) (i : Nat) (v : Int) : (l.flatMap al).set (i * 42) (vi v) = (l.modify i (fun y => { y with At := v })).flatMap al := dF c6 l i 0 _ (fun y => { y with At := v }) (by decide) (fun _ => by rfl)
theorem kM (l : List aA) (i : Nat) (v : Bool) : (l.flatMap al).set (i * 42 + 6) (vb v) = (l.modify i (fun y => { y with Frame.Head.Retry := v })).flatMap al := dF c6 l i 6 _ (fun y => { y with Frame.Head.Retry := v }) (by decide) (fun _ => by rfl)
theorem lN (l : List aA) (i : Nat) (v : Int) : (l.flatMap al).set (i * 42 + 35) (vi v) = (l.modify i (fun y => { y with Frame.Head.Seq := v })).flatMap al := dF c6 l i 35 _ (fun y => { y with Frame.Head.Seq := v }) (by decide) (fun _ => by rfl)
theorem lr (l : List aA) (i : Nat) (v : Int) : (l.flatMap al).set (i * 42 + 37) (vi v) = (l.modify i (fun y => { y with Frame.Head.Tid := v })).flatMap al := dF c6 l i 37 _ (fun y => { y with Frame.Head.Tid := v }) (by decide) (fun _ => by rfl)
theorem wZ (l : List aA) (i : Nat) (x : aA) (b0 : (List Int)) : cE (l.flatMap al) (i * 42) (cd x (.imm (List.map vu b0) b0.length)) = (l.set i { x with Frame.Body := b0 }).flatMap al := sI c6 (by decide) l i { x with Frame.Body := b0 }
theorem xh (l : List aA) (x : aA) (b0 : (List Int)) : (l.flatMap al) ++ cd x (r6 b0) = (l ++ [{ x with Frame.Body := b0 }]).flatMap al := by rw [List.flatMap_append]; simp only [List.flatMap_cons, List.flatMap_nil, List.append_nil]; rfl
theorem wW (l : List aA) (m : List aA) : (l.flatMap al) ++ m.flatMap al = (l ++ m).flatMap al := List.flatMap_append.symm
theorem p4 (l : List aA) (o : Nat → Ob) (n : Nat) : fz o (n + 3) (eZ l) = eZ l := by simp only [nf, fz, sc]
theorem pV (l : List aA) (o : Nat → Ob) (n : Nat) : bq o (n + 3) (eZ l) = [] := by simp only [nf, bq, qK]
attribute [go_sem] nf c6 gv xu wx xe vS vN uZ v8 sc qK vk kM lN lr wZ xh wW p4 pV

structure aW where
 Start : Int
 Bits : Int
 deriving DecidableEq

def aW.z : aW := ⟨0, 0⟩

def bc (x : aW) : List AV := [vi x.Start, vq x.Bits]

theorem yZ (x : aW) : (bc x).length = 2 := by rfl
theorem zf (x : aW) : cr (bc x) 0 2 = some (bc x) := by rfl
theorem xG (x : aW) : (bc x).take 2 = (bc x) := by rfl
theorem yS (x : aW) (y : aW) : cE (bc x) 0 (bc y) = bc y := by rfl
theorem tt (x : aW) : (bc x)[0]? = some (vi x.Start) := by rfl
theorem tG (x : aW) (v : Int) : (bc x).set 0 (vi v) = bc { x with Start := v } := by rfl
theorem uG (x : aW) : (bc x)[1]? = some (vq x.Bits) := by rfl
theorem uH (x : aW) (v : Int) : (bc x).set 1 (vq v) = bc { x with Bits := v } := by rfl
theorem t7 (x : aW) (o : Nat → Ob) (n : Nat) : (bc x).map (fz o (n + 1)) = bc x := by rfl
theorem pa (x : aW) (o : Nat → Ob) (n : Nat) : (bc x).flatMap (bq o (n + 1)) = [] := by
 simp only [bc, List.cons_append, List.nil_append, List.append_nil, List.flatMap_cons, List.flatMap_nil, fB]
theorem aN (x : aW) : ∀ c ∈ (bc x), aD c := by
 simp only [bc, List.cons_append, List.nil_append]
 repeat' (first | exact aD.v _ | assumption | exact List.forall_mem_nil _ | refine List.forall_mem_cons.2 ⟨?_, ?_⟩)
theorem DD (x : aW) (o : Nat → Ob) (n : Nat) : (bc x).map (fz o (n + 1)) = bc x := by simp only [t7]
theorem EI (x : aW) (o : Nat → Ob) (n : Nat) : (bc x).flatMap (bq o (n + 1)) = [] := by simp only [pa, List.append_nil]
attribute [go_sem] yZ zf xG yS tt tG uG uH t7 pa DD EI

structure Reorder where
 Start : Int
 Size : Int
 Hold : Int
 Held : (List aA)
 Seen : aW
 deriving DecidableEq

def Reorder.z : Reorder := ⟨0, 0, 0, [], aW.z⟩

def aG (x : Reorder) (s0 : AV) : List AV := [vi x.Start, vi x.Size, vi x.Hold, s0] ++ (bc x.Seen)

theorem xx (x : Reorder) (s0 : AV) : (aG x s0).length = 6 := by rfl
theorem xq (x : Reorder) (s0 : AV) : cr (aG x s0) 0 6 = some (aG x s0) := by rfl
theorem v9 (x : Reorder) (s0 : AV) : (aG x s0).take 6 = (aG x s0) := by rfl
theorem xy (x : Reorder) (s0 : AV) (y : Reorder) (s02 : AV) : cE (aG x s0) 0 (aG y s02) = aG y s02 := by rfl
theorem sm (x : Reorder) (s0 : AV) : (aG x s0)[0]? = some (vi x.Start) := by rfl
theorem rZ (x : Reorder) (s0 : AV) (v : Int) : (aG x s0).set 0 (vi v) = aG { x with Start := v } s0 := by rfl
theorem ta (x : Reorder) (s0 : AV) : (aG x s0)[1]? = some (vi x.Size) := by rfl
theorem tP (x : Reorder) (s0 : AV) (v : Int) : (aG x s0).set 1 (vi v) = aG { x with Size := v } s0 := by rfl
theorem sT (x : Reorder) (s0 : AV) : (aG x s0)[2]? = some (vi x.Hold) := by rfl
theorem sV (x : Reorder) (s0 : AV) (v : Int) : (aG x s0).set 2 (vi v) = aG { x with Hold := v } s0 := by rfl
theorem th (x : Reorder) (s0 : AV) : (aG x s0)[3]? = some s0 := by rfl
theorem tq (x : Reorder) (s0 : AV) (v : AV) : (aG x s0).set 3 v = aG x v := by rfl
theorem sY (x : Reorder) (s0 : AV) : cr (aG x s0) 4 2 = some (bc x.Seen) := by rfl
theorem tU (x : Reorder) (s0 : AV) (v : aW) : cE (aG x s0) 4 (bc v) = aG { x with Seen := v } s0 := by rfl
theorem sx (x : Reorder) (s0 : AV) (o : Nat → Ob) (n : Nat) : (aG x s0).map (fz o (n + 1)) = aG x (fz o (n + 1) s0) := by rfl
theorem nZ (x : Reorder) (s0 : AV) (o : Nat → Ob) (n : Nat) : (aG x s0).flatMap (bq o (n + 1)) = bq o (n + 1) s0 := by
 simp only [aG, bc, List.cons_append, List.nil_append, List.append_nil, List.flatMap_cons, List.flatMap_nil, fB]
theorem uy (x : Reorder) (s0 : AV) (h_s0 : aD s0) : ∀ c ∈ (aG x s0), aD c := by
 simp only [aG, bc, List.cons_append, List.nil_append]
 repeat' (first | exact aD.v _ | assumption | exact List.forall_mem_nil _ | refine List.forall_mem_cons.2 ⟨?_, ?_⟩)
theorem zI {st : AS} {F : List Nat} {σ : List (Option Nat)} (x : Reorder) (s0 : AV) (s02 : AV) (h_s0 : Tm st F σ s0 s02) : TmL st F σ (aG x s0) (aG x s02) := by
 simp only [aG, bc, List.cons_append, List.nil_append]
 repeat' (first | exact TmL.nil | (refine TmL.cons (Tm.v _) ?_) | (refine TmL.cons (by assumption) ?_))
theorem aO {st : AS} {F : List Nat} {σ : List (Option Nat)} {x y : Reorder} {s0 s02 : AV} (hxy : aG y s02 = aG x s02) (h_s0 : Tm st F σ s0 s02) : TmL st F σ (aG x s0) (aG y s02) := by
 rw [hxy]; exact zI x s0 s02 h_s0
theorem iG (x : Reorder) {s0 : (Nat → Nat) → AV} (h_s0 : aK s0) : RenML fun q => aG x (s0 q) := by
 simp only [aG, bc, List.cons_append, List.nil_append]
 repeat' (first | exact RenML.nil | (refine RenML.cons (aK.const (aD.v _)) ?_) | (refine RenML.cons (by assumption) ?_))
theorem qv {q nx off : Nat} (x : Reorder) {s0 : AV} {s02 : AV} (h_s0 : Fr q nx off s0 s02) : FrL q nx off (aG x s0) (aG x s02) := by
 simp only [aG, bc, List.cons_append, List.nil_append]
 repeat' (first | exact FrL.nil | (refine FrL.cons _ _ _ _ (by assumption) ?_) | (refine FrL.cons _ _ _ _ (Fr.same _) ?_))
def c8 (x : Reorder) : List AV := aG x (eZ x.Held)
theorem nq (x : Reorder) : c8 x = aG x (eZ x.Held) := rfl
theorem bH (x : Reorder) : ∀ c ∈ c8 x, aD c := uy x _ (gq _)
theorem C3 (x : Reorder) (o : Nat → Ob) (n : Nat) : (c8 x).map (fz o (n + 3)) = c8 x := by simp only [nq, sx, p4]
theorem CJ (x : Reorder) (o : Nat → Ob) (n : Nat) : (c8 x).flatMap (bq o (n + 3)) = [] := by simp only [nq, nZ, pV, List.append_nil]
attribute [go_sem] xx xq v9 xy sm rZ ta tP sT sV th tq sY tU sx nZ nq C3 CJ

structure cu where
 Sender : Sender
 Reorder : Reorder
 deriving DecidableEq

def cu.z : cu := ⟨Sender.z, Reorder.z⟩

def bI (x : cu) (s0 : AV) (s1 : AV) : List AV := (aB x.Sender s0) ++ (aG x.Reorder s1)

theorem qo (x : cu) (s0 : AV) (s1 : AV) : (bI x s0 s1).length = 15 := by rfl
theorem ql (x : cu) (s0 : AV) (s1 : AV) : cr (bI x s0 s1) 0 15 = some (bI x s0 s1) := by rfl
theorem oZ (x : cu) (s0 : AV) (s1 : AV) : (bI x s0 s1).take 15 = (bI x s0 s1) := by rfl
theorem qi (x : cu) (s0 : AV) (s1 : AV) (y : cu) (s02 : AV) (s12 : AV) : cE (bI x s0 s1) 0 (bI y s02 s12) = bI y s02 s12 := by rfl
theorem lC (x : cu) (s0 : AV) (s1 : AV) (o : Nat → Ob) (n : Nat) : (bI x s0 s1).map (fz o (n + 1)) = bI x (fz o (n + 1) s0) (fz o (n + 1) s1) := by rfl
theorem jH (x : cu) (s0 : AV) (s1 : AV) (o : Nat → Ob) (n : Nat) : (bI x s0 s1).flatMap (bq o (n + 1)) = bq o (n + 1) s0 ++ bq o (n + 1) s1 := by
 simp only [bI, aB, aG, bc, List.cons_append, List.nil_append, List.append_nil, List.flatMap_cons, List.flatMap_nil, fB]
def iL (x : cu) : List AV := bI x (gX x.Sender.Out) (eZ x.Reorder.Held)
theorem iT (x : cu) : iL x = bI x (gX x.Sender.Out) (eZ x.Reorder.Held) := rfl
theorem ug (x : cu) (o : Nat → Ob) (n : Nat) : (iL x).map (fz o (n + 3)) = iL x := by simp only [iT, lC, oQ, p4]
theorem uB (x : cu) (o : Nat → Ob) (n : Nat) : (iL x).flatMap (bq o (n + 3)) = [] := by simp only [iT, jH, p8, pV, List.append_nil]
attribute [go_sem] qo ql oZ qi lC jH iT ug uB

structure aa where
 sides : cu
 plan : ai
 many : Int
 accepted : Int
 lost : Unit
 out : aq
 err : Int
 deriving DecidableEq

def aa.z : aa := ⟨cu.z, ai.z, 0, 0, (), aq.z, 0⟩

def af (x : aa) (s0 : AV) (s1 : AV) (s2 : AV) (s3 : AV) (s4 : AV) (s5 : AV) : List AV := (bI x.sides s0 s1) ++ (ag x.plan) ++ [vi x.many, vi x.accepted, s2] ++ (aC x.out s3 s4 s5) ++ [vi x.err]

theorem ot (x : aa) (s0 : AV) (s1 : AV) (s2 : AV) (s3 : AV) (s4 : AV) (s5 : AV) : (af x s0 s1 s2 s3 s4 s5).length = 30 := by rfl
theorem oI (x : aa) (s0 : AV) (s1 : AV) (s2 : AV) (s3 : AV) (s4 : AV) (s5 : AV) : cr (af x s0 s1 s2 s3 s4 s5) 0 30 = some (af x s0 s1 s2 s3 s4 s5) := by rfl
theorem nA (x : aa) (s0 : AV) (s1 : AV) (s2 : AV) (s3 : AV) (s4 : AV) (s5 : AV) : (af x s0 s1 s2 s3 s4 s5).take 30 = (af x s0 s1 s2 s3 s4 s5) := by rfl
theorem ou (x : aa) (s0 : AV) (s1 : AV) (s2 : AV) (s3 : AV) (s4 : AV) (s5 : AV) (y : aa) (s02 : AV) (s12 : AV) (s22 : AV) (s32 : AV) (s42 : AV) (s52 : AV) : cE (af x s0 s1 s2 s3 s4 s5) 0 (af y s02 s12 s22 s32 s42 s52) = af y s02 s12 s22 s32 s42 s52 := by rfl
theorem gV (x : aa) (s0 : AV) (s1 : AV) (s2 : AV) (s3 : AV) (s4 : AV) (s5 : AV) : (af x s0 s1 s2 s3 s4 s5)[3]? = some (vi x.sides.Sender.Next) := by rfl
theorem ic (x : aa) (s0 : AV) (s1 : AV) (s2 : AV) (s3 : AV) (s4 : AV) (s5 : AV) : (af x s0 s1 s2 s3 s4 s5)[7]? = some s0 := by rfl
theorem ie (x : aa) (s0 : AV) (s1 : AV) (s2 : AV) (s3 : AV) (s4 : AV) (s5 : AV) : (af x s0 s1 s2 s3 s4 s5)[8]? = some (vb x.sides.Sender.Bar) := by rfl
theorem jV (x : aa) (s0 : AV) (s1 : AV) (s2 : AV) (s3 : AV) (s4 : AV) (s5 : AV) : (af x s0 s1 s2 s3 s4 s5)[15]? = some (vi x.plan.Start) := by rfl
theorem jS (x : aa) (s0 : AV) (s1 : AV) (s2 : AV) (s3 : AV) (s4 : AV) (s5 : AV) : (af x s0 s1 s2 s3 s4 s5)[20]? = some (vi x.plan.Burst) := by rfl
theorem jT (x : aa) (s0 : AV) (s1 : AV) (s2 : AV) (s3 : AV) (s4 : AV) (s5 : AV) : (af x s0 s1 s2 s3 s4 s5)[21]? = some (vi x.plan.Round) := by rfl
theorem mr (x : aa) (s0 : AV) (s1 : AV) (s2 : AV) (s3 : AV) (s4 : AV) (s5 : AV) : (af x s0 s1 s2 s3 s4 s5)[22]? = some (vi x.many) := by rfl
theorem mt (x : aa) (s0 : AV) (s1 : AV) (s2 : AV) (s3 : AV) (s4 : AV) (s5 : AV) (v : Int) : (af x s0 s1 s2 s3 s4 s5).set 22 (vi v) = af { x with many := v } s0 s1 s2 s3 s4 s5 := by rfl
theorem kD (x : aa) (s0 : AV) (s1 : AV) (s2 : AV) (s3 : AV) (s4 : AV) (s5 : AV) : (af x s0 s1 s2 s3 s4 s5)[23]? = some (vi x.accepted) := by rfl
theorem kN (x : aa) (s0 : AV) (s1 : AV) (s2 : AV) (s3 : AV) (s4 : AV) (s5 : AV) (v : Int) : (af x s0 s1 s2 s3 s4 s5).set 23 (vi v) = af { x with accepted := v } s0 s1 s2 s3 s4 s5 := by rfl
theorem ml (x : aa) (s0 : AV) (s1 : AV) (s2 : AV) (s3 : AV) (s4 : AV) (s5 : AV) : (af x s0 s1 s2 s3 s4 s5)[24]? = some s2 := by rfl
theorem mn (x : aa) (s0 : AV) (s1 : AV) (s2 : AV) (s3 : AV) (s4 : AV) (s5 : AV) (v : AV) : (af x s0 s1 s2 s3 s4 s5).set 24 v = af x s0 s1 v s3 s4 s5 := by rfl
theorem jf (x : aa) (s0 : AV) (s1 : AV) (s2 : AV) (s3 : AV) (s4 : AV) (s5 : AV) : (af x s0 s1 s2 s3 s4 s5)[25]? = some s3 := by rfl
theorem ji (x : aa) (s0 : AV) (s1 : AV) (s2 : AV) (s3 : AV) (s4 : AV) (s5 : AV) (v : AV) : (af x s0 s1 s2 s3 s4 s5).set 25 v = af x s0 s1 s2 v s4 s5 := by rfl
theorem ku (x : aa) (s0 : AV) (s1 : AV) (s2 : AV) (s3 : AV) (s4 : AV) (s5 : AV) : (af x s0 s1 s2 s3 s4 s5)[26]? = some s4 := by rfl
theorem kC (x : aa) (s0 : AV) (s1 : AV) (s2 : AV) (s3 : AV) (s4 : AV) (s5 : AV) (v : AV) : (af x s0 s1 s2 s3 s4 s5).set 26 v = af x s0 s1 s2 s3 v s5 := by rfl
theorem jF (x : aa) (s0 : AV) (s1 : AV) (s2 : AV) (s3 : AV) (s4 : AV) (s5 : AV) : (af x s0 s1 s2 s3 s4 s5)[27]? = some s5 := by rfl
theorem jC (x : aa) (s0 : AV) (s1 : AV) (s2 : AV) (s3 : AV) (s4 : AV) (s5 : AV) (v : AV) : (af x s0 s1 s2 s3 s4 s5).set 27 v = af x s0 s1 s2 s3 s4 v := by rfl
theorem jM (x : aa) (s0 : AV) (s1 : AV) (s2 : AV) (s3 : AV) (s4 : AV) (s5 : AV) : (af x s0 s1 s2 s3 s4 s5)[28]? = some (vi x.out.Rounds) := by rfl
theorem jR (x : aa) (s0 : AV) (s1 : AV) (s2 : AV) (s3 : AV) (s4 : AV) (s5 : AV) (v : Int) : (af x s0 s1 s2 s3 s4 s5).set 28 (vi v) = af { x with out.Rounds := v } s0 s1 s2 s3 s4 s5 := by rfl
theorem mM (x : aa) (s0 : AV) (s1 : AV) (s2 : AV) (s3 : AV) (s4 : AV) (s5 : AV) : (af x s0 s1 s2 s3 s4 s5)[29]? = some (vi x.err) := by rfl
theorem mW (x : aa) (s0 : AV) (s1 : AV) (s2 : AV) (s3 : AV) (s4 : AV) (s5 : AV) (v : Int) : (af x s0 s1 s2 s3 s4 s5).set 29 (vi v) = af { x with err := v } s0 s1 s2 s3 s4 s5 := by rfl
theorem jt (x : aa) (s0 : AV) (s1 : AV) (s2 : AV) (s3 : AV) (s4 : AV) (s5 : AV) : cr (af x s0 s1 s2 s3 s4 s5) 0 9 = some (aB x.sides.Sender s0) := by rfl
theorem jo (x : aa) (s0 : AV) (s1 : AV) (s2 : AV) (s3 : AV) (s4 : AV) (s5 : AV) (v : Sender) (w0 : AV) : cE (af x s0 s1 s2 s3 s4 s5) 0 (aB v w0) = af { x with sides.Sender := v } w0 s1 s2 s3 s4 s5 := by rfl
theorem jh (x : aa) (s0 : AV) (s1 : AV) (s2 : AV) (s3 : AV) (s4 : AV) (s5 : AV) : cr (af x s0 s1 s2 s3 s4 s5) 9 6 = some (aG x.sides.Reorder s1) := by rfl
theorem jj (x : aa) (s0 : AV) (s1 : AV) (s2 : AV) (s3 : AV) (s4 : AV) (s5 : AV) (v : Reorder) (w0 : AV) : cE (af x s0 s1 s2 s3 s4 s5) 9 (aG v w0) = af { x with sides.Reorder := v } s0 w0 s2 s3 s4 s5 := by rfl
theorem mg (x : aa) (s0 : AV) (s1 : AV) (s2 : AV) (s3 : AV) (s4 : AV) (s5 : AV) : cr (af x s0 s1 s2 s3 s4 s5) 15 7 = some (ag x.plan) := by rfl
theorem mq (x : aa) (s0 : AV) (s1 : AV) (s2 : AV) (s3 : AV) (s4 : AV) (s5 : AV) (v : ai) : cE (af x s0 s1 s2 s3 s4 s5) 15 (ag v) = af { x with plan := v } s0 s1 s2 s3 s4 s5 := by rfl
theorem mB (x : aa) (s0 : AV) (s1 : AV) (s2 : AV) (s3 : AV) (s4 : AV) (s5 : AV) : cr (af x s0 s1 s2 s3 s4 s5) 25 4 = some (aC x.out s3 s4 s5) := by rfl
theorem pO (x : aa) (s0 : AV) (s1 : AV) (s2 : AV) (s3 : AV) (s4 : AV) (s5 : AV) (o : Nat → Ob) (n : Nat) : (af x s0 s1 s2 s3 s4 s5).map (fz o (n + 1)) = af x (fz o (n + 1) s0) (fz o (n + 1) s1) (fz o (n + 1) s2) (fz o (n + 1) s3) (fz o (n + 1) s4) (fz o (n + 1) s5) := by rfl
theorem mZ (x : aa) (s0 : AV) (s1 : AV) (s2 : AV) (s3 : AV) (s4 : AV) (s5 : AV) (o : Nat → Ob) (n : Nat) : (af x s0 s1 s2 s3 s4 s5).flatMap (bq o (n + 1)) = bq o (n + 1) s0 ++ (bq o (n + 1) s1 ++ (bq o (n + 1) s2 ++ (bq o (n + 1) s3 ++ (bq o (n + 1) s4 ++ bq o (n + 1) s5)))) := by
 simp only [af, bI, aB, aG, bc, ag, aC, List.cons_append, List.nil_append, List.append_nil, List.flatMap_cons, List.flatMap_nil, fB]
theorem fG (x : aa) (s0 : AV) (s1 : AV) (s2 : AV) (s3 : AV) (s4 : AV) (s5 : AV) (h_s0 : aD s0) (h_s1 : aD s1) (h_s2 : aD s2) (h_s3 : aD s3) (h_s4 : aD s4) (h_s5 : aD s5) : ∀ c ∈ (af x s0 s1 s2 s3 s4 s5), aD c := by
 simp only [af, bI, aB, aG, bc, ag, aC, List.cons_append, List.nil_append]
 repeat' (first | exact aD.v _ | assumption | exact List.forall_mem_nil _ | refine List.forall_mem_cons.2 ⟨?_, ?_⟩)
theorem oW {st : AS} {F : List Nat} {σ : List (Option Nat)} (x : aa) (s0 : AV) (s1 : AV) (s2 : AV) (s3 : AV) (s4 : AV) (s5 : AV) (s02 : AV) (s12 : AV) (s22 : AV) (s32 : AV) (s42 : AV) (s52 : AV) (h_s0 : Tm st F σ s0 s02) (h_s1 : Tm st F σ s1 s12) (h_s2 : Tm st F σ s2 s22) (h_s3 : Tm st F σ s3 s32) (h_s4 : Tm st F σ s4 s42) (h_s5 : Tm st F σ s5 s52) : TmL st F σ (af x s0 s1 s2 s3 s4 s5) (af x s02 s12 s22 s32 s42 s52) := by
 simp only [af, bI, aB, aG, bc, ag, aC, List.cons_append, List.nil_append]
 repeat' (first | exact TmL.nil | (refine TmL.cons (Tm.v _) ?_) | (refine TmL.cons (by assumption) ?_))
theorem ax {st : AS} {F : List Nat} {σ : List (Option Nat)} {x y : aa} {s0 s1 s2 s3 s4 s5 s02 s12 s22 s32 s42 s52 : AV} (hxy : af y s02 s12 s22 s32 s42 s52 = af x s02 s12 s22 s32 s42 s52) (h_s0 : Tm st F σ s0 s02) (h_s1 : Tm st F σ s1 s12) (h_s2 : Tm st F σ s2 s22) (h_s3 : Tm st F σ s3 s32) (h_s4 : Tm st F σ s4 s42) (h_s5 : Tm st F σ s5 s52) : TmL st F σ (af x s0 s1 s2 s3 s4 s5) (af y s02 s12 s22 s32 s42 s52) := by
 rw [hxy]; exact oW x s0 s1 s2 s3 s4 s5 s02 s12 s22 s32 s42 s52 h_s0 h_s1 h_s2 h_s3 h_s4 h_s5
theorem bo (x : aa) {s0 s1 s2 s3 s4 s5 : (Nat → Nat) → AV} (h_s0 : aK s0) (h_s1 : aK s1) (h_s2 : aK s2) (h_s3 : aK s3) (h_s4 : aK s4) (h_s5 : aK s5) : RenML fun q => af x (s0 q) (s1 q) (s2 q) (s3 q) (s4 q) (s5 q) := by
 simp only [af, bI, aB, aG, bc, ag, aC, List.cons_append, List.nil_append]
 repeat' (first | exact RenML.nil | (refine RenML.cons (aK.const (aD.v _)) ?_) | (refine RenML.cons (by assumption) ?_))
attribute [go_sem] ot oI nA ou gV ic ie jV jS jT mr mt kD kN ml mn jf ji ku kC jF jC jM jR mM mW jt jo jh jj mg mq mB pO mZ

structure b8 where
 Token : Int
 Tid : Int
 Size : Int
 Start : Int
 deriving DecidableEq

def b8.z : b8 := ⟨0, 0, 0, 0⟩

def bG (x : b8) : List AV := [vi x.Token, vi x.Tid, vi x.Size, vi x.Start]

theorem wl (x : b8) : (bG x).length = 4 := by rfl
theorem uY (x : b8) : cr (bG x) 0 4 = some (bG x) := by rfl
theorem uh (x : b8) : (bG x).take 4 = (bG x) := by rfl
theorem vf (x : b8) (y : b8) : cE (bG x) 0 (bG y) = bG y := by rfl
theorem rA (x : b8) : (bG x)[0]? = some (vi x.Token) := by rfl
theorem rN (x : b8) (v : Int) : (bG x).set 0 (vi v) = bG { x with Token := v } := by rfl
theorem tW (x : b8) (v : Int) : (bG x).set 1 (vi v) = bG { x with Tid := v } := by rfl
theorem sa (x : b8) (v : Int) : (bG x).set 2 (vi v) = bG { x with Size := v } := by rfl
theorem qZ (x : b8) (v : Int) : (bG x).set 3 (vi v) = bG { x with Start := v } := by rfl
theorem qy (x : b8) (o : Nat → Ob) (n : Nat) : (bG x).map (fz o (n + 1)) = bG x := by rfl
theorem mL (x : b8) (o : Nat → Ob) (n : Nat) : (bG x).flatMap (bq o (n + 1)) = [] := by
 simp only [bG, List.cons_append, List.nil_append, List.append_nil, List.flatMap_cons, List.flatMap_nil, fB]
theorem di (x : b8) : ∀ c ∈ (bG x), aD c := by
 simp only [bG, List.cons_append, List.nil_append]
 repeat' (first | exact aD.v _ | assumption | exact List.forall_mem_nil _ | refine List.forall_mem_cons.2 ⟨?_, ?_⟩)
theorem Bn (x : b8) (o : Nat → Ob) (n : Nat) : (bG x).map (fz o (n + 1)) = bG x := by simp only [qy]
theorem Bl (x : b8) (o : Nat → Ob) (n : Nat) : (bG x).flatMap (bq o (n + 1)) = [] := by simp only [mL, List.append_nil]
attribute [go_sem] wl uY uh vf rA rN tW sa qZ qy mL Bn Bl

structure bC where
 Token : Int
 Tid : Int
 Status : Int
 Size : Int
 deriving DecidableEq

def bC.z : bC := ⟨0, 0, 0, 0⟩

def bt (x : bC) : List AV := [vi x.Token, vi x.Tid, vi x.Status, vi x.Size]

theorem sq (x : bC) : (bt x).length = 4 := by rfl
theorem sQ (x : bC) : cr (bt x) 0 4 = some (bt x) := by rfl
theorem rE (x : bC) : (bt x).take 4 = (bt x) := by rfl
theorem sl (x : bC) (y : bC) : cE (bt x) 0 (bt y) = bt y := by rfl
theorem oF (x : bC) : (bt x)[0]? = some (vi x.Token) := by rfl
theorem oA (x : bC) (v : Int) : (bt x).set 0 (vi v) = bt { x with Token := v } := by rfl
theorem qm (x : bC) : (bt x)[1]? = some (vi x.Tid) := by rfl
theorem nE (x : bC) : (bt x)[2]? = some (vi x.Status) := by rfl
theorem pF (x : bC) : (bt x)[3]? = some (vi x.Size) := by rfl
theorem pW (x : bC) (v : Int) : (bt x).set 3 (vi v) = bt { x with Size := v } := by rfl
theorem mE (x : bC) (o : Nat → Ob) (n : Nat) : (bt x).map (fz o (n + 1)) = bt x := by rfl
theorem kO (x : bC) (o : Nat → Ob) (n : Nat) : (bt x).flatMap (bq o (n + 1)) = [] := by
 simp only [bt, List.cons_append, List.nil_append, List.append_nil, List.flatMap_cons, List.flatMap_nil, fB]
theorem ia (x : bC) : ∀ c ∈ (bt x), aD c := by
 simp only [bt, List.cons_append, List.nil_append]
 repeat' (first | exact aD.v _ | assumption | exact List.forall_mem_nil _ | refine List.forall_mem_cons.2 ⟨?_, ?_⟩)
theorem xl (x : bC) (o : Nat → Ob) (n : Nat) : (bt x).map (fz o (n + 1)) = bt x := by simp only [mE]
theorem xk (x : bC) (o : Nat → Ob) (n : Nat) : (bt x).flatMap (bq o (n + 1)) = [] := by simp only [kO, List.append_nil]
attribute [go_sem] sq sQ rE sl oF oA qm nE pF pW mE kO xl xk

def lm (l : List Frame) : AV := .imm (List.flatMap bl l) l.length
theorem rc (l : List Frame) : lm l = .imm (List.flatMap bl l) l.length := rfl
theorem gY (x : Frame) : (bl x).length = 41 := by rfl
theorem kh (l : List Frame) : aD (lm l) := aD.imm (iP dP l)
theorem cf (l : List Frame) : ∀ c ∈ l.flatMap bl, aD c := iP dP l
theorem zO (l : List Frame) : (l.flatMap bl).length = l.length * 41 := fu gY l
theorem Al (l : List Frame) (i o : Nat) (ho : o < 41) : (l.flatMap bl)[i * 41 + o]? = l[i]?.bind fun a => (bl a)[o]? := jB gY l i o ho
theorem zK (l : List Frame) (i : Nat) : (l.flatMap bl)[i * 41]? = l[i]?.bind fun a => (bl a)[0]? := jB gY l i 0 (by decide)
theorem Ad (l : List Frame) (i o n : Nat) (ho : o + n ≤ 41) (hn : 0 < n) : cr (l.flatMap bl) (i * 41 + o) n = l[i]?.bind fun a => cr (bl a) o n := jy gY l i o n ho hn
theorem zp (l : List Frame) (i n : Nat) (ho : n ≤ 41) (hn : 0 < n) : cr (l.flatMap bl) (i * 41) n = l[i]?.bind fun a => cr (bl a) 0 n := jy gY l i 0 n (by omega) hn
theorem yR (l : List Frame) : cr (l.flatMap bl) 0 (l.length * 41) = some (l.flatMap bl) := qh gY l
theorem y4 (l : List Frame) (n : Nat) : (l.flatMap bl).take (n * 41) = (l.take n).flatMap bl := i8 gY l n
theorem y5 (l : List Frame) (n : Nat) : (l.flatMap bl).drop (n * 41) = (l.drop n).flatMap bl := jW gY l n
theorem wA (l : List Frame) (o : Nat → Ob) (n : Nat) : (l.flatMap bl).map (fz o (n + 2)) = (l.flatMap bl) := uQ (fun a => B3 a o n) l
theorem tZ (l : List Frame) (o : Nat → Ob) (n : Nat) : (l.flatMap bl).flatMap (bq o (n + 2)) = [] := nB (fun a => BY a o n) l
theorem o8 (l : List Frame) (i : Nat) (v : Bool) : (l.flatMap bl).set (i * 41 + 5) (vb v) = (l.modify i (fun y => { y with Head.Retry := v })).flatMap bl := dF gY l i 5 _ (fun y => { y with Head.Retry := v }) (by decide) (fun _ => by rfl)
theorem q8 (l : List Frame) (i : Nat) (v : Int) : (l.flatMap bl).set (i * 41 + 34) (vi v) = (l.modify i (fun y => { y with Head.Seq := v })).flatMap bl := dF gY l i 34 _ (fun y => { y with Head.Seq := v }) (by decide) (fun _ => by rfl)
theorem rF (l : List Frame) (i : Nat) (v : Int) : (l.flatMap bl).set (i * 41 + 36) (vi v) = (l.modify i (fun y => { y with Head.Tid := v })).flatMap bl := dF gY l i 36 _ (fun y => { y with Head.Tid := v }) (by decide) (fun _ => by rfl)
theorem Ag (l : List Frame) (i : Nat) (x : Frame) (b0 : (List Int)) : cE (l.flatMap bl) (i * 41) (bw x (.imm (List.map vu b0) b0.length)) = (l.set i { x with Body := b0 }).flatMap bl := sI gY (by decide) l i { x with Body := b0 }
theorem As (l : List Frame) (x : Frame) (b0 : (List Int)) : (l.flatMap bl) ++ bw x (r6 b0) = (l ++ [{ x with Body := b0 }]).flatMap bl := by rw [List.flatMap_append]; simp only [List.flatMap_cons, List.flatMap_nil, List.append_nil]; rfl
theorem AL (l : List Frame) (m : List Frame) : (l.flatMap bl) ++ m.flatMap bl = (l ++ m).flatMap bl := List.flatMap_append.symm
theorem CG (l : List Frame) (o : Nat → Ob) (n : Nat) : fz o (n + 3) (lm l) = lm l := by simp only [rc, fz, wA]
theorem Cv (l : List Frame) (o : Nat → Ob) (n : Nat) : bq o (n + 3) (lm l) = [] := by simp only [rc, bq, tZ]
attribute [go_sem] rc gY zO Al zK Ad zp yR y4 y5 wA tZ o8 q8 rF Ag As AL CG Cv

end Go.AX.Z.TN

/-! (TND) -/

set_option linter.unusedSimpArgs false
set_option linter.unusedVariables false
set_option maxHeartbeats 4000000
set_option maxRecDepth 20000
namespace Go.AX.Z.TN
open Go.AX

def agP : Nat → List (List AV) → List (Nat × AV)
 | _, [] => []
 | i, c :: L => (i, .agg c) :: agP (i + 1) L
theorem AD {sz : Nat} {zs : List AV} (hz : zs.length = sz) : ∀ (L : List (List AV)) (i0 : Nat) (pre : List AV), pre.length = i0 * sz → (∀ c ∈ L, c.length = sz) → kA (fun i => some (i * sz, sz)) (pre ++ rep L.length zs) (agP i0 L) = some (pre ++ L.flatten)
 | [], i0, pre, _, _ => by simp [agP, kA, rep]
 | c :: L, i0, pre, hp, hL => by
  have hc := hL c (by simp)
  have ih := AD hz L (i0 + 1) (pre ++ c) (by rw [List.length_append, hp, hc, Nat.succ_mul]) (fun d hd => hL d (by simp [hd]))
  have e : cE (pre ++ rep (c :: L).length zs) (i0 * sz) c = pre ++ c ++ rep L.length zs := by
   rw [List.length_cons, rep, ← hp]
   rw [wC (by rw [List.length_append, List.length_append, hz, hc]; omega), List.take_left, List.drop_append, List.drop_eq_nil_of_le (by omega), List.nil_append, show pre.length + c.length - pre.length = zs.length by omega, List.drop_left]
  rw [agP, kA]
  simp only [cellsOf]
  rw [if_pos ⟨hc, by rw [List.length_append, hp, List.length_cons, rep, List.length_append, hz, hc]; omega⟩, e, ih, List.flatten_cons, List.append_assoc]
theorem Gx {s : AS} {F : List Nat} {σ : List (Option Nat)} {xs ys zs : List AV} (h : TmL s F σ xs ys) (e : ys = zs) : TmL s F σ xs zs := e ▸ h
def dI : Option ai :=
 some { ai.z with Burst := 2, Hold := 16777216, Life := 1073741824, Limit := 2, Round := 10, Size := 2, Start := 4095 }

def cV (a0 : Int) (a1 : Int) (a2 : Int) : Option Bool :=
 some ((decide (a1 ≤ a0)) && (decide (a0 ≤ a2)))

def gw (a0 : ai) : Option Int :=
 ((cV a0.Start 0 4095).bind fun x2 =>
 ((
  bif x2 then
   ((cV a0.Size 1 64).bind fun x3 =>
   some x3)
  else
   some false).bind fun x4 =>
 ((
  bif x4 then
   ((cV a0.Limit 1 16).bind fun x5 =>
   some x5)
  else
   some false).bind fun x6 =>
 ((
  bif x6 then
   ((cV a0.Burst 1 64).bind fun x7 =>
   some x7)
  else
   some false).bind fun x8 =>
 ((cV a0.Life 1 1073741824).bind fun x9 =>
 ((
  bif x9 then
   ((cV a0.Hold 0 16777216).bind fun x10 =>
   some x10)
  else
   some false).bind fun x11 =>
 ((
  bif x11 then
   ((cV a0.Round 1 1000000).bind fun x12 =>
   some x12)
  else
   some false).bind fun x13 =>
 bif ((!x8) || (!x13)) then
  some 8
 else
  some 0)))))))

def bP (a0 : Int) (a1 : Int) (a2 : Int) : Option Bool :=
 some ((decide (a1 ≤ a0)) && (decide (a0 ≤ a2)))

def fO (a0 : Sender) : Option Int :=
 bif decide (0 < (a0.Out.length : Int)) then
  ((idx a0.Out 0).bind fun x27 =>
  some x27.Frame.Head.Seq)
 else
  some a0.Next

def cJ (a0 : Int) (a1 : Int) : Option Int :=
 some (IntKind.wrap .i64 (wB .u64 (IntKind.wrap .u64 ((IntKind.wrap .u64 a1) - (IntKind.wrap .u64 a0))) 4095))

def dW (a0 : Sender) (x27 : Int) (x28 : Int) : Nat → (Int × Int × Int) → Option (Ex Int Unit)
 | 0, _ => none
 | n15 + 1, d31 =>
  bif decide (d31.2.2 < (a0.Out.length : Int)) then
   ((idx a0.Out d31.2.2).bind fun x32 =>
   ((cJ x27 x32.Frame.Head.Seq).bind fun x33 =>
   ((bP x32.Frame.Head.Seq 0 4095).bind fun x34 =>
   ((
    bif (((!x34) || (decide (x33 ≤ d31.1))) || (decide (x28 ≤ x33))) then
     some true
    else
     ((bP x32.At d31.2.1 1099511627776).bind fun x35 =>
     some (!x35))).bind fun x36 =>
   ((
    bif x36 then
     some true
    else
     ((bP x32.Tries 0 a0.Limit).bind fun x37 =>
     some (!x37))).bind fun x38 =>
   bif (x38 || (x32.Flying && (x32.Tries == 0))) then
    some (Ex.ret 8)
   else
    dW a0 x27 x28 n15 (x33, x32.At, IntKind.wrap .i64 (d31.2.2 + 1)))))))
  else
   some (Ex.go ())

def ey (a0 : Sender) : Option Int :=
 ((bP a0.Tid 0 7).bind fun x16 =>
 ((
  bif (x16 && (decide (a0.Phase ≤ 2))) then
   ((bP a0.Token 0 255).bind fun x17 =>
   some x17)
  else
   some false).bind fun x18 =>
 ((
  bif x18 then
   ((bP a0.Next 0 4095).bind fun x19 =>
   some x19)
  else
   some false).bind fun x20 =>
 ((
  bif x20 then
   ((bP a0.Limit 1 16).bind fun x21 =>
   some x21)
  else
   some false).bind fun x22 =>
 ((
  bif x22 then
   ((bP a0.Life 1 1073741824).bind fun x23 =>
   some x23)
  else
   some false).bind fun x24 =>
 ((bP a0.Size 1 64).bind fun x25 =>
 ((
  bif (a0.Phase == 0) then
   some (a0.Size == 0)
  else
   some x25).bind fun d26 =>
 bif (((!x24) || (!d26)) || ((a0.Phase != 2) && ((decide (0 < (a0.Out.length : Int))) || a0.Bar))) then
  some 8
 else
  ((fO a0).bind fun x27 =>
  ((cJ x27 a0.Next).bind fun x28 =>
  bif decide (a0.Size < x28) then
   some 8
  else
   ((
    dW a0 x27 x28 big ((-1), 0, 0)).bind fun o30 =>
   (o30.k fun d29 =>
   some 0)))))))))))

def lq (a0 : Int) (a1 : Int) (a2 : Int) (a3 : Int) : Option (Sender × Int) :=
 ((ey { Sender.z with Life := a3, Limit := a2, Next := a1, Tid := a0 }).bind fun x16 =>
 bif (x16 != 0) then
  some (Sender.z, 2)
 else
  some ({ Sender.z with Life := a3, Limit := a2, Next := a1, Tid := a0 }, 0))

def bg (a0 : Int) (a1 : aa) (a2 : (List Bool)) : Option aa :=
 bif (a1.err == 0) then
  some { a1 with err := a0 }
 else
  some a1

def dX (a0 : Frame) : Option Frame :=
 ((chk (decide (a0.Body.length ≤ 140737488355328))).bind fun x23 =>
 some a0)

def eJ (a0 : Sender) : Nat → (List ay × Int) → Option ((List ay))
 | 0, _ => none
 | n2 + 1, d22 =>
  bif decide (d22.2 < (a0.Out.length : Int)) then
   ((idx a0.Out d22.2).bind fun x23 =>
   ((dX x23.Frame).bind fun x24 =>
   ((chk (decide ((d22.1.length + 1) * 128 ≤ 140737488355328))).bind fun x25 =>
   eJ a0 n2 ((d22.1 ++ [{ x23 with Frame := x24 }]), IntKind.wrap .i64 (d22.2 + 1)))))
  else
   some d22.1

def fk (a0 : Sender) : Option Sender :=
 ((
  eJ a0 big ([], 0)).bind fun d21 =>
 some { a0 with Out := d21 })

def j9 (a0 : Sender) (a1 : Int) : Option (b8 × Sender × Int) :=
 ((ey a0).bind fun x19 =>
 bif (x19 != 0) then
  some (b8.z, Sender.z, x19)
 else
  ((bP a1 1 64).bind fun x20 =>
  bif (!x20) then
   some (b8.z, Sender.z, 2)
  else
   bif (a0.Phase == 2) then
    some (b8.z, Sender.z, 20)
   else
    ((fk { a0 with Phase := 1, Size := a1, Token := IntKind.wrap .i64 ((a0.Token.tmod 255) + 1) }).bind fun x21 =>
    some ({ b8.z with Size := a1, Start := a0.Next, Tid := a0.Tid, Token := IntKind.wrap .i64 ((a0.Token.tmod 255) + 1) }, x21, 0))))

def gy (a0 : Sender) (a1 : bC) : Option (Sender × Int) :=
 ((ey a0).bind fun x24 =>
 ((
  bif (x24 != 0) then
   some (Ex.ret (Sender.z, x24))
  else
   bif (a0.Phase != 1) then
    some (Ex.ret (Sender.z, 20))
   else
    bif ((a1.Token != a0.Token) || (a1.Tid != a0.Tid)) then
     some (Ex.ret (Sender.z, 21))
    else
     bif (a1.Status != 0) then
      some (Ex.go { a0 with Phase := 0, Size := 0 })
     else
      ((bP a1.Size 1 a0.Size).bind fun x27 =>
      bif (!x27) then
       some (Ex.ret (Sender.z, 2))
      else
       some (Ex.go { a0 with Phase := 2, Size := a1.Size }))).bind fun o26 =>
 (o26.k fun d25 =>
 ((fk d25).bind fun x28 =>
 some (x28, 0)))))

def dy (a0 : Int) : Option Bool :=
 some ((decide (0 ≤ a0)) && (decide (a0 < 4096)))

def et (a0 : Int) : Option Bool :=
 some ((decide (0 ≤ a0)) && (decide (a0 < 4096)))

def eU (a0 : aW) : Option Int :=
 ((et a0.Start).bind fun x32 =>
 bif (!x32) then
  some 8
 else
  some 0)

def eH (a0 : Int) : Option Bool :=
 some ((decide (0 ≤ a0)) && (decide (a0 ≤ 1099511627776)))

def cY (a0 : Reorder) : Nat → (Int × Int) → Option (Ex Int Unit)
 | 0, _ => none
 | n8 + 1, d36 =>
  bif decide (d36.2 < (a0.Held.length : Int)) then
   ((idx a0.Held d36.2).bind fun x37 =>
   ((cJ a0.Start x37.Frame.Head.Seq).bind fun x38 =>
   ((dy x37.Frame.Head.Seq).bind fun x39 =>
   ((
    bif (!x39) then
     some true
    else
     ((eH x37.At).bind fun x40 =>
     some (!x40))).bind fun x41 =>
   bif ((x41 || (decide (x38 ≤ d36.1))) || (decide (a0.Size ≤ x38))) then
    some (Ex.ret 8)
   else
    cY a0 n8 (x38, IntKind.wrap .i64 (d36.2 + 1))))))
  else
   some (Ex.go ())

def er (a0 : Reorder) : Option Int :=
 ((dy a0.Start).bind fun x31 =>
 ((
  bif (((((!x31) || (decide (a0.Size < 1))) || (decide (64 < a0.Size))) || (decide (a0.Hold < 0))) || (decide (16777216 < a0.Hold))) then
   some true
  else
   ((eU a0.Seen).bind fun x32 =>
   some (x32 != 0))).bind fun x33 =>
 bif x33 then
  some 8
 else
  ((
   cY a0 big (0, 0)).bind fun o35 =>
  (o35.k fun d34 =>
  some 0))))

def lV (a0 : Int) (a1 : Int) (a2 : Int) : Option (Reorder × Int) :=
 ((er { Reorder.z with Hold := a2, Seen := { aW.z with Start := a0 }, Size := a1, Start := a0 }).bind fun x31 =>
 bif (x31 != 0) then
  some (Reorder.z, 2)
 else
  some ({ Reorder.z with Hold := a2, Seen := { aW.z with Start := a0 }, Size := a1, Start := a0 }, 0))

def ek (a0 : aa) (a1 : (List Bool)) : Option aa :=
 ((lq 0 a0.plan.Start a0.plan.Limit a0.plan.Life).bind fun x16 =>
 ((bg x16.2 a0 a1).bind fun x17 =>
 ((j9 x16.1 a0.plan.Size).bind fun x18 =>
 ((bg x18.2.2 { x17 with out.Acked := a0.out.Acked, out.Delivered := a0.out.Delivered, out.Dropped := a0.out.Dropped } a1).bind fun x19 =>
 ((gy x18.2.1 { bC.z with Size := a0.plan.Size, Token := x18.1.Token }).bind fun x20 =>
 ((bg x20.2 { x19 with out.Acked := a0.out.Acked, out.Delivered := a0.out.Delivered, out.Dropped := a0.out.Dropped, sides.Sender := x20.1 } a1).bind fun x21 =>
 ((lV a0.plan.Start a0.plan.Size a0.plan.Hold).bind fun x22 =>
 ((bg x22.2 { x21 with out.Acked := a0.out.Acked, out.Delivered := a0.out.Delivered, out.Dropped := a0.out.Dropped, sides.Reorder := x22.1 } a1).bind fun x23 =>
 some x23))))))))

def dY (a0 : Sender) : Nat → (List Int × Int) → Option ((List Int))
 | 0, _ => none
 | n3 + 1, d28 =>
  bif decide (d28.2 < (a0.Out.length : Int)) then
   ((idx a0.Out d28.2).bind fun x29 =>
   ((chk (decide ((d28.1.length + 1) * 8 ≤ 140737488355328))).bind fun x30 =>
   dY a0 n3 ((d28.1 ++ [x29.Frame.Head.Seq]), IntKind.wrap .i64 (d28.2 + 1))))
  else
   some d28.1

def fV (a0 : Sender) : Option ((List Int) × Sender × Int) :=
 ((ey a0).bind fun x26 =>
 bif (x26 != 0) then
  some ([], Sender.z, x26)
 else
  ((
   dY a0 big ([], 0)).bind fun d27 =>
  some (d27, { a0 with Bar := false, Out := [], Phase := 0, Size := 0 }, 0)))

def bW (a2 : (List Int)) (a0 : aa) : Nat → (List Int × Int) → Option ((List Int))
 | 0, _ => none
 | n2 + 1, d34 =>
  bif decide (d34.2 < (a2.length : Int)) then
   ((idx a2 d34.2).bind fun x35 =>
   ((cJ a0.plan.Start x35).bind fun x36 =>
   ((chk (decide ((d34.1.length + 1) * 8 ≤ 140737488355328))).bind fun x37 =>
   bW a2 a0 n2 ((d34.1 ++ [x36]), IntKind.wrap .i64 (d34.2 + 1)))))
  else
   some d34.1

def ct (a0 : aa) (a1 : (List Bool)) (a2 : (List Int)) : Option (List Int) :=
 ((
  bW a2 a0 big ([], 0)).bind fun d33 =>
 some d33)

def d4 (a0 : (List aA)) : Nat → (List aA × Int) → Option ((List aA))
 | 0, _ => none
 | n2 + 1, d46 =>
  bif decide (d46.2 < (a0.length : Int)) then
   ((idx a0 d46.2).bind fun x47 =>
   ((dX x47.Frame).bind fun x48 =>
   ((chk (decide ((d46.1.length + 1) * 112 ≤ 140737488355328))).bind fun x49 =>
   d4 a0 n2 ((d46.1 ++ [{ aA.z with At := x47.At, Frame := x48 }]), IntKind.wrap .i64 (d46.2 + 1)))))
  else
   some d46.1

def eT (a0 : (List aA)) : Option (List aA) :=
 ((
  d4 a0 big ([], 0)).bind fun d45 =>
 some d45)

def fi (a0 : aA) (a1 : Int) (a2 : Reorder) : Option Int :=
 ((cJ a2.Start a0.Frame.Head.Seq).bind fun x55 =>
 some (IntKind.wrap .i64 (x55 - a1)))

def aS (a0 : (List aA)) (a1 : Int) (a2 : Reorder) : Nat → (Int × Int) → Option (Int)
 | 0, _ => none
 | n2 + 1, d54 =>
  bif decide (d54.1 < d54.2) then
   ((idx a0 (IntKind.wrap .i64 (((IntKind.wrap .u64 (IntKind.wrap .i64 (d54.1 + d54.2)))).fdiv (2 ^ (min 1 64))))).bind fun x55 =>
   ((fi x55 a1 a2).bind fun x56 =>
   bif decide (x56 < 0) then
    aS a0 a1 a2 n2 (IntKind.wrap .i64 ((IntKind.wrap .i64 (((IntKind.wrap .u64 (IntKind.wrap .i64 (d54.1 + d54.2)))).fdiv (2 ^ (min 1 64)))) + 1), d54.2)
   else
    aS a0 a1 a2 n2 (d54.1, IntKind.wrap .i64 (((IntKind.wrap .u64 (IntKind.wrap .i64 (d54.1 + d54.2)))).fdiv (2 ^ (min 1 64))))))
  else
   some d54.1

def bN (a0 : (List aA)) (a1 : Int) (a2 : Reorder) : Option (Int × Bool) :=
 ((
  aS a0 a1 a2 big (0, (a0.length : Int))).bind fun d53 =>
 bif decide (d53 < (a0.length : Int)) then
  ((idx a0 d53).bind fun x57 =>
  ((fi x57 a1 a2).bind fun x58 =>
  some (d53, (x58 == 0))))
 else
  some (d53, false))

def gz (a0 : Reorder) (a1 : Int) : Option (Int × Bool) :=
 ((cJ a0.Start a1).bind fun x52 =>
 ((bN a0.Held x52 a0).bind fun x53 =>
 some (x53.1, x53.2)))

def fb (a0 : Int) (a1 : Int) : Option Int :=
 some (IntKind.wrap .i64 (wB .u64 (IntKind.wrap .u64 ((IntKind.wrap .u64 a0) + (IntKind.wrap .u64 a1))) 4095))

def d3 (a0 : Reorder) : Nat → (List Frame × Nat × Int × Int) → Option ((List Frame))
 | 0, _ => none
 | n2 + 1, d55 =>
  bif decide (d55.2.2.2 < d55.2.2.1) then
   ((chk (decide (d55.2.2.2 < (d55.2.1 : Int)))).bind fun x56 =>
   ((idx a0.Held d55.2.2.2).bind fun x57 =>
   ((chk (decide ((d55.1.length + 1) * 104 ≤ 140737488355328))).bind fun x58 =>
   d3 a0 n2 ((d55.1 ++ [x57.Frame]), d55.2.1, d55.2.2.1, IntKind.wrap .i64 (d55.2.2.2 + 1)))))
  else
   some d55.1

def d9 : Nat → (Reorder × List aA × List Frame) → Option ((Reorder × List aA × List Frame))
 | 0, _ => none
 | n7 + 1, d61 =>
  ((
   bif decide (0 < ((d61.2.1.length : Nat) : Int)) then
    ((idx d61.2.1 0).bind fun x62 =>
    some (x62.Frame.Head.Seq == d61.1.Start))
   else
    some false).bind fun x63 =>
  bif x63 then
   ((idx d61.2.1 0).bind fun x64 =>
   ((chk (decide ((d61.2.2.length + 1) * 104 ≤ 140737488355328))).bind fun x65 =>
   ((fb d61.1.Start 1).bind fun x66 =>
   ((chk (decide (1 ≤ (d61.2.1.length : Int)))).bind fun x67 =>
   d9 n7 ({ d61.1 with Start := x66 }, (List.drop 1 d61.2.1), (d61.2.2 ++ [x64.Frame]))))))
  else
   some (d61.1, d61.2.1, d61.2.2))

def eV (a0 : Reorder) (a1 : Int) : Option (List Frame × Reorder × List aA) :=
 ((gz a0 a1).bind fun x52 =>
 ((chk (decide (0 ≤ x52.1) && decide (x52.1 ≤ (a0.Held.length : Int)))).bind fun x53 =>
 ((
  d3 a0 big ([], (x52.1).toNat, (((x52.1).toNat : Nat) : Int), 0)).bind fun d54 =>
 ((chk (decide (0 ≤ x52.1) && decide (x52.1 ≤ (a0.Held.length : Int)))).bind fun x59 =>
 ((
  d9 big ({ a0 with Start := a1 }, (List.drop ((x52.1).toNat) a0.Held), d54)).bind fun d60 =>
 some (d60.2.2, d60.1, d60.2.1))))))

def jc (a0 : Reorder) (a1 : Int) : Option ((List Frame) × Reorder × Int) :=
 ((er a0).bind fun x43 =>
 bif (x43 != 0) then
  some ([], Reorder.z, x43)
 else
  ((dy a1).bind fun x44 =>
  bif (!x44) then
   some ([], Reorder.z, 2)
  else
   ((eT a0.Held).bind fun x45 =>
   ((cJ a0.Start a1).bind fun x46 =>
   bif decide (2048 ≤ x46) then
    some ([], { a0 with Held := x45 }, 0)
   else
    ((eV { a0 with Held := x45 } a1).bind fun x47 =>
    some (x47.1, { x47.2.1 with Held := x47.2.2 }, 0))))))

def bV (a0 : (List Frame)) (a1 : aa) : Nat → (List Int × Int) → Option ((List Int))
 | 0, _ => none
 | n2 + 1, d51 =>
  bif decide (d51.2 < (a0.length : Int)) then
   ((idx a0 d51.2).bind fun x52 =>
   ((cJ a1.plan.Start x52.Head.Seq).bind fun x53 =>
   ((chk (decide ((d51.1.length + 1) * 8 ≤ 140737488355328))).bind fun x54 =>
   bV a0 a1 n2 ((d51.1 ++ [x53]), IntKind.wrap .i64 (d51.2 + 1)))))
  else
   some d51.1

def bQ (a0 : (List Frame)) (a1 : aa) (a2 : (List Bool)) : Option (List Int) :=
 ((
  bV a0 a1 big (a1.out.Delivered, 0)).bind fun d50 =>
 some d50)

def cB (a0 : Int) (a1 : aa) (a2 : (List Bool)) : Option (aa × List Int) :=
 ((jc a1.sides.Reorder a0).bind fun x43 =>
 ((bg x43.2.2 a1 a2).bind fun x44 =>
 ((bQ x43.1 { x44 with out.Acked := a1.out.Acked, out.Delivered := a1.out.Delivered, out.Dropped := a1.out.Dropped, sides.Reorder := x43.2.1 } a2).bind fun x45 =>
 some ({ x44 with out.Acked := a1.out.Acked, out.Delivered := a1.out.Delivered, out.Dropped := a1.out.Dropped, sides.Reorder := x43.2.1 }, x45))))

def cg (x27 : aa) : Nat → (List Int × Int) → Option ((List Int))
 | 0, _ => none
 | n2 + 1, d31 =>
  bif decide (d31.2 < x27.many) then
   ((chk (decide ((d31.1.length + 1) * 8 ≤ 140737488355328))).bind fun x32 =>
   cg x27 n2 ((d31.1 ++ [d31.2]), IntKind.wrap .i64 (d31.2 + 1)))
  else
   some d31.1

def ej (a0 : aa) (a1 : (List Bool)) : Option (aa × List Int × List Int) :=
 ((fV a0.sides.Sender).bind fun x26 =>
 ((bg x26.2.2 a0 a1).bind fun x27 =>
 ((ct { x27 with out.Acked := a0.out.Acked, out.Delivered := a0.out.Delivered, out.Dropped := a0.out.Dropped, sides.Sender := x26.2.1 } a1 x26.1).bind fun x28 =>
 ((chk (decide ((a0.out.Dropped.length + x28.length) * 8 ≤ 140737488355328))).bind fun x29 =>
 ((
  cg x27 big ((a0.out.Dropped ++ x28), x27.accepted)).bind fun d30 =>
 ((cB x26.2.1.Next { x27 with out.Acked := a0.out.Acked, out.Delivered := a0.out.Delivered, out.Dropped := d30, sides.Sender := x26.2.1 } a1).bind fun x33 =>
 some (x33.1, x33.2, d30)))))))

def d7 (a0 : Sender) (a1 : Bool) : Option (Sender × Int) :=
 ((ey a0).bind fun x36 =>
 bif (x36 != 0) then
  some (Sender.z, x36)
 else
  bif (!a1) then
   some (Sender.z, 2)
  else
   bif (a0.Phase != 2) then
    some (Sender.z, 20)
   else
    ((fk a0).bind fun x37 =>
    some (x37, 0)))

def iM (a0 : ay) (a1 : Sender) (a2 : Int) : Option Bool :=
 some ((!a0.Flying) && ((a0.Tries == a1.Limit) || (decide ((IntKind.wrap .i64 (a0.At + a1.Life)) ≤ a2))))

def eO (a0 : ay) (a1 : Sender) (a2 : Int) (a3 : List Int) : Option (Bool × List Int) :=
 ((iM a0 a1 a2).bind fun x41 =>
 bif x41 then
  ((chk (decide ((a3.length + 1) * 8 ≤ 140737488355328))).bind fun x42 =>
  some (x41, (a3 ++ [a0.Frame.Head.Seq])))
 else
  some (x41, a3))

def bm (a0 : Sender) (a1 : Int) : Nat → (List Int × Int) → Option (Ex (Int × List Int) (List Int))
 | 0, _ => none
 | n2 + 1, d41 =>
  bif decide (d41.2 < ((a0.Out.length : Nat) : Int)) then
   ((idx a0.Out d41.2).bind fun x42 =>
   ((eO x42 a0 a1 d41.1).bind fun x43 =>
   bif x43.1 then
    some (Ex.ret (d41.2, x43.2))
   else
    bm a0 a1 n2 (x43.2, IntKind.wrap .i64 (d41.2 + 1))))
  else
   some (Ex.go d41.1)

def cq (a0 : Sender) (a1 : Int) : Option (Int × List Int) :=
 ((
  bm a0 a1 big ([], 0)).bind fun o40 =>
 (o40.k fun d39 =>
 some ((-1), d39)))

def bf (a1 : Int) : Nat → (List ay × Sender × List Int × Int × Int) → Option ((List ay × Int × Sender × List Int))
 | 0, _ => none
 | n3 + 1, d41 =>
  bif decide (d41.2.2.2.2 < ((d41.1.length : Nat) : Int)) then
   ((idx d41.1 d41.2.2.2.2).bind fun x42 =>
   ((eO x42 { d41.2.1 with Out := d41.1 } a1 d41.2.2.1).bind fun x43 =>
   bif (!x43.1) then
    ((idx d41.1 d41.2.2.2.1).bind fun x44 =>
    bf a1 n3 ((d41.1.set ((d41.2.2.2.1).toNat) x42), { d41.2.1 with Out := d41.1 }, x43.2, IntKind.wrap .i64 (d41.2.2.2.1 + 1), IntKind.wrap .i64 (d41.2.2.2.2 + 1)))
   else
    bf a1 n3 (d41.1, { d41.2.1 with Out := d41.1 }, x43.2, d41.2.2.2.1, IntKind.wrap .i64 (d41.2.2.2.2 + 1))))
  else
   some (d41.1, d41.2.2.2.1, d41.2.1, d41.2.2.1)

def bT (a0 : Sender) (a1 : Int) : Option (List ay × Sender × List Int) :=
 ((cq a0 a1).bind fun x39 =>
 bif (x39.1 == (-1)) then
  some (a0.Out, a0, x39.2)
 else
  ((
   bf a1 big (a0.Out, a0, x39.2, x39.1, IntKind.wrap .i64 (x39.1 + 1))).bind fun d40 =>
  ((chk (decide (0 ≤ d40.2.1) && decide (d40.2.1 ≤ (d40.1.length : Int)))).bind fun x45 =>
  ((chk (decide (0 ≤ d40.2.1) && decide (d40.2.1 ≤ (d40.1.length : Int)))).bind fun x46 =>
  some ((List.take ((d40.2.1).toNat) d40.1), d40.2.2.1, d40.2.2.2)))))

def ki (a0 : Sender) (a1 : Int) : Option (List Int × Sender × List ay) :=
 ((bT a0 a1).bind fun x39 =>
 some (x39.2.2, x39.2.1, x39.1))

def fv (a0 : Sender) (a1 : Int) : Option ((List Int) × Sender × Int) :=
 ((bP a1 0 1099511627776).bind fun x35 =>
 ((d7 a0 x35).bind fun x36 =>
 bif (x36.2 != 0) then
  some ([], Sender.z, x36.2)
 else
  ((ki x36.1 a1).bind fun x37 =>
  some (x37.1, { x37.2.1 with Bar := (x37.2.1.Bar || (decide (0 < ((x37.1.length : Nat) : Int)))), Out := x37.2.2 }, 0))))

def fy (a0 : (List Bool)) : Option (Bool × List Bool) :=
 bif ((a0.length : Int) == 0) then
  some (false, a0)
 else
  ((idx a0 0).bind fun x42 =>
  ((chk (decide (1 ≤ (a0.length : Int)))).bind fun x43 =>
  some (x42, (List.drop 1 a0))))

def gU (a0 : Sender) : Option Int :=
 ((ey a0).bind fun x45 =>
 bif (x45 != 0) then
  some 0
 else
  ((fO a0).bind fun x46 =>
  some x46))

def eY (a0 : Sender) : Option (Sender × Int) :=
 ((d7 a0 true).bind fun x49 =>
 bif (x49.2 != 0) then
  some (Sender.z, x49.2)
 else
  bif (!x49.1.Bar) then
   some (Sender.z, 20)
  else
   some ({ x49.1 with Bar := false }, 0))

def fN (a0 : Sender) (a1 : Frame) (a2 : Int) : Option (Frame × Sender × Int) :=
 ((bP a2 0 1099511627776).bind fun x51 =>
 ((d7 a0 x51).bind fun x52 =>
 bif (x52.2 != 0) then
  some (Frame.z, Sender.z, x52.2)
 else
  ((
   bif decide (0 < ((x52.1.Out.length : Nat) : Int)) then
    ((idx x52.1.Out (IntKind.wrap .i64 (((x52.1.Out.length : Nat) : Int) - 1))).bind fun x53 =>
    some (decide (a2 < x53.At)))
   else
    some false).bind fun x54 =>
  bif x54 then
   some (Frame.z, Sender.z, 20)
  else
   ((fO x52.1).bind fun x55 =>
   ((cJ x55 x52.1.Next).bind fun x56 =>
   bif decide (x52.1.Size ≤ x56) then
    some (Frame.z, Sender.z, 22)
   else
    ((dX a1).bind fun x57 =>
    ((chk (decide ((x52.1.Out.length + 1) * 128 ≤ 140737488355328))).bind fun x58 =>
    ((fb x52.1.Next 1).bind fun x59 =>
    ((dX { x57 with Head.Retry := false, Head.Seq := x52.1.Next, Head.Tid := x52.1.Tid }).bind fun x60 =>
    some (x60, { x52.1 with Next := x59, Out := (x52.1.Out ++ [{ ay.z with At := a2, Frame := { x57 with Head.Retry := false, Head.Seq := x52.1.Next, Head.Tid := x52.1.Tid } }]) }, 0))))))))))

def cn (a0 : Int) (a1 : aa) (a2 : (List Bool)) : Nat → aa → Option (Ex aa aa)
 | 0, _ => none
 | n2 + 1, d52 =>
  bif ((decide (d52.accepted < d52.many)) && (d52.err == 0)) then
   ((fN d52.sides.Sender Frame.z a0).bind fun x53 =>
   bif (x53.2.2 == 22) then
    some (Ex.ret d52)
   else
    ((bg x53.2.2 { d52 with out.Acked := a1.out.Acked, out.Delivered := a1.out.Delivered, out.Dropped := a1.out.Dropped } a2).bind fun x54 =>
    cn a0 a1 a2 n2 { x54 with accepted := IntKind.wrap .i64 (x54.accepted + 1), sides.Sender := x53.2.1 }))
  else
   some (Ex.go d52)

def cZ (a0 : Int) (a1 : aa) (a2 : (List Bool)) : Option aa :=
 ((
  cn a0 a1 a2 big a1).bind fun o51 =>
 (o51.k fun d50 =>
 some d50))

def dT (x56 : (Sender × Int)) (a1 : Int) : Nat → (List ay × List Frame × Int) → Option ((List ay × List Frame))
 | 0, _ => none
 | n3 + 1, d58 =>
  bif decide (d58.2.2 < ((x56.1.Out.length : Nat) : Int)) then
   ((idx d58.1 d58.2.2).bind fun x59 =>
   bif (((d58.2.1.length : Nat) : Int) == a1) then
    some (d58.1, d58.2.1)
   else
    bif (x59.Flying || (x59.Tries == x56.1.Limit)) then
     dT x56 a1 n3 (d58.1, d58.2.1, IntKind.wrap .i64 (d58.2.2 + 1))
    else
     ((dX x59.Frame).bind fun x60 =>
     ((chk (decide ((d58.2.1.length + 1) * 104 ≤ 140737488355328))).bind fun x61 =>
     dT x56 a1 n3 (((d58.1.modify (d58.2.2.toNat) fun y => { y with Tries := IntKind.wrap .i64 (x59.Tries + 1) }).modify (d58.2.2.toNat) fun y => { y with Flying := true }), (d58.2.1 ++ [{ x60 with Head.Retry := decide (0 < x59.Tries) }]), IntKind.wrap .i64 (d58.2.2 + 1)))))
  else
   some (d58.1, d58.2.1)

def gT (a0 : Sender) (a1 : Int) : Option ((List Frame) × Sender × Int) :=
 ((d7 a0 (decide (0 ≤ a1))).bind fun x56 =>
 bif (x56.2 != 0) then
  some ([], Sender.z, x56.2)
 else
  ((
   dT x56 a1 big (x56.1.Out, [], 0)).bind fun d57 =>
  some (d57.2, { x56.1 with Out := d57.1 }, 0)))

def fo (a0 : aW) (a1 : Int) : Option Int :=
 ((eU a0).bind fun x75 =>
 bif (x75 != 0) then
  some x75
 else
  ((et a1).bind fun x76 =>
  bif (!x76) then
   some 2
  else
   some 0))

def kr (a0 : aW) (a1 : Int) : Option (aW × Int) :=
 ((fo a0 a1).bind fun x75 =>
 bif (x75 != 0) then
  some (aW.z, x75)
 else
  ((cJ a0.Start a1).bind fun x76 =>
  bif decide (x76 < 2048) then
   ((chk (decide (¬ x76 < 0))).bind fun x77 =>
   some ({ aW.z with Bits := (a0.Bits).fdiv (2 ^ (min (x76).toNat 64)), Start := a1 }, 0))
  else
   ((chk (decide (¬ (IntKind.wrap .i64 (4096 - x76)) < 0))).bind fun x78 =>
   some ({ aW.z with Bits := IntKind.wrap .u64 (a0.Bits * 2 ^ (min ((IntKind.wrap .i64 (4096 - x76))).toNat 64)), Start := a1 }, 0))))

def kw (a0 : aW) (a1 : Int) : Option (aW × Int) :=
 ((fo a0 a1).bind fun x77 =>
 bif (x77 != 0) then
  some (aW.z, x77)
 else
  ((cJ a0.Start a1).bind fun x78 =>
  bif decide (64 ≤ x78) then
   some (aW.z, 21)
  else
   ((chk (decide (¬ x78 < 0))).bind fun x79 =>
   some ({ a0 with Bits := bor .u64 a0.Bits (IntKind.wrap .u64 (1 * 2 ^ (min (x78).toNat 64))) }, 0))))

def jn (a0 : aW) (a1 : Int) : Option aW :=
 ((cJ a0.Start a1).bind fun x73 =>
 bif decide (2048 ≤ x73) then
  some a0
 else
  ((
   bif decide (64 ≤ x73) then
    ((fb a1 (-63)).bind fun x75 =>
    ((kr a0 x75).bind fun x76 =>
    some x76.1))
   else
    some a0).bind fun d74 =>
  ((kw d74 a1).bind fun x77 =>
  some x77.1)))

def cx (a0 : Int) (a1 : List aA) (a2 : List aA) : Option (List aA) :=
 ((chk (decide (0 ≤ a0) && decide (a0 ≤ (a1.length : Int)))).bind fun x81 =>
 bif (((a2.length : Nat) : Int) == 0) then
  some a1
 else
  bif (a0 == ((a1.length : Nat) : Int)) then
   ((chk (decide ((a1.length + a2.length) * 112 ≤ 140737488355328))).bind fun x82 =>
   some (a1 ++ a2))
  else
   none)

def bX (a0 : Int) (a1 : List aA) (a2 : List aA) : Option (List aA) :=
 ((chk (decide (0 ≤ a0) && decide (a0 ≤ (a1.length : Int)))).bind fun x13 =>
 bif (((a2.length : Nat) : Int) == 0) then
  some a1
 else
  bif (a0 == ((a1.length : Nat) : Int)) then
   ((chk (decide ((a1.length + a2.length) * 112 ≤ 140737488355328))).bind fun x14 =>
   some (a1 ++ a2))
  else
   ((chk (decide (a2.length = 1) && decide ((a1.length + 1) * 112 ≤ 140737488355328))).bind fun x15 =>
   some (a1.take a0.toNat ++ a2 ++ a1.drop a0.toNat)))

def iY (a0 : Reorder) (a1 : Frame) (a2 : Int) : Option ((List Frame) × Reorder × Int) :=
 ((er a0).bind fun x67 =>
 bif (x67 != 0) then
  some ([], Reorder.z, x67)
 else
  ((eH a2).bind fun x68 =>
  ((
   bif (!x68) then
    some true
   else
    ((dy a1.Head.Seq).bind fun x69 =>
    some (!x69))).bind fun x70 =>
  bif x70 then
   some ([], Reorder.z, 2)
  else
   ((cJ a0.Start a1.Head.Seq).bind fun x71 =>
   ((gz a0 a1.Head.Seq).bind fun x72 =>
   bif ((decide (2048 ≤ x71)) || x72.2) then
    some ([], Reorder.z, 21)
   else
    ((jn a0.Seen a1.Head.Seq).bind fun x73 =>
    ((eT a0.Held).bind fun x74 =>
    ((dX a1).bind fun x75 =>
    ((bX x72.1 x74 [{ aA.z with At := a2, Frame := x75 }]).bind fun x76 =>
    ((
     bif decide (a0.Size ≤ x71) then
      ((fb a1.Head.Seq (IntKind.wrap .i64 (1 - a0.Size))).bind fun x78 =>
      some x78)
     else
      some a0.Start).bind fun d77 =>
    ((eV { a0 with Held := x76, Seen := x73 } d77).bind fun x79 =>
    some (x79.1, { x79.2.1 with Held := x79.2.2 }, 0))))))))))))

def bU (x56 : ((List Frame) × Sender × Int)) (a0 : Int) (a1 : aa) : Nat → (aa × List Bool × List Int × Int) → Option ((aa × List Bool × List Int))
 | 0, _ => none
 | n2 + 1, d59 =>
  bif decide (d59.2.2.2 < (x56.1.length : Int)) then
   ((idx x56.1 d59.2.2.2).bind fun x60 =>
   ((fy d59.2.1).bind fun x61 =>
   bif x61.1 then
    bU x56 a0 a1 n2 (d59.1, x61.2, d59.2.2.1, IntKind.wrap .i64 (d59.2.2.2 + 1))
   else
    ((iY d59.1.sides.Reorder x60 a0).bind fun x62 =>
    bif (x62.2.2 == 0) then
     ((bQ x62.1 { d59.1 with out.Acked := a1.out.Acked, out.Delivered := d59.2.2.1, out.Dropped := a1.out.Dropped, sides.Reorder := x62.2.1 } x61.2).bind fun x63 =>
     bU x56 a0 a1 n2 ({ d59.1 with out.Acked := a1.out.Acked, out.Delivered := d59.2.2.1, out.Dropped := a1.out.Dropped, sides.Reorder := x62.2.1 }, x61.2, x63, IntKind.wrap .i64 (d59.2.2.2 + 1)))
    else
     bU x56 a0 a1 n2 (d59.1, x61.2, d59.2.2.1, IntKind.wrap .i64 (d59.2.2.2 + 1)))))
  else
   some (d59.1, d59.2.1, d59.2.2.1)

def dc (a0 : Int) (a1 : aa) (a2 : (List Bool)) : Option (Int × aa × List Bool × List Int) :=
 ((gT a1.sides.Sender a1.plan.Burst).bind fun x56 =>
 ((bg x56.2.2 a1 a2).bind fun x57 =>
 ((
  bU x56 a0 a1 big ({ x57 with sides.Sender := x56.2.1 }, a2, a1.out.Delivered, 0)).bind fun d58 =>
 some ((x56.1.length : Int), d58.1, d58.2.1, d58.2.2))))

def eG (a0 : Sender) : Nat → (List ay × Int) → Option ((List ay))
 | 0, _ => none
 | n2 + 1, d68 =>
  bif decide (d68.2 < ((a0.Out.length : Nat) : Int)) then
   ((idx d68.1 d68.2).bind fun x69 =>
   eG a0 n2 ((d68.1.modify ((d68.2).toNat) fun y => { y with Flying := false }), IntKind.wrap .i64 (d68.2 + 1)))
  else
   some d68.1

def iZ (a0 : Sender) : Option (List ay) :=
 ((
  eG a0 big (a0.Out, 0)).bind fun d67 =>
 some d67)

def gP (a0 : Sender) : Option (Sender × Int) :=
 ((d7 a0 true).bind fun x66 =>
 bif (x66.2 != 0) then
  some (Sender.z, x66.2)
 else
  ((iZ x66.1).bind fun x67 =>
  some ({ x66.1 with Out := x67 }, 0)))

def fI (a0 : Reorder) : Option (aW × Int) :=
 ((er a0).bind fun x70 =>
 bif (x70 != 0) then
  some (aW.z, x70)
 else
  some (a0.Seen, 0))

def lD (a0 : aW) (a1 : Int) : Option Bool :=
 ((fo a0 a1).bind fun x77 =>
 bif (x77 != 0) then
  some false
 else
  ((cJ a0.Start a1).bind fun x78 =>
  ((
   bif decide (x78 < 64) then
    ((chk (decide (¬ x78 < 0))).bind fun x79 =>
    some ((wB .u64 ((a0.Bits).fdiv (2 ^ (min (x78).toNat 64))) 1) == 1))
   else
    some false).bind fun x80 =>
  some x80)))

def gR (a0 : ay) (a1 : aW) : Option Bool :=
 ((
  bif decide (0 < a0.Tries) then
   ((lD a1 a0.Frame.Head.Seq).bind fun x77 =>
   some x77)
  else
   some false).bind fun x78 =>
 some x78)

def eL (a0 : ay) (a1 : aW) (a2 : List Int) : Option (Bool × List Int) :=
 ((gR a0 a1).bind fun x77 =>
 bif x77 then
  ((chk (decide ((a2.length + 1) * 8 ≤ 140737488355328))).bind fun x78 =>
  some (x77, (a2 ++ [a0.Frame.Head.Seq])))
 else
  some (x77, a2))

def bh (a1 : List ay) (a0 : aW) : Nat → (List Int × Int) → Option (Ex (Int × List Int) (List Int))
 | 0, _ => none
 | n2 + 1, d77 =>
  bif decide (d77.2 < ((a1.length : Nat) : Int)) then
   ((idx a1 d77.2).bind fun x78 =>
   ((eL x78 a0 d77.1).bind fun x79 =>
   bif x79.1 then
    some (Ex.ret (d77.2, x79.2))
   else
    bh a1 a0 n2 (x79.2, IntKind.wrap .i64 (d77.2 + 1))))
  else
   some (Ex.go d77.1)

def ce (a0 : aW) (a1 : List ay) : Option (Int × List Int) :=
 ((
  bh a1 a0 big ([], 0)).bind fun o76 =>
 (o76.k fun d75 =>
 some ((-1), d75)))

def bb (a0 : aW) : Nat → (List ay × List Int × Int × Int) → Option ((List ay × Int × List Int))
 | 0, _ => none
 | n3 + 1, d77 =>
  bif decide (d77.2.2.2 < ((d77.1.length : Nat) : Int)) then
   ((idx d77.1 d77.2.2.2).bind fun x78 =>
   ((eL x78 a0 d77.2.1).bind fun x79 =>
   bif (!x79.1) then
    ((idx d77.1 d77.2.2.1).bind fun x80 =>
    bb a0 n3 ((d77.1.set ((d77.2.2.1).toNat) x78), x79.2, IntKind.wrap .i64 (d77.2.2.1 + 1), IntKind.wrap .i64 (d77.2.2.2 + 1)))
   else
    bb a0 n3 (d77.1, x79.2, d77.2.2.1, IntKind.wrap .i64 (d77.2.2.2 + 1))))
  else
   some (d77.1, d77.2.2.1, d77.2.1)

def bM (a0 : aW) (a1 : List ay) : Option (List ay × List Int) :=
 ((ce a0 a1).bind fun x75 =>
 bif (x75.1 == (-1)) then
  some (a1, x75.2)
 else
  ((
   bb a0 big (a1, x75.2, x75.1, IntKind.wrap .i64 (x75.1 + 1))).bind fun d76 =>
  ((chk (decide (0 ≤ d76.2.1) && decide (d76.2.1 ≤ (d76.1.length : Int)))).bind fun x81 =>
  ((chk (decide (0 ≤ d76.2.1) && decide (d76.2.1 ≤ (d76.1.length : Int)))).bind fun x82 =>
  some ((List.take ((d76.2.1).toNat) d76.1), d76.2.2)))))

def fZ (a0 : Sender) (a1 : aW) : Option (List Int × List ay) :=
 ((bM a1 a0.Out).bind fun x75 =>
 some (x75.2, x75.1))

def fP (a0 : Sender) (a1 : aW) : Option ((List Int) × Sender × Int) :=
 ((eU a1).bind fun x73 =>
 ((d7 a0 (x73 == 0)).bind fun x74 =>
 bif (x74.2 != 0) then
  some ([], Sender.z, x74.2)
 else
  ((fZ x74.1 a1).bind fun x75 =>
  ((iZ { x74.1 with Out := x75.2 }).bind fun x76 =>
  some (x75.1, { x74.1 with Out := x76 }, 0)))))

def cR (a0 : aa) (a1 : (List Bool)) : Option (aa × List Bool × List Int) :=
 ((fy a1).bind fun x65 =>
 bif x65.1 then
  ((gP a0.sides.Sender).bind fun x66 =>
  ((bg x66.2 a0 x65.2).bind fun x67 =>
  some ({ x67 with sides.Sender := x66.1 }, x65.2, a0.out.Acked)))
 else
  ((fI a0.sides.Reorder).bind fun x68 =>
  ((bg x68.2 a0 x65.2).bind fun x69 =>
  ((fP x69.sides.Sender x68.1).bind fun x70 =>
  ((bg x70.2.2 { x69 with out.Acked := a0.out.Acked, out.Delivered := a0.out.Delivered, out.Dropped := a0.out.Dropped } x65.2).bind fun x71 =>
  ((ct { x71 with out.Acked := a0.out.Acked, out.Delivered := a0.out.Delivered, out.Dropped := a0.out.Dropped, sides.Sender := x70.2.1 } x65.2 x70.1).bind fun x72 =>
  ((chk (decide ((a0.out.Acked.length + x72.length) * 8 ≤ 140737488355328))).bind fun x73 =>
  some ({ x71 with sides.Sender := x70.2.1 }, x65.2, (a0.out.Acked ++ x72)))))))))

def c5 (b : Reorder) (now : Int) (l : List aA) : Nat → Option (Ex (List Frame × Reorder × Int) Unit)
 | 0 => some (Ex.go ())
 | c + 1 =>
  ((l[c]?).bind fun x =>
  bif decide ((IntKind.wrap .i64 (x.At + b.Hold)) ≤ now) then
   ((fb x.Frame.Head.Seq 1).bind fun y =>
   ((eV { b with Held := l } y).bind fun z =>
   some (Ex.ret (z.1, { z.2.1 with Held := z.2.2 }, 0))))
  else
   c5 b now l c)

def dR (a0 : Reorder) (a1 : Int) : Option ((List Frame) × Reorder × Int) :=
 ((er a0).bind fun x67 =>
 bif (x67 != 0) then
  some ([], Reorder.z, x67)
 else
  ((eH a1).bind fun x68 =>
  bif (!x68) then
   some ([], Reorder.z, 2)
  else
   ((eT a0.Held).bind fun x69 =>
   ((chk (decide (x69.length < 4611686018427387904))).bind fun x70 =>
   ((c5 a0 a1 x69 x69.length).bind fun o71 =>
   (o71.k fun d72 =>
   some ([], { a0 with Held := x69 }, 0)))))))

def dr (a0 : aa) (a1 : (List Bool)) : Option (aa × List Bool × List Int × List Int × List Int) :=
 ((fv a0.sides.Sender (IntKind.wrap .i64 (a0.out.Rounds * a0.plan.Round))).bind fun x35 =>
 ((bg x35.2.2 a0 a1).bind fun x36 =>
 ((ct { x36 with out.Acked := a0.out.Acked, out.Delivered := a0.out.Delivered, out.Dropped := a0.out.Dropped, sides.Sender := x35.2.1 } a1 x35.1).bind fun x37 =>
 ((chk (decide ((a0.out.Dropped.length + x37.length) * 8 ≤ 140737488355328))).bind fun x38 =>
 bif x35.2.1.Bar then
  ((fy a1).bind fun x39 =>
  ((
   bif (!x39.1) then
    ((gU x35.2.1).bind fun x41 =>
    ((cB x41 { x36 with out.Acked := a0.out.Acked, out.Delivered := a0.out.Delivered, out.Dropped := (a0.out.Dropped ++ x37), sides.Sender := x35.2.1 } x39.2).bind fun x42 =>
    ((eY x42.1.sides.Sender).bind fun x43 =>
    ((bg x43.2 { x42.1 with out.Acked := a0.out.Acked, out.Delivered := x42.2, out.Dropped := (a0.out.Dropped ++ x37), sides.Sender := x43.1 } x39.2).bind fun x44 =>
    some (x44, x42.2)))))
   else
    some ({ x36 with sides.Sender := x35.2.1 }, a0.out.Delivered)).bind fun d40 =>
  ((cZ (IntKind.wrap .i64 (a0.out.Rounds * a0.plan.Round)) { d40.1 with out.Acked := a0.out.Acked, out.Delivered := d40.2, out.Dropped := (a0.out.Dropped ++ x37) } x39.2).bind fun x45 =>
  ((dc (IntKind.wrap .i64 (a0.out.Rounds * a0.plan.Round)) { x45 with out.Acked := a0.out.Acked, out.Delivered := d40.2, out.Dropped := (a0.out.Dropped ++ x37) } x39.2).bind fun x46 =>
  ((
   bif decide (0 < x46.1) then
    ((cR { x46.2.1 with out.Acked := a0.out.Acked, out.Delivered := x46.2.2.2, out.Dropped := (a0.out.Dropped ++ x37) } x46.2.2.1).bind fun x48 =>
    some (x48.1, x48.2.1, x48.2.2))
   else
    some (x46.2.1, x46.2.2.1, a0.out.Acked)).bind fun d47 =>
  ((dR d47.1.sides.Reorder (IntKind.wrap .i64 (a0.out.Rounds * a0.plan.Round))).bind fun x49 =>
  ((bg x49.2.2 { d47.1 with out.Acked := d47.2.2, out.Delivered := x46.2.2.2, out.Dropped := (a0.out.Dropped ++ x37) } d47.2.1).bind fun x50 =>
  ((bQ x49.1 { x50 with out.Acked := d47.2.2, out.Delivered := x46.2.2.2, out.Dropped := (a0.out.Dropped ++ x37), sides.Reorder := x49.2.1 } d47.2.1).bind fun x51 =>
  some ({ x50 with out.Acked := d47.2.2, out.Delivered := x46.2.2.2, out.Dropped := (a0.out.Dropped ++ x37), out.Rounds := IntKind.wrap .i64 (x50.out.Rounds + 1), sides.Reorder := x49.2.1 }, d47.2.1, x51, d47.2.2, (a0.out.Dropped ++ x37))))))))))
 else
  ((cZ (IntKind.wrap .i64 (a0.out.Rounds * a0.plan.Round)) { x36 with out.Acked := a0.out.Acked, out.Delivered := a0.out.Delivered, out.Dropped := (a0.out.Dropped ++ x37), sides.Sender := x35.2.1 } a1).bind fun x52 =>
  ((dc (IntKind.wrap .i64 (a0.out.Rounds * a0.plan.Round)) { x52 with out.Acked := a0.out.Acked, out.Delivered := a0.out.Delivered, out.Dropped := (a0.out.Dropped ++ x37) } a1).bind fun x53 =>
  ((
   bif decide (0 < x53.1) then
    ((cR { x53.2.1 with out.Acked := a0.out.Acked, out.Delivered := x53.2.2.2, out.Dropped := (a0.out.Dropped ++ x37) } x53.2.2.1).bind fun x55 =>
    some (x55.1, x55.2.1, x55.2.2))
   else
    some (x53.2.1, x53.2.2.1, a0.out.Acked)).bind fun d54 =>
  ((dR d54.1.sides.Reorder (IntKind.wrap .i64 (a0.out.Rounds * a0.plan.Round))).bind fun x56 =>
  ((bg x56.2.2 { d54.1 with out.Acked := d54.2.2, out.Delivered := x53.2.2.2, out.Dropped := (a0.out.Dropped ++ x37) } d54.2.1).bind fun x57 =>
  ((bQ x56.1 { x57 with out.Acked := d54.2.2, out.Delivered := x53.2.2.2, out.Dropped := (a0.out.Dropped ++ x37), sides.Reorder := x56.2.1 } d54.2.1).bind fun x58 =>
  some ({ x57 with out.Acked := d54.2.2, out.Delivered := x53.2.2.2, out.Dropped := (a0.out.Dropped ++ x37), out.Rounds := IntKind.wrap .i64 (x57.out.Rounds + 1), sides.Reorder := x56.2.1 }, d54.2.1, x58, d54.2.2, (a0.out.Dropped ++ x37))))))))))))

def eC (a1 : Int) : Nat → (aa × List Bool × List Int × List Int × List Int) → Option ((aa × List Bool × List Int × List Int × List Int))
 | 0, _ => none
 | n4 + 1, d6 =>
  bif ((d6.1.err == 0) && (((decide (d6.1.accepted < a1)) || (decide (0 < (d6.1.sides.Sender.Out.length : Int)))) || d6.1.sides.Sender.Bar)) then
   bif (d6.1.out.Rounds == 2000) then
    ((ej { d6.1 with out.Acked := d6.2.2.2.1, out.Delivered := d6.2.2.1, out.Dropped := d6.2.2.2.2 } d6.2.1).bind fun x7 =>
    some (x7.1, d6.2.1, x7.2.1, d6.2.2.2.1, x7.2.2))
   else
    ((dr { d6.1 with out.Acked := d6.2.2.2.1, out.Delivered := d6.2.2.1, out.Dropped := d6.2.2.2.2 } d6.2.1).bind fun x8 =>
    eC a1 n4 (x8.1, x8.2.1, x8.2.2.1, x8.2.2.2.1, x8.2.2.2.2))
  else
   some (d6.1, d6.2.1, d6.2.2.1, d6.2.2.2.1, d6.2.2.2.2)

def cm (a0 : ai) (a1 : Int) (a2 : (List Bool)) : Option (aq × Int) :=
 ((gw a0).bind fun x2 =>
 bif (x2 != 0) then
  some (aq.z, x2)
 else
  ((cV a1 0 200).bind fun x3 =>
  bif (!x3) then
   some (aq.z, 4)
  else
   ((ek { aa.z with many := a1, out.Acked := ([] : List Int), out.Delivered := ([] : List Int), out.Dropped := ([] : List Int), plan := a0 } a2).bind fun x4 =>
   ((
    eC a1 big (x4, a2, ([] : List Int), ([] : List Int), ([] : List Int))).bind fun d5 =>
   bif (d5.1.err != 0) then
    some (aq.z, d5.1.err)
   else
    some ({ d5.1.out with Acked := d5.2.2.2.1, Delivered := d5.2.2.1, Dropped := d5.2.2.2.2 }, 0)))))

def dx (a0 : (List Int)) (a1 : (List Int)) : Nat → Int → Option (Ex Bool Unit)
 | 0, _ => none
 | n3 + 1, d26 =>
  bif decide (d26 < (a0.length : Int)) then
   ((idx a0 d26).bind fun x27 =>
   ((idx a1 d26).bind fun x28 =>
   bif (x27 != x28) then
    some (Ex.ret false)
   else
    dx a0 a1 n3 (IntKind.wrap .i64 (d26 + 1))))
  else
   some (Ex.go ())

def cK (a0 : (List Int)) (a1 : (List Int)) : Option Bool :=
 bif ((a0.length : Int) != (a1.length : Int)) then
  some false
 else
  ((
   dx a0 a1 big 0).bind fun o25 =>
  (o25.k fun d24 =>
  some true))

def fl (a0 : (List Bool)) (a1 : (List Int)) (a2 : (List Int)) (a3 : (List Int)) : Option (Int × Bool) :=
 (dI.bind fun x22 =>
 ((cm x22 3 a0).bind fun x23 =>
 ((
  bif (x23.2 == 0) then
   ((cK x23.1.Delivered a1).bind fun x24 =>
   some x24)
  else
   some false).bind fun x25 =>
 ((
  bif x25 then
   ((cK x23.1.Acked a2).bind fun x26 =>
   some x26)
  else
   some false).bind fun x27 =>
 ((
  bif x27 then
   ((cK x23.1.Dropped a3).bind fun x28 =>
   some x28)
  else
   some false).bind fun x29 =>
 some (x23.1.Rounds, x29))))))

def fY : Option Bool :=
 ((fl [] [0, 1, 2] [0, 1, 2] []).bind fun x22 =>
 ((fl [true] [0, 1, 2] [1, 0, 2] []).bind fun x23 =>
 ((fl [true, false, false, true] [1, 2] [1, 2] [0]).bind fun x24 =>
 some ((((x22.2 && (x22.1 == 2)) && x23.2) && (x23.1 == 3)) && x24.2))))

def dp (a0 : aq) (a1 : aq) : Option Bool :=
 ((
  bif (a0.Rounds == a1.Rounds) then
   ((cK a0.Delivered a1.Delivered).bind fun x26 =>
   some x26)
  else
   some false).bind fun x27 =>
 ((
  bif x27 then
   ((cK a0.Acked a1.Acked).bind fun x28 =>
   some x28)
  else
   some false).bind fun x29 =>
 ((
  bif x29 then
   ((cK a0.Dropped a1.Dropped).bind fun x30 =>
   some x30)
  else
   some false).bind fun x31 =>
 some x31)))

def b9 : List ai :=
 [{ ai.z with Burst := 1, Life := 1, Limit := 1, Round := 1, Size := 1, Start := 4096 }, { ai.z with Burst := 1, Life := 1, Limit := 1, Round := 1, Size := 65 }, { ai.z with Burst := 1, Life := 1, Limit := 17, Round := 1, Size := 1 }, { ai.z with Burst := 1, Life := 1, Limit := 1, Size := 1 }, { ai.z with Burst := 65, Life := 1, Limit := 1, Round := 1, Size := 1 }, { ai.z with Burst := 1, Hold := (-1), Life := 1, Limit := 1, Round := 1, Size := 1 }]

def cA : Nat → Int → Option (Ex Bool Unit)
 | 0, _ => none
 | n3 + 1, d8 =>
  bif decide (d8 < (b9.length : Int)) then
   ((idx b9 d8).bind fun x9 =>
   ((gw x9).bind fun x10 =>
   bif (x10 != 8) then
    some (Ex.ret false)
   else
    cA n3 (IntKind.wrap .i64 (d8 + 1))))
  else
   some (Ex.go ())

def eh : Option Bool :=
 (dI.bind fun x1 =>
 ((cm x1 0 [true, true]).bind fun x2 =>
 ((cm x1 201 []).bind fun x3 =>
 ((cm x1 (-1) []).bind fun x4 =>
 ((cm ai.z (-1) []).bind fun x5 =>
 ((
  cA big 0).bind fun o7 =>
 (o7.k fun d6 =>
 ((cm { x1 with Limit := 1 } 1 [true, true, true, false]).bind fun x11 =>
 (dI.bind fun x12 =>
 ((cm x12 1 [false, true]).bind fun x13 =>
 ((cm { x1 with Burst := 1, Limit := 1, Size := 64 } 200 []).bind fun x14 =>
 (fY.bind fun x15 =>
 ((
  bif (x15 && (x2.2 == 0)) then
   ((dp x2.1 aq.z).bind fun x16 =>
   some x16)
  else
   some false).bind fun x17 =>
 bif ((((x17 && (x3.2 == 4)) && (x4.2 == 4)) && (x5.2 == 8)) && (x11.2 == 0)) then
  ((dp x11.1 { aq.z with Dropped := [0], Rounds := 3 }).bind fun x18 =>
  bif (x18 && (x13.2 == 0)) then
   ((dp x13.1 { aq.z with Acked := [0], Delivered := [0], Rounds := 2 }).bind fun x19 =>
   some (((x19 && (x14.2 == 0)) && ((x14.1.Delivered.length : Int) == 200)) && (x14.1.Rounds == 200)))
  else
   some false)
 else
  some false)))))))))))))

def kS (a0 : Int) : Option Bool :=
 some ((decide (0 ≤ a0)) && (decide (a0 ≤ 4095)))

end Go.AX.Z.TN

/-! (TNF) -/

namespace Go.AX.Z.TN
open Go.AX Go.Proofs

def tab : List (TypeId × List (Option IntKind)) :=
 []

noncomputable def K : Ctx := ⟨Try.prog, fun _ => none, IF tab⟩

theorem Kv : agB K.P 113 = some true := by kernel_rfl
theorem M8 : agB K.P 23 = some true := by kernel_rfl
theorem MV : agB K.P 25 = some false := by kernel_rfl
theorem LH : agB K.P 27 = some true := by kernel_rfl
theorem Lr : agB K.P 28 = some false := by kernel_rfl
theorem ag3 : agB K.P 3 = some false := by kernel_rfl
theorem Lb : agB K.P 31 = some false := by kernel_rfl
theorem LJ : agB K.P 34 = some false := by kernel_rfl
theorem ag4 : agB K.P 4 = some false := by kernel_rfl
theorem M5 : agB K.P 43 = some false := by kernel_rfl
theorem K6 : agB K.P 45 = some true := by kernel_rfl
theorem MP : agB K.P 46 = some false := by kernel_rfl
theorem L1 : agB K.P 47 = some false := by kernel_rfl
theorem LK : agB K.P 49 = some true := by kernel_rfl
theorem ag5 : agB K.P 5 = some false := by kernel_rfl
theorem LS : agB K.P 51 = some true := by kernel_rfl
theorem Mx : agB K.P 53 = some true := by kernel_rfl
theorem LV : agB K.P 63 = some true := by kernel_rfl
theorem Mm : agB K.P 79 = some false := by kernel_rfl
theorem LA : agB K.P 89 = some true := by kernel_rfl
theorem Md : agB K.P 90 = some false := by kernel_rfl
theorem Lc : agB K.P 92 = some true := by kernel_rfl
theorem Lp : agB K.P 94 = some true := by kernel_rfl
theorem Mb : agB K.P 99 = some false := by kernel_rfl
theorem KQ : te K.P 113 = some [(0, 1), (1, 41)] := by kernel_rfl
theorem Mu : te K.P 23 = some [(0, 1), (1, 1), (2, 1), (3, 1), (4, 1), (5, 1), (6, 1)] := by kernel_rfl
theorem Lt : te K.P 27 = some [(0, 1), (1, 1), (2, 1), (3, 1)] := by kernel_rfl
theorem Ms : te K.P 45 = some [(0, 1), (1, 1), (2, 1), (3, 1), (4, 1), (5, 1), (6, 1), (7, 1), (8, 1)] := by kernel_rfl
theorem My : te K.P 49 = some [(0, 1), (1, 1)] := by kernel_rfl
theorem Ly : te K.P 51 = some [(0, 1), (1, 1), (2, 1), (3, 1), (4, 2)] := by kernel_rfl
theorem Mw : te K.P 55 = some [(0, 15), (15, 7), (22, 1), (23, 1), (24, 1), (25, 4), (29, 1)] := by kernel_rfl
theorem Lq : te K.P 63 = some [(0, 1), (1, 1), (2, 1), (3, 1)] := by kernel_rfl
theorem Ln : te K.P 68 = some [(0, 1), (1, 1), (2, 1), (3, 1)] := by kernel_rfl
theorem Ml : te K.P 92 = some [(0, 40), (40, 1)] := by kernel_rfl
theorem Ls : te K.P 94 = some [(0, 1), (1, 1), (2, 1), (3, 41)] := by kernel_rfl
theorem Km : re K.P 113 = some 112 := by kernel_rfl
theorem ME : re K.P 23 = some 56 := by kernel_rfl
theorem by3 : re K.P 3 = some 8 := by kernel_rfl
theorem by4 : re K.P 4 = some 1 := by kernel_rfl
theorem by5 : re K.P 5 = some 1 := by kernel_rfl
theorem LE : re K.P 92 = some 104 := by kernel_rfl
theorem Lu : re K.P 94 = some 128 := by kernel_rfl
theorem Mv : elS K.P 25 = some 3 := by kernel_rfl
theorem LF : elS K.P 31 = some 4 := by kernel_rfl
theorem Mg : elS K.P 32 = some 23 := by kernel_rfl
theorem L3 : elS K.P 43 = some 94 := by kernel_rfl
theorem J9 : elS K.P 46 = some 113 := by kernel_rfl
theorem K5 : elS K.P 79 = some 92 := by kernel_rfl
theorem MS : elS K.P 90 = some 5 := by kernel_rfl
theorem Le : elS K.P 3 = none := by kernel_rfl
theorem Fb : flE K.P 113 0 = some (0, 3) := by kernel_rfl
theorem Fu : flE K.P 113 1 = some (1, 92) := by kernel_rfl
theorem Hv : flE K.P 23 0 = some (0, 3) := by kernel_rfl
theorem IL : flE K.P 23 1 = some (1, 3) := by kernel_rfl
theorem Hg : flE K.P 23 2 = some (2, 3) := by kernel_rfl
theorem HY : flE K.P 23 3 = some (3, 3) := by kernel_rfl
theorem Ib : flE K.P 23 4 = some (4, 3) := by kernel_rfl
theorem HI : flE K.P 23 5 = some (5, 3) := by kernel_rfl
theorem Ik : flE K.P 23 6 = some (6, 3) := by kernel_rfl
theorem HN : flE K.P 27 0 = some (0, 25) := by kernel_rfl
theorem H4 : flE K.P 27 1 = some (1, 25) := by kernel_rfl
theorem HG : flE K.P 27 2 = some (2, 25) := by kernel_rfl
theorem G6 : flE K.P 27 3 = some (3, 3) := by kernel_rfl
theorem HV : flE K.P 45 0 = some (0, 3) := by kernel_rfl
theorem JL : flE K.P 45 1 = some (1, 5) := by kernel_rfl
theorem Js : flE K.P 45 2 = some (2, 3) := by kernel_rfl
theorem HQ : flE K.P 45 3 = some (3, 3) := by kernel_rfl
theorem JF : flE K.P 45 4 = some (4, 3) := by kernel_rfl
theorem Jc : flE K.P 45 5 = some (5, 3) := by kernel_rfl
theorem HW : flE K.P 45 6 = some (6, 3) := by kernel_rfl
theorem Jm : flE K.P 45 7 = some (7, 43) := by kernel_rfl
theorem Ij : flE K.P 45 8 = some (8, 4) := by kernel_rfl
theorem Hl : flE K.P 49 0 = some (0, 3) := by kernel_rfl
theorem JR : flE K.P 49 1 = some (1, 47) := by kernel_rfl
theorem Hn : flE K.P 51 0 = some (0, 3) := by kernel_rfl
theorem Ir : flE K.P 51 1 = some (1, 3) := by kernel_rfl
theorem Hm : flE K.P 51 2 = some (2, 3) := by kernel_rfl
theorem IV : flE K.P 51 3 = some (3, 46) := by kernel_rfl
theorem HH : flE K.P 51 4 = some (4, 49) := by kernel_rfl
theorem Ie : flE K.P 53 0 = some (0, 45) := by kernel_rfl
theorem Hs : flE K.P 53 1 = some (9, 51) := by kernel_rfl
theorem HA : flE K.P 55 0 = some (0, 53) := by kernel_rfl
theorem Jk : flE K.P 55 1 = some (15, 23) := by kernel_rfl
theorem HK : flE K.P 55 2 = some (22, 3) := by kernel_rfl
theorem HO : flE K.P 55 3 = some (23, 3) := by kernel_rfl
theorem I0 : flE K.P 55 4 = some (24, 34) := by kernel_rfl
theorem JY : flE K.P 55 5 = some (25, 27) := by kernel_rfl
theorem Is : flE K.P 55 6 = some (29, 28) := by kernel_rfl
theorem Hk : flE K.P 63 0 = some (0, 3) := by kernel_rfl
theorem Jb : flE K.P 68 0 = some (0, 3) := by kernel_rfl
theorem IE : flE K.P 68 1 = some (1, 3) := by kernel_rfl
theorem JJ : flE K.P 68 2 = some (2, 3) := by kernel_rfl
theorem Jq : flE K.P 68 3 = some (3, 3) := by kernel_rfl
theorem EO : flE K.P 89 14 = some (34, 3) := by kernel_rfl
theorem Fv : flE K.P 89 16 = some (36, 3) := by kernel_rfl
theorem Hr : flE K.P 89 5 = some (5, 4) := by kernel_rfl
theorem H5 : flE K.P 92 0 = some (0, 89) := by kernel_rfl
theorem I9 : flE K.P 92 1 = some (40, 90) := by kernel_rfl
theorem I4 : flE K.P 94 0 = some (0, 3) := by kernel_rfl
theorem JN : flE K.P 94 1 = some (1, 3) := by kernel_rfl
theorem Hb : flE K.P 94 2 = some (2, 4) := by kernel_rfl
theorem JD : flE K.P 94 3 = some (3, 92) := by kernel_rfl
theorem KS : inK K.P 133 = some .u64 := by kernel_rfl
theorem in3 : inK K.P 3 = some .i64 := by kernel_rfl
theorem Mp : inK K.P 47 = some .u64 := by kernel_rfl
theorem Lj : Gb K.P 4 = true := by kernel_rfl
theorem GY : cH K.P 113 = some 42 := by kernel_rfl
theorem LC : cH K.P 23 = some 7 := by kernel_rfl
theorem MG : cH K.P 25 = some 1 := by kernel_rfl
theorem Ma : cH K.P 27 = some 4 := by kernel_rfl
theorem LR : cH K.P 28 = some 1 := by kernel_rfl
theorem sz3 : cH K.P 3 = some 1 := by kernel_rfl
theorem MN : cH K.P 31 = some 1 := by kernel_rfl
theorem LW : cH K.P 34 = some 1 := by kernel_rfl
theorem sz4 : cH K.P 4 = some 1 := by kernel_rfl
theorem MR : cH K.P 43 = some 1 := by kernel_rfl
theorem L9 : cH K.P 45 = some 9 := by kernel_rfl
theorem Na : cH K.P 46 = some 1 := by kernel_rfl
theorem Ld : cH K.P 47 = some 1 := by kernel_rfl
theorem Mq : cH K.P 49 = some 2 := by kernel_rfl
theorem sz5 : cH K.P 5 = some 1 := by kernel_rfl
theorem L7 : cH K.P 51 = some 6 := by kernel_rfl
theorem K4 : cH K.P 53 = some 15 := by kernel_rfl
theorem M4 : cH K.P 63 = some 4 := by kernel_rfl
theorem L4 : cH K.P 79 = some 1 := by kernel_rfl
theorem M2 : cH K.P 89 = some 40 := by kernel_rfl
theorem Mt : cH K.P 90 = some 1 := by kernel_rfl
theorem Li : cH K.P 92 = some 41 := by kernel_rfl
theorem M0 : cH K.P 94 = some 44 := by kernel_rfl
theorem M1 : cH K.P 99 = some 1 := by kernel_rfl
theorem J7 : K.P.underlying 133 = some (.int .u64) := by kernel_rfl
theorem LG : K.P.underlying 25 = some (.slice 3) := by kernel_rfl
theorem un3 : K.P.underlying 3 = some (.int .i64) := by kernel_rfl
theorem Mh : K.P.underlying 31 = some (.slice 4) := by kernel_rfl
theorem MZ : K.P.underlying 32 = some (.slice 23) := by kernel_rfl
theorem MX : K.P.underlying 43 = some (.slice 94) := by kernel_rfl
theorem MI : K.P.underlying 46 = some (.slice 113) := by kernel_rfl
theorem L8 : K.P.underlying 47 = some (.int .u64) := by kernel_rfl
theorem Lk : K.P.underlying 79 = some (.slice 92) := by kernel_rfl
theorem ML : K.P.underlying 90 = some (.slice 5) := by kernel_rfl
theorem Ko : zer K.P 113 = some (cd aA.z cO) := by kernel_rfl
theorem Mf : zer K.P 23 = some (ag ai.z) := by kernel_rfl
theorem Me : zer K.P 25 = some [.v (.slice none 0 0)] := by kernel_rfl
theorem Lx : zer K.P 27 = some (aC aq.z cO cO cO) := by kernel_rfl
theorem MO : zer K.P 28 = some [.v (.int .i64 0)] := by kernel_rfl
theorem ze3 : zer K.P 3 = some [.v (.int .i64 0)] := by kernel_rfl
theorem ze4 : zer K.P 4 = some [.v (.bool false)] := by kernel_rfl
theorem Mz : zer K.P 45 = some (aB Sender.z cO) := by kernel_rfl
theorem MY : zer K.P 49 = some (bc aW.z) := by kernel_rfl
theorem ze5 : zer K.P 5 = some [.v (.int .u8 0)] := by kernel_rfl
theorem LB : zer K.P 51 = some (aG Reorder.z cO) := by kernel_rfl
theorem M9 : zer K.P 55 = some (af aa.z cO cO (.v .nilFunc) cO cO cO) := by kernel_rfl
theorem Mj : zer K.P 63 = some (bG b8.z) := by kernel_rfl
theorem L6 : zer K.P 68 = some (bt bC.z) := by kernel_rfl
theorem Lg : zer K.P 79 = some [.v (.slice none 0 0)] := by kernel_rfl
theorem LP : zer K.P 92 = some (bw Frame.z cO) := by kernel_rfl
theorem MT : zer K.P 94 = some (bu ay.z cO) := by kernel_rfl
attribute [go_sem] Kv M8 MV LH Lr ag3 Lb LJ ag4 M5 K6 MP L1 LK ag5 LS Mx LV Mm LA Md Lc Lp Mb KQ Mu Lt Ms My Ly Mw Lq Ln Ml Ls Km ME by3 by4 by5 LE Lu Mv LF Mg L3 J9 K5 MS Le Fb Fu Hv IL Hg HY Ib HI Ik HN H4 HG G6 HV JL Js HQ JF Jc HW Jm Ij Hl JR Hn Ir Hm IV HH Ie Hs HA Jk HK HO I0 JY Is Hk Jb IE JJ Jq EO Fv Hr H5 I9 I4 JN Hb JD KS in3 Mp Lj GY LC MG Ma LR sz3 MN LW sz4 MR L9 Na Ld Mq sz5 L7 K4 M4 L4 M2 Mt Li M0 M1 J7 LG un3 Mh MZ MX MI L8 Lk ML Ko Mf Me Lx MO ze3 ze4 Mz MY ze5 LB M9 Mj L6 Lg LP MT
theorem mixed : K.P.follows .mixedOrders = true := by kernel_rfl
theorem hC : COk K := ⟨F1.of_tab (tab := tab) rfl (by kernel_rfl), mixed⟩
theorem rs9 : Try.f9.results = #[.cell 0 23] := rfl
theorem Ll : Try.f16.results = #[.tmp 6] := rfl
theorem KU : Try.f11.results = #[.tmp 2] := rfl
theorem LL : Try.f40.results = #[.tmp 6] := rfl
theorem J5 : Try.f48.results = #[.tmp 2] := rfl
theorem LY : Try.f43.results = #[.tmp 4] := rfl
theorem F7 : Try.f39.results = #[.tmp 2] := rfl
theorem KY : Try.f23.results = #[.cell 8 45, .tmp 9] := rfl
theorem KM : Try.f24.results = #[] := rfl
theorem Mr : Try.f60.results = #[.cell 2 92] := rfl
theorem M6 : Try.f41.results = #[.cell 2 45] := rfl
theorem FR : Try.f25.results = #[.cell 4 63, .cell 5 45, .tmp 6] := rfl
theorem D4 : Try.f26.results = #[.cell 4 45, .tmp 5] := rfl
theorem Mo : Try.f61.results = #[.tmp 2] := rfl
theorem K9 : Try.f72.results = #[.tmp 2] := rfl
theorem Ki : Try.f62.results = #[.tmp 2] := rfl
theorem LZ : Try.f55.results = #[.tmp 2] := rfl
theorem Iu : Try.f42.results = #[.tmp 2] := rfl
theorem KA : Try.f27.results = #[.cell 6 51, .tmp 7] := rfl
theorem MC : Try.f18.results = #[] := rfl
theorem Kz : Try.f28.results = #[.tmp 2, .cell 3 45, .tmp 4] := rfl
theorem Mk : Try.f29.results = #[.tmp 4] := rfl
theorem MB : Try.f56.results = #[.tmp 2] := rfl
theorem MJ : Try.f75.results = #[.tmp 5] := rfl
theorem KZ : Try.f74.results = #[.tmp 6, .tmp 7] := rfl
theorem L5 : Try.f65.results = #[.tmp 4, .tmp 5] := rfl
theorem L2 : Try.f59.results = #[.tmp 4] := rfl
theorem Mn : Try.f58.results = #[.tmp 4, .cell 5 51] := rfl
theorem ER : Try.f44.results = #[.tmp 4, .cell 5 51, .tmp 6] := rfl
theorem MW : Try.f38.results = #[] := rfl
theorem LO : Try.f30.results = #[] := rfl
theorem MQ : Try.f19.results = #[] := rfl
theorem GA : Try.f45.results = #[.cell 4 45, .tmp 5] := rfl
theorem Mi : Try.f47.results = #[.tmp 4] := rfl
theorem GG : Try.f64.results = #[.tmp 4] := rfl
theorem FL : Try.f73.results = #[.tmp 4] := rfl
theorem EZ : Try.f63.results = #[.tmp 4] := rfl
theorem Kp : Try.f46.results = #[.cell 4 25] := rfl
theorem J8 : Try.f31.results = #[.tmp 4, .cell 5 45, .tmp 6] := rfl
theorem Kx : Try.f17.results = #[.tmp 1] := rfl
theorem KE : Try.f32.results = #[.tmp 2] := rfl
theorem HU : Try.f33.results = #[.cell 2 45, .tmp 3] := rfl
theorem F4 : Try.f49.results = #[.cell 6 92, .cell 7 45, .tmp 8] := rfl
theorem KV : Try.f34.results = #[] := rfl
theorem Ky : Try.f50.results = #[.tmp 4, .cell 5 45, .tmp 6] := rfl
theorem If : Try.f80.results = #[.tmp 4] := rfl
theorem JC : Try.f76.results = #[.cell 4 49, .tmp 5] := rfl
theorem I7 : Try.f77.results = #[.cell 4 49, .tmp 5] := rfl
theorem Ks : Try.f66.results = #[.cell 4 49] := rfl
theorem Gi : Try.f67.results = #[.tmp 6] := rfl
theorem FG : Try.f51.results = #[.tmp 6, .cell 7 51, .tmp 8] := rfl
theorem L0 : Try.f35.results = #[.tmp 4] := rfl
theorem LM : Try.f68.results = #[] := rfl
theorem Kw : Try.f52.results = #[.cell 2 45, .tmp 3] := rfl
theorem Kg : Try.f53.results = #[.cell 2 49, .tmp 3] := rfl
theorem Kr : Try.f70.results = #[.tmp 4] := rfl
theorem Mc : Try.f69.results = #[.tmp 3] := rfl
theorem Ke : Try.f54.results = #[.tmp 4, .cell 5 45, .tmp 6] := rfl
theorem Kf : Try.f36.results = #[] := rfl
theorem Kd : Try.f37.results = #[.cell 4 79, .cell 5 51, .cell 6 28] := rfl
theorem J4 : Try.f20.results = #[] := rfl
theorem F8 : Try.f10.results = #[.cell 6 27, .tmp 7] := rfl
theorem HR : Try.f22.results = #[.tmp 4] := rfl
theorem K7 : Try.f21.results = #[.tmp 8, .tmp 9] := rfl
theorem M7 : Try.f12.results = #[.tmp 0] := rfl
theorem MH : Try.f13.results = #[.tmp 4] := rfl
theorem rs3 : Try.f3.results = #[.tmp 0] := rfl
end Go.AX.Z.TN

/-! (TNI) -/

set_option linter.unusedSimpArgs false
set_option linter.unusedVariables false
set_option maxHeartbeats 1000000
namespace Go.AX.Z.TN
open Go.AX Go.Proofs

/-- What slices.Backward hands out. -/
def r7 (l : List aA) : List (List AV) := (List.range l.length).map fun i => [vi ((l.length - 1 - i : Nat) : Int), match l[l.length - 1 - i]? with | some x => .agg (al x) | none => .unk]
theorem tO (l : List aA) : (r7 l).length = l.length := by simp [r7]
theorem ya {l : List aA} {k i : Nat} {x : aA} (hk : k + i + 1 = l.length) (hx : l[i]? = some x) : (r7 l)[k]? = some [vi (i : Int), .agg (al x)] := by
 have e : l.length - 1 - k = i := by omega
 have h : (List.range l.length)[k]? = some k := by rw [List.getElem?_range (by omega)]
 unfold r7
 rw [List.getElem?_map, h]
 simp only [Option.map_some, e, hx]
theorem yc {l : List aA} {k : Nat} {x : List AV} (h : (r7 l)[k]? = some x) : ∃ i e, k + i + 1 = l.length ∧ l[i]? = some e ∧ x = [vi (i : Int), .agg (al e)] := by
 have hk : k < l.length := by rw [← tO l]; exact (List.getElem?_eq_some_iff.1 h).1
 have hi : l.length - 1 - k < l.length := by omega
 have := ya (k := k) (i := l.length - 1 - k) (by omega) (List.getElem?_eq_getElem hi)
 rw [h] at this
 cases this
 exact ⟨_, _, by omega, List.getElem?_eq_getElem hi, rfl⟩

def tB (y : Value) (q : Nat) : Nat → AV := upd (upd (fun _ => .unk) 1 (.ptr q 0)) 0 (.v y)

theorem Cr (l : List aA) (hL : l.length < 4611686018427387904) (p q : Nat) : Iw K 71 [.ptr p 0] (fun hs => hs.objs p = .live [.ref q 0 l.length 42] ∧ hs.objs q = .live (List.flatMap al l)) (r7 l) := by
 intro lo lb ρ0 V0 J Jx hlb hJ hJx hJc hJxc hy ρ V hs W h0
 have hAb : ∀ i, Abides K (J i) := fun i => ⟨fun ρ V hs W h => ⟨(hJ i ρ V hs W h).2.1, (hJ i ρ V hs W h).2.2.1⟩, hJc i⟩
 have hAx : Abides K Jx := ⟨hJx, hJxc⟩
 obtain ⟨loc, hloc, rfl⟩ : ∃ loc, ρ0 p = some loc ∧ lb = #[.pointer (some ⟨loc.b, loc.base + 0, none⟩)] := by
  obtain ⟨e1, e2⟩ := hlb
  obtain ⟨lb⟩ := lb
  match lb, e1, e2 with
  | [y], _, e2 =>
   have := e2 0 _ y rfl rfl
   cases this with
   | ptr _ _ loc h => exact ⟨loc, h, rfl⟩
 obtain ⟨Y, hY⟩ : ∃ Y, Value.func (.yield lo) #[] #[] = Y := ⟨_, rfl⟩
 refine callsIn_of_wp (fn := Try.f71) Try.func71 rfl trivial ?_ rfl
 have hst0 := StJ.start (N := Try.f71.ntmps) (t := tB Y p) (J := J 0) (args := #[.func (.yield lo) #[] #[]] ++ #[.pointer (some ⟨loc.b, loc.base + 0, none⟩)]) (by show 2 ≤ 19; decide) h0 (fun i y hy => by
  match i, hy with
  | 0, hy => cases hy; rw [hY]; exact .v _
  | 1, hy => cases hy; exact .ptr p 0 loc ((hJ 0 _ _ _ _ h0).1.rho _ _ hloc)) (fun i hi => by
  have hi : 2 ≤ i := hi
  unfold tB
  rw [bn _ _ (by omega), bn _ _ (by omega)])
 have hRd : ∀ i ρ V hs W, J i ρ V hs W → hs.objs p = .live [.ref q 0 l.length 42] ∧ hs.objs q = .live (List.flatMap al l) := fun i ρ V hs W h => (hJ i ρ V hs W h).2.2.2
 refine wpIn_seq ?_
 obtain ⟨r1, r2⟩ := hRd _ _ _ _ _ hst0.j
 refine oR hC (hAb 0) (by decide +kernel) (by decide +kernel) (K := fun t => t 0 = .v Y ∧ t 1 = .ptr p 0 ∧ t 3 = vi ((l.length : Int) - 1)) hst0 ?_ ?_
 ·
  unfold tB
  simp only [go_sem, Nat.reduceEqDiff, reduceIte, Nat.reduceAdd, Nat.reduceMul, Nat.reduceSub, Nat.reduceLT, Nat.reduceLeDiff, Int.reduceToNat, Int.reduceBEq, Int.reduceBNe, Int.reduceLT, Int.reduceLE, Int.reduceAdd, Int.reduceSub, Int.reduceMul, Int.reduceNeg, Int.reduceEq, Int.reduceNe, r1, lR (show -4611686018427387904 ≤ (l.length : Int) - 1 by omega) (show (l.length : Int) - 1 < 4611686018427387904 by omega)]
  try exact ⟨rfl, rfl, rfl, rfl⟩
 intro ρ1 V1 hs1 a1 W1 t1 ⟨e0, e1, e3⟩ _ hst1
 refine wpIn_block ?_
 refine wpIn_loop (I := fun a w => ∃ (k c : Nat) (ρ : Rho) (V : bJ) (hs : HS) (t : Nat → AV), k + c = l.length ∧ t 0 = .v Y ∧ t 1 = .ptr p 0 ∧ t 3 = vi ((c : Int) - 1) ∧ StJ Try.f71.ntmps t (J k) ρ V hs a w)
  (fun a _ => (match a.tmps.getD 3 undef with | .int _ n => (n + 1).toNat | _ => 0)) ⟨0, l.length, ρ1, V1, hs1, t1, by omega, e0, e1, e3, hst1⟩ ?_
 rintro a w ⟨k, c, ρ2, V2, hs2, t2, hk, e0, e1, e3, hst2⟩
 have hk3 : a.tmps.getD 3 undef = .int .i64 ((c : Int) - 1) := by
  have := hst2.tm 3
  rw [e3] at this
  exact Rel.v_inv this
 refine wpIn_seq ?_
 refine wpIn_seq ?_
 refine oR hC (hAb _) (by decide +kernel) (by decide +kernel) (K := fun t => t 0 = .v Y ∧ t 1 = .ptr p 0 ∧ t 3 = vi ((c : Int) - 1) ∧ t 8 = vb (decide (0 ≤ (c : Int) - 1))) hst2 ?_ ?_
 ·
  simp only [go_sem, Nat.reduceEqDiff, reduceIte, Nat.reduceAdd, Nat.reduceMul, Nat.reduceSub, Nat.reduceLT, Nat.reduceLeDiff, Int.reduceToNat, Int.reduceBEq, Int.reduceBNe, Int.reduceLT, Int.reduceLE, Int.reduceAdd, Int.reduceSub, Int.reduceMul, Int.reduceNeg, Int.reduceEq, Int.reduceNe, e0, e1, e3]
  try exact ⟨rfl, rfl, rfl, rfl, rfl⟩
 intro ρ3 V3 hs3 a3 W3 t3 ⟨e0, e1, e3, e8⟩ _ hst3
 have hc8 : a3.eval (.tmp 8) = .bool (decide (0 ≤ (c : Int) - 1)) := by
  have := jN (C := K) (s := { toHS := hs3, tmps := t3 }) hst3.tm ((hAb _).inv _ _ _ _ hst3.j).2 (.tmp 8)
  rw [show ev K { toHS := hs3, tmps := t3 } (.tmp 8) = t3 8 from rfl, e8] at this
  exact Rel.v_inv this
 refine wpIn_cond_split hc8 (fun hlt => ?_) (fun hge => ?_)
 ·
  obtain ⟨i, rfl⟩ : ∃ i, c = i + 1 := ⟨c - 1, by have := of_decide_eq_true hlt; omega⟩
  have e3 : t3 3 = vi (i : Int) := by rw [e3]; congr 2; omega
  have hil : i < l.length := by omega
  obtain ⟨x, hx⟩ : ∃ x, l[i]? = some x := ⟨_, List.getElem?_eq_getElem hil⟩
  refine wpIn_skip ?_
  refine wpIn_seq ?_
  refine wpIn_block ?_
  refine wpIn_seq ?_
  obtain ⟨r1, r2⟩ := hRd _ _ _ _ _ hst3.j
  obtain ⟨f0, f1, f2, f3⟩ := cG (show idx l (i : Int) = some x by rw [no]; exact hx)
  rw [Int.toNat_natCast] at f2
  refine A6 hC (hAb _) (hAb (k + 1)) hAx (by decide +kernel) (by decide +kernel) 6 _ rfl (l := lo) rfl rfl rfl (x := [vi (i : Int), .agg (al x)]) (b := true) hst3
   (K1 := fun t => t 0 = .v Y ∧ t 1 = .ptr p 0 ∧ t 3 = vi (i : Int) ∧ t 11 = .v Y ∧ t 12 = vi (i : Int) ∧ t 16 = .agg (al x))
   (K2 := fun r t => t 0 = .v Y ∧ t 1 = .ptr p 0 ∧ t 3 = vi (i : Int) ∧ t 18 = vb (match r with | some false => true | _ => false)) ?_ ?_ ?_ ?_ ?_ ?_ ?_ ?_
  ·
   simp only [go_sem, Nat.reduceEqDiff, reduceIte, Nat.reduceAdd, Nat.reduceMul, Nat.reduceSub, Nat.reduceLT, Nat.reduceLeDiff, Int.reduceToNat, Int.reduceBEq, Int.reduceBNe, Int.reduceLT, Int.reduceLE, Int.reduceAdd, Int.reduceSub, Int.reduceMul, Int.reduceNeg, Int.reduceEq, Int.reduceNe, e0, e1, e3, r1, r2, f0, f1, f2, Int.toNat_natCast]
   try exact ⟨rfl, rfl, rfl, rfl, rfl, rfl⟩
  ·
   rintro t1 _
   exact .inl ⟨rfl, rfl⟩
  ·
   rintro _ t1 hs' ⟨_, _, _, h11, h12, h16⟩
   exact ⟨by rw [hY]; exact h11, by show [t1 12, t1 16] = _; rw [h12, h16]⟩
  ·
   intro _ ρ' V' hs' W' args' _ hj hargs
   exact hy _ _ _ _ _ _ _ hj (ya (by omega) hx) hargs
  ·
   rintro r t1 hs' ⟨e0, e1, e3, _⟩ hr
   cases r with
   | none => cases hr
   | some r =>
    cases r <;> simp only [go_sem, Nat.reduceEqDiff, reduceIte, Nat.reduceAdd, Nat.reduceMul, Nat.reduceSub, Nat.reduceLT, Nat.reduceLeDiff, Int.reduceToNat, Int.reduceBEq, Int.reduceBNe, Int.reduceLT, Int.reduceLE, Int.reduceAdd, Int.reduceSub, Int.reduceMul, Int.reduceNeg, Int.reduceEq, Int.reduceNe, e0, e1, e3] <;> first | rfl | exact ⟨rfl, rfl, rfl, rfl, rfl⟩
  ·
   intro h; cases h
  ·
   rintro _ ρ5 V5 hs5 a5 W5 t5 ⟨e0, e1, e3, e18⟩ _ hst5
   have hc : a5.eval (.tmp 18) = .bool false := by
    have := jN (C := K) (s := { toHS := hs5, tmps := t5 }) hst5.tm ((hAb _).inv _ _ _ _ hst5.j).2 (.tmp 18)
    rw [show ev K { toHS := hs5, tmps := t5 } (.tmp 18) = t5 18 from rfl, e18] at this
    exact Rel.v_inv this
   refine wpIn_cond_false hc (wpIn_skip ?_)
   refine oR hC (hAb _) (by decide +kernel) (by decide +kernel) (K := fun t => t 0 = .v Y ∧ t 1 = .ptr p 0 ∧ t 3 = vi ((i : Int) - 1)) hst5 ?_ ?_
   ·
    simp only [go_sem, Nat.reduceEqDiff, reduceIte, Nat.reduceAdd, Nat.reduceMul, Nat.reduceSub, Nat.reduceLT, Nat.reduceLeDiff, Int.reduceToNat, Int.reduceBEq, Int.reduceBNe, Int.reduceLT, Int.reduceLE, Int.reduceAdd, Int.reduceSub, Int.reduceMul, Int.reduceNeg, Int.reduceEq, Int.reduceNe, e0, e1, e3, lR (show -4611686018427387904 ≤ (i : Int) - 1 by omega) (show (i : Int) - 1 < 4611686018427387904 by omega)]
    try exact ⟨rfl, rfl, rfl, rfl⟩
   rintro ρ6 V6 hs6 a6 W6 t6 ⟨e0, e1, e3⟩ _ hst6
   refine ⟨⟨k + 1, i, ρ6, V6, hs6, t6, by omega, e0, e1, e3, hst6⟩, ?_⟩
   have h3 : a6.tmps.getD 3 undef = .int .i64 ((i : Int) - 1) := by
    have := hst6.tm 3
    rw [e3] at this
    exact Rel.v_inv this
   show (match a6.tmps.getD 3 undef with | .int _ n => (n + 1).toNat | _ => 0) < (match a.tmps.getD 3 undef with | .int _ n => (n + 1).toNat | _ => 0)
   rw [h3, hk3]
   show ((i : Int) - 1 + 1).toNat < (((i + 1 : Nat) : Int) - 1 + 1).toNat
   omega
  ·
   rintro _ ρ5 V5 hs5 a5 W5 t5 ⟨e0, e1, e3, e18⟩ _ hst5
   have hc : a5.eval (.tmp 18) = .bool true := by
    have := jN (C := K) (s := { toHS := hs5, tmps := t5 }) hst5.tm (hAx.inv _ _ _ _ hst5.j).2 (.tmp 18)
    rw [show ev K { toHS := hs5, tmps := t5 } (.tmp 18) = t5 18 from rfl, e18] at this
    exact Rel.v_inv this
   refine wpIn_cond_true hc (wpIn_ret ?_)
   exact AE (R := fun e W' => (∃ v, e = .returned v) ∧ ∃ ρ' V' hs', J (r7 l).length ρ' V' hs' W' ∨ Jx ρ' V' hs' W') hst5 rfl (fun v h => ⟨⟨v, rfl⟩, _, _, _, .inr h⟩)
 ·
  have hc0 : c = 0 := by have := of_decide_eq_false hge; omega
  subst hc0
  refine wpIn_exit ?_
  exact AE (R := fun e W' => (∃ v, e = .returned v) ∧ ∃ ρ' V' hs', J (r7 l).length ρ' V' hs' W' ∨ Jx ρ' V' hs' W') hst3 rfl (fun v h => ⟨⟨v, rfl⟩, _, _, _, .inl (by rw [tO, ← hk]; exact h)⟩)

theorem DR (n q : Nat) (hs : HS) : Snd K 57 [.ref q 0 n 42] hs (fun r hs' => r = .clo 71 [] [.ptr hs.next 0] ∧ hs'.objs = upd hs.objs hs.next (.live [.ref q 0 n 42]) ∧ hs.next < hs'.next) := by
 obtain ⟨objs, nx⟩ := hs
 refine qY hC (fn := Try.f57) Try.func57 rfl rfl (by decide +kernel) (Nat.le_of_ble_eq_true rfl) ?_
 refine rX fun KK hKK => ?_
 refine av ?_
 simp only [jE, List.getD_cons_zero, go_sem, Nat.reduceEqDiff, reduceIte, Nat.reduceAdd]
 refine hKK _ ?_; clear hKK KK
 refine rX fun KK hKK => ?_
 refine av ?_
 simp only [go_sem, Nat.reduceEqDiff, reduceIte, Nat.reduceAdd]
 refine hKK _ ?_; clear hKK KK
 refine aQ ?_
 refine aE (fn := Try.f57) (rs := #[.tmp 2]) rfl (by simp only [go_sem, tC, lJ, su, u5, Nat.reduceEqDiff, reduceIte, Nat.reduceAdd]; rfl) ?_
 exact ⟨rfl, rfl, by show nx < nx + 2 + 2; omega⟩

end Go.AX.Z.TN
