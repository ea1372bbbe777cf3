/- A part of the proof: the types, the facts of the program and the functions, read plainly. -/
import Derived.Test.YtpjogfcpmcbafaaCorec
import Derived.Test.YtpjogfcpmcbafaaProg
import Derived.KernelRfl
set_option linter.unusedVariables false
set_option linter.unusedSimpArgs false

/-! (TNS) -/

set_option linter.unusedSimpArgs false
set_option linter.unusedVariables false
namespace Go.AX.Z.TN
open Go.AX
structure SessionPlan where
 Start : Int
 Size : Int
 Limit : Int
 Life : Int
 Hold : Int
 Burst : Int
 Round : Int
 deriving DecidableEq

def SessionPlan.z : SessionPlan := ⟨0, 0, 0, 0, 0, 0, 0⟩

def am (x : SessionPlan) : List AV := [vi x.Start, vi x.Size, vi x.Limit, vi x.Life, vi x.Hold, vi x.Burst, vi x.Round]

theorem qZ (x : SessionPlan) : (am x).length = 7 := by rfl
theorem rZ (x : SessionPlan) : sub? (am x) 0 7 = some (am x) := by rfl
theorem qm (x : SessionPlan) : (am x).take 7 = (am x) := by rfl
theorem rz (x : SessionPlan) (y : SessionPlan) : ct (am x) 0 (am y) = am y := by rfl
theorem nH (x : SessionPlan) : (am x)[0]? = some (vi x.Start) := by rfl
theorem nG (x : SessionPlan) (v : Int) : (am x).set 0 (vi v) = am { x with Start := v } := by rfl
theorem o0 (x : SessionPlan) : (am x)[1]? = some (vi x.Size) := by rfl
theorem o7 (x : SessionPlan) (v : Int) : (am x).set 1 (vi v) = am { x with Size := v } := by rfl
theorem nO (x : SessionPlan) : (am x)[2]? = some (vi x.Limit) := by rfl
theorem nM (x : SessionPlan) (v : Int) : (am x).set 2 (vi v) = am { x with Limit := v } := by rfl
theorem nQ (x : SessionPlan) : (am x)[3]? = some (vi x.Life) := by rfl
theorem oa (x : SessionPlan) (v : Int) : (am x).set 3 (vi v) = am { x with Life := v } := by rfl
theorem oH (x : SessionPlan) : (am x)[4]? = some (vi x.Hold) := by rfl
theorem pg (x : SessionPlan) (v : Int) : (am x).set 4 (vi v) = am { x with Hold := v } := by rfl
theorem nC (x : SessionPlan) : (am x)[5]? = some (vi x.Burst) := by rfl
theorem nv (x : SessionPlan) (v : Int) : (am x).set 5 (vi v) = am { x with Burst := v } := by rfl
theorem nI (x : SessionPlan) : (am x)[6]? = some (vi x.Round) := by rfl
theorem nL (x : SessionPlan) (v : Int) : (am x).set 6 (vi v) = am { x with Round := v } := by rfl
theorem lW (x : SessionPlan) (o : Nat → Ob) (n : Nat) : (am x).map (fz o (n + 1)) = am x := by rfl
theorem jX (x : SessionPlan) (o : Nat → Ob) (n : Nat) : (am x).flatMap (be o (n + 1)) = [] := by
 simp only [am, List.cons_append, List.nil_append, List.append_nil, List.flatMap_cons, List.flatMap_nil, fa]
theorem bS (x : SessionPlan) : ∀ c ∈ (am x), aw c := by
 simp only [am, List.cons_append, List.nil_append]
 repeat' (first | exact aw.v _ | assumption | exact List.forall_mem_nil _ | refine List.forall_mem_cons.2 ⟨?_, ?_⟩)
theorem pL (x : SessionPlan) (o : Nat → Ob) (n : Nat) : (am x).map (fz o (n + 1)) = am x := by simp only [lW]
theorem pY (x : SessionPlan) (o : Nat → Ob) (n : Nat) : (am x).flatMap (be o (n + 1)) = [] := by simp only [jX, List.append_nil]
attribute [go_sem] qZ rZ qm rz nH nG o0 o7 nO nM nQ oa oH pg nC nv nI nL lW jX pL pY

structure SessionResult where
 Delivered : (List Int)
 Acked : (List Int)
 Dropped : (List Int)
 Rounds : Int
 deriving DecidableEq

def SessionResult.z : SessionResult := ⟨[], [], [], 0⟩

def aA (x : SessionResult) (s0 : AV) (s1 : AV) (s2 : AV) : List AV := [s0, s1, s2, vi x.Rounds]

theorem pG (x : SessionResult) (s0 : AV) (s1 : AV) (s2 : AV) : (aA x s0 s1 s2).length = 4 := by rfl
theorem pD (x : SessionResult) (s0 : AV) (s1 : AV) (s2 : AV) : sub? (aA x s0 s1 s2) 0 4 = some (aA x s0 s1 s2) := by rfl
theorem oF (x : SessionResult) (s0 : AV) (s1 : AV) (s2 : AV) : (aA x s0 s1 s2).take 4 = (aA x s0 s1 s2) := by rfl
theorem pI (x : SessionResult) (s0 : AV) (s1 : AV) (s2 : AV) (y : SessionResult) (s02 : AV) (s12 : AV) (s22 : AV) : ct (aA x s0 s1 s2) 0 (aA y s02 s12 s22) = aA y s02 s12 s22 := by rfl
theorem kr (x : SessionResult) (s0 : AV) (s1 : AV) (s2 : AV) : (aA x s0 s1 s2)[0]? = some s0 := by rfl
theorem ko (x : SessionResult) (s0 : AV) (s1 : AV) (s2 : AV) (v : AV) : (aA x s0 s1 s2).set 0 v = aA x v s1 s2 := by rfl
theorem lP (x : SessionResult) (s0 : AV) (s1 : AV) (s2 : AV) : (aA x s0 s1 s2)[1]? = some s1 := by rfl
theorem l7 (x : SessionResult) (s0 : AV) (s1 : AV) (s2 : AV) (v : AV) : (aA x s0 s1 s2).set 1 v = aA x s0 v s2 := by rfl
theorem kT (x : SessionResult) (s0 : AV) (s1 : AV) (s2 : AV) : (aA x s0 s1 s2)[2]? = some s2 := by rfl
theorem kU (x : SessionResult) (s0 : AV) (s1 : AV) (s2 : AV) (v : AV) : (aA x s0 s1 s2).set 2 v = aA x s0 s1 v := by rfl
theorem lN (x : SessionResult) (s0 : AV) (s1 : AV) (s2 : AV) : (aA x s0 s1 s2)[3]? = some (vi x.Rounds) := by rfl
theorem lI (x : SessionResult) (s0 : AV) (s1 : AV) (s2 : AV) (v : Int) : (aA x s0 s1 s2).set 3 (vi v) = aA { x with Rounds := v } s0 s1 s2 := by rfl
theorem kR (x : SessionResult) (s0 : AV) (s1 : AV) (s2 : AV) (o : Nat → Ob) (n : Nat) : (aA x s0 s1 s2).map (fz o (n + 1)) = aA x (fz o (n + 1) s0) (fz o (n + 1) s1) (fz o (n + 1) s2) := by rfl
theorem i7 (x : SessionResult) (s0 : AV) (s1 : AV) (s2 : AV) (o : Nat → Ob) (n : Nat) : (aA x s0 s1 s2).flatMap (be o (n + 1)) = be o (n + 1) s0 ++ (be o (n + 1) s1 ++ be o (n + 1) s2) := by
 simp only [aA, List.cons_append, List.nil_append, List.append_nil, List.flatMap_cons, List.flatMap_nil, fa]
theorem nt (x : SessionResult) (s0 : AV) (s1 : AV) (s2 : AV) (h_s0 : aw s0) (h_s1 : aw s1) (h_s2 : aw s2) : ∀ c ∈ (aA x s0 s1 s2), aw c := by
 simp only [aA, List.cons_append, List.nil_append]
 repeat' (first | exact aw.v _ | assumption | exact List.forall_mem_nil _ | refine List.forall_mem_cons.2 ⟨?_, ?_⟩)
theorem qg {st : AS} {F : List Nat} {σ : List (Option Nat)} (x : SessionResult) (s0 : AV) (s1 : AV) (s2 : AV) (s02 : AV) (s12 : AV) (s22 : AV) (h_s0 : Tm st F σ s0 s02) (h_s1 : Tm st F σ s1 s12) (h_s2 : Tm st F σ s2 s22) : TmL st F σ (aA x s0 s1 s2) (aA x s02 s12 s22) := by
 simp only [aA, List.cons_append, List.nil_append]
 repeat' (first | exact TmL.nil | (refine TmL.cons (Tm.v _) ?_) | (refine TmL.cons (by assumption) ?_))
theorem bx {st : AS} {F : List Nat} {σ : List (Option Nat)} {x y : SessionResult} {s0 s1 s2 s02 s12 s22 : AV} (hxy : aA y s02 s12 s22 = aA x s02 s12 s22) (h_s0 : Tm st F σ s0 s02) (h_s1 : Tm st F σ s1 s12) (h_s2 : Tm st F σ s2 s22) : TmL st F σ (aA x s0 s1 s2) (aA y s02 s12 s22) := by
 rw [hxy]; exact qg x s0 s1 s2 s02 s12 s22 h_s0 h_s1 h_s2
theorem pE (x : SessionResult) {s0 s1 s2 : (Nat → Nat) → AV} (h_s0 : aE s0) (h_s1 : aE s1) (h_s2 : aE s2) : RenML fun q => aA x (s0 q) (s1 q) (s2 q) := by
 simp only [aA, List.cons_append, List.nil_append]
 repeat' (first | exact RenML.nil | (refine RenML.cons (aE.const (aw.v _)) ?_) | (refine RenML.cons (by assumption) ?_))
def dD (x : SessionResult) : List AV := aA x (lD x.Delivered) (lD x.Acked) (lD x.Dropped)
theorem iq (x : SessionResult) : dD x = aA x (lD x.Delivered) (lD x.Acked) (lD x.Dropped) := rfl
theorem fN (x : SessionResult) : ∀ c ∈ dD x, aw c := nt x _ _ _ (dh _) (dh _) (dh _)
theorem tQ (x : SessionResult) (o : Nat → Ob) (n : Nat) : (dD x).map (fz o (n + 2)) = dD x := by simp only [iq, kR, yR, yR, yR]
theorem tx (x : SessionResult) (o : Nat → Ob) (n : Nat) : (dD x).flatMap (be o (n + 2)) = [] := by simp only [iq, i7, ye, ye, ye, List.append_nil]
attribute [go_sem] pG pD oF pI kr ko lP l7 kT kU lN lI kR i7 iq tQ tx

def jy (l : List SessionPlan) : AV := .imm (List.flatMap am l) l.length
theorem jg (l : List SessionPlan) : jy l = .imm (List.flatMap am l) l.length := rfl
theorem bZ (x : SessionPlan) : (am x).length = 7 := by rfl
theorem rr (l : List SessionPlan) : (l.flatMap am).length = l.length * 7 := eP bZ l
theorem rB (l : List SessionPlan) (i o : Nat) (ho : o < 7) : (l.flatMap am)[i * 7 + o]? = l[i]?.bind fun a => (am a)[o]? := iQ bZ l i o ho
theorem qz (l : List SessionPlan) (i : Nat) : (l.flatMap am)[i * 7]? = l[i]?.bind fun a => (am a)[0]? := iQ bZ l i 0 (by decide)
theorem q9 (l : List SessionPlan) (i o n : Nat) (ho : o + n ≤ 7) (hn : 0 < n) : sub? (l.flatMap am) (i * 7 + o) n = l[i]?.bind fun a => sub? (am a) o n := iN bZ l i o n ho hn
theorem qr (l : List SessionPlan) (i n : Nat) (ho : n ≤ 7) (hn : 0 < n) : sub? (l.flatMap am) (i * 7) n = l[i]?.bind fun a => sub? (am a) 0 n := iN bZ l i 0 n (by omega) hn
theorem qc (l : List SessionPlan) : sub? (l.flatMap am) 0 (l.length * 7) = some (l.flatMap am) := pu bZ l
theorem qw (l : List SessionPlan) (n : Nat) : (l.flatMap am).take (n * 7) = (l.take n).flatMap am := iB bZ l n
theorem qx (l : List SessionPlan) (n : Nat) : (l.flatMap am).drop (n * 7) = (l.drop n).flatMap am := jf bZ l n
theorem lV (l : List SessionPlan) (o : Nat → Ob) (n : Nat) : (l.flatMap am).map (fz o (n + 1)) = (l.flatMap am) := ub (fun a => pL a o n) l
theorem lp (l : List SessionPlan) (o : Nat → Ob) (n : Nat) : (l.flatMap am).flatMap (be o (n + 1)) = [] := my (fun a => pY a o n) l
theorem ny (l : List SessionPlan) (i : Nat) (v : Int) : (l.flatMap am).set (i * 7) (vi v) = (l.modify i (fun y => { y with Start := v })).flatMap am := dl bZ l i 0 _ (fun y => { y with Start := v }) (by decide) (fun _ => by rfl)
theorem oC (l : List SessionPlan) (i : Nat) (v : Int) : (l.flatMap am).set (i * 7 + 1) (vi v) = (l.modify i (fun y => { y with Size := v })).flatMap am := dl bZ l i 1 _ (fun y => { y with Size := v }) (by decide) (fun _ => by rfl)
theorem nA (l : List SessionPlan) (i : Nat) (v : Int) : (l.flatMap am).set (i * 7 + 2) (vi v) = (l.modify i (fun y => { y with Limit := v })).flatMap am := dl bZ l i 2 _ (fun y => { y with Limit := v }) (by decide) (fun _ => by rfl)
theorem oe (l : List SessionPlan) (i : Nat) (v : Int) : (l.flatMap am).set (i * 7 + 3) (vi v) = (l.modify i (fun y => { y with Life := v })).flatMap am := dl bZ l i 3 _ (fun y => { y with Life := v }) (by decide) (fun _ => by rfl)
theorem oT (l : List SessionPlan) (i : Nat) (v : Int) : (l.flatMap am).set (i * 7 + 4) (vi v) = (l.modify i (fun y => { y with Hold := v })).flatMap am := dl bZ l i 4 _ (fun y => { y with Hold := v }) (by decide) (fun _ => by rfl)
theorem ns (l : List SessionPlan) (i : Nat) (v : Int) : (l.flatMap am).set (i * 7 + 5) (vi v) = (l.modify i (fun y => { y with Burst := v })).flatMap am := dl bZ l i 5 _ (fun y => { y with Burst := v }) (by decide) (fun _ => by rfl)
theorem nB (l : List SessionPlan) (i : Nat) (v : Int) : (l.flatMap am).set (i * 7 + 6) (vi v) = (l.modify i (fun y => { y with Round := v })).flatMap am := dl bZ l i 6 _ (fun y => { y with Round := v }) (by decide) (fun _ => by rfl)
theorem rf (l : List SessionPlan) (i : Nat) (x : SessionPlan) : ct (l.flatMap am) (i * 7) (am x) = (l.set i x).flatMap am := rQ bZ (by decide) l i x
theorem rJ (l : List SessionPlan) (x : SessionPlan) : (l.flatMap am) ++ am x = (l ++ [x]).flatMap am := by simp
theorem rH (l : List SessionPlan) (m : List SessionPlan) : (l.flatMap am) ++ m.flatMap am = (l ++ m).flatMap am := List.flatMap_append.symm
theorem tt (l : List SessionPlan) (o : Nat → Ob) (n : Nat) : fz o (n + 2) (jy l) = jy l := by simp only [jg, fz, lV]
theorem tU (l : List SessionPlan) (o : Nat → Ob) (n : Nat) : be o (n + 2) (jy l) = [] := by simp only [jg, be, lp]
attribute [go_sem] jg bZ rr rB qz q9 qr qc qw qx lV lp ny oC nA oe oT ns nB rf rJ rH tt tU

structure Addr where
 a0 : Int
 a1 : Int
 a2 : Int
 a3 : Int
 a4 : Int
 a5 : Int
 deriving DecidableEq

def Addr.z : Addr := ⟨0, 0, 0, 0, 0, 0⟩

def dw (x : Addr) : List AV := [vu x.a0, vu x.a1, vu x.a2, vu x.a3, vu x.a4, vu x.a5]

theorem Ay (x : Addr) : (dw x).length = 6 := by rfl
theorem As (x : Addr) : sub? (dw x) 0 6 = some (dw x) := by rfl
theorem zP (x : Addr) : (dw x).take 6 = (dw x) := by rfl
theorem AN (x : Addr) (y : Addr) : ct (dw x) 0 (dw y) = dw y := by rfl
theorem w8 (x : Addr) (o : Nat → Ob) (n : Nat) : (dw x).map (fz o (n + 1)) = dw x := by rfl
theorem rS (x : Addr) (o : Nat → Ob) (n : Nat) : (dw x).flatMap (be o (n + 1)) = [] := by
 simp only [dw, List.cons_append, List.nil_append, List.append_nil, List.flatMap_cons, List.flatMap_nil, fa]
theorem IH (x : Addr) (o : Nat → Ob) (n : Nat) : (dw x).map (fz o (n + 1)) = dw x := by simp only [w8]
theorem G7 (x : Addr) (o : Nat → Ob) (n : Nat) : (dw x).flatMap (be o (n + 1)) = [] := by simp only [rS, List.append_nil]
attribute [go_sem] Ay As zP AN w8 rS IH G7

structure Header where
 Kind : Int
 Sub : Int
 ToDs : Bool
 FromDs : Bool
 More : Bool
 Retry : Bool
 Sleep : Bool
 MoreData : Bool
 Protected : Bool
 Duration : Int
 A1 : Addr
 A2 : Addr
 A3 : Addr
 A4 : Addr
 Seq : Int
 Frag : Int
 Tid : Int
 Ack : Int
 Amsdu : Bool
 Eosp : Bool
 deriving DecidableEq

def Header.z : Header := ⟨0, 0, false, false, false, false, false, false, false, 0, Addr.z, Addr.z, Addr.z, Addr.z, 0, 0, 0, 0, false, false⟩

def cI (x : Header) : List AV := [vu x.Kind, vu x.Sub, vb x.ToDs, vb x.FromDs, vb x.More, vb x.Retry, vb x.Sleep, vb x.MoreData, vb x.Protected, vi x.Duration] ++ (dw x.A1) ++ (dw x.A2) ++ (dw x.A3) ++ (dw x.A4) ++ [vi x.Seq, vi x.Frag, vi x.Tid, vu x.Ack, vb x.Amsdu, vb x.Eosp]

theorem xO (x : Header) : (cI x).length = 40 := by rfl
theorem xT (x : Header) : sub? (cI x) 0 40 = some (cI x) := by rfl
theorem wx (x : Header) : (cI x).take 40 = (cI x) := by rfl
theorem yC (x : Header) (y : Header) : ct (cI x) 0 (cI y) = cI y := by rfl
theorem tg (x : Header) (o : Nat → Ob) (n : Nat) : (cI x).map (fz o (n + 1)) = cI x := by rfl
theorem nV (x : Header) (o : Nat → Ob) (n : Nat) : (cI x).flatMap (be o (n + 1)) = [] := by
 simp only [cI, dw, List.cons_append, List.nil_append, List.append_nil, List.flatMap_cons, List.flatMap_nil, fa]
theorem Cy (x : Header) (o : Nat → Ob) (n : Nat) : (cI x).map (fz o (n + 1)) = cI x := by simp only [tg]
theorem CM (x : Header) (o : Nat → Ob) (n : Nat) : (cI x).flatMap (be o (n + 1)) = [] := by simp only [nV, List.append_nil]
attribute [go_sem] xO xT wx yC tg nV Cy CM

structure Frame where
 Head : Header
 Body : (List Int)
 deriving DecidableEq

def Frame.z : Frame := ⟨Header.z, []⟩

def bm (x : Frame) (s0 : AV) : List AV := (cI x.Head) ++ [s0]

theorem y0 (x : Frame) (s0 : AV) : (bm x s0).length = 41 := by rfl
theorem zO (x : Frame) (s0 : AV) : sub? (bm x s0) 0 41 = some (bm x s0) := by rfl
theorem yP (x : Frame) (s0 : AV) : (bm x s0).take 41 = (bm x s0) := by rfl
theorem z5 (x : Frame) (s0 : AV) (y : Frame) (s02 : AV) : ct (bm x s0) 0 (bm y s02) = bm y s02 := by rfl
theorem pd (x : Frame) (s0 : AV) (v : Bool) : (bm x s0).set 5 (vb v) = bm { x with Head.Retry := v } s0 := by rfl
theorem qv (x : Frame) (s0 : AV) : (bm x s0)[34]? = some (vi x.Head.Seq) := by rfl
theorem qi (x : Frame) (s0 : AV) (v : Int) : (bm x s0).set 34 (vi v) = bm { x with Head.Seq := v } s0 := by rfl
theorem qy (x : Frame) (s0 : AV) (v : Int) : (bm x s0).set 36 (vi v) = bm { x with Head.Tid := v } s0 := by rfl
theorem vz (x : Frame) (s0 : AV) : (bm x s0)[40]? = some s0 := by rfl
theorem uF (x : Frame) (s0 : AV) (v : AV) : (bm x s0).set 40 v = bm x v := by rfl
theorem va (x : Frame) (s0 : AV) (o : Nat → Ob) (n : Nat) : (bm x s0).map (fz o (n + 1)) = bm x (fz o (n + 1) s0) := by rfl
theorem pZ (x : Frame) (s0 : AV) (o : Nat → Ob) (n : Nat) : (bm x s0).flatMap (be o (n + 1)) = be o (n + 1) s0 := by
 simp only [bm, cI, dw, List.cons_append, List.nil_append, List.append_nil, List.flatMap_cons, List.flatMap_nil, fa]
theorem wH (x : Frame) (s0 : AV) (h_s0 : aw s0) : ∀ c ∈ (bm x s0), aw c := by
 simp only [bm, cI, dw, List.cons_append, List.nil_append]
 repeat' (first | exact aw.v _ | assumption | exact List.forall_mem_nil _ | refine List.forall_mem_cons.2 ⟨?_, ?_⟩)
theorem Ai {st : AS} {F : List Nat} {σ : List (Option Nat)} (x : Frame) (s0 : AV) (s02 : AV) (h_s0 : Tm st F σ s0 s02) : TmL st F σ (bm x s0) (bm x s02) := by
 simp only [bm, cI, dw, List.cons_append, List.nil_append]
 repeat' (first | exact TmL.nil | (refine TmL.cons (Tm.v _) ?_) | (refine TmL.cons (by assumption) ?_))
theorem cV {st : AS} {F : List Nat} {σ : List (Option Nat)} {x y : Frame} {s0 s02 : AV} (hxy : bm y s02 = bm x s02) (h_s0 : Tm st F σ s0 s02) : TmL st F σ (bm x s0) (bm y s02) := by
 rw [hxy]; exact Ai x s0 s02 h_s0
def aY (x : Frame) : List AV := bm x (rC x.Body)
theorem qI (x : Frame) : aY x = bm x (rC x.Body) := rfl
theorem dv (x : Frame) : ∀ c ∈ aY x, aw c := wH x _ (qH _)
theorem Bk (x : Frame) (o : Nat → Ob) (n : Nat) : (aY x).map (fz o (n + 2)) = aY x := by simp only [qI, va, xL]
theorem Bp (x : Frame) (o : Nat → Ob) (n : Nat) : (aY x).flatMap (be o (n + 2)) = [] := by simp only [qI, pZ, xY, List.append_nil]
attribute [go_sem] y0 zO yP z5 pd qv qi qy vz uF va pZ qI Bk Bp

structure Unacked where
 At : Int
 Tries : Int
 Flying : Bool
 Frame : Frame
 deriving DecidableEq

def Unacked.z : Unacked := ⟨0, 0, false, Frame.z⟩

def bh (x : Unacked) (s0 : AV) : List AV := [vi x.At, vi x.Tries, vb x.Flying] ++ (bm x.Frame s0)

theorem v9 (x : Unacked) (s0 : AV) : (bh x s0).length = 44 := by rfl
theorem wF (x : Unacked) (s0 : AV) : sub? (bh x s0) 0 44 = some (bh x s0) := by rfl
theorem uU (x : Unacked) (s0 : AV) : (bh x s0).take 44 = (bh x s0) := by rfl
theorem wg (x : Unacked) (s0 : AV) (y : Unacked) (s02 : AV) : ct (bh x s0) 0 (bh y s02) = bh y s02 := by rfl
theorem uq (x : Unacked) (s0 : AV) : (bh x s0)[0]? = some (vi x.At) := by rfl
theorem vp (x : Unacked) (s0 : AV) (v : Int) : (bh x s0).set 0 (vi v) = bh { x with At := v } s0 := by rfl
theorem rU (x : Unacked) (s0 : AV) : (bh x s0)[1]? = some (vi x.Tries) := by rfl
theorem qQ (x : Unacked) (s0 : AV) : (bh x s0)[2]? = some (vb x.Flying) := by rfl
theorem kP (x : Unacked) (s0 : AV) : (bh x s0)[37]? = some (vi x.Frame.Head.Seq) := by rfl
theorem r7 (x : Unacked) (s0 : AV) : sub? (bh x s0) 3 41 = some (bm x.Frame s0) := by rfl
theorem qX (x : Unacked) (s0 : AV) (v : Frame) (w0 : AV) : ct (bh x s0) 3 (bm v w0) = bh { x with Frame := v } w0 := by rfl
theorem rn (x : Unacked) (s0 : AV) (o : Nat → Ob) (n : Nat) : (bh x s0).map (fz o (n + 1)) = bh x (fz o (n + 1) s0) := by rfl
theorem no (x : Unacked) (s0 : AV) (o : Nat → Ob) (n : Nat) : (bh x s0).flatMap (be o (n + 1)) = be o (n + 1) s0 := by
 simp only [bh, bm, cI, dw, List.cons_append, List.nil_append, List.append_nil, List.flatMap_cons, List.flatMap_nil, fa]
theorem tK (x : Unacked) (s0 : AV) (h_s0 : aw s0) : ∀ c ∈ (bh x s0), aw c := by
 simp only [bh, bm, cI, dw, List.cons_append, List.nil_append]
 repeat' (first | exact aw.v _ | assumption | exact List.forall_mem_nil _ | refine List.forall_mem_cons.2 ⟨?_, ?_⟩)
theorem xI {st : AS} {F : List Nat} {σ : List (Option Nat)} (x : Unacked) (s0 : AV) (s02 : AV) (h_s0 : Tm st F σ s0 s02) : TmL st F σ (bh x s0) (bh x s02) := by
 simp only [bh, bm, cI, dw, List.cons_append, List.nil_append]
 repeat' (first | exact TmL.nil | (refine TmL.cons (Tm.v _) ?_) | (refine TmL.cons (by assumption) ?_))
theorem pU {st : AS} {F : List Nat} {σ : List (Option Nat)} {x y : Unacked} {s0 s02 : AV} (hxy : bh y s02 = bh x s02) (h_s0 : Tm st F σ s0 s02) : TmL st F σ (bh x s0) (bh y s02) := by
 rw [hxy]; exact xI x s0 s02 h_s0
theorem pN (x : Unacked) {s0 : (Nat → Nat) → AV} (h_s0 : aE s0) : RenML fun q => bh x (s0 q) := by
 simp only [bh, bm, cI, dw, List.cons_append, List.nil_append]
 repeat' (first | exact RenML.nil | (refine RenML.cons (aE.const (aw.v _)) ?_) | (refine RenML.cons (by assumption) ?_))
def ag (x : Unacked) : List AV := bh x (rC x.Frame.Body)
theorem mC (x : Unacked) : ag x = bh x (rC x.Frame.Body) := rfl
theorem il (x : Unacked) : ∀ c ∈ ag x, aw c := tK x _ (qH _)
theorem xv (x : Unacked) (o : Nat → Ob) (n : Nat) : (ag x).map (fz o (n + 2)) = ag x := by simp only [mC, rn, xL]
theorem xp (x : Unacked) (o : Nat → Ob) (n : Nat) : (ag x).flatMap (be o (n + 2)) = [] := by simp only [mC, no, xY, List.append_nil]
attribute [go_sem] v9 wF uU wg uq vp rU qQ kP r7 qX rn no mC xv xp

def gw (l : List Unacked) : AV := .imm (List.flatMap ag l) l.length
theorem mG (l : List Unacked) : gw l = .imm (List.flatMap ag l) l.length := rfl
theorem cQ (x : Unacked) : (ag x).length = 44 := by rfl
theorem nb (l : List Unacked) : aw (gw l) := aw.imm (je il l)
theorem ah (l : List Unacked) : ∀ c ∈ l.flatMap ag, aw c := je il l
theorem we (l : List Unacked) : (l.flatMap ag).length = l.length * 44 := eP cQ l
theorem wG (l : List Unacked) (i o : Nat) (ho : o < 44) : (l.flatMap ag)[i * 44 + o]? = l[i]?.bind fun a => (ag a)[o]? := iQ cQ l i o ho
theorem uL (l : List Unacked) (i : Nat) : (l.flatMap ag)[i * 44]? = l[i]?.bind fun a => (ag a)[0]? := iQ cQ l i 0 (by decide)
theorem wC (l : List Unacked) (i o n : Nat) (ho : o + n ≤ 44) (hn : 0 < n) : sub? (l.flatMap ag) (i * 44 + o) n = l[i]?.bind fun a => sub? (ag a) o n := iN cQ l i o n ho hn
theorem u6 (l : List Unacked) (i n : Nat) (ho : n ≤ 44) (hn : 0 < n) : sub? (l.flatMap ag) (i * 44) n = l[i]?.bind fun a => sub? (ag a) 0 n := iN cQ l i 0 n (by omega) hn
theorem vr (l : List Unacked) (o : Nat) : (l.flatMap ag)[o]? = l[o / 44]?.bind fun a => (ag a)[o % 44]? := xc cQ (by decide) l o
theorem vI (l : List Unacked) (o n : Nat) (ho : o % 44 + n ≤ 44) (hn : 0 < n) : sub? (l.flatMap ag) o n = l[o / 44]?.bind fun a => sub? (ag a) (o % 44) n := xD cQ l o n ho hn
theorem vV (l : List Unacked) : sub? (l.flatMap ag) 0 (l.length * 44) = some (l.flatMap ag) := pu cQ l
theorem uz (l : List Unacked) (n : Nat) : (l.flatMap ag).take (n * 44) = (l.take n).flatMap ag := iB cQ l n
theorem u9 (l : List Unacked) (n : Nat) : (l.flatMap ag).drop (n * 44) = (l.drop n).flatMap ag := jf cQ l n
theorem rV (l : List Unacked) (o : Nat → Ob) (n : Nat) : (l.flatMap ag).map (fz o (n + 2)) = (l.flatMap ag) := ub (fun a => xv a o n) l
theorem p5 (l : List Unacked) (o : Nat → Ob) (n : Nat) : (l.flatMap ag).flatMap (be o (n + 2)) = [] := my (fun a => xp a o n) l
theorem uD (l : List Unacked) (i : Nat) (v : Int) : (l.flatMap ag).set (i * 44) (vi v) = (l.modify i (fun y => { y with At := v })).flatMap ag := dl cQ l i 0 _ (fun y => { y with At := v }) (by decide) (fun _ => by rfl)
theorem rR (l : List Unacked) (i : Nat) (v : Int) : (l.flatMap ag).set (i * 44 + 1) (vi v) = (l.modify i (fun y => { y with Tries := v })).flatMap ag := dl cQ l i 1 _ (fun y => { y with Tries := v }) (by decide) (fun _ => by rfl)
theorem ql (l : List Unacked) (i : Nat) (v : Bool) : (l.flatMap ag).set (i * 44 + 2) (vb v) = (l.modify i (fun y => { y with Flying := v })).flatMap ag := dl cQ l i 2 _ (fun y => { y with Flying := v }) (by decide) (fun _ => by rfl)
theorem jU (l : List Unacked) (i : Nat) (v : Bool) : (l.flatMap ag).set (i * 44 + 8) (vb v) = (l.modify i (fun y => { y with Frame.Head.Retry := v })).flatMap ag := dl cQ l i 8 _ (fun y => { y with Frame.Head.Retry := v }) (by decide) (fun _ => by rfl)
theorem kS (l : List Unacked) (i : Nat) (v : Int) : (l.flatMap ag).set (i * 44 + 37) (vi v) = (l.modify i (fun y => { y with Frame.Head.Seq := v })).flatMap ag := dl cQ l i 37 _ (fun y => { y with Frame.Head.Seq := v }) (by decide) (fun _ => by rfl)
theorem ky (l : List Unacked) (i : Nat) (v : Int) : (l.flatMap ag).set (i * 44 + 39) (vi v) = (l.modify i (fun y => { y with Frame.Head.Tid := v })).flatMap ag := dl cQ l i 39 _ (fun y => { y with Frame.Head.Tid := v }) (by decide) (fun _ => by rfl)
theorem wi (l : List Unacked) (i : Nat) (x : Unacked) (b0 : (List Int)) : ct (l.flatMap ag) (i * 44) (bh x (.imm (List.map vu b0) b0.length)) = (l.set i { x with Frame.Body := b0 }).flatMap ag := rQ cQ (by decide) l i { x with Frame.Body := b0 }
theorem wq (l : List Unacked) (x : Unacked) (b0 : (List Int)) : (l.flatMap ag) ++ bh x (rC b0) = (l ++ [{ x with Frame.Body := b0 }]).flatMap ag := by rw [List.flatMap_append]; simp only [List.flatMap_cons, List.flatMap_nil, List.append_nil]; rfl
theorem wd (l : List Unacked) (m : List Unacked) : (l.flatMap ag) ++ m.flatMap ag = (l ++ m).flatMap ag := List.flatMap_append.symm
theorem nZ (l : List Unacked) (o : Nat → Ob) (n : Nat) : fz o (n + 3) (gw l) = gw l := by simp only [mG, fz, rV]
theorem oW (l : List Unacked) (o : Nat → Ob) (n : Nat) : be o (n + 3) (gw l) = [] := by simp only [mG, be, p5]
attribute [go_sem] mG cQ we wG uL wC u6 vV uz u9 rV p5 uD rR ql jU kS ky wi wq wd nZ oW

structure Sender where
 Tid : Int
 Phase : Int
 Token : Int
 Next : Int
 Size : Int
 Limit : Int
 Life : Int
 Out : (List Unacked)
 Bar : Bool
 deriving DecidableEq

def Sender.z : Sender := ⟨0, 0, 0, 0, 0, 0, 0, [], false⟩

def av (x : Sender) (s0 : AV) : List AV := [vi x.Tid, vu x.Phase, vi x.Token, vi x.Next, vi x.Size, vi x.Limit, vi x.Life, s0, vb x.Bar]

theorem yK (x : Sender) (s0 : AV) : (av x s0).length = 9 := by rfl
theorem yr (x : Sender) (s0 : AV) : sub? (av x s0) 0 9 = some (av x s0) := by rfl
theorem wh (x : Sender) (s0 : AV) : (av x s0).take 9 = (av x s0) := by rfl
theorem yD (x : Sender) (s0 : AV) (y : Sender) (s02 : AV) : ct (av x s0) 0 (av y s02) = av y s02 := by rfl
theorem vZ (x : Sender) (s0 : AV) : (av x s0)[0]? = some (vi x.Tid) := by rfl
theorem vN (x : Sender) (s0 : AV) (v : Int) : (av x s0).set 0 (vi v) = av { x with Tid := v } s0 := by rfl
theorem sL (x : Sender) (s0 : AV) : (av x s0)[1]? = some (vu x.Phase) := by rfl
theorem sK (x : Sender) (s0 : AV) (v : Int) : (av x s0).set 1 (vu v) = av { x with Phase := v } s0 := by rfl
theorem sS (x : Sender) (s0 : AV) : (av x s0)[2]? = some (vi x.Token) := by rfl
theorem sM (x : Sender) (s0 : AV) (v : Int) : (av x s0).set 2 (vi v) = av { x with Token := v } s0 := by rfl
theorem tk (x : Sender) (s0 : AV) : (av x s0)[3]? = some (vi x.Next) := by rfl
theorem tN (x : Sender) (s0 : AV) (v : Int) : (av x s0).set 3 (vi v) = av { x with Next := v } s0 := by rfl
theorem tW (x : Sender) (s0 : AV) : (av x s0)[4]? = some (vi x.Size) := by rfl
theorem tu (x : Sender) (s0 : AV) (v : Int) : (av x s0).set 4 (vi v) = av { x with Size := v } s0 := by rfl
theorem sv (x : Sender) (s0 : AV) : (av x s0)[5]? = some (vi x.Limit) := by rfl
theorem sW (x : Sender) (s0 : AV) (v : Int) : (av x s0).set 5 (vi v) = av { x with Limit := v } s0 := by rfl
theorem tF (x : Sender) (s0 : AV) : (av x s0)[6]? = some (vi x.Life) := by rfl
theorem tw (x : Sender) (s0 : AV) (v : Int) : (av x s0).set 6 (vi v) = av { x with Life := v } s0 := by rfl
theorem uW (x : Sender) (s0 : AV) : (av x s0)[7]? = some s0 := by rfl
theorem uC (x : Sender) (s0 : AV) (v : AV) : (av x s0).set 7 v = av x v := by rfl
theorem uf (x : Sender) (s0 : AV) : (av x s0)[8]? = some (vb x.Bar) := by rfl
theorem uh (x : Sender) (s0 : AV) (v : Bool) : (av x s0).set 8 (vb v) = av { x with Bar := v } s0 := by rfl
theorem th (x : Sender) (s0 : AV) (o : Nat → Ob) (n : Nat) : (av x s0).map (fz o (n + 1)) = av x (fz o (n + 1) s0) := by rfl
theorem oQ (x : Sender) (s0 : AV) (o : Nat → Ob) (n : Nat) : (av x s0).flatMap (be o (n + 1)) = be o (n + 1) s0 := by
 simp only [av, List.cons_append, List.nil_append, List.append_nil, List.flatMap_cons, List.flatMap_nil, fa]
theorem vy (x : Sender) (s0 : AV) (h_s0 : aw s0) : ∀ c ∈ (av x s0), aw c := by
 simp only [av, List.cons_append, List.nil_append]
 repeat' (first | exact aw.v _ | assumption | exact List.forall_mem_nil _ | refine List.forall_mem_cons.2 ⟨?_, ?_⟩)
theorem zq {st : AS} {F : List Nat} {σ : List (Option Nat)} (x : Sender) (s0 : AV) (s02 : AV) (h_s0 : Tm st F σ s0 s02) : TmL st F σ (av x s0) (av x s02) := by
 simp only [av, List.cons_append, List.nil_append]
 repeat' (first | exact TmL.nil | (refine TmL.cons (Tm.v _) ?_) | (refine TmL.cons (by assumption) ?_))
theorem aj {st : AS} {F : List Nat} {σ : List (Option Nat)} {x y : Sender} {s0 s02 : AV} (hxy : av y s02 = av x s02) (h_s0 : Tm st F σ s0 s02) : TmL st F σ (av x s0) (av y s02) := by
 rw [hxy]; exact zq x s0 s02 h_s0
theorem bC (x : Sender) {s0 : (Nat → Nat) → AV} (h_s0 : aE s0) : RenML fun q => av x (s0 q) := by
 simp only [av, List.cons_append, List.nil_append]
 repeat' (first | exact RenML.nil | (refine RenML.cons (aE.const (aw.v _)) ?_) | (refine RenML.cons (by assumption) ?_))
def bp (x : Sender) : List AV := av x (gw x.Out)
theorem oK (x : Sender) : bp x = av x (gw x.Out) := rfl
theorem aS (x : Sender) : ∀ c ∈ bp x, aw c := vy x _ (nb _)
theorem Cx (x : Sender) (o : Nat → Ob) (n : Nat) : (bp x).map (fz o (n + 3)) = bp x := by simp only [oK, th, nZ]
theorem DR (x : Sender) (o : Nat → Ob) (n : Nat) : (bp x).flatMap (be o (n + 3)) = [] := by simp only [oK, oQ, oW, List.append_nil]
attribute [go_sem] yK yr wh yD vZ vN sL sK sS sM tk tN tW tu sv sW tF tw uW uC uf uh th oQ oK Cx DR

structure HeldSeq where
 At : Int
 Frame : Frame
 deriving DecidableEq

def HeldSeq.z : HeldSeq := ⟨0, Frame.z⟩

def bT (x : HeldSeq) (s0 : AV) : List AV := [vi x.At] ++ (bm x.Frame s0)

theorem lE (x : HeldSeq) (s0 : AV) : (bT x s0).length = 42 := by rfl
theorem wM (x : HeldSeq) (s0 : AV) : sub? (bT x s0) 0 42 = some (bT x s0) := by rfl
theorem vg (x : HeldSeq) (s0 : AV) : (bT x s0).take 42 = (bT x s0) := by rfl
theorem wk (x : HeldSeq) (s0 : AV) (y : HeldSeq) (s02 : AV) : ct (bT x s0) 0 (bT y s02) = bT y s02 := by rfl
theorem vn (x : HeldSeq) (s0 : AV) : (bT x s0)[0]? = some (vi x.At) := by rfl
theorem uH (x : HeldSeq) (s0 : AV) (v : Int) : (bT x s0).set 0 (vi v) = bT { x with At := v } s0 := by rfl
theorem kw (x : HeldSeq) (s0 : AV) : (bT x s0)[35]? = some (vi x.Frame.Head.Seq) := by rfl
theorem rY (x : HeldSeq) (s0 : AV) : sub? (bT x s0) 1 41 = some (bm x.Frame s0) := by rfl
theorem re (x : HeldSeq) (s0 : AV) (v : Frame) (w0 : AV) : ct (bT x s0) 1 (bm v w0) = bT { x with Frame := v } w0 := by rfl
theorem rl (x : HeldSeq) (s0 : AV) (o : Nat → Ob) (n : Nat) : (bT x s0).map (fz o (n + 1)) = bT x (fz o (n + 1) s0) := by rfl
theorem nf (x : HeldSeq) (s0 : AV) (o : Nat → Ob) (n : Nat) : (bT x s0).flatMap (be o (n + 1)) = be o (n + 1) s0 := by
 simp only [bT, bm, cI, dw, List.cons_append, List.nil_append, List.append_nil, List.flatMap_cons, List.flatMap_nil, fa]
theorem ti (x : HeldSeq) (s0 : AV) (h_s0 : aw s0) : ∀ c ∈ (bT x s0), aw c := by
 simp only [bT, bm, cI, dw, List.cons_append, List.nil_append]
 repeat' (first | exact aw.v _ | assumption | exact List.forall_mem_nil _ | refine List.forall_mem_cons.2 ⟨?_, ?_⟩)
def ai (x : HeldSeq) : List AV := bT x (rC x.Frame.Body)
theorem mE (x : HeldSeq) : ai x = bT x (rC x.Frame.Body) := rfl
theorem jL (x : HeldSeq) : ∀ c ∈ ai x, aw c := ti x _ (qH _)
theorem xh (x : HeldSeq) (o : Nat → Ob) (n : Nat) : (ai x).map (fz o (n + 2)) = ai x := by simp only [mE, rl, xL]
theorem xA (x : HeldSeq) (o : Nat → Ob) (n : Nat) : (ai x).flatMap (be o (n + 2)) = [] := by simp only [mE, nf, xY, List.append_nil]
attribute [go_sem] lE wM vg wk vn uH kw rY re rl nf mE xh xA

def eD (l : List HeldSeq) : AV := .imm (List.flatMap ai l) l.length
theorem mF (l : List HeldSeq) : eD l = .imm (List.flatMap ai l) l.length := rfl
theorem cR (x : HeldSeq) : (ai x).length = 42 := by rfl
theorem fH (l : List HeldSeq) : aw (eD l) := aw.imm (je jL l)
theorem au (l : List HeldSeq) : ∀ c ∈ l.flatMap ai, aw c := je jL l
theorem fL (l : List HeldSeq) : (l.flatMap ai).length = l.length * 42 := eP cR l
theorem wa (l : List HeldSeq) (i o : Nat) (ho : o < 42) : (l.flatMap ai)[i * 42 + o]? = l[i]?.bind fun a => (ai a)[o]? := iQ cR l i o ho
theorem uO (l : List HeldSeq) (i : Nat) : (l.flatMap ai)[i * 42]? = l[i]?.bind fun a => (ai a)[0]? := iQ cR l i 0 (by decide)
theorem wA (l : List HeldSeq) (i o n : Nat) (ho : o + n ≤ 42) (hn : 0 < n) : sub? (l.flatMap ai) (i * 42 + o) n = l[i]?.bind fun a => sub? (ai a) o n := iN cR l i o n ho hn
theorem uS (l : List HeldSeq) (i n : Nat) (ho : n ≤ 42) (hn : 0 < n) : sub? (l.flatMap ai) (i * 42) n = l[i]?.bind fun a => sub? (ai a) 0 n := iN cR l i 0 n (by omega) hn
theorem om (l : List HeldSeq) (o : Nat) : (l.flatMap ai)[o]? = l[o / 42]?.bind fun a => (ai a)[o % 42]? := xc cR (by decide) l o
theorem pb (l : List HeldSeq) (o n : Nat) (ho : o % 42 + n ≤ 42) (hn : 0 < n) : sub? (l.flatMap ai) o n = l[o / 42]?.bind fun a => sub? (ai a) (o % 42) n := xD cR l o n ho hn
theorem ve (l : List HeldSeq) : sub? (l.flatMap ai) 0 (l.length * 42) = some (l.flatMap ai) := pu cR l
theorem uE (l : List HeldSeq) (n : Nat) : (l.flatMap ai).take (n * 42) = (l.take n).flatMap ai := iB cR l n
theorem uK (l : List HeldSeq) (n : Nat) : (l.flatMap ai).drop (n * 42) = (l.drop n).flatMap ai := jf cR l n
theorem rm (l : List HeldSeq) (o : Nat → Ob) (n : Nat) : (l.flatMap ai).map (fz o (n + 2)) = (l.flatMap ai) := ub (fun a => xh a o n) l
theorem pR (l : List HeldSeq) (o : Nat → Ob) (n : Nat) : (l.flatMap ai).flatMap (be o (n + 2)) = [] := my (fun a => xA a o n) l
theorem vl (l : List HeldSeq) (i : Nat) (v : Int) : (l.flatMap ai).set (i * 42) (vi v) = (l.modify i (fun y => { y with At := v })).flatMap ai := dl cR l i 0 _ (fun y => { y with At := v }) (by decide) (fun _ => by rfl)
theorem jO (l : List HeldSeq) (i : Nat) (v : Bool) : (l.flatMap ai).set (i * 42 + 6) (vb v) = (l.modify i (fun y => { y with Frame.Head.Retry := v })).flatMap ai := dl cR l i 6 _ (fun y => { y with Frame.Head.Retry := v }) (by decide) (fun _ => by rfl)
theorem kN (l : List HeldSeq) (i : Nat) (v : Int) : (l.flatMap ai).set (i * 42 + 35) (vi v) = (l.modify i (fun y => { y with Frame.Head.Seq := v })).flatMap ai := dl cR l i 35 _ (fun y => { y with Frame.Head.Seq := v }) (by decide) (fun _ => by rfl)
theorem kF (l : List HeldSeq) (i : Nat) (v : Int) : (l.flatMap ai).set (i * 42 + 37) (vi v) = (l.modify i (fun y => { y with Frame.Head.Tid := v })).flatMap ai := dl cR l i 37 _ (fun y => { y with Frame.Head.Tid := v }) (by decide) (fun _ => by rfl)
theorem wc (l : List HeldSeq) (i : Nat) (x : HeldSeq) (b0 : (List Int)) : ct (l.flatMap ai) (i * 42) (bT x (.imm (List.map vu b0) b0.length)) = (l.set i { x with Frame.Body := b0 }).flatMap ai := rQ cR (by decide) l i { x with Frame.Body := b0 }
theorem wS (l : List HeldSeq) (x : HeldSeq) (b0 : (List Int)) : (l.flatMap ai) ++ bT x (rC b0) = (l ++ [{ x with Frame.Body := b0 }]).flatMap ai := by rw [List.flatMap_append]; simp only [List.flatMap_cons, List.flatMap_nil, List.append_nil]; rfl
theorem wV (l : List HeldSeq) (m : List HeldSeq) : (l.flatMap ai) ++ m.flatMap ai = (l ++ m).flatMap ai := List.flatMap_append.symm
theorem oU (l : List HeldSeq) (o : Nat → Ob) (n : Nat) : fz o (n + 3) (eD l) = eD l := by simp only [mF, fz, rm]
theorem oD (l : List HeldSeq) (o : Nat → Ob) (n : Nat) : be o (n + 3) (eD l) = [] := by simp only [mF, be, pR]
attribute [go_sem] mF cR fL wa uO wA uS ve uE uK rm pR vl jO kN kF wc wS wV oU oD

structure Window where
 Start : Int
 Bits : Int
 deriving DecidableEq

def Window.z : Window := ⟨0, 0⟩

def aU (x : Window) : List AV := [vi x.Start, vq x.Bits]

theorem xN (x : Window) : (aU x).length = 2 := by rfl
theorem yq (x : Window) : sub? (aU x) 0 2 = some (aU x) := by rfl
theorem wT (x : Window) : (aU x).take 2 = (aU x) := by rfl
theorem yv (x : Window) (y : Window) : ct (aU x) 0 (aU y) = aU y := by rfl
theorem sq (x : Window) : (aU x)[0]? = some (vi x.Start) := by rfl
theorem si (x : Window) (v : Int) : (aU x).set 0 (vi v) = aU { x with Start := v } := by rfl
theorem tO (x : Window) : (aU x)[1]? = some (vq x.Bits) := by rfl
theorem tX (x : Window) (v : Int) : (aU x).set 1 (vq v) = aU { x with Bits := v } := by rfl
theorem ta (x : Window) (o : Nat → Ob) (n : Nat) : (aU x).map (fz o (n + 1)) = aU x := by rfl
theorem oE (x : Window) (o : Nat → Ob) (n : Nat) : (aU x).flatMap (be o (n + 1)) = [] := by
 simp only [aU, List.cons_append, List.nil_append, List.append_nil, List.flatMap_cons, List.flatMap_nil, fa]
theorem aG (x : Window) : ∀ c ∈ (aU x), aw c := by
 simp only [aU, List.cons_append, List.nil_append]
 repeat' (first | exact aw.v _ | assumption | exact List.forall_mem_nil _ | refine List.forall_mem_cons.2 ⟨?_, ?_⟩)
theorem DX (x : Window) (o : Nat → Ob) (n : Nat) : (aU x).map (fz o (n + 1)) = aU x := by simp only [ta]
theorem D2 (x : Window) (o : Nat → Ob) (n : Nat) : (aU x).flatMap (be o (n + 1)) = [] := by simp only [oE, List.append_nil]
attribute [go_sem] xN yq wT yv sq si tO tX ta oE DX D2

structure Reorder where
 Start : Int
 Size : Int
 Hold : Int
 Held : (List HeldSeq)
 Seen : Window
 deriving DecidableEq

def Reorder.z : Reorder := ⟨0, 0, 0, [], Window.z⟩

def aB (x : Reorder) (s0 : AV) : List AV := [vi x.Start, vi x.Size, vi x.Hold, s0] ++ (aU x.Seen)

theorem wI (x : Reorder) (s0 : AV) : (aB x s0).length = 6 := by rfl
theorem wU (x : Reorder) (s0 : AV) : sub? (aB x s0) 0 6 = some (aB x s0) := by rfl
theorem vF (x : Reorder) (s0 : AV) : (aB x s0).take 6 = (aB x s0) := by rfl
theorem ws (x : Reorder) (s0 : AV) (y : Reorder) (s02 : AV) : ct (aB x s0) 0 (aB y s02) = aB y s02 := by rfl
theorem rA (x : Reorder) (s0 : AV) : (aB x s0)[0]? = some (vi x.Start) := by rfl
theorem rK (x : Reorder) (s0 : AV) (v : Int) : (aB x s0).set 0 (vi v) = aB { x with Start := v } s0 := by rfl
theorem sV (x : Reorder) (s0 : AV) : (aB x s0)[1]? = some (vi x.Size) := by rfl
theorem r9 (x : Reorder) (s0 : AV) (v : Int) : (aB x s0).set 1 (vi v) = aB { x with Size := v } s0 := by rfl
theorem sy (x : Reorder) (s0 : AV) : (aB x s0)[2]? = some (vi x.Hold) := by rfl
theorem su (x : Reorder) (s0 : AV) (v : Int) : (aB x s0).set 2 (vi v) = aB { x with Hold := v } s0 := by rfl
theorem sf (x : Reorder) (s0 : AV) : (aB x s0)[3]? = some s0 := by rfl
theorem sO (x : Reorder) (s0 : AV) (v : AV) : (aB x s0).set 3 v = aB x v := by rfl
theorem sg (x : Reorder) (s0 : AV) : sub? (aB x s0) 4 2 = some (aU x.Seen) := by rfl
theorem sI (x : Reorder) (s0 : AV) (v : Window) : ct (aB x s0) 4 (aU v) = aB { x with Seen := v } s0 := by rfl
theorem qY (x : Reorder) (s0 : AV) (o : Nat → Ob) (n : Nat) : (aB x s0).map (fz o (n + 1)) = aB x (fz o (n + 1) s0) := by rfl
theorem m8 (x : Reorder) (s0 : AV) (o : Nat → Ob) (n : Nat) : (aB x s0).flatMap (be o (n + 1)) = be o (n + 1) s0 := by
 simp only [aB, aU, List.cons_append, List.nil_append, List.append_nil, List.flatMap_cons, List.flatMap_nil, fa]
theorem tD (x : Reorder) (s0 : AV) (h_s0 : aw s0) : ∀ c ∈ (aB x s0), aw c := by
 simp only [aB, aU, List.cons_append, List.nil_append]
 repeat' (first | exact aw.v _ | assumption | exact List.forall_mem_nil _ | refine List.forall_mem_cons.2 ⟨?_, ?_⟩)
theorem xU {st : AS} {F : List Nat} {σ : List (Option Nat)} (x : Reorder) (s0 : AV) (s02 : AV) (h_s0 : Tm st F σ s0 s02) : TmL st F σ (aB x s0) (aB x s02) := by
 simp only [aB, aU, List.cons_append, List.nil_append]
 repeat' (first | exact TmL.nil | (refine TmL.cons (Tm.v _) ?_) | (refine TmL.cons (by assumption) ?_))
theorem aH {st : AS} {F : List Nat} {σ : List (Option Nat)} {x y : Reorder} {s0 s02 : AV} (hxy : aB y s02 = aB x s02) (h_s0 : Tm st F σ s0 s02) : TmL st F σ (aB x s0) (aB y s02) := by
 rw [hxy]; exact xU x s0 s02 h_s0
theorem ib (x : Reorder) {s0 : (Nat → Nat) → AV} (h_s0 : aE s0) : RenML fun q => aB x (s0 q) := by
 simp only [aB, aU, List.cons_append, List.nil_append]
 repeat' (first | exact RenML.nil | (refine RenML.cons (aE.const (aw.v _)) ?_) | (refine RenML.cons (by assumption) ?_))
theorem pQ {q nx off : Nat} (x : Reorder) {s0 : AV} {s02 : AV} (h_s0 : Fr q nx off s0 s02) : FrL q nx off (aB x s0) (aB x s02) := by
 simp only [aB, aU, List.cons_append, List.nil_append]
 repeat' (first | exact FrL.nil | (refine FrL.cons _ _ _ _ (by assumption) ?_) | (refine FrL.cons _ _ _ _ (Fr.same _) ?_))
def cS (x : Reorder) : List AV := aB x (eD x.Held)
theorem mQ (x : Reorder) : cS x = aB x (eD x.Held) := rfl
theorem bv (x : Reorder) : ∀ c ∈ cS x, aw c := tD x _ (fH _)
theorem BW (x : Reorder) (o : Nat → Ob) (n : Nat) : (cS x).map (fz o (n + 3)) = cS x := by simp only [mQ, qY, oU]
theorem Ch (x : Reorder) (o : Nat → Ob) (n : Nat) : (cS x).flatMap (be o (n + 3)) = [] := by simp only [mQ, m8, oD, List.append_nil]
attribute [go_sem] wI wU vF ws rA rK sV r9 sy su sf sO sg sI qY m8 mQ BW Ch

structure Session_sides where
 Sender : Sender
 Reorder : Reorder
 deriving DecidableEq

def Session_sides.z : Session_sides := ⟨Sender.z, Reorder.z⟩

def bt (x : Session_sides) (s0 : AV) (s1 : AV) : List AV := (av x.Sender s0) ++ (aB x.Reorder s1)

theorem pC (x : Session_sides) (s0 : AV) (s1 : AV) : (bt x s0 s1).length = 15 := by rfl
theorem pJ (x : Session_sides) (s0 : AV) (s1 : AV) : sub? (bt x s0 s1) 0 15 = some (bt x s0 s1) := by rfl
theorem nU (x : Session_sides) (s0 : AV) (s1 : AV) : (bt x s0 s1).take 15 = (bt x s0 s1) := by rfl
theorem pH (x : Session_sides) (s0 : AV) (s1 : AV) (y : Session_sides) (s02 : AV) (s12 : AV) : ct (bt x s0 s1) 0 (bt y s02 s12) = bt y s02 s12 := by rfl
theorem kL (x : Session_sides) (s0 : AV) (s1 : AV) (o : Nat → Ob) (n : Nat) : (bt x s0 s1).map (fz o (n + 1)) = bt x (fz o (n + 1) s0) (fz o (n + 1) s1) := by rfl
theorem i9 (x : Session_sides) (s0 : AV) (s1 : AV) (o : Nat → Ob) (n : Nat) : (bt x s0 s1).flatMap (be o (n + 1)) = be o (n + 1) s0 ++ be o (n + 1) s1 := by
 simp only [bt, av, aB, aU, List.cons_append, List.nil_append, List.append_nil, List.flatMap_cons, List.flatMap_nil, fa]
def im (x : Session_sides) : List AV := bt x (gw x.Sender.Out) (eD x.Reorder.Held)
theorem ip (x : Session_sides) : im x = bt x (gw x.Sender.Out) (eD x.Reorder.Held) := rfl
theorem tC (x : Session_sides) (o : Nat → Ob) (n : Nat) : (im x).map (fz o (n + 3)) = im x := by simp only [ip, kL, nZ, oU]
theorem tJ (x : Session_sides) (o : Nat → Ob) (n : Nat) : (im x).flatMap (be o (n + 3)) = [] := by simp only [ip, i9, oW, oD, List.append_nil]
attribute [go_sem] pC pJ nU pH kL i9 ip tC tJ

structure Session_session where
 sides : Session_sides
 plan : SessionPlan
 many : Int
 accepted : Int
 lost : Unit
 out : SessionResult
 err : Int
 deriving DecidableEq

def Session_session.z : Session_session := ⟨Session_sides.z, SessionPlan.z, 0, 0, (), SessionResult.z, 0⟩

def ae (x : Session_session) (s0 : AV) (s1 : AV) (s2 : AV) (s3 : AV) (s4 : AV) (s5 : AV) : List AV := (bt x.sides s0 s1) ++ (am x.plan) ++ [vi x.many, vi x.accepted, s2] ++ (aA x.out s3 s4 s5) ++ [vi x.err]

theorem nF (x : Session_session) (s0 : AV) (s1 : AV) (s2 : AV) (s3 : AV) (s4 : AV) (s5 : AV) : (ae x s0 s1 s2 s3 s4 s5).length = 30 := by rfl
theorem nu (x : Session_session) (s0 : AV) (s1 : AV) (s2 : AV) (s3 : AV) (s4 : AV) (s5 : AV) : sub? (ae x s0 s1 s2 s3 s4 s5) 0 30 = some (ae x s0 s1 s2 s3 s4 s5) := by rfl
theorem mH (x : Session_session) (s0 : AV) (s1 : AV) (s2 : AV) (s3 : AV) (s4 : AV) (s5 : AV) : (ae x s0 s1 s2 s3 s4 s5).take 30 = (ae x s0 s1 s2 s3 s4 s5) := by rfl
theorem nz (x : Session_session) (s0 : AV) (s1 : AV) (s2 : AV) (s3 : AV) (s4 : AV) (s5 : AV) (y : Session_session) (s02 : AV) (s12 : AV) (s22 : AV) (s32 : AV) (s42 : AV) (s52 : AV) : ct (ae x s0 s1 s2 s3 s4 s5) 0 (ae y s02 s12 s22 s32 s42 s52) = ae y s02 s12 s22 s32 s42 s52 := by rfl
theorem gx (x : Session_session) (s0 : AV) (s1 : AV) (s2 : AV) (s3 : AV) (s4 : AV) (s5 : AV) : (ae x s0 s1 s2 s3 s4 s5)[3]? = some (vi x.sides.Sender.Next) := by rfl
theorem gH (x : Session_session) (s0 : AV) (s1 : AV) (s2 : AV) (s3 : AV) (s4 : AV) (s5 : AV) : (ae x s0 s1 s2 s3 s4 s5)[7]? = some s0 := by rfl
theorem gN (x : Session_session) (s0 : AV) (s1 : AV) (s2 : AV) (s3 : AV) (s4 : AV) (s5 : AV) : (ae x s0 s1 s2 s3 s4 s5)[8]? = some (vb x.sides.Sender.Bar) := by rfl
theorem jn (x : Session_session) (s0 : AV) (s1 : AV) (s2 : AV) (s3 : AV) (s4 : AV) (s5 : AV) : (ae x s0 s1 s2 s3 s4 s5)[15]? = some (vi x.plan.Start) := by rfl
theorem jq (x : Session_session) (s0 : AV) (s1 : AV) (s2 : AV) (s3 : AV) (s4 : AV) (s5 : AV) : (ae x s0 s1 s2 s3 s4 s5)[20]? = some (vi x.plan.Burst) := by rfl
theorem jm (x : Session_session) (s0 : AV) (s1 : AV) (s2 : AV) (s3 : AV) (s4 : AV) (s5 : AV) : (ae x s0 s1 s2 s3 s4 s5)[21]? = some (vi x.plan.Round) := by rfl
theorem lu (x : Session_session) (s0 : AV) (s1 : AV) (s2 : AV) (s3 : AV) (s4 : AV) (s5 : AV) : (ae x s0 s1 s2 s3 s4 s5)[22]? = some (vi x.many) := by rfl
theorem lM (x : Session_session) (s0 : AV) (s1 : AV) (s2 : AV) (s3 : AV) (s4 : AV) (s5 : AV) (v : Int) : (ae x s0 s1 s2 s3 s4 s5).set 22 (vi v) = ae { x with many := v } s0 s1 s2 s3 s4 s5 := by rfl
theorem jV (x : Session_session) (s0 : AV) (s1 : AV) (s2 : AV) (s3 : AV) (s4 : AV) (s5 : AV) : (ae x s0 s1 s2 s3 s4 s5)[23]? = some (vi x.accepted) := by rfl
theorem jR (x : Session_session) (s0 : AV) (s1 : AV) (s2 : AV) (s3 : AV) (s4 : AV) (s5 : AV) (v : Int) : (ae x s0 s1 s2 s3 s4 s5).set 23 (vi v) = ae { x with accepted := v } s0 s1 s2 s3 s4 s5 := by rfl
theorem lB (x : Session_session) (s0 : AV) (s1 : AV) (s2 : AV) (s3 : AV) (s4 : AV) (s5 : AV) : (ae x s0 s1 s2 s3 s4 s5)[24]? = some s2 := by rfl
theorem lH (x : Session_session) (s0 : AV) (s1 : AV) (s2 : AV) (s3 : AV) (s4 : AV) (s5 : AV) (v : AV) : (ae x s0 s1 s2 s3 s4 s5).set 24 v = ae x s0 s1 v s3 s4 s5 := by rfl
theorem iJ (x : Session_session) (s0 : AV) (s1 : AV) (s2 : AV) (s3 : AV) (s4 : AV) (s5 : AV) : (ae x s0 s1 s2 s3 s4 s5)[25]? = some s3 := by rfl
theorem iI (x : Session_session) (s0 : AV) (s1 : AV) (s2 : AV) (s3 : AV) (s4 : AV) (s5 : AV) (v : AV) : (ae x s0 s1 s2 s3 s4 s5).set 25 v = ae x s0 s1 s2 v s4 s5 := by rfl
theorem jA (x : Session_session) (s0 : AV) (s1 : AV) (s2 : AV) (s3 : AV) (s4 : AV) (s5 : AV) : (ae x s0 s1 s2 s3 s4 s5)[26]? = some s4 := by rfl
theorem jC (x : Session_session) (s0 : AV) (s1 : AV) (s2 : AV) (s3 : AV) (s4 : AV) (s5 : AV) (v : AV) : (ae x s0 s1 s2 s3 s4 s5).set 26 v = ae x s0 s1 s2 s3 v s5 := by rfl
theorem i5 (x : Session_session) (s0 : AV) (s1 : AV) (s2 : AV) (s3 : AV) (s4 : AV) (s5 : AV) : (ae x s0 s1 s2 s3 s4 s5)[27]? = some s5 := by rfl
theorem i4 (x : Session_session) (s0 : AV) (s1 : AV) (s2 : AV) (s3 : AV) (s4 : AV) (s5 : AV) (v : AV) : (ae x s0 s1 s2 s3 s4 s5).set 27 v = ae x s0 s1 s2 s3 s4 v := by rfl
theorem jk (x : Session_session) (s0 : AV) (s1 : AV) (s2 : AV) (s3 : AV) (s4 : AV) (s5 : AV) : (ae x s0 s1 s2 s3 s4 s5)[28]? = some (vi x.out.Rounds) := by rfl
theorem jt (x : Session_session) (s0 : AV) (s1 : AV) (s2 : AV) (s3 : AV) (s4 : AV) (s5 : AV) (v : Int) : (ae x s0 s1 s2 s3 s4 s5).set 28 (vi v) = ae { x with out.Rounds := v } s0 s1 s2 s3 s4 s5 := by rfl
theorem l4 (x : Session_session) (s0 : AV) (s1 : AV) (s2 : AV) (s3 : AV) (s4 : AV) (s5 : AV) : (ae x s0 s1 s2 s3 s4 s5)[29]? = some (vi x.err) := by rfl
theorem l9 (x : Session_session) (s0 : AV) (s1 : AV) (s2 : AV) (s3 : AV) (s4 : AV) (s5 : AV) (v : Int) : (ae x s0 s1 s2 s3 s4 s5).set 29 (vi v) = ae { x with err := v } s0 s1 s2 s3 s4 s5 := by rfl
theorem iO (x : Session_session) (s0 : AV) (s1 : AV) (s2 : AV) (s3 : AV) (s4 : AV) (s5 : AV) : sub? (ae x s0 s1 s2 s3 s4 s5) 0 9 = some (av x.sides.Sender s0) := by rfl
theorem iZ (x : Session_session) (s0 : AV) (s1 : AV) (s2 : AV) (s3 : AV) (s4 : AV) (s5 : AV) (v : Sender) (w0 : AV) : ct (ae x s0 s1 s2 s3 s4 s5) 0 (av v w0) = ae { x with sides.Sender := v } w0 s1 s2 s3 s4 s5 := by rfl
theorem iM (x : Session_session) (s0 : AV) (s1 : AV) (s2 : AV) (s3 : AV) (s4 : AV) (s5 : AV) : sub? (ae x s0 s1 s2 s3 s4 s5) 9 6 = some (aB x.sides.Reorder s1) := by rfl
theorem iK (x : Session_session) (s0 : AV) (s1 : AV) (s2 : AV) (s3 : AV) (s4 : AV) (s5 : AV) (v : Reorder) (w0 : AV) : ct (ae x s0 s1 s2 s3 s4 s5) 9 (aB v w0) = ae { x with sides.Reorder := v } s0 w0 s2 s3 s4 s5 := by rfl
theorem lK (x : Session_session) (s0 : AV) (s1 : AV) (s2 : AV) (s3 : AV) (s4 : AV) (s5 : AV) : sub? (ae x s0 s1 s2 s3 s4 s5) 15 7 = some (am x.plan) := by rfl
theorem lw (x : Session_session) (s0 : AV) (s1 : AV) (s2 : AV) (s3 : AV) (s4 : AV) (s5 : AV) (v : SessionPlan) : ct (ae x s0 s1 s2 s3 s4 s5) 15 (am v) = ae { x with plan := v } s0 s1 s2 s3 s4 s5 := by rfl
theorem lZ (x : Session_session) (s0 : AV) (s1 : AV) (s2 : AV) (s3 : AV) (s4 : AV) (s5 : AV) : sub? (ae x s0 s1 s2 s3 s4 s5) 25 4 = some (aA x.out s3 s4 s5) := by rfl
theorem o5 (x : Session_session) (s0 : AV) (s1 : AV) (s2 : AV) (s3 : AV) (s4 : AV) (s5 : AV) (o : Nat → Ob) (n : Nat) : (ae x s0 s1 s2 s3 s4 s5).map (fz o (n + 1)) = ae x (fz o (n + 1) s0) (fz o (n + 1) s1) (fz o (n + 1) s2) (fz o (n + 1) s3) (fz o (n + 1) s4) (fz o (n + 1) s5) := by rfl
theorem lO (x : Session_session) (s0 : AV) (s1 : AV) (s2 : AV) (s3 : AV) (s4 : AV) (s5 : AV) (o : Nat → Ob) (n : Nat) : (ae x s0 s1 s2 s3 s4 s5).flatMap (be o (n + 1)) = be o (n + 1) s0 ++ (be o (n + 1) s1 ++ (be o (n + 1) s2 ++ (be o (n + 1) s3 ++ (be o (n + 1) s4 ++ be o (n + 1) s5)))) := by
 simp only [ae, bt, av, aB, aU, am, aA, List.cons_append, List.nil_append, List.append_nil, List.flatMap_cons, List.flatMap_nil, fa]
theorem fc (x : Session_session) (s0 : AV) (s1 : AV) (s2 : AV) (s3 : AV) (s4 : AV) (s5 : AV) (h_s0 : aw s0) (h_s1 : aw s1) (h_s2 : aw s2) (h_s3 : aw s3) (h_s4 : aw s4) (h_s5 : aw s5) : ∀ c ∈ (ae x s0 s1 s2 s3 s4 s5), aw c := by
 simp only [ae, bt, av, aB, aU, am, aA, List.cons_append, List.nil_append]
 repeat' (first | exact aw.v _ | assumption | exact List.forall_mem_nil _ | refine List.forall_mem_cons.2 ⟨?_, ?_⟩)
theorem oz {st : AS} {F : List Nat} {σ : List (Option Nat)} (x : Session_session) (s0 : AV) (s1 : AV) (s2 : AV) (s3 : AV) (s4 : AV) (s5 : AV) (s02 : AV) (s12 : AV) (s22 : AV) (s32 : AV) (s42 : AV) (s52 : AV) (h_s0 : Tm st F σ s0 s02) (h_s1 : Tm st F σ s1 s12) (h_s2 : Tm st F σ s2 s22) (h_s3 : Tm st F σ s3 s32) (h_s4 : Tm st F σ s4 s42) (h_s5 : Tm st F σ s5 s52) : TmL st F σ (ae x s0 s1 s2 s3 s4 s5) (ae x s02 s12 s22 s32 s42 s52) := by
 simp only [ae, bt, av, aB, aU, am, aA, List.cons_append, List.nil_append]
 repeat' (first | exact TmL.nil | (refine TmL.cons (Tm.v _) ?_) | (refine TmL.cons (by assumption) ?_))
theorem aq {st : AS} {F : List Nat} {σ : List (Option Nat)} {x y : Session_session} {s0 s1 s2 s3 s4 s5 s02 s12 s22 s32 s42 s52 : AV} (hxy : ae y s02 s12 s22 s32 s42 s52 = ae x s02 s12 s22 s32 s42 s52) (h_s0 : Tm st F σ s0 s02) (h_s1 : Tm st F σ s1 s12) (h_s2 : Tm st F σ s2 s22) (h_s3 : Tm st F σ s3 s32) (h_s4 : Tm st F σ s4 s42) (h_s5 : Tm st F σ s5 s52) : TmL st F σ (ae x s0 s1 s2 s3 s4 s5) (ae y s02 s12 s22 s32 s42 s52) := by
 rw [hxy]; exact oz x s0 s1 s2 s3 s4 s5 s02 s12 s22 s32 s42 s52 h_s0 h_s1 h_s2 h_s3 h_s4 h_s5
theorem bb (x : Session_session) {s0 s1 s2 s3 s4 s5 : (Nat → Nat) → AV} (h_s0 : aE s0) (h_s1 : aE s1) (h_s2 : aE s2) (h_s3 : aE s3) (h_s4 : aE s4) (h_s5 : aE s5) : RenML fun q => ae x (s0 q) (s1 q) (s2 q) (s3 q) (s4 q) (s5 q) := by
 simp only [ae, bt, av, aB, aU, am, aA, List.cons_append, List.nil_append]
 repeat' (first | exact RenML.nil | (refine RenML.cons (aE.const (aw.v _)) ?_) | (refine RenML.cons (by assumption) ?_))
attribute [go_sem] nF nu mH nz gx gH gN jn jq jm lu lM jV jR lB lH iJ iI jA jC i5 i4 jk jt l4 l9 iO iZ iM iK lK lw lZ o5 lO

structure BlockAsk where
 Token : Int
 Tid : Int
 Size : Int
 Start : Int
 deriving DecidableEq

def BlockAsk.z : BlockAsk := ⟨0, 0, 0, 0⟩

def bq (x : BlockAsk) : List AV := [vi x.Token, vi x.Tid, vi x.Size, vi x.Start]

theorem uy (x : BlockAsk) : (bq x).length = 4 := by rfl
theorem vT (x : BlockAsk) : sub? (bq x) 0 4 = some (bq x) := by rfl
theorem tM (x : BlockAsk) : (bq x).take 4 = (bq x) := by rfl
theorem uw (x : BlockAsk) (y : BlockAsk) : ct (bq x) 0 (bq y) = bq y := by rfl
theorem qE (x : BlockAsk) : (bq x)[0]? = some (vi x.Token) := by rfl
theorem qC (x : BlockAsk) (v : Int) : (bq x).set 0 (vi v) = bq { x with Token := v } := by rfl
theorem sJ (x : BlockAsk) (v : Int) : (bq x).set 1 (vi v) = bq { x with Tid := v } := by rfl
theorem rj (x : BlockAsk) (v : Int) : (bq x).set 2 (vi v) = bq { x with Size := v } := by rfl
theorem qt (x : BlockAsk) (v : Int) : (bq x).set 3 (vi v) = bq { x with Start := v } := by rfl
theorem pO (x : BlockAsk) (o : Nat → Ob) (n : Nat) : (bq x).map (fz o (n + 1)) = bq x := by rfl
theorem lS (x : BlockAsk) (o : Nat → Ob) (n : Nat) : (bq x).flatMap (be o (n + 1)) = [] := by
 simp only [bq, List.cons_append, List.nil_append, List.append_nil, List.flatMap_cons, List.flatMap_nil, fa]
theorem cY (x : BlockAsk) : ∀ c ∈ (bq x), aw c := by
 simp only [bq, List.cons_append, List.nil_append]
 repeat' (first | exact aw.v _ | assumption | exact List.forall_mem_nil _ | refine List.forall_mem_cons.2 ⟨?_, ?_⟩)
theorem Al (x : BlockAsk) (o : Nat → Ob) (n : Nat) : (bq x).map (fz o (n + 1)) = bq x := by simp only [pO]
theorem Ax (x : BlockAsk) (o : Nat → Ob) (n : Nat) : (bq x).flatMap (be o (n + 1)) = [] := by simp only [lS, List.append_nil]
attribute [go_sem] uy vT tM uw qE qC sJ rj qt pO lS Al Ax

structure BlockAnswer where
 Token : Int
 Tid : Int
 Status : Int
 Size : Int
 deriving DecidableEq

def BlockAnswer.z : BlockAnswer := ⟨0, 0, 0, 0⟩

def bf (x : BlockAnswer) : List AV := [vi x.Token, vi x.Tid, vi x.Status, vi x.Size]

theorem rq (x : BlockAnswer) : (bf x).length = 4 := by rfl
theorem rG (x : BlockAnswer) : sub? (bf x) 0 4 = some (bf x) := by rfl
theorem qD (x : BlockAnswer) : (bf x).take 4 = (bf x) := by rfl
theorem rg (x : BlockAnswer) (y : BlockAnswer) : ct (bf x) 0 (bf y) = bf y := by rfl
theorem nJ (x : BlockAnswer) : (bf x)[0]? = some (vi x.Token) := by rfl
theorem nD (x : BlockAnswer) (v : Int) : (bf x).set 0 (vi v) = bf { x with Token := v } := by rfl
theorem pF (x : BlockAnswer) : (bf x)[1]? = some (vi x.Tid) := by rfl
theorem ms (x : BlockAnswer) : (bf x)[2]? = some (vi x.Status) := by rfl
theorem nR (x : BlockAnswer) : (bf x)[3]? = some (vi x.Size) := by rfl
theorem oo (x : BlockAnswer) (v : Int) : (bf x).set 3 (vi v) = bf { x with Size := v } := by rfl
theorem ma (x : BlockAnswer) (o : Nat → Ob) (n : Nat) : (bf x).map (fz o (n + 1)) = bf x := by rfl
theorem jW (x : BlockAnswer) (o : Nat → Ob) (n : Nat) : (bf x).flatMap (be o (n + 1)) = [] := by
 simp only [bf, List.cons_append, List.nil_append, List.append_nil, List.flatMap_cons, List.flatMap_nil, fa]
theorem gJ (x : BlockAnswer) : ∀ c ∈ (bf x), aw c := by
 simp only [bf, List.cons_append, List.nil_append]
 repeat' (first | exact aw.v _ | assumption | exact List.forall_mem_nil _ | refine List.forall_mem_cons.2 ⟨?_, ?_⟩)
theorem v8 (x : BlockAnswer) (o : Nat → Ob) (n : Nat) : (bf x).map (fz o (n + 1)) = bf x := by simp only [ma]
theorem ww (x : BlockAnswer) (o : Nat → Ob) (n : Nat) : (bf x).flatMap (be o (n + 1)) = [] := by simp only [jW, List.append_nil]
attribute [go_sem] rq rG qD rg nJ nD pF ms nR oo ma jW v8 ww

def kj (l : List Frame) : AV := .imm (List.flatMap aY l) l.length
theorem qp (l : List Frame) : kj l = .imm (List.flatMap aY l) l.length := rfl
theorem gu (x : Frame) : (aY x).length = 41 := by rfl
theorem jw (l : List Frame) : aw (kj l) := aw.imm (je dv l)
theorem bV (l : List Frame) : ∀ c ∈ l.flatMap aY, aw c := je dv l
theorem zl (l : List Frame) : (l.flatMap aY).length = l.length * 41 := eP gu l
theorem y7 (l : List Frame) (i o : Nat) (ho : o < 41) : (l.flatMap aY)[i * 41 + o]? = l[i]?.bind fun a => (aY a)[o]? := iQ gu l i o ho
theorem yA (l : List Frame) (i : Nat) : (l.flatMap aY)[i * 41]? = l[i]?.bind fun a => (aY a)[0]? := iQ gu l i 0 (by decide)
theorem z0 (l : List Frame) (i o n : Nat) (ho : o + n ≤ 41) (hn : 0 < n) : sub? (l.flatMap aY) (i * 41 + o) n = l[i]?.bind fun a => sub? (aY a) o n := iN gu l i o n ho hn
theorem yW (l : List Frame) (i n : Nat) (ho : n ≤ 41) (hn : 0 < n) : sub? (l.flatMap aY) (i * 41) n = l[i]?.bind fun a => sub? (aY a) 0 n := iN gu l i 0 n (by omega) hn
theorem xX (l : List Frame) : sub? (l.flatMap aY) 0 (l.length * 41) = some (l.flatMap aY) := pu gu l
theorem xK (l : List Frame) (n : Nat) : (l.flatMap aY).take (n * 41) = (l.take n).flatMap aY := iB gu l n
theorem yc (l : List Frame) (n : Nat) : (l.flatMap aY).drop (n * 41) = (l.drop n).flatMap aY := jf gu l n
theorem u5 (l : List Frame) (o : Nat → Ob) (n : Nat) : (l.flatMap aY).map (fz o (n + 2)) = (l.flatMap aY) := ub (fun a => Bk a o n) l
theorem te (l : List Frame) (o : Nat → Ob) (n : Nat) : (l.flatMap aY).flatMap (be o (n + 2)) = [] := my (fun a => Bp a o n) l
theorem oY (l : List Frame) (i : Nat) (v : Bool) : (l.flatMap aY).set (i * 41 + 5) (vb v) = (l.modify i (fun y => { y with Head.Retry := v })).flatMap aY := dl gu l i 5 _ (fun y => { y with Head.Retry := v }) (by decide) (fun _ => by rfl)
theorem qk (l : List Frame) (i : Nat) (v : Int) : (l.flatMap aY).set (i * 41 + 34) (vi v) = (l.modify i (fun y => { y with Head.Seq := v })).flatMap aY := dl gu l i 34 _ (fun y => { y with Head.Seq := v }) (by decide) (fun _ => by rfl)
theorem qa (l : List Frame) (i : Nat) (v : Int) : (l.flatMap aY).set (i * 41 + 36) (vi v) = (l.modify i (fun y => { y with Head.Tid := v })).flatMap aY := dl gu l i 36 _ (fun y => { y with Head.Tid := v }) (by decide) (fun _ => by rfl)
theorem zQ (l : List Frame) (i : Nat) (x : Frame) (b0 : (List Int)) : ct (l.flatMap aY) (i * 41) (bm x (.imm (List.map vu b0) b0.length)) = (l.set i { x with Body := b0 }).flatMap aY := rQ gu (by decide) l i { x with Body := b0 }
theorem y6 (l : List Frame) (x : Frame) (b0 : (List Int)) : (l.flatMap aY) ++ bm x (rC b0) = (l ++ [{ x with Body := b0 }]).flatMap aY := by rw [List.flatMap_append]; simp only [List.flatMap_cons, List.flatMap_nil, List.append_nil]; rfl
theorem zF (l : List Frame) (m : List Frame) : (l.flatMap aY) ++ m.flatMap aY = (l ++ m).flatMap aY := List.flatMap_append.symm
theorem Cj (l : List Frame) (o : Nat → Ob) (n : Nat) : fz o (n + 3) (kj l) = kj l := by simp only [qp, fz, u5]
theorem BA (l : List Frame) (o : Nat → Ob) (n : Nat) : be o (n + 3) (kj l) = [] := by simp only [qp, be, te]
attribute [go_sem] qp gu zl y7 yA z0 yW xX xK yc u5 te oY qk qa zQ y6 zF Cj BA

end Go.AX.Z.TN

/-! (TND) -/

set_option linter.unusedSimpArgs false
set_option linter.unusedVariables false
set_option maxHeartbeats 4000000
set_option maxRecDepth 20000
namespace Go.AX.Z.TN
open Go.AX

def gp : Option SessionPlan :=
 some { SessionPlan.z with Burst := 2, Hold := 16777216, Life := 1073741824, Limit := 2, Round := 10, Size := 2, Start := 4095 }

def cE (a0 : Int) (a1 : Int) (a2 : Int) : Option Bool :=
 some ((decide (a1 ≤ a0)) && (decide (a0 ≤ a2)))

def gP (a0 : SessionPlan) : Option Int :=
 ((cE a0.Start 0 4095).bind fun x2 =>
 ((
  bif x2 then
   ((cE a0.Size 1 64).bind fun x3 =>
   some x3)
  else
   some false).bind fun x4 =>
 ((
  bif x4 then
   ((cE a0.Limit 1 16).bind fun x5 =>
   some x5)
  else
   some false).bind fun x6 =>
 ((
  bif x6 then
   ((cE a0.Burst 1 64).bind fun x7 =>
   some x7)
  else
   some false).bind fun x8 =>
 ((cE a0.Life 1 1073741824).bind fun x9 =>
 ((
  bif x9 then
   ((cE a0.Hold 0 16777216).bind fun x10 =>
   some x10)
  else
   some false).bind fun x11 =>
 ((
  bif x11 then
   ((cE a0.Round 1 1000000).bind fun x12 =>
   some x12)
  else
   some false).bind fun x13 =>
 bif ((!x8) || (!x13)) then
  some 8
 else
  some 0)))))))

def bG (a0 : Int) (a1 : Int) (a2 : Int) : Option Bool :=
 some ((decide (a1 ≤ a0)) && (decide (a0 ≤ a2)))

def fw (a0 : Sender) : Option Int :=
 bif decide (0 < (a0.Out.length : Int)) then
  ((idx a0.Out 0).bind fun x27 =>
  some x27.Frame.Head.Seq)
 else
  some a0.Next

def cr (a0 : Int) (a1 : Int) : Option Int :=
 some (IntKind.wrap .i64 (z6 .u64 (IntKind.wrap .u64 ((IntKind.wrap .u64 a1) - (IntKind.wrap .u64 a0))) 4095))

def dE (a0 : Sender) (x27 : Int) (x28 : Int) : Nat → (Int × Int × Int) → Option (Ex Int Unit)
 | 0, _ => none
 | n15 + 1, d31 =>
  bif decide (d31.2.2 < (a0.Out.length : Int)) then
   ((idx a0.Out d31.2.2).bind fun x32 =>
   ((cr x27 x32.Frame.Head.Seq).bind fun x33 =>
   ((bG x32.Frame.Head.Seq 0 4095).bind fun x34 =>
   ((
    bif (((!x34) || (decide (x33 ≤ d31.1))) || (decide (x28 ≤ x33))) then
     some true
    else
     ((bG x32.At d31.2.1 1099511627776).bind fun x35 =>
     some (!x35))).bind fun x36 =>
   ((
    bif x36 then
     some true
    else
     ((bG x32.Tries 0 a0.Limit).bind fun x37 =>
     some (!x37))).bind fun x38 =>
   bif (x38 || (x32.Flying && (x32.Tries == 0))) then
    some (Ex.ret 8)
   else
    dE a0 x27 x28 n15 (x33, x32.At, IntKind.wrap .i64 (d31.2.2 + 1)))))))
  else
   some (Ex.go ())

def dX (a0 : Sender) : Option Int :=
 ((bG a0.Tid 0 7).bind fun x16 =>
 ((
  bif (x16 && (decide (a0.Phase ≤ 2))) then
   ((bG a0.Token 0 255).bind fun x17 =>
   some x17)
  else
   some false).bind fun x18 =>
 ((
  bif x18 then
   ((bG a0.Next 0 4095).bind fun x19 =>
   some x19)
  else
   some false).bind fun x20 =>
 ((
  bif x20 then
   ((bG a0.Limit 1 16).bind fun x21 =>
   some x21)
  else
   some false).bind fun x22 =>
 ((
  bif x22 then
   ((bG a0.Life 1 1073741824).bind fun x23 =>
   some x23)
  else
   some false).bind fun x24 =>
 ((bG a0.Size 1 64).bind fun x25 =>
 ((
  bif (a0.Phase == 0) then
   some (a0.Size == 0)
  else
   some x25).bind fun d26 =>
 bif (((!x24) || (!d26)) || ((a0.Phase != 2) && ((decide (0 < (a0.Out.length : Int))) || a0.Bar))) then
  some 8
 else
  ((fw a0).bind fun x27 =>
  ((cr x27 a0.Next).bind fun x28 =>
  bif decide (a0.Size < x28) then
   some 8
  else
   ((
    dE a0 x27 x28 big ((-1), 0, 0)).bind fun o30 =>
   (o30.k fun d29 =>
   some 0)))))))))))

def kJ (a0 : Int) (a1 : Int) (a2 : Int) (a3 : Int) : Option (Sender × Int) :=
 ((dX { Sender.z with Life := a3, Limit := a2, Next := a1, Tid := a0 }).bind fun x16 =>
 bif (x16 != 0) then
  some (Sender.z, 2)
 else
  some ({ Sender.z with Life := a3, Limit := a2, Next := a1, Tid := a0 }, 0))

def aW (a0 : Int) (a1 : Session_session) (a2 : (List Bool)) : Option Session_session :=
 bif (a1.err == 0) then
  some { a1 with err := a0 }
 else
  some a1

def dJ (a0 : Frame) : Option Frame :=
 ((chk (decide (a0.Body.length ≤ 140737488355328))).bind fun x23 =>
 some a0)

def d7 (a0 : Sender) : Nat → (List Unacked × Int) → Option ((List Unacked))
 | 0, _ => none
 | n2 + 1, d22 =>
  bif decide (d22.2 < (a0.Out.length : Int)) then
   ((idx a0.Out d22.2).bind fun x23 =>
   ((dJ x23.Frame).bind fun x24 =>
   ((chk (decide ((d22.1.length + 1) * 128 ≤ 140737488355328))).bind fun x25 =>
   d7 a0 n2 ((d22.1 ++ [{ x23 with Frame := x24 }]), IntKind.wrap .i64 (d22.2 + 1)))))
  else
   some d22.1

def eN (a0 : Sender) : Option Sender :=
 ((
  d7 a0 big ([], 0)).bind fun d21 =>
 some { a0 with Out := d21 })

def jd (a0 : Sender) (a1 : Int) : Option (BlockAsk × Sender × Int) :=
 ((dX a0).bind fun x19 =>
 bif (x19 != 0) then
  some (BlockAsk.z, Sender.z, x19)
 else
  ((bG a1 1 64).bind fun x20 =>
  bif (!x20) then
   some (BlockAsk.z, Sender.z, 2)
  else
   bif (a0.Phase == 2) then
    some (BlockAsk.z, Sender.z, 20)
   else
    ((eN { a0 with Phase := 1, Size := a1, Token := IntKind.wrap .i64 ((a0.Token.tmod 255) + 1) }).bind fun x21 =>
    some ({ BlockAsk.z with Size := a1, Start := a0.Next, Tid := a0.Tid, Token := IntKind.wrap .i64 ((a0.Token.tmod 255) + 1) }, x21, 0))))

def fJ (a0 : Sender) (a1 : BlockAnswer) : Option (Sender × Int) :=
 ((dX a0).bind fun x24 =>
 ((
  bif (x24 != 0) then
   some (Ex.ret (Sender.z, x24))
  else
   bif (a0.Phase != 1) then
    some (Ex.ret (Sender.z, 20))
   else
    bif ((a1.Token != a0.Token) || (a1.Tid != a0.Tid)) then
     some (Ex.ret (Sender.z, 21))
    else
     bif (a1.Status != 0) then
      some (Ex.go { a0 with Phase := 0, Size := 0 })
     else
      ((bG a1.Size 1 a0.Size).bind fun x27 =>
      bif (!x27) then
       some (Ex.ret (Sender.z, 2))
      else
       some (Ex.go { a0 with Phase := 2, Size := a1.Size }))).bind fun o26 =>
 (o26.k fun d25 =>
 ((eN d25).bind fun x28 =>
 some (x28, 0)))))

def c7 (a0 : Int) : Option Bool :=
 some ((decide (0 ≤ a0)) && (decide (a0 < 4096)))

def dV (a0 : Int) : Option Bool :=
 some ((decide (0 ≤ a0)) && (decide (a0 < 4096)))

def ez (a0 : Window) : Option Int :=
 ((dV a0.Start).bind fun x32 =>
 bif (!x32) then
  some 8
 else
  some 0)

def ef (a0 : Int) : Option Bool :=
 some ((decide (0 ≤ a0)) && (decide (a0 ≤ 1099511627776)))

def cJ (a0 : Reorder) : Nat → (Int × Int) → Option (Ex Int Unit)
 | 0, _ => none
 | n8 + 1, d36 =>
  bif decide (d36.2 < (a0.Held.length : Int)) then
   ((idx a0.Held d36.2).bind fun x37 =>
   ((cr a0.Start x37.Frame.Head.Seq).bind fun x38 =>
   ((c7 x37.Frame.Head.Seq).bind fun x39 =>
   ((
    bif (!x39) then
     some true
    else
     ((ef x37.At).bind fun x40 =>
     some (!x40))).bind fun x41 =>
   bif ((x41 || (decide (x38 ≤ d36.1))) || (decide (a0.Size ≤ x38))) then
    some (Ex.ret 8)
   else
    cJ a0 n8 (x38, IntKind.wrap .i64 (d36.2 + 1))))))
  else
   some (Ex.go ())

def dW (a0 : Reorder) : Option Int :=
 ((c7 a0.Start).bind fun x31 =>
 ((
  bif (((((!x31) || (decide (a0.Size < 1))) || (decide (64 < a0.Size))) || (decide (a0.Hold < 0))) || (decide (16777216 < a0.Hold))) then
   some true
  else
   ((ez a0.Seen).bind fun x32 =>
   some (x32 != 0))).bind fun x33 =>
 bif x33 then
  some 8
 else
  ((
   cJ a0 big (0, 0)).bind fun o35 =>
  (o35.k fun d34 =>
  some 0))))

def lq (a0 : Int) (a1 : Int) (a2 : Int) : Option (Reorder × Int) :=
 ((dW { Reorder.z with Hold := a2, Seen := { Window.z with Start := a0 }, Size := a1, Start := a0 }).bind fun x31 =>
 bif (x31 != 0) then
  some (Reorder.z, 2)
 else
  some ({ Reorder.z with Hold := a2, Seen := { Window.z with Start := a0 }, Size := a1, Start := a0 }, 0))

def dO (a0 : Session_session) (a1 : (List Bool)) : Option Session_session :=
 ((kJ 0 a0.plan.Start a0.plan.Limit a0.plan.Life).bind fun x16 =>
 ((aW x16.2 a0 a1).bind fun x17 =>
 ((jd x16.1 a0.plan.Size).bind fun x18 =>
 ((aW x18.2.2 { x17 with out.Acked := a0.out.Acked, out.Delivered := a0.out.Delivered, out.Dropped := a0.out.Dropped } a1).bind fun x19 =>
 ((fJ x18.2.1 { BlockAnswer.z with Size := a0.plan.Size, Token := x18.1.Token }).bind fun x20 =>
 ((aW x20.2 { x19 with out.Acked := a0.out.Acked, out.Delivered := a0.out.Delivered, out.Dropped := a0.out.Dropped, sides.Sender := x20.1 } a1).bind fun x21 =>
 ((lq a0.plan.Start a0.plan.Size a0.plan.Hold).bind fun x22 =>
 ((aW x22.2 { x21 with out.Acked := a0.out.Acked, out.Delivered := a0.out.Delivered, out.Dropped := a0.out.Dropped, sides.Reorder := x22.1 } a1).bind fun x23 =>
 some x23))))))))

def dG (a0 : Sender) : Nat → (List Int × Int) → Option ((List Int))
 | 0, _ => none
 | n3 + 1, d28 =>
  bif decide (d28.2 < (a0.Out.length : Int)) then
   ((idx a0.Out d28.2).bind fun x29 =>
   ((chk (decide ((d28.1.length + 1) * 8 ≤ 140737488355328))).bind fun x30 =>
   dG a0 n3 ((d28.1 ++ [x29.Frame.Head.Seq]), IntKind.wrap .i64 (d28.2 + 1))))
  else
   some d28.1

def fB (a0 : Sender) : Option ((List Int) × Sender × Int) :=
 ((dX a0).bind fun x26 =>
 bif (x26 != 0) then
  some ([], Sender.z, x26)
 else
  ((
   dG a0 big ([], 0)).bind fun d27 =>
  some (d27, { a0 with Bar := false, Out := [], Phase := 0, Size := 0 }, 0)))

def bN (a2 : (List Int)) (a0 : Session_session) : Nat → (List Int × Int) → Option ((List Int))
 | 0, _ => none
 | n2 + 1, d34 =>
  bif decide (d34.2 < (a2.length : Int)) then
   ((idx a2 d34.2).bind fun x35 =>
   ((cr a0.plan.Start x35).bind fun x36 =>
   ((chk (decide ((d34.1.length + 1) * 8 ≤ 140737488355328))).bind fun x37 =>
   bN a2 a0 n2 ((d34.1 ++ [x36]), IntKind.wrap .i64 (d34.2 + 1)))))
  else
   some d34.1

def cd (a0 : Session_session) (a1 : (List Bool)) (a2 : (List Int)) : Option (List Int) :=
 ((
  bN a2 a0 big ([], 0)).bind fun d33 =>
 some d33)

def dI (a0 : (List HeldSeq)) : Nat → (List HeldSeq × Int) → Option ((List HeldSeq))
 | 0, _ => none
 | n2 + 1, d46 =>
  bif decide (d46.2 < (a0.length : Int)) then
   ((idx a0 d46.2).bind fun x47 =>
   ((dJ x47.Frame).bind fun x48 =>
   ((chk (decide ((d46.1.length + 1) * 112 ≤ 140737488355328))).bind fun x49 =>
   dI a0 n2 ((d46.1 ++ [{ HeldSeq.z with At := x47.At, Frame := x48 }]), IntKind.wrap .i64 (d46.2 + 1)))))
  else
   some d46.1

def eu (a0 : (List HeldSeq)) : Option (List HeldSeq) :=
 ((
  dI a0 big ([], 0)).bind fun d45 =>
 some d45)

def eK (a0 : HeldSeq) (a1 : Int) (a2 : Reorder) : Option Int :=
 ((cr a2.Start a0.Frame.Head.Seq).bind fun x55 =>
 some (IntKind.wrap .i64 (x55 - a1)))

def aL (a0 : (List HeldSeq)) (a1 : Int) (a2 : Reorder) : Nat → (Int × Int) → Option (Int)
 | 0, _ => none
 | n2 + 1, d54 =>
  bif decide (d54.1 < d54.2) then
   ((idx a0 (IntKind.wrap .i64 (((IntKind.wrap .u64 (IntKind.wrap .i64 (d54.1 + d54.2)))).fdiv (2 ^ (min 1 64))))).bind fun x55 =>
   ((eK x55 a1 a2).bind fun x56 =>
   bif decide (x56 < 0) then
    aL a0 a1 a2 n2 (IntKind.wrap .i64 ((IntKind.wrap .i64 (((IntKind.wrap .u64 (IntKind.wrap .i64 (d54.1 + d54.2)))).fdiv (2 ^ (min 1 64)))) + 1), d54.2)
   else
    aL a0 a1 a2 n2 (d54.1, IntKind.wrap .i64 (((IntKind.wrap .u64 (IntKind.wrap .i64 (d54.1 + d54.2)))).fdiv (2 ^ (min 1 64))))))
  else
   some d54.1

def bF (a0 : (List HeldSeq)) (a1 : Int) (a2 : Reorder) : Option (Int × Bool) :=
 ((
  aL a0 a1 a2 big (0, (a0.length : Int))).bind fun d53 =>
 bif decide (d53 < (a0.length : Int)) then
  ((idx a0 d53).bind fun x57 =>
  ((eK x57 a1 a2).bind fun x58 =>
  some (d53, (x58 == 0))))
 else
  some (d53, false))

def fM (a0 : Reorder) (a1 : Int) : Option (Int × Bool) :=
 ((cr a0.Start a1).bind fun x52 =>
 ((bF a0.Held x52 a0).bind fun x53 =>
 some (x53.1, x53.2)))

def eF (a0 : Int) (a1 : Int) : Option Int :=
 some (IntKind.wrap .i64 (z6 .u64 (IntKind.wrap .u64 ((IntKind.wrap .u64 a0) + (IntKind.wrap .u64 a1))) 4095))

def dF (a0 : Reorder) : Nat → (List Frame × Nat × Int × Int) → Option ((List Frame))
 | 0, _ => none
 | n2 + 1, d55 =>
  bif decide (d55.2.2.2 < d55.2.2.1) then
   ((chk (decide (d55.2.2.2 < (d55.2.1 : Int)))).bind fun x56 =>
   ((idx a0.Held d55.2.2.2).bind fun x57 =>
   ((chk (decide ((d55.1.length + 1) * 104 ≤ 140737488355328))).bind fun x58 =>
   dF a0 n2 ((d55.1 ++ [x57.Frame]), d55.2.1, d55.2.2.1, IntKind.wrap .i64 (d55.2.2.2 + 1)))))
  else
   some d55.1

def dH : Nat → (Reorder × List HeldSeq × List Frame) → Option ((Reorder × List HeldSeq × List Frame))
 | 0, _ => none
 | n7 + 1, d61 =>
  ((
   bif decide (0 < ((d61.2.1.length : Nat) : Int)) then
    ((idx d61.2.1 0).bind fun x62 =>
    some (x62.Frame.Head.Seq == d61.1.Start))
   else
    some false).bind fun x63 =>
  bif x63 then
   ((idx d61.2.1 0).bind fun x64 =>
   ((chk (decide ((d61.2.2.length + 1) * 104 ≤ 140737488355328))).bind fun x65 =>
   ((eF d61.1.Start 1).bind fun x66 =>
   ((chk (decide (1 ≤ (d61.2.1.length : Int)))).bind fun x67 =>
   dH n7 ({ d61.1 with Start := x66 }, (List.drop 1 d61.2.1), (d61.2.2 ++ [x64.Frame]))))))
  else
   some (d61.1, d61.2.1, d61.2.2))

def et (a0 : Reorder) (a1 : Int) : Option (List Frame × Reorder × List HeldSeq) :=
 ((fM a0 a1).bind fun x52 =>
 ((chk (decide (0 ≤ x52.1) && decide (x52.1 ≤ (a0.Held.length : Int)))).bind fun x53 =>
 ((
  dF a0 big ([], (x52.1).toNat, (((x52.1).toNat : Nat) : Int), 0)).bind fun d54 =>
 ((chk (decide (0 ≤ x52.1) && decide (x52.1 ≤ (a0.Held.length : Int)))).bind fun x59 =>
 ((
  dH big ({ a0 with Start := a1 }, (List.drop ((x52.1).toNat) a0.Held), d54)).bind fun d60 =>
 some (d60.2.2, d60.1, d60.2.1))))))

def iE (a0 : Reorder) (a1 : Int) : Option ((List Frame) × Reorder × Int) :=
 ((dW a0).bind fun x43 =>
 bif (x43 != 0) then
  some ([], Reorder.z, x43)
 else
  ((c7 a1).bind fun x44 =>
  bif (!x44) then
   some ([], Reorder.z, 2)
  else
   ((eu a0.Held).bind fun x45 =>
   ((cr a0.Start a1).bind fun x46 =>
   bif decide (2048 ≤ x46) then
    some ([], { a0 with Held := x45 }, 0)
   else
    ((et { a0 with Held := x45 } a1).bind fun x47 =>
    some (x47.1, { x47.2.1 with Held := x47.2.2 }, 0))))))

def bM (a0 : (List Frame)) (a1 : Session_session) : Nat → (List Int × Int) → Option ((List Int))
 | 0, _ => none
 | n2 + 1, d51 =>
  bif decide (d51.2 < (a0.length : Int)) then
   ((idx a0 d51.2).bind fun x52 =>
   ((cr a1.plan.Start x52.Head.Seq).bind fun x53 =>
   ((chk (decide ((d51.1.length + 1) * 8 ≤ 140737488355328))).bind fun x54 =>
   bM a0 a1 n2 ((d51.1 ++ [x53]), IntKind.wrap .i64 (d51.2 + 1)))))
  else
   some d51.1

def bH (a0 : (List Frame)) (a1 : Session_session) (a2 : (List Bool)) : Option (List Int) :=
 ((
  bM a0 a1 big (a1.out.Delivered, 0)).bind fun d50 =>
 some d50)

def co (a0 : Int) (a1 : Session_session) (a2 : (List Bool)) : Option (Session_session × List Int) :=
 ((iE a1.sides.Reorder a0).bind fun x43 =>
 ((aW x43.2.2 a1 a2).bind fun x44 =>
 ((bH x43.1 { x44 with out.Acked := a1.out.Acked, out.Delivered := a1.out.Delivered, out.Dropped := a1.out.Dropped, sides.Reorder := x43.2.1 } a2).bind fun x45 =>
 some ({ x44 with out.Acked := a1.out.Acked, out.Delivered := a1.out.Delivered, out.Dropped := a1.out.Dropped, sides.Reorder := x43.2.1 }, x45))))

def bW (x27 : Session_session) : Nat → (List Int × Int) → Option ((List Int))
 | 0, _ => none
 | n2 + 1, d31 =>
  bif decide (d31.2 < x27.many) then
   ((chk (decide ((d31.1.length + 1) * 8 ≤ 140737488355328))).bind fun x32 =>
   bW x27 n2 ((d31.1 ++ [d31.2]), IntKind.wrap .i64 (d31.2 + 1)))
  else
   some d31.1

def dN (a0 : Session_session) (a1 : (List Bool)) : Option (Session_session × List Int × List Int) :=
 ((fB a0.sides.Sender).bind fun x26 =>
 ((aW x26.2.2 a0 a1).bind fun x27 =>
 ((cd { x27 with out.Acked := a0.out.Acked, out.Delivered := a0.out.Delivered, out.Dropped := a0.out.Dropped, sides.Sender := x26.2.1 } a1 x26.1).bind fun x28 =>
 ((chk (decide ((a0.out.Dropped.length + x28.length) * 8 ≤ 140737488355328))).bind fun x29 =>
 ((
  bW x27 big ((a0.out.Dropped ++ x28), x27.accepted)).bind fun d30 =>
 ((co x26.2.1.Next { x27 with out.Acked := a0.out.Acked, out.Delivered := a0.out.Delivered, out.Dropped := d30, sides.Sender := x26.2.1 } a1).bind fun x33 =>
 some (x33.1, x33.2, d30)))))))

def dK (a0 : Sender) (a1 : Bool) : Option (Sender × Int) :=
 ((dX a0).bind fun x36 =>
 bif (x36 != 0) then
  some (Sender.z, x36)
 else
  bif (!a1) then
   some (Sender.z, 2)
  else
   bif (a0.Phase != 2) then
    some (Sender.z, 20)
   else
    ((eN a0).bind fun x37 =>
    some (x37, 0)))

def io (a0 : Unacked) (a1 : Sender) (a2 : Int) : Option Bool :=
 some ((!a0.Flying) && ((a0.Tries == a1.Limit) || (decide ((IntKind.wrap .i64 (a0.At + a1.Life)) ≤ a2))))

def eh (a0 : Unacked) (a1 : Sender) (a2 : Int) (a3 : List Int) : Option (Bool × List Int) :=
 ((io a0 a1 a2).bind fun x41 =>
 bif x41 then
  ((chk (decide ((a3.length + 1) * 8 ≤ 140737488355328))).bind fun x42 =>
  some (x41, (a3 ++ [a0.Frame.Head.Seq])))
 else
  some (x41, a3))

def aZ (a0 : Sender) (a1 : Int) : Nat → (List Int × Int) → Option (Ex (Int × List Int) (List Int))
 | 0, _ => none
 | n2 + 1, d41 =>
  bif decide (d41.2 < ((a0.Out.length : Nat) : Int)) then
   ((idx a0.Out d41.2).bind fun x42 =>
   ((eh x42 a0 a1 d41.1).bind fun x43 =>
   bif x43.1 then
    some (Ex.ret (d41.2, x43.2))
   else
    aZ a0 a1 n2 (x43.2, IntKind.wrap .i64 (d41.2 + 1))))
  else
   some (Ex.go d41.1)

def b9 (a0 : Sender) (a1 : Int) : Option (Int × List Int) :=
 ((
  aZ a0 a1 big ([], 0)).bind fun o40 =>
 (o40.k fun d39 =>
 some ((-1), d39)))

def aV (a1 : Int) : Nat → (List Unacked × Sender × List Int × Int × Int) → Option ((List Unacked × Int × Sender × List Int))
 | 0, _ => none
 | n3 + 1, d41 =>
  bif decide (d41.2.2.2.2 < ((d41.1.length : Nat) : Int)) then
   ((idx d41.1 d41.2.2.2.2).bind fun x42 =>
   ((eh x42 { d41.2.1 with Out := d41.1 } a1 d41.2.2.1).bind fun x43 =>
   bif (!x43.1) then
    ((idx d41.1 d41.2.2.2.1).bind fun x44 =>
    aV a1 n3 ((d41.1.set ((d41.2.2.2.1).toNat) x42), { d41.2.1 with Out := d41.1 }, x43.2, IntKind.wrap .i64 (d41.2.2.2.1 + 1), IntKind.wrap .i64 (d41.2.2.2.2 + 1)))
   else
    aV a1 n3 (d41.1, { d41.2.1 with Out := d41.1 }, x43.2, d41.2.2.2.1, IntKind.wrap .i64 (d41.2.2.2.2 + 1))))
  else
   some (d41.1, d41.2.2.2.1, d41.2.1, d41.2.2.1)

def bJ (a0 : Sender) (a1 : Int) : Option (List Unacked × Sender × List Int) :=
 ((b9 a0 a1).bind fun x39 =>
 bif (x39.1 == (-1)) then
  some (a0.Out, a0, x39.2)
 else
  ((
   aV a1 big (a0.Out, a0, x39.2, x39.1, IntKind.wrap .i64 (x39.1 + 1))).bind fun d40 =>
  ((chk (decide (0 ≤ d40.2.1) && decide (d40.2.1 ≤ (d40.1.length : Int)))).bind fun x45 =>
  ((chk (decide (0 ≤ d40.2.1) && decide (d40.2.1 ≤ (d40.1.length : Int)))).bind fun x46 =>
  some ((List.take ((d40.2.1).toNat) d40.1), d40.2.2.1, d40.2.2.2)))))

def jx (a0 : Sender) (a1 : Int) : Option (List Int × Sender × List Unacked) :=
 ((bJ a0 a1).bind fun x39 =>
 some (x39.2.2, x39.2.1, x39.1))

def eU (a0 : Sender) (a1 : Int) : Option ((List Int) × Sender × Int) :=
 ((bG a1 0 1099511627776).bind fun x35 =>
 ((dK a0 x35).bind fun x36 =>
 bif (x36.2 != 0) then
  some ([], Sender.z, x36.2)
 else
  ((jx x36.1 a1).bind fun x37 =>
  some (x37.1, { x37.2.1 with Bar := (x37.2.1.Bar || (decide (0 < ((x37.1.length : Nat) : Int)))), Out := x37.2.2 }, 0))))

def eV (a0 : (List Bool)) : Option (Bool × List Bool) :=
 bif ((a0.length : Int) == 0) then
  some (false, a0)
 else
  ((idx a0 0).bind fun x42 =>
  ((chk (decide (1 ≤ (a0.length : Int)))).bind fun x43 =>
  some (x42, (List.drop 1 a0))))

def gq (a0 : Sender) : Option Int :=
 ((dX a0).bind fun x45 =>
 bif (x45 != 0) then
  some 0
 else
  ((fw a0).bind fun x46 =>
  some x46))

def eC (a0 : Sender) : Option (Sender × Int) :=
 ((dK a0 true).bind fun x49 =>
 bif (x49.2 != 0) then
  some (Sender.z, x49.2)
 else
  bif (!x49.1.Bar) then
   some (Sender.z, 20)
  else
   some ({ x49.1 with Bar := false }, 0))

def fC (a0 : Sender) (a1 : Frame) (a2 : Int) : Option (Frame × Sender × Int) :=
 ((bG a2 0 1099511627776).bind fun x51 =>
 ((dK a0 x51).bind fun x52 =>
 bif (x52.2 != 0) then
  some (Frame.z, Sender.z, x52.2)
 else
  ((
   bif decide (0 < ((x52.1.Out.length : Nat) : Int)) then
    ((idx x52.1.Out (IntKind.wrap .i64 (((x52.1.Out.length : Nat) : Int) - 1))).bind fun x53 =>
    some (decide (a2 < x53.At)))
   else
    some false).bind fun x54 =>
  bif x54 then
   some (Frame.z, Sender.z, 20)
  else
   ((fw x52.1).bind fun x55 =>
   ((cr x55 x52.1.Next).bind fun x56 =>
   bif decide (x52.1.Size ≤ x56) then
    some (Frame.z, Sender.z, 22)
   else
    ((dJ a1).bind fun x57 =>
    ((chk (decide ((x52.1.Out.length + 1) * 128 ≤ 140737488355328))).bind fun x58 =>
    ((eF x52.1.Next 1).bind fun x59 =>
    ((dJ { x57 with Head.Retry := false, Head.Seq := x52.1.Next, Head.Tid := x52.1.Tid }).bind fun x60 =>
    some (x60, { x52.1 with Next := x59, Out := (x52.1.Out ++ [{ Unacked.z with At := a2, Frame := { x57 with Head.Retry := false, Head.Seq := x52.1.Next, Head.Tid := x52.1.Tid } }]) }, 0))))))))))

def bX (a0 : Int) (a1 : Session_session) (a2 : (List Bool)) : Nat → Session_session → Option (Ex Session_session Session_session)
 | 0, _ => none
 | n2 + 1, d52 =>
  bif ((decide (d52.accepted < d52.many)) && (d52.err == 0)) then
   ((fC d52.sides.Sender Frame.z a0).bind fun x53 =>
   bif (x53.2.2 == 22) then
    some (Ex.ret d52)
   else
    ((aW x53.2.2 { d52 with out.Acked := a1.out.Acked, out.Delivered := a1.out.Delivered, out.Dropped := a1.out.Dropped } a2).bind fun x54 =>
    bX a0 a1 a2 n2 { x54 with accepted := IntKind.wrap .i64 (x54.accepted + 1), sides.Sender := x53.2.1 }))
  else
   some (Ex.go d52)

def cL (a0 : Int) (a1 : Session_session) (a2 : (List Bool)) : Option Session_session :=
 ((
  bX a0 a1 a2 big a1).bind fun o51 =>
 (o51.k fun d50 =>
 some d50))

def dz (x56 : (Sender × Int)) (a1 : Int) : Nat → (List Unacked × List Frame × Int) → Option ((List Unacked × List Frame))
 | 0, _ => none
 | n3 + 1, d58 =>
  bif decide (d58.2.2 < ((x56.1.Out.length : Nat) : Int)) then
   ((idx d58.1 d58.2.2).bind fun x59 =>
   bif (((d58.2.1.length : Nat) : Int) == a1) then
    some (d58.1, d58.2.1)
   else
    bif (x59.Flying || (x59.Tries == x56.1.Limit)) then
     dz x56 a1 n3 (d58.1, d58.2.1, IntKind.wrap .i64 (d58.2.2 + 1))
    else
     ((dJ x59.Frame).bind fun x60 =>
     ((chk (decide ((d58.2.1.length + 1) * 104 ≤ 140737488355328))).bind fun x61 =>
     dz x56 a1 n3 (((d58.1.modify (d58.2.2.toNat) fun y => { y with Tries := IntKind.wrap .i64 (x59.Tries + 1) }).modify (d58.2.2.toNat) fun y => { y with Flying := true }), (d58.2.1 ++ [{ x60 with Head.Retry := decide (0 < x59.Tries) }]), IntKind.wrap .i64 (d58.2.2 + 1)))))
  else
   some (d58.1, d58.2.1)

def gc (a0 : Sender) (a1 : Int) : Option ((List Frame) × Sender × Int) :=
 ((dK a0 (decide (0 ≤ a1))).bind fun x56 =>
 bif (x56.2 != 0) then
  some ([], Sender.z, x56.2)
 else
  ((
   dz x56 a1 big (x56.1.Out, [], 0)).bind fun d57 =>
  some (d57.2, { x56.1 with Out := d57.1 }, 0)))

def eO (a0 : Window) (a1 : Int) : Option Int :=
 ((ez a0).bind fun x75 =>
 bif (x75 != 0) then
  some x75
 else
  ((dV a1).bind fun x76 =>
  bif (!x76) then
   some 2
  else
   some 0))

def jE (a0 : Window) (a1 : Int) : Option (Window × Int) :=
 ((eO a0 a1).bind fun x75 =>
 bif (x75 != 0) then
  some (Window.z, x75)
 else
  ((cr a0.Start a1).bind fun x76 =>
  bif decide (x76 < 2048) then
   ((chk (decide (¬ x76 < 0))).bind fun x77 =>
   some ({ Window.z with Bits := (a0.Bits).fdiv (2 ^ (min (x76).toNat 64)), Start := a1 }, 0))
  else
   ((chk (decide (¬ (IntKind.wrap .i64 (4096 - x76)) < 0))).bind fun x78 =>
   some ({ Window.z with Bits := IntKind.wrap .u64 (a0.Bits * 2 ^ (min ((IntKind.wrap .i64 (4096 - x76))).toNat 64)), Start := a1 }, 0))))

def jI (a0 : Window) (a1 : Int) : Option (Window × Int) :=
 ((eO a0 a1).bind fun x77 =>
 bif (x77 != 0) then
  some (Window.z, x77)
 else
  ((cr a0.Start a1).bind fun x78 =>
  bif decide (64 ≤ x78) then
   some (Window.z, 21)
  else
   ((chk (decide (¬ x78 < 0))).bind fun x79 =>
   some ({ a0 with Bits := bor .u64 a0.Bits (IntKind.wrap .u64 (1 * 2 ^ (min (x78).toNat 64))) }, 0))))

def iU (a0 : Window) (a1 : Int) : Option Window :=
 ((cr a0.Start a1).bind fun x73 =>
 bif decide (2048 ≤ x73) then
  some a0
 else
  ((
   bif decide (64 ≤ x73) then
    ((eF a1 (-63)).bind fun x75 =>
    ((jE a0 x75).bind fun x76 =>
    some x76.1))
   else
    some a0).bind fun d74 =>
  ((jI d74 a1).bind fun x77 =>
  some x77.1)))

def cf (a0 : Int) (a1 : List HeldSeq) (a2 : List HeldSeq) : Option (List HeldSeq) :=
 ((chk (decide (0 ≤ a0) && decide (a0 ≤ (a1.length : Int)))).bind fun x81 =>
 bif (((a2.length : Nat) : Int) == 0) then
  some a1
 else
  bif (a0 == ((a1.length : Nat) : Int)) then
   ((chk (decide ((a1.length + a2.length) * 112 ≤ 140737488355328))).bind fun x82 =>
   some (a1 ++ a2))
  else
   none)

def bP (a0 : Int) (a1 : List HeldSeq) (a2 : List HeldSeq) : Option (List HeldSeq) :=
 ((chk (decide (0 ≤ a0) && decide (a0 ≤ (a1.length : Int)))).bind fun x13 =>
 bif (((a2.length : Nat) : Int) == 0) then
  some a1
 else
  bif (a0 == ((a1.length : Nat) : Int)) then
   ((chk (decide ((a1.length + a2.length) * 112 ≤ 140737488355328))).bind fun x14 =>
   some (a1 ++ a2))
  else
   ((chk (decide (a2.length = 1) && decide ((a1.length + 1) * 112 ≤ 140737488355328))).bind fun x15 =>
   some (a1.take a0.toNat ++ a2 ++ a1.drop a0.toNat)))

def iu (a0 : Reorder) (a1 : Frame) (a2 : Int) : Option ((List Frame) × Reorder × Int) :=
 ((dW a0).bind fun x67 =>
 bif (x67 != 0) then
  some ([], Reorder.z, x67)
 else
  ((ef a2).bind fun x68 =>
  ((
   bif (!x68) then
    some true
   else
    ((c7 a1.Head.Seq).bind fun x69 =>
    some (!x69))).bind fun x70 =>
  bif x70 then
   some ([], Reorder.z, 2)
  else
   ((cr a0.Start a1.Head.Seq).bind fun x71 =>
   ((fM a0 a1.Head.Seq).bind fun x72 =>
   bif ((decide (2048 ≤ x71)) || x72.2) then
    some ([], Reorder.z, 21)
   else
    ((iU a0.Seen a1.Head.Seq).bind fun x73 =>
    ((eu a0.Held).bind fun x74 =>
    ((dJ a1).bind fun x75 =>
    ((bP x72.1 x74 [{ HeldSeq.z with At := a2, Frame := x75 }]).bind fun x76 =>
    ((
     bif decide (a0.Size ≤ x71) then
      ((eF a1.Head.Seq (IntKind.wrap .i64 (1 - a0.Size))).bind fun x78 =>
      some x78)
     else
      some a0.Start).bind fun d77 =>
    ((et { a0 with Held := x76, Seen := x73 } d77).bind fun x79 =>
    some (x79.1, { x79.2.1 with Held := x79.2.2 }, 0))))))))))))

def bK (x56 : ((List Frame) × Sender × Int)) (a0 : Int) (a1 : Session_session) : Nat → (Session_session × List Bool × List Int × Int) → Option ((Session_session × List Bool × List Int))
 | 0, _ => none
 | n2 + 1, d59 =>
  bif decide (d59.2.2.2 < (x56.1.length : Int)) then
   ((idx x56.1 d59.2.2.2).bind fun x60 =>
   ((eV d59.2.1).bind fun x61 =>
   bif x61.1 then
    bK x56 a0 a1 n2 (d59.1, x61.2, d59.2.2.1, IntKind.wrap .i64 (d59.2.2.2 + 1))
   else
    ((iu d59.1.sides.Reorder x60 a0).bind fun x62 =>
    bif (x62.2.2 == 0) then
     ((bH x62.1 { d59.1 with out.Acked := a1.out.Acked, out.Delivered := d59.2.2.1, out.Dropped := a1.out.Dropped, sides.Reorder := x62.2.1 } x61.2).bind fun x63 =>
     bK x56 a0 a1 n2 ({ d59.1 with out.Acked := a1.out.Acked, out.Delivered := d59.2.2.1, out.Dropped := a1.out.Dropped, sides.Reorder := x62.2.1 }, x61.2, x63, IntKind.wrap .i64 (d59.2.2.2 + 1)))
    else
     bK x56 a0 a1 n2 (d59.1, x61.2, d59.2.2.1, IntKind.wrap .i64 (d59.2.2.2 + 1)))))
  else
   some (d59.1, d59.2.1, d59.2.2.1)

def cW (a0 : Int) (a1 : Session_session) (a2 : (List Bool)) : Option (Int × Session_session × List Bool × List Int) :=
 ((gc a1.sides.Sender a1.plan.Burst).bind fun x56 =>
 ((aW x56.2.2 a1 a2).bind fun x57 =>
 ((
  bK x56 a0 a1 big ({ x57 with sides.Sender := x56.2.1 }, a2, a1.out.Delivered, 0)).bind fun d58 =>
 some ((x56.1.length : Int), d58.1, d58.2.1, d58.2.2))))

def ea (a0 : Sender) : Nat → (List Unacked × Int) → Option ((List Unacked))
 | 0, _ => none
 | n2 + 1, d68 =>
  bif decide (d68.2 < ((a0.Out.length : Nat) : Int)) then
   ((idx d68.1 d68.2).bind fun x69 =>
   ea a0 n2 ((d68.1.modify ((d68.2).toNat) fun y => { y with Flying := false }), IntKind.wrap .i64 (d68.2 + 1)))
  else
   some d68.1

def iG (a0 : Sender) : Option (List Unacked) :=
 ((
  ea a0 big (a0.Out, 0)).bind fun d67 =>
 some d67)

def gb (a0 : Sender) : Option (Sender × Int) :=
 ((dK a0 true).bind fun x66 =>
 bif (x66.2 != 0) then
  some (Sender.z, x66.2)
 else
  ((iG x66.1).bind fun x67 =>
  some ({ x66.1 with Out := x67 }, 0)))

def fh (a0 : Reorder) : Option (Window × Int) :=
 ((dW a0).bind fun x70 =>
 bif (x70 != 0) then
  some (Window.z, x70)
 else
  some (a0.Seen, 0))

def kQ (a0 : Window) (a1 : Int) : Option Bool :=
 ((eO a0 a1).bind fun x77 =>
 bif (x77 != 0) then
  some false
 else
  ((cr a0.Start a1).bind fun x78 =>
  ((
   bif decide (x78 < 64) then
    ((chk (decide (¬ x78 < 0))).bind fun x79 =>
    some ((z6 .u64 ((a0.Bits).fdiv (2 ^ (min (x78).toNat 64))) 1) == 1))
   else
    some false).bind fun x80 =>
  some x80)))

def gg (a0 : Unacked) (a1 : Window) : Option Bool :=
 ((
  bif decide (0 < a0.Tries) then
   ((kQ a1 a0.Frame.Head.Seq).bind fun x77 =>
   some x77)
  else
   some false).bind fun x78 =>
 some x78)

def ei (a0 : Unacked) (a1 : Window) (a2 : List Int) : Option (Bool × List Int) :=
 ((gg a0 a1).bind fun x77 =>
 bif x77 then
  ((chk (decide ((a2.length + 1) * 8 ≤ 140737488355328))).bind fun x78 =>
  some (x77, (a2 ++ [a0.Frame.Head.Seq])))
 else
  some (x77, a2))

def aX (a1 : List Unacked) (a0 : Window) : Nat → (List Int × Int) → Option (Ex (Int × List Int) (List Int))
 | 0, _ => none
 | n2 + 1, d77 =>
  bif decide (d77.2 < ((a1.length : Nat) : Int)) then
   ((idx a1 d77.2).bind fun x78 =>
   ((ei x78 a0 d77.1).bind fun x79 =>
   bif x79.1 then
    some (Ex.ret (d77.2, x79.2))
   else
    aX a1 a0 n2 (x79.2, IntKind.wrap .i64 (d77.2 + 1))))
  else
   some (Ex.go d77.1)

def bU (a0 : Window) (a1 : List Unacked) : Option (Int × List Int) :=
 ((
  aX a1 a0 big ([], 0)).bind fun o76 =>
 (o76.k fun d75 =>
 some ((-1), d75)))

def aT (a0 : Window) : Nat → (List Unacked × List Int × Int × Int) → Option ((List Unacked × Int × List Int))
 | 0, _ => none
 | n3 + 1, d77 =>
  bif decide (d77.2.2.2 < ((d77.1.length : Nat) : Int)) then
   ((idx d77.1 d77.2.2.2).bind fun x78 =>
   ((ei x78 a0 d77.2.1).bind fun x79 =>
   bif (!x79.1) then
    ((idx d77.1 d77.2.2.1).bind fun x80 =>
    aT a0 n3 ((d77.1.set ((d77.2.2.1).toNat) x78), x79.2, IntKind.wrap .i64 (d77.2.2.1 + 1), IntKind.wrap .i64 (d77.2.2.2 + 1)))
   else
    aT a0 n3 (d77.1, x79.2, d77.2.2.1, IntKind.wrap .i64 (d77.2.2.2 + 1))))
  else
   some (d77.1, d77.2.2.1, d77.2.1)

def bD (a0 : Window) (a1 : List Unacked) : Option (List Unacked × List Int) :=
 ((bU a0 a1).bind fun x75 =>
 bif (x75.1 == (-1)) then
  some (a1, x75.2)
 else
  ((
   aT a0 big (a1, x75.2, x75.1, IntKind.wrap .i64 (x75.1 + 1))).bind fun d76 =>
  ((chk (decide (0 ≤ d76.2.1) && decide (d76.2.1 ≤ (d76.1.length : Int)))).bind fun x81 =>
  ((chk (decide (0 ≤ d76.2.1) && decide (d76.2.1 ≤ (d76.1.length : Int)))).bind fun x82 =>
  some ((List.take ((d76.2.1).toNat) d76.1), d76.2.2)))))

def fG (a0 : Sender) (a1 : Window) : Option (List Int × List Unacked) :=
 ((bD a1 a0.Out).bind fun x75 =>
 some (x75.2, x75.1))

def fv (a0 : Sender) (a1 : Window) : Option ((List Int) × Sender × Int) :=
 ((ez a1).bind fun x73 =>
 ((dK a0 (x73 == 0)).bind fun x74 =>
 bif (x74.2 != 0) then
  some ([], Sender.z, x74.2)
 else
  ((fG x74.1 a1).bind fun x75 =>
  ((iG { x74.1 with Out := x75.2 }).bind fun x76 =>
  some (x75.1, { x74.1 with Out := x76 }, 0)))))

def cC (a0 : Session_session) (a1 : (List Bool)) : Option (Session_session × List Bool × List Int) :=
 ((eV a1).bind fun x65 =>
 bif x65.1 then
  ((gb a0.sides.Sender).bind fun x66 =>
  ((aW x66.2 a0 x65.2).bind fun x67 =>
  some ({ x67 with sides.Sender := x66.1 }, x65.2, a0.out.Acked)))
 else
  ((fh a0.sides.Reorder).bind fun x68 =>
  ((aW x68.2 a0 x65.2).bind fun x69 =>
  ((fv x69.sides.Sender x68.1).bind fun x70 =>
  ((aW x70.2.2 { x69 with out.Acked := a0.out.Acked, out.Delivered := a0.out.Delivered, out.Dropped := a0.out.Dropped } x65.2).bind fun x71 =>
  ((cd { x71 with out.Acked := a0.out.Acked, out.Delivered := a0.out.Delivered, out.Dropped := a0.out.Dropped, sides.Sender := x70.2.1 } x65.2 x70.1).bind fun x72 =>
  ((chk (decide ((a0.out.Acked.length + x72.length) * 8 ≤ 140737488355328))).bind fun x73 =>
  some ({ x71 with sides.Sender := x70.2.1 }, x65.2, (a0.out.Acked ++ x72)))))))))

def cM (b : Reorder) (now : Int) (l : List HeldSeq) : Nat → Option (Ex (List Frame × Reorder × Int) Unit)
 | 0 => some (Ex.go ())
 | c + 1 =>
  ((l[c]?).bind fun x =>
  bif decide ((IntKind.wrap .i64 (x.At + b.Hold)) ≤ now) then
   ((eF x.Frame.Head.Seq 1).bind fun y =>
   ((et { b with Held := l } y).bind fun z =>
   some (Ex.ret (z.1, { z.2.1 with Held := z.2.2 }, 0))))
  else
   cM b now l c)

def dB (a0 : Reorder) (a1 : Int) : Option ((List Frame) × Reorder × Int) :=
 ((dW a0).bind fun x67 =>
 bif (x67 != 0) then
  some ([], Reorder.z, x67)
 else
  ((ef a1).bind fun x68 =>
  bif (!x68) then
   some ([], Reorder.z, 2)
  else
   ((eu a0.Held).bind fun x69 =>
   ((chk (decide (x69.length < 4611686018427387904))).bind fun x70 =>
   ((cM a0 a1 x69 x69.length).bind fun o71 =>
   (o71.k fun d72 =>
   some ([], { a0 with Held := x69 }, 0)))))))

def c4 (a0 : Session_session) (a1 : (List Bool)) : Option (Session_session × List Bool × List Int × List Int × List Int) :=
 ((eU a0.sides.Sender (IntKind.wrap .i64 (a0.out.Rounds * a0.plan.Round))).bind fun x35 =>
 ((aW x35.2.2 a0 a1).bind fun x36 =>
 ((cd { x36 with out.Acked := a0.out.Acked, out.Delivered := a0.out.Delivered, out.Dropped := a0.out.Dropped, sides.Sender := x35.2.1 } a1 x35.1).bind fun x37 =>
 ((chk (decide ((a0.out.Dropped.length + x37.length) * 8 ≤ 140737488355328))).bind fun x38 =>
 bif x35.2.1.Bar then
  ((eV a1).bind fun x39 =>
  ((
   bif (!x39.1) then
    ((gq x35.2.1).bind fun x41 =>
    ((co x41 { x36 with out.Acked := a0.out.Acked, out.Delivered := a0.out.Delivered, out.Dropped := (a0.out.Dropped ++ x37), sides.Sender := x35.2.1 } x39.2).bind fun x42 =>
    ((eC x42.1.sides.Sender).bind fun x43 =>
    ((aW x43.2 { x42.1 with out.Acked := a0.out.Acked, out.Delivered := x42.2, out.Dropped := (a0.out.Dropped ++ x37), sides.Sender := x43.1 } x39.2).bind fun x44 =>
    some (x44, x42.2)))))
   else
    some ({ x36 with sides.Sender := x35.2.1 }, a0.out.Delivered)).bind fun d40 =>
  ((cL (IntKind.wrap .i64 (a0.out.Rounds * a0.plan.Round)) { d40.1 with out.Acked := a0.out.Acked, out.Delivered := d40.2, out.Dropped := (a0.out.Dropped ++ x37) } x39.2).bind fun x45 =>
  ((cW (IntKind.wrap .i64 (a0.out.Rounds * a0.plan.Round)) { x45 with out.Acked := a0.out.Acked, out.Delivered := d40.2, out.Dropped := (a0.out.Dropped ++ x37) } x39.2).bind fun x46 =>
  ((
   bif decide (0 < x46.1) then
    ((cC { x46.2.1 with out.Acked := a0.out.Acked, out.Delivered := x46.2.2.2, out.Dropped := (a0.out.Dropped ++ x37) } x46.2.2.1).bind fun x48 =>
    some (x48.1, x48.2.1, x48.2.2))
   else
    some (x46.2.1, x46.2.2.1, a0.out.Acked)).bind fun d47 =>
  ((dB d47.1.sides.Reorder (IntKind.wrap .i64 (a0.out.Rounds * a0.plan.Round))).bind fun x49 =>
  ((aW x49.2.2 { d47.1 with out.Acked := d47.2.2, out.Delivered := x46.2.2.2, out.Dropped := (a0.out.Dropped ++ x37) } d47.2.1).bind fun x50 =>
  ((bH x49.1 { x50 with out.Acked := d47.2.2, out.Delivered := x46.2.2.2, out.Dropped := (a0.out.Dropped ++ x37), sides.Reorder := x49.2.1 } d47.2.1).bind fun x51 =>
  some ({ x50 with out.Acked := d47.2.2, out.Delivered := x46.2.2.2, out.Dropped := (a0.out.Dropped ++ x37), out.Rounds := IntKind.wrap .i64 (x50.out.Rounds + 1), sides.Reorder := x49.2.1 }, d47.2.1, x51, d47.2.2, (a0.out.Dropped ++ x37))))))))))
 else
  ((cL (IntKind.wrap .i64 (a0.out.Rounds * a0.plan.Round)) { x36 with out.Acked := a0.out.Acked, out.Delivered := a0.out.Delivered, out.Dropped := (a0.out.Dropped ++ x37), sides.Sender := x35.2.1 } a1).bind fun x52 =>
  ((cW (IntKind.wrap .i64 (a0.out.Rounds * a0.plan.Round)) { x52 with out.Acked := a0.out.Acked, out.Delivered := a0.out.Delivered, out.Dropped := (a0.out.Dropped ++ x37) } a1).bind fun x53 =>
  ((
   bif decide (0 < x53.1) then
    ((cC { x53.2.1 with out.Acked := a0.out.Acked, out.Delivered := x53.2.2.2, out.Dropped := (a0.out.Dropped ++ x37) } x53.2.2.1).bind fun x55 =>
    some (x55.1, x55.2.1, x55.2.2))
   else
    some (x53.2.1, x53.2.2.1, a0.out.Acked)).bind fun d54 =>
  ((dB d54.1.sides.Reorder (IntKind.wrap .i64 (a0.out.Rounds * a0.plan.Round))).bind fun x56 =>
  ((aW x56.2.2 { d54.1 with out.Acked := d54.2.2, out.Delivered := x53.2.2.2, out.Dropped := (a0.out.Dropped ++ x37) } d54.2.1).bind fun x57 =>
  ((bH x56.1 { x57 with out.Acked := d54.2.2, out.Delivered := x53.2.2.2, out.Dropped := (a0.out.Dropped ++ x37), sides.Reorder := x56.2.1 } d54.2.1).bind fun x58 =>
  some ({ x57 with out.Acked := d54.2.2, out.Delivered := x53.2.2.2, out.Dropped := (a0.out.Dropped ++ x37), out.Rounds := IntKind.wrap .i64 (x57.out.Rounds + 1), sides.Reorder := x56.2.1 }, d54.2.1, x58, d54.2.2, (a0.out.Dropped ++ x37))))))))))))

def dZ (a1 : Int) : Nat → (Session_session × List Bool × List Int × List Int × List Int) → Option ((Session_session × List Bool × List Int × List Int × List Int))
 | 0, _ => none
 | n4 + 1, d6 =>
  bif ((d6.1.err == 0) && (((decide (d6.1.accepted < a1)) || (decide (0 < (d6.1.sides.Sender.Out.length : Int)))) || d6.1.sides.Sender.Bar)) then
   bif (d6.1.out.Rounds == 2000) then
    ((dN { d6.1 with out.Acked := d6.2.2.2.1, out.Delivered := d6.2.2.1, out.Dropped := d6.2.2.2.2 } d6.2.1).bind fun x7 =>
    some (x7.1, d6.2.1, x7.2.1, d6.2.2.2.1, x7.2.2))
   else
    ((c4 { d6.1 with out.Acked := d6.2.2.2.1, out.Delivered := d6.2.2.1, out.Dropped := d6.2.2.2.2 } d6.2.1).bind fun x8 =>
    dZ a1 n4 (x8.1, x8.2.1, x8.2.2.1, x8.2.2.2.1, x8.2.2.2.2))
  else
   some (d6.1, d6.2.1, d6.2.2.1, d6.2.2.2.1, d6.2.2.2.2)

def fm (a0 : SessionPlan) (a1 : Int) (a2 : (List Bool)) : Option (SessionResult × Int) :=
 ((gP a0).bind fun x2 =>
 bif (x2 != 0) then
  some (SessionResult.z, x2)
 else
  ((cE a1 0 200).bind fun x3 =>
  bif (!x3) then
   some (SessionResult.z, 4)
  else
   ((dO { Session_session.z with many := a1, out.Acked := ([] : List Int), out.Delivered := ([] : List Int), out.Dropped := ([] : List Int), plan := a0 } a2).bind fun x4 =>
   ((
    dZ a1 big (x4, a2, ([] : List Int), ([] : List Int), ([] : List Int))).bind fun d5 =>
   bif (d5.1.err != 0) then
    some (SessionResult.z, d5.1.err)
   else
    some ({ d5.1.out with Acked := d5.2.2.2.1, Delivered := d5.2.2.1, Dropped := d5.2.2.2.2 }, 0)))))

def bY (a0 : (List Int)) (a1 : (List Int)) : Nat → Int → Option (Ex Bool Unit)
 | 0, _ => none
 | n3 + 1, d26 =>
  bif decide (d26 < (a0.length : Int)) then
   ((idx a0 d26).bind fun x27 =>
   ((idx a1 d26).bind fun x28 =>
   bif (x27 != x28) then
    some (Ex.ret false)
   else
    bY a0 a1 n3 (IntKind.wrap .i64 (d26 + 1))))
  else
   some (Ex.go ())

def bR (a0 : (List Int)) (a1 : (List Int)) : Option Bool :=
 bif ((a0.length : Int) != (a1.length : Int)) then
  some false
 else
  ((
   bY a0 a1 big 0).bind fun o25 =>
  (o25.k fun d24 =>
  some true))

def eR (a0 : (List Bool)) (a1 : (List Int)) (a2 : (List Int)) (a3 : (List Int)) : Option (Int × Bool) :=
 (gp.bind fun x22 =>
 ((fm x22 3 a0).bind fun x23 =>
 ((
  bif (x23.2 == 0) then
   ((bR x23.1.Delivered a1).bind fun x24 =>
   some x24)
  else
   some false).bind fun x25 =>
 ((
  bif x25 then
   ((bR x23.1.Acked a2).bind fun x26 =>
   some x26)
  else
   some false).bind fun x27 =>
 ((
  bif x27 then
   ((bR x23.1.Dropped a3).bind fun x28 =>
   some x28)
  else
   some false).bind fun x29 =>
 some (x23.1.Rounds, x29))))))

def fu : Option Bool :=
 ((eR [] [0, 1, 2] [0, 1, 2] []).bind fun x22 =>
 ((eR [true] [0, 1, 2] [1, 0, 2] []).bind fun x23 =>
 ((eR [true, false, false, true] [1, 2] [1, 2] [0]).bind fun x24 =>
 some ((((x22.2 && (x22.1 == 2)) && x23.2) && (x23.1 == 3)) && x24.2))))

def eQ (a0 : SessionResult) (a1 : SessionResult) : Option Bool :=
 ((
  bif (a0.Rounds == a1.Rounds) then
   ((bR a0.Delivered a1.Delivered).bind fun x26 =>
   some x26)
  else
   some false).bind fun x27 =>
 ((
  bif x27 then
   ((bR a0.Acked a1.Acked).bind fun x28 =>
   some x28)
  else
   some false).bind fun x29 =>
 ((
  bif x29 then
   ((bR a0.Dropped a1.Dropped).bind fun x30 =>
   some x30)
  else
   some false).bind fun x31 =>
 some x31)))

def er (a0 : Int) : Option Bool :=
 some ((decide (0 ≤ a0)) && (decide (a0 ≤ 4095)))

def dC (a0 : SessionPlan) (a1 : Int) (a2 : (List Bool)) (a3 : Int) : Option Bool :=
 (fu.bind fun x58 =>
 bif ((decide (5000 < (a2.length : Int))) || (!x58)) then
  some x58
 else
  ((fm a0 a1 a2).bind fun x59 =>
  ((
   bif (x59.2 != 0) then
    some true
   else
    ((er a3).bind fun x60 =>
    some (!x60))).bind fun x61 =>
  bif x61 then
   some x58
  else
   ((fm { a0 with Start := a3 } a1 a2).bind fun x62 =>
   ((
    bif (x58 && (x62.2 == 0)) then
     ((eQ x59.1 x62.1).bind fun x63 =>
     some x63)
    else
     some false).bind fun x64 =>
   some x64)))))

end Go.AX.Z.TN

/-! (TNF) -/

namespace Go.AX.Z.TN
open Go.AX Go.Proofs

def tab : List (TypeId × List (Option IntKind)) :=
 []

noncomputable def K : Ctx := ⟨Try.prog, fun _ => none, Hu tab⟩

theorem Jq : agB K.P 113 = some true := by kernel_rfl
theorem Kv : agB K.P 23 = some true := by kernel_rfl
theorem Mr : agB K.P 25 = some false := by kernel_rfl
theorem KB : agB K.P 27 = some true := by kernel_rfl
theorem Le : agB K.P 28 = some false := by kernel_rfl
theorem ag3 : agB K.P 3 = some false := by kernel_rfl
theorem Ku : agB K.P 31 = some false := by kernel_rfl
theorem KM : agB K.P 34 = some false := by kernel_rfl
theorem ag4 : agB K.P 4 = some false := by kernel_rfl
theorem Lw : agB K.P 43 = some false := by kernel_rfl
theorem Md : agB K.P 45 = some true := by kernel_rfl
theorem KD : agB K.P 46 = some false := by kernel_rfl
theorem LG : agB K.P 47 = some false := by kernel_rfl
theorem KJ : agB K.P 49 = some true := by kernel_rfl
theorem ag5 : agB K.P 5 = some false := by kernel_rfl
theorem Lg : agB K.P 51 = some true := by kernel_rfl
theorem Kn : agB K.P 53 = some true := by kernel_rfl
theorem Lh : agB K.P 63 = some true := by kernel_rfl
theorem L9 : agB K.P 79 = some false := by kernel_rfl
theorem LI : agB K.P 89 = some true := by kernel_rfl
theorem La : agB K.P 90 = some false := by kernel_rfl
theorem Ky : agB K.P 92 = some true := by kernel_rfl
theorem KZ : agB K.P 94 = some true := by kernel_rfl
theorem KX : agB K.P 99 = some false := by kernel_rfl
theorem J2 : sU K.P 113 = some [(0, 1), (1, 41)] := by kernel_rfl
theorem LT : sU K.P 23 = some [(0, 1), (1, 1), (2, 1), (3, 1), (4, 1), (5, 1), (6, 1)] := by kernel_rfl
theorem KF : sU K.P 27 = some [(0, 1), (1, 1), (2, 1), (3, 1)] := by kernel_rfl
theorem KQ : sU K.P 45 = some [(0, 1), (1, 1), (2, 1), (3, 1), (4, 1), (5, 1), (6, 1), (7, 1), (8, 1)] := by kernel_rfl
theorem Ml : sU K.P 49 = some [(0, 1), (1, 1)] := by kernel_rfl
theorem Ln : sU K.P 51 = some [(0, 1), (1, 1), (2, 1), (3, 1), (4, 2)] := by kernel_rfl
theorem KP : sU K.P 55 = some [(0, 15), (15, 7), (22, 1), (23, 1), (24, 1), (25, 4), (29, 1)] := by kernel_rfl
theorem LC : sU K.P 63 = some [(0, 1), (1, 1), (2, 1), (3, 1)] := by kernel_rfl
theorem K3 : sU K.P 68 = some [(0, 1), (1, 1), (2, 1), (3, 1)] := by kernel_rfl
theorem LB : sU K.P 92 = some [(0, 40), (40, 1)] := by kernel_rfl
theorem Lt : sU K.P 94 = some [(0, 1), (1, 1), (2, 1), (3, 41)] := by kernel_rfl
theorem J1 : qA K.P 113 = some 112 := by kernel_rfl
theorem Mg : qA K.P 23 = some 56 := by kernel_rfl
theorem by3 : qA K.P 3 = some 8 := by kernel_rfl
theorem by4 : qA K.P 4 = some 1 := by kernel_rfl
theorem by5 : qA K.P 5 = some 1 := by kernel_rfl
theorem K8 : qA K.P 92 = some 104 := by kernel_rfl
theorem KU : qA K.P 94 = some 128 := by kernel_rfl
theorem Lx : elS K.P 25 = some 3 := by kernel_rfl
theorem Mu : elS K.P 31 = some 4 := by kernel_rfl
theorem KN : elS K.P 32 = some 23 := by kernel_rfl
theorem Kl : elS K.P 43 = some 94 := by kernel_rfl
theorem J4 : elS K.P 46 = some 113 := by kernel_rfl
theorem LS : elS K.P 79 = some 92 := by kernel_rfl
theorem KT : elS K.P 90 = some 5 := by kernel_rfl
theorem Kt : elS K.P 3 = none := by kernel_rfl
theorem E7 : flE K.P 113 0 = some (0, 3) := by kernel_rfl
theorem E2 : flE K.P 113 1 = some (1, 92) := by kernel_rfl
theorem GM : flE K.P 23 0 = some (0, 3) := by kernel_rfl
theorem Ht : flE K.P 23 1 = some (1, 3) := by kernel_rfl
theorem Hd : flE K.P 23 2 = some (2, 3) := by kernel_rfl
theorem GD : flE K.P 23 3 = some (3, 3) := by kernel_rfl
theorem H8 : flE K.P 23 4 = some (4, 3) := by kernel_rfl
theorem Gq : flE K.P 23 5 = some (5, 3) := by kernel_rfl
theorem Gx : flE K.P 23 6 = some (6, 3) := by kernel_rfl
theorem G3 : flE K.P 27 0 = some (0, 25) := by kernel_rfl
theorem Gl : flE K.P 27 1 = some (1, 25) := by kernel_rfl
theorem Gp : flE K.P 27 2 = some (2, 25) := by kernel_rfl
theorem IP : flE K.P 27 3 = some (3, 3) := by kernel_rfl
theorem IB : flE K.P 45 0 = some (0, 3) := by kernel_rfl
theorem Gw : flE K.P 45 1 = some (1, 5) := by kernel_rfl
theorem GP : flE K.P 45 2 = some (2, 3) := by kernel_rfl
theorem IY : flE K.P 45 3 = some (3, 3) := by kernel_rfl
theorem Gz : flE K.P 45 4 = some (4, 3) := by kernel_rfl
theorem IF : flE K.P 45 5 = some (5, 3) := by kernel_rfl
theorem Im : flE K.P 45 6 = some (6, 3) := by kernel_rfl
theorem Ja : flE K.P 45 7 = some (7, 43) := by kernel_rfl
theorem HD : flE K.P 45 8 = some (8, 4) := by kernel_rfl
theorem GF : flE K.P 49 0 = some (0, 3) := by kernel_rfl
theorem Gs : flE K.P 49 1 = some (1, 47) := by kernel_rfl
theorem IU : flE K.P 51 0 = some (0, 3) := by kernel_rfl
theorem Is : flE K.P 51 1 = some (1, 3) := by kernel_rfl
theorem GT : flE K.P 51 2 = some (2, 3) := by kernel_rfl
theorem GL : flE K.P 51 3 = some (3, 46) := by kernel_rfl
theorem Gj : flE K.P 51 4 = some (4, 49) := by kernel_rfl
theorem GG : flE K.P 53 0 = some (0, 45) := by kernel_rfl
theorem Io : flE K.P 53 1 = some (9, 51) := by kernel_rfl
theorem Ih : flE K.P 55 0 = some (0, 53) := by kernel_rfl
theorem GC : flE K.P 55 1 = some (15, 23) := by kernel_rfl
theorem Ib : flE K.P 55 2 = some (22, 3) := by kernel_rfl
theorem GK : flE K.P 55 3 = some (23, 3) := by kernel_rfl
theorem Ir : flE K.P 55 4 = some (24, 34) := by kernel_rfl
theorem I0 : flE K.P 55 5 = some (25, 27) := by kernel_rfl
theorem IV : flE K.P 55 6 = some (29, 28) := by kernel_rfl
theorem H6 : flE K.P 63 0 = some (0, 3) := by kernel_rfl
theorem HA : flE K.P 68 0 = some (0, 3) := by kernel_rfl
theorem Ho : flE K.P 68 1 = some (1, 3) := by kernel_rfl
theorem Hp : flE K.P 68 2 = some (2, 3) := by kernel_rfl
theorem GZ : flE K.P 68 3 = some (3, 3) := by kernel_rfl
theorem E4 : flE K.P 89 14 = some (34, 3) := by kernel_rfl
theorem Ff : flE K.P 89 16 = some (36, 3) := by kernel_rfl
theorem Il : flE K.P 89 5 = some (5, 4) := by kernel_rfl
theorem Ip : flE K.P 92 0 = some (0, 89) := by kernel_rfl
theorem Hk : flE K.P 92 1 = some (40, 90) := by kernel_rfl
theorem HY : flE K.P 94 0 = some (0, 3) := by kernel_rfl
theorem Gm : flE K.P 94 1 = some (1, 3) := by kernel_rfl
theorem Jd : flE K.P 94 2 = some (2, 4) := by kernel_rfl
theorem Hl : flE K.P 94 3 = some (3, 92) := by kernel_rfl
theorem Kh : inK K.P 133 = some .u64 := by kernel_rfl
theorem in3 : inK K.P 3 = some .i64 := by kernel_rfl
theorem LO : inK K.P 47 = some .u64 := by kernel_rfl
theorem Mb : Fi K.P 4 = true := by kernel_rfl
theorem Gf : cp K.P 113 = some 42 := by kernel_rfl
theorem Ms : cp K.P 23 = some 7 := by kernel_rfl
theorem Kz : cp K.P 25 = some 1 := by kernel_rfl
theorem LL : cp K.P 27 = some 4 := by kernel_rfl
theorem Ko : cp K.P 28 = some 1 := by kernel_rfl
theorem sz3 : cp K.P 3 = some 1 := by kernel_rfl
theorem Lq : cp K.P 31 = some 1 := by kernel_rfl
theorem Lp : cp K.P 34 = some 1 := by kernel_rfl
theorem sz4 : cp K.P 4 = some 1 := by kernel_rfl
theorem Li : cp K.P 43 = some 1 := by kernel_rfl
theorem Kw : cp K.P 45 = some 9 := by kernel_rfl
theorem Mh : cp K.P 46 = some 1 := by kernel_rfl
theorem Kp : cp K.P 47 = some 1 := by kernel_rfl
theorem L4 : cp K.P 49 = some 2 := by kernel_rfl
theorem sz5 : cp K.P 5 = some 1 := by kernel_rfl
theorem Mi : cp K.P 51 = some 6 := by kernel_rfl
theorem Kx : cp K.P 53 = some 15 := by kernel_rfl
theorem LF : cp K.P 63 = some 4 := by kernel_rfl
theorem KR : cp K.P 79 = some 1 := by kernel_rfl
theorem Mk : cp K.P 89 = some 40 := by kernel_rfl
theorem LX : cp K.P 90 = some 1 := by kernel_rfl
theorem Ly : cp K.P 92 = some 41 := by kernel_rfl
theorem Kq : cp K.P 94 = some 44 := by kernel_rfl
theorem Kk : cp K.P 99 = some 1 := by kernel_rfl
theorem JD : K.P.underlying 133 = some (.int .u64) := by kernel_rfl
theorem K7 : K.P.underlying 25 = some (.slice 3) := by kernel_rfl
theorem un3 : K.P.underlying 3 = some (.int .i64) := by kernel_rfl
theorem Mq : K.P.underlying 31 = some (.slice 4) := by kernel_rfl
theorem L1 : K.P.underlying 32 = some (.slice 23) := by kernel_rfl
theorem KY : K.P.underlying 43 = some (.slice 94) := by kernel_rfl
theorem KE : K.P.underlying 46 = some (.slice 113) := by kernel_rfl
theorem LR : K.P.underlying 47 = some (.int .u64) := by kernel_rfl
theorem LJ : K.P.underlying 79 = some (.slice 92) := by kernel_rfl
theorem Ld : K.P.underlying 90 = some (.slice 5) := by kernel_rfl
theorem JN : zer K.P 113 = some (bT HeldSeq.z cz) := by kernel_rfl
theorem Lv : zer K.P 23 = some (am SessionPlan.z) := by kernel_rfl
theorem KA : zer K.P 25 = some [.v (.slice none 0 0)] := by kernel_rfl
theorem Km : zer K.P 27 = some (aA SessionResult.z cz cz cz) := by kernel_rfl
theorem K6 : zer K.P 28 = some [.v (.int .i64 0)] := by kernel_rfl
theorem ze3 : zer K.P 3 = some [.v (.int .i64 0)] := by kernel_rfl
theorem ze4 : zer K.P 4 = some [.v (.bool false)] := by kernel_rfl
theorem Mc : zer K.P 45 = some (av Sender.z cz) := by kernel_rfl
theorem K5 : zer K.P 49 = some (aU Window.z) := by kernel_rfl
theorem ze5 : zer K.P 5 = some [.v (.int .u8 0)] := by kernel_rfl
theorem LY : zer K.P 51 = some (aB Reorder.z cz) := by kernel_rfl
theorem Lk : zer K.P 55 = some (ae Session_session.z cz cz (.v .nilFunc) cz cz cz) := by kernel_rfl
theorem K4 : zer K.P 63 = some (bq BlockAsk.z) := by kernel_rfl
theorem L0 : zer K.P 68 = some (bf BlockAnswer.z) := by kernel_rfl
theorem Ll : zer K.P 79 = some [.v (.slice none 0 0)] := by kernel_rfl
theorem LH : zer K.P 92 = some (bm Frame.z cz) := by kernel_rfl
theorem Kr : zer K.P 94 = some (bh Unacked.z cz) := by kernel_rfl
attribute [go_sem] Jq Kv Mr KB Le ag3 Ku KM ag4 Lw Md KD LG KJ ag5 Lg Kn Lh L9 LI La Ky KZ KX J2 LT KF KQ Ml Ln KP LC K3 LB Lt J1 Mg by3 by4 by5 K8 KU Lx Mu KN Kl J4 LS KT Kt E7 E2 GM Ht Hd GD H8 Gq Gx G3 Gl Gp IP IB Gw GP IY Gz IF Im Ja HD GF Gs IU Is GT GL Gj GG Io Ih GC Ib GK Ir I0 IV H6 HA Ho Hp GZ E4 Ff Il Ip Hk HY Gm Jd Hl Kh in3 LO Mb Gf Ms Kz LL Ko sz3 Lq Lp sz4 Li Kw Mh Kp L4 sz5 Mi Kx LF KR Mk LX Ly Kq Kk JD K7 un3 Mq L1 KY KE LR LJ Ld JN Lv KA Km K6 ze3 ze4 Mc K5 ze5 LY Lk K4 L0 Ll LH Kr
theorem mixed : K.P.follows .mixedOrders = true := by kernel_rfl
theorem hC : COk K := ⟨FP.of_tab (tab := tab) rfl (by kernel_rfl), mixed⟩
theorem rs9 : Try.f9.results = #[.cell 0 23] := rfl
theorem LQ : Try.f16.results = #[.tmp 6] := rfl
theorem J5 : Try.f11.results = #[.tmp 2] := rfl
theorem KG : Try.f40.results = #[.tmp 6] := rfl
theorem JE : Try.f48.results = #[.tmp 2] := rfl
theorem LU : Try.f43.results = #[.tmp 4] := rfl
theorem Fz : Try.f39.results = #[.tmp 2] := rfl
theorem JH : Try.f23.results = #[.cell 8 45, .tmp 9] := rfl
theorem JO : Try.f24.results = #[] := rfl
theorem Lr : Try.f60.results = #[.cell 2 92] := rfl
theorem Lz : Try.f41.results = #[.cell 2 45] := rfl
theorem FC : Try.f25.results = #[.cell 4 63, .cell 5 45, .tmp 6] := rfl
theorem CW : Try.f26.results = #[.cell 4 45, .tmp 5] := rfl
theorem L3 : Try.f61.results = #[.tmp 2] := rfl
theorem LZ : Try.f72.results = #[.tmp 2] := rfl
theorem JJ : Try.f62.results = #[.tmp 2] := rfl
theorem LP : Try.f55.results = #[.tmp 2] := rfl
theorem GB : Try.f42.results = #[.tmp 2] := rfl
theorem Ke : Try.f27.results = #[.cell 6 51, .tmp 7] := rfl
theorem Mo : Try.f18.results = #[] := rfl
theorem Jr : Try.f28.results = #[.tmp 2, .cell 3 45, .tmp 4] := rfl
theorem LA : Try.f29.results = #[.tmp 4] := rfl
theorem KS : Try.f56.results = #[.tmp 2] := rfl
theorem L5 : Try.f75.results = #[.tmp 5] := rfl
theorem Jp : Try.f74.results = #[.tmp 6, .tmp 7] := rfl
theorem Ls : Try.f65.results = #[.tmp 4, .tmp 5] := rfl
theorem Lc : Try.f59.results = #[.tmp 4] := rfl
theorem Me : Try.f58.results = #[.tmp 4, .cell 5 51] := rfl
theorem FH : Try.f44.results = #[.tmp 4, .cell 5 51, .tmp 6] := rfl
theorem KI : Try.f38.results = #[] := rfl
theorem Lj : Try.f30.results = #[] := rfl
theorem KV : Try.f19.results = #[] := rfl
theorem EZ : Try.f45.results = #[.cell 4 45, .tmp 5] := rfl
theorem L8 : Try.f47.results = #[.tmp 4] := rfl
theorem F1 : Try.f64.results = #[.tmp 4] := rfl
theorem FX : Try.f73.results = #[.tmp 4] := rfl
theorem Ez : Try.f63.results = #[.tmp 4] := rfl
theorem JI : Try.f46.results = #[.cell 4 25] := rfl
theorem JZ : Try.f31.results = #[.tmp 4, .cell 5 45, .tmp 6] := rfl
theorem Jt : Try.f17.results = #[.tmp 1] := rfl
theorem Jn : Try.f32.results = #[.tmp 2] := rfl
theorem Gr : Try.f33.results = #[.cell 2 45, .tmp 3] := rfl
theorem FW : Try.f49.results = #[.cell 6 92, .cell 7 45, .tmp 8] := rfl
theorem JT : Try.f34.results = #[] := rfl
theorem J9 : Try.f50.results = #[.tmp 4, .cell 5 45, .tmp 6] := rfl
theorem ID : Try.f80.results = #[.tmp 4] := rfl
theorem G6 : Try.f76.results = #[.cell 4 49, .tmp 5] := rfl
theorem HH : Try.f77.results = #[.cell 4 49, .tmp 5] := rfl
theorem Ji : Try.f66.results = #[.cell 4 49] := rfl
theorem Em : Try.f67.results = #[.tmp 6] := rfl
theorem Et : Try.f51.results = #[.tmp 6, .cell 7 51, .tmp 8] := rfl
theorem Ma : Try.f35.results = #[.tmp 4] := rfl
theorem KW : Try.f68.results = #[] := rfl
theorem JF : Try.f52.results = #[.cell 2 45, .tmp 3] := rfl
theorem JL : Try.f53.results = #[.cell 2 49, .tmp 3] := rfl
theorem J7 : Try.f70.results = #[.tmp 4] := rfl
theorem LV : Try.f69.results = #[.tmp 3] := rfl
theorem J8 : Try.f54.results = #[.tmp 4, .cell 5 45, .tmp 6] := rfl
theorem Ju : Try.f36.results = #[] := rfl
theorem Jv : Try.f37.results = #[.cell 4 79, .cell 5 51, .cell 6 28] := rfl
theorem JK : Try.f20.results = #[] := rfl
theorem Ew : Try.f10.results = #[.cell 6 27, .tmp 7] := rfl
theorem I8 : Try.f22.results = #[.tmp 4] := rfl
theorem LK : Try.f21.results = #[.tmp 8, .tmp 9] := rfl
theorem Mn : Try.f12.results = #[.tmp 0] := rfl
theorem KC : Try.f13.results = #[.tmp 4] := rfl
theorem LD : Try.f15.results = #[.tmp 2] := rfl
theorem rs7 : Try.f7.results = #[.tmp 8] := rfl
end Go.AX.Z.TN

/-! (TNI) -/

set_option linter.unusedSimpArgs false
set_option linter.unusedVariables false
set_option maxHeartbeats 1000000
namespace Go.AX.Z.TN
open Go.AX Go.Proofs

/-- What slices.Backward hands out. -/
def rk (l : List HeldSeq) : List (List AV) := (List.range l.length).map fun i => [vi ((l.length - 1 - i : Nat) : Int), match l[l.length - 1 - i]? with | some x => .agg (ai x) | none => .unk]
theorem sx (l : List HeldSeq) : (rk l).length = l.length := by simp [rk]
theorem xb {l : List HeldSeq} {k i : Nat} {x : HeldSeq} (hk : k + i + 1 = l.length) (hx : l[i]? = some x) : (rk l)[k]? = some [vi (i : Int), .agg (ai x)] := by
 have e : l.length - 1 - k = i := by omega
 have h : (List.range l.length)[k]? = some k := by rw [List.getElem?_range (by omega)]
 unfold rk
 rw [List.getElem?_map, h]
 simp only [Option.map_some, e, hx]
theorem xg {l : List HeldSeq} {k : Nat} {x : List AV} (h : (rk l)[k]? = some x) : ∃ i e, k + i + 1 = l.length ∧ l[i]? = some e ∧ x = [vi (i : Int), .agg (ai e)] := by
 have hk : k < l.length := by rw [← sx l]; exact (List.getElem?_eq_some_iff.1 h).1
 have hi : l.length - 1 - k < l.length := by omega
 have := xb (k := k) (i := l.length - 1 - k) (by omega) (List.getElem?_eq_getElem hi)
 rw [h] at this
 cases this
 exact ⟨_, _, by omega, List.getElem?_eq_getElem hi, rfl⟩

def tB (y : Value) (q : Nat) : Nat → AV := upd (upd (fun _ => .unk) 1 (.ptr q 0)) 0 (.v y)

theorem BC (l : List HeldSeq) (hL : l.length < 4611686018427387904) (p q : Nat) : Js K 71 [.ptr p 0] (fun hs => hs.objs p = .live [.ref q 0 l.length 42] ∧ hs.objs q = .live (List.flatMap ai l)) (rk l) := by
 intro lo lb ρ0 V0 J Jx hlb hJ hJx hJc hJxc hy ρ V hs W h0
 have hAb : ∀ i, Abides K (J i) := fun i => ⟨fun ρ V hs W h => ⟨(hJ i ρ V hs W h).2.1, (hJ i ρ V hs W h).2.2.1⟩, hJc i⟩
 have hAx : Abides K Jx := ⟨hJx, hJxc⟩
 obtain ⟨loc, hloc, rfl⟩ : ∃ loc, ρ0 p = some loc ∧ lb = #[.pointer (some ⟨loc.b, loc.base + 0, none⟩)] := by
  obtain ⟨e1, e2⟩ := hlb
  obtain ⟨lb⟩ := lb
  match lb, e1, e2 with
  | [y], _, e2 =>
   have := e2 0 _ y rfl rfl
   cases this with
   | ptr _ _ loc h => exact ⟨loc, h, rfl⟩
 obtain ⟨Y, hY⟩ : ∃ Y, Value.func (.yield lo) #[] #[] = Y := ⟨_, rfl⟩
 refine callsIn_of_wp (fn := Try.f71) Try.func71 rfl trivial ?_ rfl
 have hst0 := StJ.start (N := Try.f71.ntmps) (t := tB Y p) (J := J 0) (args := #[.func (.yield lo) #[] #[]] ++ #[.pointer (some ⟨loc.b, loc.base + 0, none⟩)]) (by show 2 ≤ 19; decide) h0 (fun i y hy => by
  match i, hy with
  | 0, hy => cases hy; rw [hY]; exact .v _
  | 1, hy => cases hy; exact .ptr p 0 loc ((hJ 0 _ _ _ _ h0).1.rho _ _ hloc)) (fun i hi => by
  have hi : 2 ≤ i := hi
  unfold tB
  rw [ba _ _ (by omega), ba _ _ (by omega)])
 have hRd : ∀ i ρ V hs W, J i ρ V hs W → hs.objs p = .live [.ref q 0 l.length 42] ∧ hs.objs q = .live (List.flatMap ai l) := fun i ρ V hs W h => (hJ i ρ V hs W h).2.2.2
 refine wpIn_seq ?_
 obtain ⟨r1, r2⟩ := hRd _ _ _ _ _ hst0.j
 refine nY hC (hAb 0) (by decide +kernel) (by decide +kernel) (K := fun t => t 0 = .v Y ∧ t 1 = .ptr p 0 ∧ t 3 = vi ((l.length : Int) - 1)) hst0 ?_ ?_
 ·
  unfold tB
  simp only [go_sem, Nat.reduceEqDiff, reduceIte, Nat.reduceAdd, Nat.reduceMul, Nat.reduceSub, Nat.reduceLT, Nat.reduceLeDiff, Int.reduceToNat, Int.reduceBEq, Int.reduceBNe, Int.reduceLT, Int.reduceLE, Int.reduceAdd, Int.reduceSub, Int.reduceMul, Int.reduceNeg, Int.reduceEq, Int.reduceNe, r1, lX (show -4611686018427387904 ≤ (l.length : Int) - 1 by omega) (show (l.length : Int) - 1 < 4611686018427387904 by omega)]
  try exact ⟨rfl, rfl, rfl, rfl⟩
 intro ρ1 V1 hs1 a1 W1 t1 ⟨e0, e1, e3⟩ _ hst1
 refine wpIn_block ?_
 refine wpIn_loop (I := fun a w => ∃ (k c : Nat) (ρ : Rho) (V : br) (hs : HS) (t : Nat → AV), k + c = l.length ∧ t 0 = .v Y ∧ t 1 = .ptr p 0 ∧ t 3 = vi ((c : Int) - 1) ∧ StJ Try.f71.ntmps t (J k) ρ V hs a w)
  (fun a _ => (match a.tmps.getD 3 undef with | .int _ n => (n + 1).toNat | _ => 0)) ⟨0, l.length, ρ1, V1, hs1, t1, by omega, e0, e1, e3, hst1⟩ ?_
 rintro a w ⟨k, c, ρ2, V2, hs2, t2, hk, e0, e1, e3, hst2⟩
 have hk3 : a.tmps.getD 3 undef = .int .i64 ((c : Int) - 1) := by
  have := hst2.tm 3
  rw [e3] at this
  exact Rel.v_inv this
 refine wpIn_seq ?_
 refine wpIn_seq ?_
 refine nY hC (hAb _) (by decide +kernel) (by decide +kernel) (K := fun t => t 0 = .v Y ∧ t 1 = .ptr p 0 ∧ t 3 = vi ((c : Int) - 1) ∧ t 8 = vb (decide (0 ≤ (c : Int) - 1))) hst2 ?_ ?_
 ·
  simp only [go_sem, Nat.reduceEqDiff, reduceIte, Nat.reduceAdd, Nat.reduceMul, Nat.reduceSub, Nat.reduceLT, Nat.reduceLeDiff, Int.reduceToNat, Int.reduceBEq, Int.reduceBNe, Int.reduceLT, Int.reduceLE, Int.reduceAdd, Int.reduceSub, Int.reduceMul, Int.reduceNeg, Int.reduceEq, Int.reduceNe, e0, e1, e3]
  try exact ⟨rfl, rfl, rfl, rfl, rfl⟩
 intro ρ3 V3 hs3 a3 W3 t3 ⟨e0, e1, e3, e8⟩ _ hst3
 have hc8 : a3.eval (.tmp 8) = .bool (decide (0 ≤ (c : Int) - 1)) := by
  have := jo (C := K) (s := { toHS := hs3, tmps := t3 }) hst3.tm ((hAb _).inv _ _ _ _ hst3.j).2 (.tmp 8)
  rw [show ev K { toHS := hs3, tmps := t3 } (.tmp 8) = t3 8 from rfl, e8] at this
  exact Rel.v_inv this
 refine wpIn_cond_split hc8 (fun hlt => ?_) (fun hge => ?_)
 ·
  obtain ⟨i, rfl⟩ : ∃ i, c = i + 1 := ⟨c - 1, by have := of_decide_eq_true hlt; omega⟩
  have e3 : t3 3 = vi (i : Int) := by rw [e3]; congr 2; omega
  have hil : i < l.length := by omega
  obtain ⟨x, hx⟩ : ∃ x, l[i]? = some x := ⟨_, List.getElem?_eq_getElem hil⟩
  refine wpIn_skip ?_
  refine wpIn_seq ?_
  refine wpIn_block ?_
  refine wpIn_seq ?_
  obtain ⟨r1, r2⟩ := hRd _ _ _ _ _ hst3.j
  obtain ⟨f0, f1, f2, f3⟩ := cy (show idx l (i : Int) = some x by rw [mi]; exact hx)
  rw [Int.toNat_natCast] at f2
  refine AD hC (hAb _) (hAb (k + 1)) hAx (by decide +kernel) (by decide +kernel) 6 _ rfl (l := lo) rfl rfl rfl (x := [vi (i : Int), .agg (ai x)]) (b := true) hst3
   (K1 := fun t => t 0 = .v Y ∧ t 1 = .ptr p 0 ∧ t 3 = vi (i : Int) ∧ t 11 = .v Y ∧ t 12 = vi (i : Int) ∧ t 16 = .agg (ai x))
   (K2 := fun r t => t 0 = .v Y ∧ t 1 = .ptr p 0 ∧ t 3 = vi (i : Int) ∧ t 18 = vb (match r with | some false => true | _ => false)) ?_ ?_ ?_ ?_ ?_ ?_ ?_ ?_
  ·
   simp only [go_sem, Nat.reduceEqDiff, reduceIte, Nat.reduceAdd, Nat.reduceMul, Nat.reduceSub, Nat.reduceLT, Nat.reduceLeDiff, Int.reduceToNat, Int.reduceBEq, Int.reduceBNe, Int.reduceLT, Int.reduceLE, Int.reduceAdd, Int.reduceSub, Int.reduceMul, Int.reduceNeg, Int.reduceEq, Int.reduceNe, e0, e1, e3, r1, r2, f0, f1, f2, Int.toNat_natCast]
   try exact ⟨rfl, rfl, rfl, rfl, rfl, rfl⟩
  ·
   rintro t1 _
   exact .inl ⟨rfl, rfl⟩
  ·
   rintro _ t1 hs' ⟨_, _, _, h11, h12, h16⟩
   exact ⟨by rw [hY]; exact h11, by show [t1 12, t1 16] = _; rw [h12, h16]⟩
  ·
   intro _ ρ' V' hs' W' args' _ hj hargs
   exact hy _ _ _ _ _ _ _ hj (xb (by omega) hx) hargs
  ·
   rintro r t1 hs' ⟨e0, e1, e3, _⟩ hr
   cases r with
   | none => cases hr
   | some r =>
    cases r <;> simp only [go_sem, Nat.reduceEqDiff, reduceIte, Nat.reduceAdd, Nat.reduceMul, Nat.reduceSub, Nat.reduceLT, Nat.reduceLeDiff, Int.reduceToNat, Int.reduceBEq, Int.reduceBNe, Int.reduceLT, Int.reduceLE, Int.reduceAdd, Int.reduceSub, Int.reduceMul, Int.reduceNeg, Int.reduceEq, Int.reduceNe, e0, e1, e3] <;> first | rfl | exact ⟨rfl, rfl, rfl, rfl, rfl⟩
  ·
   intro h; cases h
  ·
   rintro _ ρ5 V5 hs5 a5 W5 t5 ⟨e0, e1, e3, e18⟩ _ hst5
   have hc : a5.eval (.tmp 18) = .bool false := by
    have := jo (C := K) (s := { toHS := hs5, tmps := t5 }) hst5.tm ((hAb _).inv _ _ _ _ hst5.j).2 (.tmp 18)
    rw [show ev K { toHS := hs5, tmps := t5 } (.tmp 18) = t5 18 from rfl, e18] at this
    exact Rel.v_inv this
   refine wpIn_cond_false hc (wpIn_skip ?_)
   refine nY hC (hAb _) (by decide +kernel) (by decide +kernel) (K := fun t => t 0 = .v Y ∧ t 1 = .ptr p 0 ∧ t 3 = vi ((i : Int) - 1)) hst5 ?_ ?_
   ·
    simp only [go_sem, Nat.reduceEqDiff, reduceIte, Nat.reduceAdd, Nat.reduceMul, Nat.reduceSub, Nat.reduceLT, Nat.reduceLeDiff, Int.reduceToNat, Int.reduceBEq, Int.reduceBNe, Int.reduceLT, Int.reduceLE, Int.reduceAdd, Int.reduceSub, Int.reduceMul, Int.reduceNeg, Int.reduceEq, Int.reduceNe, e0, e1, e3, lX (show -4611686018427387904 ≤ (i : Int) - 1 by omega) (show (i : Int) - 1 < 4611686018427387904 by omega)]
    try exact ⟨rfl, rfl, rfl, rfl⟩
   rintro ρ6 V6 hs6 a6 W6 t6 ⟨e0, e1, e3⟩ _ hst6
   refine ⟨⟨k + 1, i, ρ6, V6, hs6, t6, by omega, e0, e1, e3, hst6⟩, ?_⟩
   have h3 : a6.tmps.getD 3 undef = .int .i64 ((i : Int) - 1) := by
    have := hst6.tm 3
    rw [e3] at this
    exact Rel.v_inv this
   show (match a6.tmps.getD 3 undef with | .int _ n => (n + 1).toNat | _ => 0) < (match a.tmps.getD 3 undef with | .int _ n => (n + 1).toNat | _ => 0)
   rw [h3, hk3]
   show ((i : Int) - 1 + 1).toNat < (((i + 1 : Nat) : Int) - 1 + 1).toNat
   omega
  ·
   rintro _ ρ5 V5 hs5 a5 W5 t5 ⟨e0, e1, e3, e18⟩ _ hst5
   have hc : a5.eval (.tmp 18) = .bool true := by
    have := jo (C := K) (s := { toHS := hs5, tmps := t5 }) hst5.tm (hAx.inv _ _ _ _ hst5.j).2 (.tmp 18)
    rw [show ev K { toHS := hs5, tmps := t5 } (.tmp 18) = t5 18 from rfl, e18] at this
    exact Rel.v_inv this
   refine wpIn_cond_true hc (wpIn_ret ?_)
   exact zH (R := fun e W' => (∃ v, e = .returned v) ∧ ∃ ρ' V' hs', J (rk l).length ρ' V' hs' W' ∨ Jx ρ' V' hs' W') hst5 rfl (fun v h => ⟨⟨v, rfl⟩, _, _, _, .inr h⟩)
 ·
  have hc0 : c = 0 := by have := of_decide_eq_false hge; omega
  subst hc0
  refine wpIn_exit ?_
  exact zH (R := fun e W' => (∃ v, e = .returned v) ∧ ∃ ρ' V' hs', J (rk l).length ρ' V' hs' W' ∨ Jx ρ' V' hs' W') hst3 rfl (fun v h => ⟨⟨v, rfl⟩, _, _, _, .inl (by rw [sx, ← hk]; exact h)⟩)

theorem Cn (n q : Nat) (hs : HS) : Snd K 57 [.ref q 0 n 42] hs (fun r hs' => r = .clo 71 [] [.ptr hs.next 0] ∧ hs'.objs = upd hs.objs hs.next (.live [.ref q 0 n 42]) ∧ hs.next < hs'.next) := by
 obtain ⟨objs, nx⟩ := hs
 refine vR hC (fn := Try.f57) Try.func57 rfl rfl (by decide +kernel) (Nat.le_of_ble_eq_true rfl) ?_
 refine rX fun KK hKK => ?_
 refine ap ?_
 simp only [gG, List.getD_cons_zero, go_sem, Nat.reduceEqDiff, reduceIte, Nat.reduceAdd]
 refine hKK _ ?_; clear hKK KK
 refine rX fun KK hKK => ?_
 refine ap ?_
 simp only [go_sem, Nat.reduceEqDiff, reduceIte, Nat.reduceAdd]
 refine hKK _ ?_; clear hKK KK
 refine aM ?_
 refine ax (fn := Try.f57) (rs := #[.tmp 2]) rfl (by simp only [go_sem, sG, kI, ry, vU, Nat.reduceEqDiff, reduceIte, Nat.reduceAdd]; rfl) ?_
 exact ⟨rfl, rfl, by show nx < nx + 2 + 2; omega⟩

end Go.AX.Z.TN
