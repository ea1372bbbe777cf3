/- A part of the proof: the types, the facts of the program and the functions, read plainly. -/
import Derived.Test.YtpjogfcpmcbafaaCorec
import Derived.Test.YtpjogfcpmcbafaaProg
import Derived.KernelRfl
set_option linter.unusedVariables false
set_option linter.unusedSimpArgs false

/-! (TNS) -/

set_option linter.unusedSimpArgs false
set_option linter.unusedVariables false
namespace Go.AX.Z.TN
open Go.AX
structure SessionPlan where
 Start : Int
 Size : Int
 Limit : Int
 Life : Int
 Hold : Int
 Burst : Int
 Round : Int
 deriving DecidableEq

def SessionPlan.z : SessionPlan := ⟨0, 0, 0, 0, 0, 0, 0⟩

def am (x : SessionPlan) : List AV := [vi x.Start, vi x.Size, vi x.Limit, vi x.Life, vi x.Hold, vi x.Burst, vi x.Round]

theorem rC (x : SessionPlan) : (am x).length = 7 := by rfl
theorem q9 (x : SessionPlan) : cd (am x) 0 7 = some (am x) := by rfl
theorem qZ (x : SessionPlan) : (am x).take 7 = (am x) := by rfl
theorem rr (x : SessionPlan) (y : SessionPlan) : ct (am x) 0 (am y) = am y := by rfl
theorem nS (x : SessionPlan) : (am x)[0]? = some (vi x.Start) := by rfl
theorem nG (x : SessionPlan) (v : Int) : (am x).set 0 (vi v) = am { x with Start := v } := by rfl
theorem nU (x : SessionPlan) : (am x)[1]? = some (vi x.Size) := by rfl
theorem pg (x : SessionPlan) (v : Int) : (am x).set 1 (vi v) = am { x with Size := v } := by rfl
theorem nR (x : SessionPlan) : (am x)[2]? = some (vi x.Limit) := by rfl
theorem nH (x : SessionPlan) (v : Int) : (am x).set 2 (vi v) = am { x with Limit := v } := by rfl
theorem oz (x : SessionPlan) : (am x)[3]? = some (vi x.Life) := by rfl
theorem pk (x : SessionPlan) (v : Int) : (am x).set 3 (vi v) = am { x with Life := v } := by rfl
theorem pr (x : SessionPlan) : (am x)[4]? = some (vi x.Hold) := by rfl
theorem nX (x : SessionPlan) (v : Int) : (am x).set 4 (vi v) = am { x with Hold := v } := by rfl
theorem nI (x : SessionPlan) : (am x)[5]? = some (vi x.Burst) := by rfl
theorem nD (x : SessionPlan) (v : Int) : (am x).set 5 (vi v) = am { x with Burst := v } := by rfl
theorem nB (x : SessionPlan) : (am x)[6]? = some (vi x.Round) := by rfl
theorem nK (x : SessionPlan) (v : Int) : (am x).set 6 (vi v) = am { x with Round := v } := by rfl
theorem lX (x : SessionPlan) (o : Nat → Ob) (n : Nat) : (am x).map (fz o (n + 1)) = am x := by rfl
theorem kd (x : SessionPlan) (o : Nat → Ob) (n : Nat) : (am x).flatMap (bc o (n + 1)) = [] := by
 simp only [am, List.cons_append, List.nil_append, List.append_nil, List.flatMap_cons, List.flatMap_nil, fc]
theorem bS (x : SessionPlan) : ∀ c ∈ (am x), aw c := by
 simp only [am, List.cons_append, List.nil_append]
 repeat' (first | exact aw.v _ | assumption | exact List.forall_mem_nil _ | refine List.forall_mem_cons.2 ⟨?_, ?_⟩)
theorem qa (x : SessionPlan) (o : Nat → Ob) (n : Nat) : (am x).map (fz o (n + 1)) = am x := by simp only [lX]
theorem pR (x : SessionPlan) (o : Nat → Ob) (n : Nat) : (am x).flatMap (bc o (n + 1)) = [] := by simp only [kd, List.append_nil]
attribute [go_sem] rC q9 qZ rr nS nG nU pg nR nH oz pk pr nX nI nD nB nK lX kd qa pR

structure SessionResult where
 Delivered : (List Int)
 Acked : (List Int)
 Dropped : (List Int)
 Rounds : Int
 deriving DecidableEq

def SessionResult.z : SessionResult := ⟨[], [], [], 0⟩

def aA (x : SessionResult) (s0 : AV) (s1 : AV) (s2 : AV) : List AV := [s0, s1, s2, vi x.Rounds]

theorem pI (x : SessionResult) (s0 : AV) (s1 : AV) (s2 : AV) : (aA x s0 s1 s2).length = 4 := by rfl
theorem pM (x : SessionResult) (s0 : AV) (s1 : AV) (s2 : AV) : cd (aA x s0 s1 s2) 0 4 = some (aA x s0 s1 s2) := by rfl
theorem ot (x : SessionResult) (s0 : AV) (s1 : AV) (s2 : AV) : (aA x s0 s1 s2).take 4 = (aA x s0 s1 s2) := by rfl
theorem pO (x : SessionResult) (s0 : AV) (s1 : AV) (s2 : AV) (y : SessionResult) (s02 : AV) (s12 : AV) (s22 : AV) : ct (aA x s0 s1 s2) 0 (aA y s02 s12 s22) = aA y s02 s12 s22 := by rfl
theorem ko (x : SessionResult) (s0 : AV) (s1 : AV) (s2 : AV) : (aA x s0 s1 s2)[0]? = some s0 := by rfl
theorem kf (x : SessionResult) (s0 : AV) (s1 : AV) (s2 : AV) (v : AV) : (aA x s0 s1 s2).set 0 v = aA x v s1 s2 := by rfl
theorem mj (x : SessionResult) (s0 : AV) (s1 : AV) (s2 : AV) : (aA x s0 s1 s2)[1]? = some s1 := by rfl
theorem l8 (x : SessionResult) (s0 : AV) (s1 : AV) (s2 : AV) (v : AV) : (aA x s0 s1 s2).set 1 v = aA x s0 v s2 := by rfl
theorem kY (x : SessionResult) (s0 : AV) (s1 : AV) (s2 : AV) : (aA x s0 s1 s2)[2]? = some s2 := by rfl
theorem kZ (x : SessionResult) (s0 : AV) (s1 : AV) (s2 : AV) (v : AV) : (aA x s0 s1 s2).set 2 v = aA x s0 s1 v := by rfl
theorem lF (x : SessionResult) (s0 : AV) (s1 : AV) (s2 : AV) : (aA x s0 s1 s2)[3]? = some (vi x.Rounds) := by rfl
theorem lA (x : SessionResult) (s0 : AV) (s1 : AV) (s2 : AV) (v : Int) : (aA x s0 s1 s2).set 3 (vi v) = aA { x with Rounds := v } s0 s1 s2 := by rfl
theorem kz (x : SessionResult) (s0 : AV) (s1 : AV) (s2 : AV) (o : Nat → Ob) (n : Nat) : (aA x s0 s1 s2).map (fz o (n + 1)) = aA x (fz o (n + 1) s0) (fz o (n + 1) s1) (fz o (n + 1) s2) := by rfl
theorem i9 (x : SessionResult) (s0 : AV) (s1 : AV) (s2 : AV) (o : Nat → Ob) (n : Nat) : (aA x s0 s1 s2).flatMap (bc o (n + 1)) = bc o (n + 1) s0 ++ (bc o (n + 1) s1 ++ bc o (n + 1) s2) := by
 simp only [aA, List.cons_append, List.nil_append, List.append_nil, List.flatMap_cons, List.flatMap_nil, fc]
theorem nQ (x : SessionResult) (s0 : AV) (s1 : AV) (s2 : AV) (h_s0 : aw s0) (h_s1 : aw s1) (h_s2 : aw s2) : ∀ c ∈ (aA x s0 s1 s2), aw c := by
 simp only [aA, List.cons_append, List.nil_append]
 repeat' (first | exact aw.v _ | assumption | exact List.forall_mem_nil _ | refine List.forall_mem_cons.2 ⟨?_, ?_⟩)
theorem qk {st : AS} {F : List Nat} {σ : List (Option Nat)} (x : SessionResult) (s0 : AV) (s1 : AV) (s2 : AV) (s02 : AV) (s12 : AV) (s22 : AV) (h_s0 : Tm st F σ s0 s02) (h_s1 : Tm st F σ s1 s12) (h_s2 : Tm st F σ s2 s22) : TmL st F σ (aA x s0 s1 s2) (aA x s02 s12 s22) := by
 simp only [aA, List.cons_append, List.nil_append]
 repeat' (first | exact TmL.nil | (refine TmL.cons (Tm.v _) ?_) | (refine TmL.cons (by assumption) ?_))
theorem bx {st : AS} {F : List Nat} {σ : List (Option Nat)} {x y : SessionResult} {s0 s1 s2 s02 s12 s22 : AV} (hxy : aA y s02 s12 s22 = aA x s02 s12 s22) (h_s0 : Tm st F σ s0 s02) (h_s1 : Tm st F σ s1 s12) (h_s2 : Tm st F σ s2 s22) : TmL st F σ (aA x s0 s1 s2) (aA y s02 s12 s22) := by
 rw [hxy]; exact qk x s0 s1 s2 s02 s12 s22 h_s0 h_s1 h_s2
theorem pJ (x : SessionResult) {s0 s1 s2 : (Nat → Nat) → AV} (h_s0 : aE s0) (h_s1 : aE s1) (h_s2 : aE s2) : RenML fun q => aA x (s0 q) (s1 q) (s2 q) := by
 simp only [aA, List.cons_append, List.nil_append]
 repeat' (first | exact RenML.nil | (refine RenML.cons (aE.const (aw.v _)) ?_) | (refine RenML.cons (by assumption) ?_))
def dM (x : SessionResult) : List AV := aA x (lM x.Delivered) (lM x.Acked) (lM x.Dropped)
theorem iv (x : SessionResult) : dM x = aA x (lM x.Delivered) (lM x.Acked) (lM x.Dropped) := rfl
theorem fV (x : SessionResult) : ∀ c ∈ dM x, aw c := nQ x _ _ _ (dj _) (dj _) (dj _)
theorem tJ (x : SessionResult) (o : Nat → Ob) (n : Nat) : (dM x).map (fz o (n + 2)) = dM x := by simp only [iv, kz, xP, xP, xP]
theorem tC (x : SessionResult) (o : Nat → Ob) (n : Nat) : (dM x).flatMap (bc o (n + 2)) = [] := by simp only [iv, i9, yo, yo, yo, List.append_nil]
attribute [go_sem] pI pM ot pO ko kf mj l8 kY kZ lF lA kz i9 iv tJ tC

def jA (l : List SessionPlan) : AV := .imm (List.flatMap am l) l.length
theorem jv (l : List SessionPlan) : jA l = .imm (List.flatMap am l) l.length := rfl
theorem bY (x : SessionPlan) : (am x).length = 7 := by rfl
theorem rD (l : List SessionPlan) : (l.flatMap am).length = l.length * 7 := eP bY l
theorem rR (l : List SessionPlan) (i o : Nat) (ho : o < 7) : (l.flatMap am)[i * 7 + o]? = l[i]?.bind fun a => (am a)[o]? := iS bY l i o ho
theorem qy (l : List SessionPlan) (i : Nat) : (l.flatMap am)[i * 7]? = l[i]?.bind fun a => (am a)[0]? := iS bY l i 0 (by decide)
theorem rX (l : List SessionPlan) (i o n : Nat) (ho : o + n ≤ 7) (hn : 0 < n) : cd (l.flatMap am) (i * 7 + o) n = l[i]?.bind fun a => cd (am a) o n := iR bY l i o n ho hn
theorem qf (l : List SessionPlan) (i n : Nat) (ho : n ≤ 7) (hn : 0 < n) : cd (l.flatMap am) (i * 7) n = l[i]?.bind fun a => cd (am a) 0 n := iR bY l i 0 n (by omega) hn
theorem ql (l : List SessionPlan) : cd (l.flatMap am) 0 (l.length * 7) = some (l.flatMap am) := pB bY l
theorem qr (l : List SessionPlan) (n : Nat) : (l.flatMap am).take (n * 7) = (l.take n).flatMap am := iE bY l n
theorem qj (l : List SessionPlan) (n : Nat) : (l.flatMap am).drop (n * 7) = (l.drop n).flatMap am := jw bY l n
theorem mb (l : List SessionPlan) (o : Nat → Ob) (n : Nat) : (l.flatMap am).map (fz o (n + 1)) = (l.flatMap am) := ub (fun a => qa a o n) l
theorem lm (l : List SessionPlan) (o : Nat → Ob) (n : Nat) : (l.flatMap am).flatMap (bc o (n + 1)) = [] := mU (fun a => pR a o n) l
theorem nL (l : List SessionPlan) (i : Nat) (v : Int) : (l.flatMap am).set (i * 7) (vi v) = (l.modify i (fun y => { y with Start := v })).flatMap am := dn bY l i 0 _ (fun y => { y with Start := v }) (by decide) (fun _ => by rfl)
theorem oo (l : List SessionPlan) (i : Nat) (v : Int) : (l.flatMap am).set (i * 7 + 1) (vi v) = (l.modify i (fun y => { y with Size := v })).flatMap am := dn bY l i 1 _ (fun y => { y with Size := v }) (by decide) (fun _ => by rfl)
theorem nN (l : List SessionPlan) (i : Nat) (v : Int) : (l.flatMap am).set (i * 7 + 2) (vi v) = (l.modify i (fun y => { y with Limit := v })).flatMap am := dn bY l i 2 _ (fun y => { y with Limit := v }) (by decide) (fun _ => by rfl)
theorem oS (l : List SessionPlan) (i : Nat) (v : Int) : (l.flatMap am).set (i * 7 + 3) (vi v) = (l.modify i (fun y => { y with Life := v })).flatMap am := dn bY l i 3 _ (fun y => { y with Life := v }) (by decide) (fun _ => by rfl)
theorem n6 (l : List SessionPlan) (i : Nat) (v : Int) : (l.flatMap am).set (i * 7 + 4) (vi v) = (l.modify i (fun y => { y with Hold := v })).flatMap am := dn bY l i 4 _ (fun y => { y with Hold := v }) (by decide) (fun _ => by rfl)
theorem nF (l : List SessionPlan) (i : Nat) (v : Int) : (l.flatMap am).set (i * 7 + 5) (vi v) = (l.modify i (fun y => { y with Burst := v })).flatMap am := dn bY l i 5 _ (fun y => { y with Burst := v }) (by decide) (fun _ => by rfl)
theorem nE (l : List SessionPlan) (i : Nat) (v : Int) : (l.flatMap am).set (i * 7 + 6) (vi v) = (l.modify i (fun y => { y with Round := v })).flatMap am := dn bY l i 6 _ (fun y => { y with Round := v }) (by decide) (fun _ => by rfl)
theorem rz (l : List SessionPlan) (i : Nat) (x : SessionPlan) : ct (l.flatMap am) (i * 7) (am x) = (l.set i x).flatMap am := rV bY (by decide) l i x
theorem rY (l : List SessionPlan) (x : SessionPlan) : (l.flatMap am) ++ am x = (l ++ [x]).flatMap am := by simp
theorem rm (l : List SessionPlan) (m : List SessionPlan) : (l.flatMap am) ++ m.flatMap am = (l ++ m).flatMap am := List.flatMap_append.symm
theorem tK (l : List SessionPlan) (o : Nat → Ob) (n : Nat) : fz o (n + 2) (jA l) = jA l := by simp only [jv, fz, mb]
theorem tU (l : List SessionPlan) (o : Nat → Ob) (n : Nat) : bc o (n + 2) (jA l) = [] := by simp only [jv, bc, lm]
attribute [go_sem] jv bY rD rR qy rX qf ql qr qj mb lm nL oo nN oS n6 nF nE rz rY rm tK tU

structure Addr where
 a0 : Int
 a1 : Int
 a2 : Int
 a3 : Int
 a4 : Int
 a5 : Int
 deriving DecidableEq

def Addr.z : Addr := ⟨0, 0, 0, 0, 0, 0⟩

def dy (x : Addr) : List AV := [vu x.a0, vu x.a1, vu x.a2, vu x.a3, vu x.a4, vu x.a5]

theorem Ar (x : Addr) : (dy x).length = 6 := by rfl
theorem AM (x : Addr) : cd (dy x) 0 6 = some (dy x) := by rfl
theorem Ab (x : Addr) : (dy x).take 6 = (dy x) := by rfl
theorem Az (x : Addr) (y : Addr) : ct (dy x) 0 (dy y) = dy y := by rfl
theorem xr (x : Addr) (o : Nat → Ob) (n : Nat) : (dy x).map (fz o (n + 1)) = dy x := by rfl
theorem rh (x : Addr) (o : Nat → Ob) (n : Nat) : (dy x).flatMap (bc o (n + 1)) = [] := by
 simp only [dy, List.cons_append, List.nil_append, List.append_nil, List.flatMap_cons, List.flatMap_nil, fc]
theorem Hz (x : Addr) (o : Nat → Ob) (n : Nat) : (dy x).map (fz o (n + 1)) = dy x := by simp only [xr]
theorem IN (x : Addr) (o : Nat → Ob) (n : Nat) : (dy x).flatMap (bc o (n + 1)) = [] := by simp only [rh, List.append_nil]
attribute [go_sem] Ar AM Ab Az xr rh Hz IN

structure Header where
 Kind : Int
 Sub : Int
 ToDs : Bool
 FromDs : Bool
 More : Bool
 Retry : Bool
 Sleep : Bool
 MoreData : Bool
 Protected : Bool
 Duration : Int
 A1 : Addr
 A2 : Addr
 A3 : Addr
 A4 : Addr
 Seq : Int
 Frag : Int
 Tid : Int
 Ack : Int
 Amsdu : Bool
 Eosp : Bool
 deriving DecidableEq

def Header.z : Header := ⟨0, 0, false, false, false, false, false, false, false, 0, Addr.z, Addr.z, Addr.z, Addr.z, 0, 0, 0, 0, false, false⟩

def cG (x : Header) : List AV := [vu x.Kind, vu x.Sub, vb x.ToDs, vb x.FromDs, vb x.More, vb x.Retry, vb x.Sleep, vb x.MoreData, vb x.Protected, vi x.Duration] ++ (dy x.A1) ++ (dy x.A2) ++ (dy x.A3) ++ (dy x.A4) ++ [vi x.Seq, vi x.Frag, vi x.Tid, vu x.Ack, vb x.Amsdu, vb x.Eosp]

theorem yM (x : Header) : (cG x).length = 40 := by rfl
theorem yq (x : Header) : cd (cG x) 0 40 = some (cG x) := by rfl
theorem wU (x : Header) : (cG x).take 40 = (cG x) := by rfl
theorem yC (x : Header) (y : Header) : ct (cG x) 0 (cG y) = cG y := by rfl
theorem tg (x : Header) (o : Nat → Ob) (n : Nat) : (cG x).map (fz o (n + 1)) = cG x := by rfl
theorem oZ (x : Header) (o : Nat → Ob) (n : Nat) : (cG x).flatMap (bc o (n + 1)) = [] := by
 simp only [cG, dy, List.cons_append, List.nil_append, List.append_nil, List.flatMap_cons, List.flatMap_nil, fc]
theorem C8 (x : Header) (o : Nat → Ob) (n : Nat) : (cG x).map (fz o (n + 1)) = cG x := by simp only [tg]
theorem DK (x : Header) (o : Nat → Ob) (n : Nat) : (cG x).flatMap (bc o (n + 1)) = [] := by simp only [oZ, List.append_nil]
attribute [go_sem] yM yq wU yC tg oZ C8 DK

structure Frame where
 Head : Header
 Body : (List Int)
 deriving DecidableEq

def Frame.z : Frame := ⟨Header.z, []⟩

def bm (x : Frame) (s0 : AV) : List AV := (cG x.Head) ++ [s0]

theorem zS (x : Frame) (s0 : AV) : (bm x s0).length = 41 := by rfl
theorem zL (x : Frame) (s0 : AV) : cd (bm x s0) 0 41 = some (bm x s0) := by rfl
theorem xU (x : Frame) (s0 : AV) : (bm x s0).take 41 = (bm x s0) := by rfl
theorem zT (x : Frame) (s0 : AV) (y : Frame) (s02 : AV) : ct (bm x s0) 0 (bm y s02) = bm y s02 := by rfl
theorem nZ (x : Frame) (s0 : AV) (v : Bool) : (bm x s0).set 5 (vb v) = bm { x with Head.Retry := v } s0 := by rfl
theorem qm (x : Frame) (s0 : AV) : (bm x s0)[34]? = some (vi x.Head.Seq) := by rfl
theorem qK (x : Frame) (s0 : AV) (v : Int) : (bm x s0).set 34 (vi v) = bm { x with Head.Seq := v } s0 := by rfl
theorem qi (x : Frame) (s0 : AV) (v : Int) : (bm x s0).set 36 (vi v) = bm { x with Head.Tid := v } s0 := by rfl
theorem uP (x : Frame) (s0 : AV) : (bm x s0)[40]? = some s0 := by rfl
theorem uZ (x : Frame) (s0 : AV) (v : AV) : (bm x s0).set 40 v = bm x v := by rfl
theorem uv (x : Frame) (s0 : AV) (o : Nat → Ob) (n : Nat) : (bm x s0).map (fz o (n + 1)) = bm x (fz o (n + 1) s0) := by rfl
theorem pT (x : Frame) (s0 : AV) (o : Nat → Ob) (n : Nat) : (bm x s0).flatMap (bc o (n + 1)) = bc o (n + 1) s0 := by
 simp only [bm, cG, dy, List.cons_append, List.nil_append, List.append_nil, List.flatMap_cons, List.flatMap_nil, fc]
theorem wd (x : Frame) (s0 : AV) (h_s0 : aw s0) : ∀ c ∈ (bm x s0), aw c := by
 simp only [bm, cG, dy, List.cons_append, List.nil_append]
 repeat' (first | exact aw.v _ | assumption | exact List.forall_mem_nil _ | refine List.forall_mem_cons.2 ⟨?_, ?_⟩)
theorem A5 {st : AS} {F : List Nat} {σ : List (Option Nat)} (x : Frame) (s0 : AV) (s02 : AV) (h_s0 : Tm st F σ s0 s02) : TmL st F σ (bm x s0) (bm x s02) := by
 simp only [bm, cG, dy, List.cons_append, List.nil_append]
 repeat' (first | exact TmL.nil | (refine TmL.cons (Tm.v _) ?_) | (refine TmL.cons (by assumption) ?_))
theorem cX {st : AS} {F : List Nat} {σ : List (Option Nat)} {x y : Frame} {s0 s02 : AV} (hxy : bm y s02 = bm x s02) (h_s0 : Tm st F σ s0 s02) : TmL st F σ (bm x s0) (bm y s02) := by
 rw [hxy]; exact A5 x s0 s02 h_s0
def aY (x : Frame) : List AV := bm x (rH x.Body)
theorem qE (x : Frame) : aY x = bm x (rH x.Body) := rfl
theorem dx (x : Frame) : ∀ c ∈ aY x, aw c := wd x _ (qX _)
theorem BA (x : Frame) (o : Nat → Ob) (n : Nat) : (aY x).map (fz o (n + 2)) = aY x := by simp only [qE, uv, xY]
theorem Bf (x : Frame) (o : Nat → Ob) (n : Nat) : (aY x).flatMap (bc o (n + 2)) = [] := by simp only [qE, pT, y3, List.append_nil]
attribute [go_sem] zS zL xU zT nZ qm qK qi uP uZ uv pT qE BA Bf

structure Unacked where
 At : Int
 Tries : Int
 Flying : Bool
 Frame : Frame
 deriving DecidableEq

def Unacked.z : Unacked := ⟨0, 0, false, Frame.z⟩

def bh (x : Unacked) (s0 : AV) : List AV := [vi x.At, vi x.Tries, vb x.Flying] ++ (bm x.Frame s0)

theorem wC (x : Unacked) (s0 : AV) : (bh x s0).length = 44 := by rfl
theorem wH (x : Unacked) (s0 : AV) : cd (bh x s0) 0 44 = some (bh x s0) := by rfl
theorem um (x : Unacked) (s0 : AV) : (bh x s0).take 44 = (bh x s0) := by rfl
theorem wB (x : Unacked) (s0 : AV) (y : Unacked) (s02 : AV) : ct (bh x s0) 0 (bh y s02) = bh y s02 := by rfl
theorem vc (x : Unacked) (s0 : AV) : (bh x s0)[0]? = some (vi x.At) := by rfl
theorem vl (x : Unacked) (s0 : AV) (v : Int) : (bh x s0).set 0 (vi v) = bh { x with At := v } s0 := by rfl
theorem rg (x : Unacked) (s0 : AV) : (bh x s0)[1]? = some (vi x.Tries) := by rfl
theorem qI (x : Unacked) (s0 : AV) : (bh x s0)[2]? = some (vb x.Flying) := by rfl
theorem kG (x : Unacked) (s0 : AV) : (bh x s0)[37]? = some (vi x.Frame.Head.Seq) := by rfl
theorem rS (x : Unacked) (s0 : AV) : cd (bh x s0) 3 41 = some (bm x.Frame s0) := by rfl
theorem rJ (x : Unacked) (s0 : AV) (v : Frame) (w0 : AV) : ct (bh x s0) 3 (bm v w0) = bh { x with Frame := v } w0 := by rfl
theorem rl (x : Unacked) (s0 : AV) (o : Nat → Ob) (n : Nat) : (bh x s0).map (fz o (n + 1)) = bh x (fz o (n + 1) s0) := by rfl
theorem nb (x : Unacked) (s0 : AV) (o : Nat → Ob) (n : Nat) : (bh x s0).flatMap (bc o (n + 1)) = bc o (n + 1) s0 := by
 simp only [bh, bm, cG, dy, List.cons_append, List.nil_append, List.append_nil, List.flatMap_cons, List.flatMap_nil, fc]
theorem tX (x : Unacked) (s0 : AV) (h_s0 : aw s0) : ∀ c ∈ (bh x s0), aw c := by
 simp only [bh, bm, cG, dy, List.cons_append, List.nil_append]
 repeat' (first | exact aw.v _ | assumption | exact List.forall_mem_nil _ | refine List.forall_mem_cons.2 ⟨?_, ?_⟩)
theorem xM {st : AS} {F : List Nat} {σ : List (Option Nat)} (x : Unacked) (s0 : AV) (s02 : AV) (h_s0 : Tm st F σ s0 s02) : TmL st F σ (bh x s0) (bh x s02) := by
 simp only [bh, bm, cG, dy, List.cons_append, List.nil_append]
 repeat' (first | exact TmL.nil | (refine TmL.cons (Tm.v _) ?_) | (refine TmL.cons (by assumption) ?_))
theorem pZ {st : AS} {F : List Nat} {σ : List (Option Nat)} {x y : Unacked} {s0 s02 : AV} (hxy : bh y s02 = bh x s02) (h_s0 : Tm st F σ s0 s02) : TmL st F σ (bh x s0) (bh y s02) := by
 rw [hxy]; exact xM x s0 s02 h_s0
theorem p8 (x : Unacked) {s0 : (Nat → Nat) → AV} (h_s0 : aE s0) : RenML fun q => bh x (s0 q) := by
 simp only [bh, bm, cG, dy, List.cons_append, List.nil_append]
 repeat' (first | exact RenML.nil | (refine RenML.cons (aE.const (aw.v _)) ?_) | (refine RenML.cons (by assumption) ?_))
def ag (x : Unacked) : List AV := bh x (rH x.Frame.Body)
theorem mH (x : Unacked) : ag x = bh x (rH x.Frame.Body) := rfl
theorem iq (x : Unacked) : ∀ c ∈ ag x, aw c := tX x _ (qX _)
theorem xq (x : Unacked) (o : Nat → Ob) (n : Nat) : (ag x).map (fz o (n + 2)) = ag x := by simp only [mH, rl, xY]
theorem xb (x : Unacked) (o : Nat → Ob) (n : Nat) : (ag x).flatMap (bc o (n + 2)) = [] := by simp only [mH, nb, y3, List.append_nil]
attribute [go_sem] wC wH um wB vc vl rg qI kG rS rJ rl nb mH xq xb

def gv (l : List Unacked) : AV := .imm (List.flatMap ag l) l.length
theorem mP (l : List Unacked) : gv l = .imm (List.flatMap ag l) l.length := rfl
theorem cR (x : Unacked) : (ag x).length = 44 := by rfl
theorem np (l : List Unacked) : aw (gv l) := aw.imm (jr iq l)
theorem ah (l : List Unacked) : ∀ c ∈ l.flatMap ag, aw c := jr iq l
theorem wu (l : List Unacked) : (l.flatMap ag).length = l.length * 44 := eP cR l
theorem wQ (l : List Unacked) (i o : Nat) (ho : o < 44) : (l.flatMap ag)[i * 44 + o]? = l[i]?.bind fun a => (ag a)[o]? := iS cR l i o ho
theorem uR (l : List Unacked) (i : Nat) : (l.flatMap ag)[i * 44]? = l[i]?.bind fun a => (ag a)[0]? := iS cR l i 0 (by decide)
theorem wl (l : List Unacked) (i o n : Nat) (ho : o + n ≤ 44) (hn : 0 < n) : cd (l.flatMap ag) (i * 44 + o) n = l[i]?.bind fun a => cd (ag a) o n := iR cR l i o n ho hn
theorem uG (l : List Unacked) (i n : Nat) (ho : n ≤ 44) (hn : 0 < n) : cd (l.flatMap ag) (i * 44) n = l[i]?.bind fun a => cd (ag a) 0 n := iR cR l i 0 n (by omega) hn
theorem vR (l : List Unacked) (o : Nat) : (l.flatMap ag)[o]? = l[o / 44]?.bind fun a => (ag a)[o % 44]? := xy cR (by decide) l o
theorem vU (l : List Unacked) (o n : Nat) (ho : o % 44 + n ≤ 44) (hn : 0 < n) : cd (l.flatMap ag) o n = l[o / 44]?.bind fun a => cd (ag a) (o % 44) n := xk cR l o n ho hn
theorem uw (l : List Unacked) : cd (l.flatMap ag) 0 (l.length * 44) = some (l.flatMap ag) := pB cR l
theorem wb (l : List Unacked) (n : Nat) : (l.flatMap ag).take (n * 44) = (l.take n).flatMap ag := iE cR l n
theorem v8 (l : List Unacked) (n : Nat) : (l.flatMap ag).drop (n * 44) = (l.drop n).flatMap ag := jw cR l n
theorem rN (l : List Unacked) (o : Nat → Ob) (n : Nat) : (l.flatMap ag).map (fz o (n + 2)) = (l.flatMap ag) := ub (fun a => xq a o n) l
theorem pV (l : List Unacked) (o : Nat → Ob) (n : Nat) : (l.flatMap ag).flatMap (bc o (n + 2)) = [] := mU (fun a => xb a o n) l
theorem ux (l : List Unacked) (i : Nat) (v : Int) : (l.flatMap ag).set (i * 44) (vi v) = (l.modify i (fun y => { y with At := v })).flatMap ag := dn cR l i 0 _ (fun y => { y with At := v }) (by decide) (fun _ => by rfl)
theorem rQ (l : List Unacked) (i : Nat) (v : Int) : (l.flatMap ag).set (i * 44 + 1) (vi v) = (l.modify i (fun y => { y with Tries := v })).flatMap ag := dn cR l i 1 _ (fun y => { y with Tries := v }) (by decide) (fun _ => by rfl)
theorem qO (l : List Unacked) (i : Nat) (v : Bool) : (l.flatMap ag).set (i * 44 + 2) (vb v) = (l.modify i (fun y => { y with Flying := v })).flatMap ag := dn cR l i 2 _ (fun y => { y with Flying := v }) (by decide) (fun _ => by rfl)
theorem jU (l : List Unacked) (i : Nat) (v : Bool) : (l.flatMap ag).set (i * 44 + 8) (vb v) = (l.modify i (fun y => { y with Frame.Head.Retry := v })).flatMap ag := dn cR l i 8 _ (fun y => { y with Frame.Head.Retry := v }) (by decide) (fun _ => by rfl)
theorem kC (l : List Unacked) (i : Nat) (v : Int) : (l.flatMap ag).set (i * 44 + 37) (vi v) = (l.modify i (fun y => { y with Frame.Head.Seq := v })).flatMap ag := dn cR l i 37 _ (fun y => { y with Frame.Head.Seq := v }) (by decide) (fun _ => by rfl)
theorem kV (l : List Unacked) (i : Nat) (v : Int) : (l.flatMap ag).set (i * 44 + 39) (vi v) = (l.modify i (fun y => { y with Frame.Head.Tid := v })).flatMap ag := dn cR l i 39 _ (fun y => { y with Frame.Head.Tid := v }) (by decide) (fun _ => by rfl)
theorem wc (l : List Unacked) (i : Nat) (x : Unacked) (b0 : (List Int)) : ct (l.flatMap ag) (i * 44) (bh x (.imm (List.map vu b0) b0.length)) = (l.set i { x with Frame.Body := b0 }).flatMap ag := rV cR (by decide) l i { x with Frame.Body := b0 }
theorem wG (l : List Unacked) (x : Unacked) (b0 : (List Int)) : (l.flatMap ag) ++ bh x (rH b0) = (l ++ [{ x with Frame.Body := b0 }]).flatMap ag := by rw [List.flatMap_append]; simp only [List.flatMap_cons, List.flatMap_nil, List.append_nil]; rfl
theorem wD (l : List Unacked) (m : List Unacked) : (l.flatMap ag) ++ m.flatMap ag = (l ++ m).flatMap ag := List.flatMap_append.symm
theorem pa (l : List Unacked) (o : Nat → Ob) (n : Nat) : fz o (n + 3) (gv l) = gv l := by simp only [mP, fz, rN]
theorem oa (l : List Unacked) (o : Nat → Ob) (n : Nat) : bc o (n + 3) (gv l) = [] := by simp only [mP, bc, pV]
attribute [go_sem] mP cR wu wQ uR wl uG uw wb v8 rN pV ux rQ qO jU kC kV wc wG wD pa oa

structure Sender where
 Tid : Int
 Phase : Int
 Token : Int
 Next : Int
 Size : Int
 Limit : Int
 Life : Int
 Out : (List Unacked)
 Bar : Bool
 deriving DecidableEq

def Sender.z : Sender := ⟨0, 0, 0, 0, 0, 0, 0, [], false⟩

def av (x : Sender) (s0 : AV) : List AV := [vi x.Tid, vu x.Phase, vi x.Token, vi x.Next, vi x.Size, vi x.Limit, vi x.Life, s0, vb x.Bar]

theorem xR (x : Sender) (s0 : AV) : (av x s0).length = 9 := by rfl
theorem yS (x : Sender) (s0 : AV) : cd (av x s0) 0 9 = some (av x s0) := by rfl
theorem wq (x : Sender) (s0 : AV) : (av x s0).take 9 = (av x s0) := by rfl
theorem yI (x : Sender) (s0 : AV) (y : Sender) (s02 : AV) : ct (av x s0) 0 (av y s02) = av y s02 := by rfl
theorem vQ (x : Sender) (s0 : AV) : (av x s0)[0]? = some (vi x.Tid) := by rfl
theorem vA (x : Sender) (s0 : AV) (v : Int) : (av x s0).set 0 (vi v) = av { x with Tid := v } s0 := by rfl
theorem sN (x : Sender) (s0 : AV) : (av x s0)[1]? = some (vu x.Phase) := by rfl
theorem s6 (x : Sender) (s0 : AV) (v : Int) : (av x s0).set 1 (vu v) = av { x with Phase := v } s0 := by rfl
theorem su (x : Sender) (s0 : AV) : (av x s0)[2]? = some (vi x.Token) := by rfl
theorem sV (x : Sender) (s0 : AV) (v : Int) : (av x s0).set 2 (vi v) = av { x with Token := v } s0 := by rfl
theorem tG (x : Sender) (s0 : AV) : (av x s0)[3]? = some (vi x.Next) := by rfl
theorem tD (x : Sender) (s0 : AV) (v : Int) : (av x s0).set 3 (vi v) = av { x with Next := v } s0 := by rfl
theorem tw (x : Sender) (s0 : AV) : (av x s0)[4]? = some (vi x.Size) := by rfl
theorem tV (x : Sender) (s0 : AV) (v : Int) : (av x s0).set 4 (vi v) = av { x with Size := v } s0 := by rfl
theorem sO (x : Sender) (s0 : AV) : (av x s0)[5]? = some (vi x.Limit) := by rfl
theorem sc (x : Sender) (s0 : AV) (v : Int) : (av x s0).set 5 (vi v) = av { x with Limit := v } s0 := by rfl
theorem tP (x : Sender) (s0 : AV) : (av x s0)[6]? = some (vi x.Life) := by rfl
theorem tt (x : Sender) (s0 : AV) (v : Int) : (av x s0).set 6 (vi v) = av { x with Life := v } s0 := by rfl
theorem v7 (x : Sender) (s0 : AV) : (av x s0)[7]? = some s0 := by rfl
theorem uV (x : Sender) (s0 : AV) (v : AV) : (av x s0).set 7 v = av x v := by rfl
theorem uI (x : Sender) (s0 : AV) : (av x s0)[8]? = some (vb x.Bar) := by rfl
theorem vE (x : Sender) (s0 : AV) (v : Bool) : (av x s0).set 8 (vb v) = av { x with Bar := v } s0 := by rfl
theorem s7 (x : Sender) (s0 : AV) (o : Nat → Ob) (n : Nat) : (av x s0).map (fz o (n + 1)) = av x (fz o (n + 1) s0) := by rfl
theorem o0 (x : Sender) (s0 : AV) (o : Nat → Ob) (n : Nat) : (av x s0).flatMap (bc o (n + 1)) = bc o (n + 1) s0 := by
 simp only [av, List.cons_append, List.nil_append, List.append_nil, List.flatMap_cons, List.flatMap_nil, fc]
theorem uD (x : Sender) (s0 : AV) (h_s0 : aw s0) : ∀ c ∈ (av x s0), aw c := by
 simp only [av, List.cons_append, List.nil_append]
 repeat' (first | exact aw.v _ | assumption | exact List.forall_mem_nil _ | refine List.forall_mem_cons.2 ⟨?_, ?_⟩)
theorem zz {st : AS} {F : List Nat} {σ : List (Option Nat)} (x : Sender) (s0 : AV) (s02 : AV) (h_s0 : Tm st F σ s0 s02) : TmL st F σ (av x s0) (av x s02) := by
 simp only [av, List.cons_append, List.nil_append]
 repeat' (first | exact TmL.nil | (refine TmL.cons (Tm.v _) ?_) | (refine TmL.cons (by assumption) ?_))
theorem aj {st : AS} {F : List Nat} {σ : List (Option Nat)} {x y : Sender} {s0 s02 : AV} (hxy : av y s02 = av x s02) (h_s0 : Tm st F σ s0 s02) : TmL st F σ (av x s0) (av y s02) := by
 rw [hxy]; exact zz x s0 s02 h_s0
theorem bB (x : Sender) {s0 : (Nat → Nat) → AV} (h_s0 : aE s0) : RenML fun q => av x (s0 q) := by
 simp only [av, List.cons_append, List.nil_append]
 repeat' (first | exact RenML.nil | (refine RenML.cons (aE.const (aw.v _)) ?_) | (refine RenML.cons (by assumption) ?_))
def bp (x : Sender) : List AV := av x (gv x.Out)
theorem oh (x : Sender) : bp x = av x (gv x.Out) := rfl
theorem aR (x : Sender) : ∀ c ∈ bp x, aw c := uD x _ (np _)
theorem DA (x : Sender) (o : Nat → Ob) (n : Nat) : (bp x).map (fz o (n + 3)) = bp x := by simp only [oh, s7, pa]
theorem CF (x : Sender) (o : Nat → Ob) (n : Nat) : (bp x).flatMap (bc o (n + 3)) = [] := by simp only [oh, o0, oa, List.append_nil]
attribute [go_sem] xR yS wq yI vQ vA sN s6 su sV tG tD tw tV sO sc tP tt v7 uV uI vE s7 o0 oh DA CF

structure HeldSeq where
 At : Int
 Frame : Frame
 deriving DecidableEq

def HeldSeq.z : HeldSeq := ⟨0, Frame.z⟩

def bT (x : HeldSeq) (s0 : AV) : List AV := [vi x.At] ++ (bm x.Frame s0)

theorem lP (x : HeldSeq) (s0 : AV) : (bT x s0).length = 42 := by rfl
theorem wK (x : HeldSeq) (s0 : AV) : cd (bT x s0) 0 42 = some (bT x s0) := by rfl
theorem vX (x : HeldSeq) (s0 : AV) : (bT x s0).take 42 = (bT x s0) := by rfl
theorem wO (x : HeldSeq) (s0 : AV) (y : HeldSeq) (s02 : AV) : ct (bT x s0) 0 (bT y s02) = bT y s02 := by rfl
theorem uJ (x : HeldSeq) (s0 : AV) : (bT x s0)[0]? = some (vi x.At) := by rfl
theorem uW (x : HeldSeq) (s0 : AV) (v : Int) : (bT x s0).set 0 (vi v) = bT { x with At := v } s0 := by rfl
theorem kF (x : HeldSeq) (s0 : AV) : (bT x s0)[35]? = some (vi x.Frame.Head.Seq) := by rfl
theorem ru (x : HeldSeq) (s0 : AV) : cd (bT x s0) 1 41 = some (bm x.Frame s0) := by rfl
theorem r7 (x : HeldSeq) (s0 : AV) (v : Frame) (w0 : AV) : ct (bT x s0) 1 (bm v w0) = bT { x with Frame := v } w0 := by rfl
theorem rP (x : HeldSeq) (s0 : AV) (o : Nat → Ob) (n : Nat) : (bT x s0).map (fz o (n + 1)) = bT x (fz o (n + 1) s0) := by rfl
theorem nd (x : HeldSeq) (s0 : AV) (o : Nat → Ob) (n : Nat) : (bT x s0).flatMap (bc o (n + 1)) = bc o (n + 1) s0 := by
 simp only [bT, bm, cG, dy, List.cons_append, List.nil_append, List.append_nil, List.flatMap_cons, List.flatMap_nil, fc]
theorem tH (x : HeldSeq) (s0 : AV) (h_s0 : aw s0) : ∀ c ∈ (bT x s0), aw c := by
 simp only [bT, bm, cG, dy, List.cons_append, List.nil_append]
 repeat' (first | exact aw.v _ | assumption | exact List.forall_mem_nil _ | refine List.forall_mem_cons.2 ⟨?_, ?_⟩)
def ai (x : HeldSeq) : List AV := bT x (rH x.Frame.Body)
theorem mQ (x : HeldSeq) : ai x = bT x (rH x.Frame.Body) := rfl
theorem jR (x : HeldSeq) : ∀ c ∈ ai x, aw c := tH x _ (qX _)
theorem xc (x : HeldSeq) (o : Nat → Ob) (n : Nat) : (ai x).map (fz o (n + 2)) = ai x := by simp only [mQ, rP, xY]
theorem w9 (x : HeldSeq) (o : Nat → Ob) (n : Nat) : (ai x).flatMap (bc o (n + 2)) = [] := by simp only [mQ, nd, y3, List.append_nil]
attribute [go_sem] lP wK vX wO uJ uW kF ru r7 rP nd mQ xc w9

def eF (l : List HeldSeq) : AV := .imm (List.flatMap ai l) l.length
theorem mN (l : List HeldSeq) : eF l = .imm (List.flatMap ai l) l.length := rfl
theorem cU (x : HeldSeq) : (ai x).length = 42 := by rfl
theorem fL (l : List HeldSeq) : aw (eF l) := aw.imm (jr jR l)
theorem au (l : List HeldSeq) : ∀ c ∈ l.flatMap ai, aw c := jr jR l
theorem fN (l : List HeldSeq) : (l.flatMap ai).length = l.length * 42 := eP cU l
theorem wW (l : List HeldSeq) (i o : Nat) (ho : o < 42) : (l.flatMap ai)[i * 42 + o]? = l[i]?.bind fun a => (ai a)[o]? := iS cU l i o ho
theorem ve (l : List HeldSeq) (i : Nat) : (l.flatMap ai)[i * 42]? = l[i]?.bind fun a => (ai a)[0]? := iS cU l i 0 (by decide)
theorem wF (l : List HeldSeq) (i o n : Nat) (ho : o + n ≤ 42) (hn : 0 < n) : cd (l.flatMap ai) (i * 42 + o) n = l[i]?.bind fun a => cd (ai a) o n := iR cU l i o n ho hn
theorem vM (l : List HeldSeq) (i n : Nat) (ho : n ≤ 42) (hn : 0 < n) : cd (l.flatMap ai) (i * 42) n = l[i]?.bind fun a => cd (ai a) 0 n := iR cU l i 0 n (by omega) hn
theorem pf (l : List HeldSeq) (o : Nat) : (l.flatMap ai)[o]? = l[o / 42]?.bind fun a => (ai a)[o % 42]? := xy cU (by decide) l o
theorem oC (l : List HeldSeq) (o n : Nat) (ho : o % 42 + n ≤ 42) (hn : 0 < n) : cd (l.flatMap ai) o n = l[o / 42]?.bind fun a => cd (ai a) (o % 42) n := xk cU l o n ho hn
theorem vK (l : List HeldSeq) : cd (l.flatMap ai) 0 (l.length * 42) = some (l.flatMap ai) := pB cU l
theorem uK (l : List HeldSeq) (n : Nat) : (l.flatMap ai).take (n * 42) = (l.take n).flatMap ai := iE cU l n
theorem vL (l : List HeldSeq) (n : Nat) : (l.flatMap ai).drop (n * 42) = (l.drop n).flatMap ai := jw cU l n
theorem rt (l : List HeldSeq) (o : Nat → Ob) (n : Nat) : (l.flatMap ai).map (fz o (n + 2)) = (l.flatMap ai) := ub (fun a => xc a o n) l
theorem p5 (l : List HeldSeq) (o : Nat → Ob) (n : Nat) : (l.flatMap ai).flatMap (bc o (n + 2)) = [] := mU (fun a => w9 a o n) l
theorem ui (l : List HeldSeq) (i : Nat) (v : Int) : (l.flatMap ai).set (i * 42) (vi v) = (l.modify i (fun y => { y with At := v })).flatMap ai := dn cU l i 0 _ (fun y => { y with At := v }) (by decide) (fun _ => by rfl)
theorem jQ (l : List HeldSeq) (i : Nat) (v : Bool) : (l.flatMap ai).set (i * 42 + 6) (vb v) = (l.modify i (fun y => { y with Frame.Head.Retry := v })).flatMap ai := dn cU l i 6 _ (fun y => { y with Frame.Head.Retry := v }) (by decide) (fun _ => by rfl)
theorem kL (l : List HeldSeq) (i : Nat) (v : Int) : (l.flatMap ai).set (i * 42 + 35) (vi v) = (l.modify i (fun y => { y with Frame.Head.Seq := v })).flatMap ai := dn cU l i 35 _ (fun y => { y with Frame.Head.Seq := v }) (by decide) (fun _ => by rfl)
theorem kB (l : List HeldSeq) (i : Nat) (v : Int) : (l.flatMap ai).set (i * 42 + 37) (vi v) = (l.modify i (fun y => { y with Frame.Head.Tid := v })).flatMap ai := dn cU l i 37 _ (fun y => { y with Frame.Head.Tid := v }) (by decide) (fun _ => by rfl)
theorem w8 (l : List HeldSeq) (i : Nat) (x : HeldSeq) (b0 : (List Int)) : ct (l.flatMap ai) (i * 42) (bT x (.imm (List.map vu b0) b0.length)) = (l.set i { x with Frame.Body := b0 }).flatMap ai := rV cU (by decide) l i { x with Frame.Body := b0 }
theorem wo (l : List HeldSeq) (x : HeldSeq) (b0 : (List Int)) : (l.flatMap ai) ++ bT x (rH b0) = (l ++ [{ x with Frame.Body := b0 }]).flatMap ai := by rw [List.flatMap_append]; simp only [List.flatMap_cons, List.flatMap_nil, List.append_nil]; rfl
theorem wk (l : List HeldSeq) (m : List HeldSeq) : (l.flatMap ai) ++ m.flatMap ai = (l ++ m).flatMap ai := List.flatMap_append.symm
theorem oM (l : List HeldSeq) (o : Nat → Ob) (n : Nat) : fz o (n + 3) (eF l) = eF l := by simp only [mN, fz, rt]
theorem oq (l : List HeldSeq) (o : Nat → Ob) (n : Nat) : bc o (n + 3) (eF l) = [] := by simp only [mN, bc, p5]
attribute [go_sem] mN cU fN wW ve wF vM vK uK vL rt p5 ui jQ kL kB w8 wo wk oM oq

structure Window where
 Start : Int
 Bits : Int
 deriving DecidableEq

def Window.z : Window := ⟨0, 0⟩

def aU (x : Window) : List AV := [vi x.Start, vq x.Bits]

theorem yx (x : Window) : (aU x).length = 2 := by rfl
theorem yT (x : Window) : cd (aU x) 0 2 = some (aU x) := by rfl
theorem wN (x : Window) : (aU x).take 2 = (aU x) := by rfl
theorem xN (x : Window) (y : Window) : ct (aU x) 0 (aU y) = aU y := by rfl
theorem sg (x : Window) : (aU x)[0]? = some (vi x.Start) := by rfl
theorem sT (x : Window) (v : Int) : (aU x).set 0 (vi v) = aU { x with Start := v } := by rfl
theorem tO (x : Window) : (aU x)[1]? = some (vq x.Bits) := by rfl
theorem tE (x : Window) (v : Int) : (aU x).set 1 (vq v) = aU { x with Bits := v } := by rfl
theorem th (x : Window) (o : Nat → Ob) (n : Nat) : (aU x).map (fz o (n + 1)) = aU x := by rfl
theorem oH (x : Window) (o : Nat → Ob) (n : Nat) : (aU x).flatMap (bc o (n + 1)) = [] := by
 simp only [aU, List.cons_append, List.nil_append, List.append_nil, List.flatMap_cons, List.flatMap_nil, fc]
theorem aG (x : Window) : ∀ c ∈ (aU x), aw c := by
 simp only [aU, List.cons_append, List.nil_append]
 repeat' (first | exact aw.v _ | assumption | exact List.forall_mem_nil _ | refine List.forall_mem_cons.2 ⟨?_, ?_⟩)
theorem C1 (x : Window) (o : Nat → Ob) (n : Nat) : (aU x).map (fz o (n + 1)) = aU x := by simp only [th]
theorem Dk (x : Window) (o : Nat → Ob) (n : Nat) : (aU x).flatMap (bc o (n + 1)) = [] := by simp only [oH, List.append_nil]
attribute [go_sem] yx yT wN xN sg sT tO tE th oH C1 Dk

structure Reorder where
 Start : Int
 Size : Int
 Hold : Int
 Held : (List HeldSeq)
 Seen : Window
 deriving DecidableEq

def Reorder.z : Reorder := ⟨0, 0, 0, [], Window.z⟩

def aB (x : Reorder) (s0 : AV) : List AV := [vi x.Start, vi x.Size, vi x.Hold, s0] ++ (aU x.Seen)

theorem wX (x : Reorder) (s0 : AV) : (aB x s0).length = 6 := by rfl
theorem wz (x : Reorder) (s0 : AV) : cd (aB x s0) 0 6 = some (aB x s0) := by rfl
theorem vz (x : Reorder) (s0 : AV) : (aB x s0).take 6 = (aB x s0) := by rfl
theorem wL (x : Reorder) (s0 : AV) (y : Reorder) (s02 : AV) : ct (aB x s0) 0 (aB y s02) = aB y s02 := by rfl
theorem ry (x : Reorder) (s0 : AV) : (aB x s0)[0]? = some (vi x.Start) := by rfl
theorem rA (x : Reorder) (s0 : AV) (v : Int) : (aB x s0).set 0 (vi v) = aB { x with Start := v } s0 := by rfl
theorem sm (x : Reorder) (s0 : AV) : (aB x s0)[1]? = some (vi x.Size) := by rfl
theorem sC (x : Reorder) (s0 : AV) (v : Int) : (aB x s0).set 1 (vi v) = aB { x with Size := v } s0 := by rfl
theorem sK (x : Reorder) (s0 : AV) : (aB x s0)[2]? = some (vi x.Hold) := by rfl
theorem sX (x : Reorder) (s0 : AV) (v : Int) : (aB x s0).set 2 (vi v) = aB { x with Hold := v } s0 := by rfl
theorem sW (x : Reorder) (s0 : AV) : (aB x s0)[3]? = some s0 := by rfl
theorem si (x : Reorder) (s0 : AV) (v : AV) : (aB x s0).set 3 v = aB x v := by rfl
theorem sY (x : Reorder) (s0 : AV) : cd (aB x s0) 4 2 = some (aU x.Seen) := by rfl
theorem so (x : Reorder) (s0 : AV) (v : Window) : ct (aB x s0) 4 (aU v) = aB { x with Seen := v } s0 := by rfl
theorem rU (x : Reorder) (s0 : AV) (o : Nat → Ob) (n : Nat) : (aB x s0).map (fz o (n + 1)) = aB x (fz o (n + 1) s0) := by rfl
theorem mW (x : Reorder) (s0 : AV) (o : Nat → Ob) (n : Nat) : (aB x s0).flatMap (bc o (n + 1)) = bc o (n + 1) s0 := by
 simp only [aB, aU, List.cons_append, List.nil_append, List.append_nil, List.flatMap_cons, List.flatMap_nil, fc]
theorem tM (x : Reorder) (s0 : AV) (h_s0 : aw s0) : ∀ c ∈ (aB x s0), aw c := by
 simp only [aB, aU, List.cons_append, List.nil_append]
 repeat' (first | exact aw.v _ | assumption | exact List.forall_mem_nil _ | refine List.forall_mem_cons.2 ⟨?_, ?_⟩)
theorem yw {st : AS} {F : List Nat} {σ : List (Option Nat)} (x : Reorder) (s0 : AV) (s02 : AV) (h_s0 : Tm st F σ s0 s02) : TmL st F σ (aB x s0) (aB x s02) := by
 simp only [aB, aU, List.cons_append, List.nil_append]
 repeat' (first | exact TmL.nil | (refine TmL.cons (Tm.v _) ?_) | (refine TmL.cons (by assumption) ?_))
theorem aH {st : AS} {F : List Nat} {σ : List (Option Nat)} {x y : Reorder} {s0 s02 : AV} (hxy : aB y s02 = aB x s02) (h_s0 : Tm st F σ s0 s02) : TmL st F σ (aB x s0) (aB y s02) := by
 rw [hxy]; exact yw x s0 s02 h_s0
theorem ig (x : Reorder) {s0 : (Nat → Nat) → AV} (h_s0 : aE s0) : RenML fun q => aB x (s0 q) := by
 simp only [aB, aU, List.cons_append, List.nil_append]
 repeat' (first | exact RenML.nil | (refine RenML.cons (aE.const (aw.v _)) ?_) | (refine RenML.cons (by assumption) ?_))
theorem p6 {q nx off : Nat} (x : Reorder) {s0 : AV} {s02 : AV} (h_s0 : Fr q nx off s0 s02) : FrL q nx off (aB x s0) (aB x s02) := by
 simp only [aB, aU, List.cons_append, List.nil_append]
 repeat' (first | exact FrL.nil | (refine FrL.cons _ _ _ _ (by assumption) ?_) | (refine FrL.cons _ _ _ _ (Fr.same _) ?_))
def cQ (x : Reorder) : List AV := aB x (eF x.Held)
theorem mT (x : Reorder) : cQ x = aB x (eF x.Held) := rfl
theorem bv (x : Reorder) : ∀ c ∈ cQ x, aw c := tM x _ (fL _)
theorem Ca (x : Reorder) (o : Nat → Ob) (n : Nat) : (cQ x).map (fz o (n + 3)) = cQ x := by simp only [mT, rU, oM]
theorem BS (x : Reorder) (o : Nat → Ob) (n : Nat) : (cQ x).flatMap (bc o (n + 3)) = [] := by simp only [mT, mW, oq, List.append_nil]
attribute [go_sem] wX wz vz wL ry rA sm sC sK sX sW si sY so rU mW mT Ca BS

structure Session_sides where
 Sender : Sender
 Reorder : Reorder
 deriving DecidableEq

def Session_sides.z : Session_sides := ⟨Sender.z, Reorder.z⟩

def bu (x : Session_sides) (s0 : AV) (s1 : AV) : List AV := (av x.Sender s0) ++ (aB x.Reorder s1)

theorem pK (x : Session_sides) (s0 : AV) (s1 : AV) : (bu x s0 s1).length = 15 := by rfl
theorem pN (x : Session_sides) (s0 : AV) (s1 : AV) : cd (bu x s0 s1) 0 15 = some (bu x s0 s1) := by rfl
theorem oO (x : Session_sides) (s0 : AV) (s1 : AV) : (bu x s0 s1).take 15 = (bu x s0 s1) := by rfl
theorem pH (x : Session_sides) (s0 : AV) (s1 : AV) (y : Session_sides) (s02 : AV) (s12 : AV) : ct (bu x s0 s1) 0 (bu y s02 s12) = bu y s02 s12 := by rfl
theorem kK (x : Session_sides) (s0 : AV) (s1 : AV) (o : Nat → Ob) (n : Nat) : (bu x s0 s1).map (fz o (n + 1)) = bu x (fz o (n + 1) s0) (fz o (n + 1) s1) := by rfl
theorem i8 (x : Session_sides) (s0 : AV) (s1 : AV) (o : Nat → Ob) (n : Nat) : (bu x s0 s1).flatMap (bc o (n + 1)) = bc o (n + 1) s0 ++ bc o (n + 1) s1 := by
 simp only [bu, av, aB, aU, List.cons_append, List.nil_append, List.append_nil, List.flatMap_cons, List.flatMap_nil, fc]
def ip (x : Session_sides) : List AV := bu x (gv x.Sender.Out) (eF x.Reorder.Held)
theorem ir (x : Session_sides) : ip x = bu x (gv x.Sender.Out) (eF x.Reorder.Held) := rfl
theorem tZ (x : Session_sides) (o : Nat → Ob) (n : Nat) : (ip x).map (fz o (n + 3)) = ip x := by simp only [ir, kK, pa, oM]
theorem tu (x : Session_sides) (o : Nat → Ob) (n : Nat) : (ip x).flatMap (bc o (n + 3)) = [] := by simp only [ir, i8, oa, oq, List.append_nil]
attribute [go_sem] pK pN oO pH kK i8 ir tZ tu

structure Session_session where
 sides : Session_sides
 plan : SessionPlan
 many : Int
 accepted : Int
 lost : Unit
 out : SessionResult
 err : Int
 deriving DecidableEq

def Session_session.z : Session_session := ⟨Session_sides.z, SessionPlan.z, 0, 0, (), SessionResult.z, 0⟩

def ae (x : Session_session) (s0 : AV) (s1 : AV) (s2 : AV) (s3 : AV) (s4 : AV) (s5 : AV) : List AV := (bu x.sides s0 s1) ++ (am x.plan) ++ [vi x.many, vi x.accepted, s2] ++ (aA x.out s3 s4 s5) ++ [vi x.err]

theorem ny (x : Session_session) (s0 : AV) (s1 : AV) (s2 : AV) (s3 : AV) (s4 : AV) (s5 : AV) : (ae x s0 s1 s2 s3 s4 s5).length = 30 := by rfl
theorem nA (x : Session_session) (s0 : AV) (s1 : AV) (s2 : AV) (s3 : AV) (s4 : AV) (s5 : AV) : cd (ae x s0 s1 s2 s3 s4 s5) 0 30 = some (ae x s0 s1 s2 s3 s4 s5) := by rfl
theorem my (x : Session_session) (s0 : AV) (s1 : AV) (s2 : AV) (s3 : AV) (s4 : AV) (s5 : AV) : (ae x s0 s1 s2 s3 s4 s5).take 30 = (ae x s0 s1 s2 s3 s4 s5) := by rfl
theorem nz (x : Session_session) (s0 : AV) (s1 : AV) (s2 : AV) (s3 : AV) (s4 : AV) (s5 : AV) (y : Session_session) (s02 : AV) (s12 : AV) (s22 : AV) (s32 : AV) (s42 : AV) (s52 : AV) : ct (ae x s0 s1 s2 s3 s4 s5) 0 (ae y s02 s12 s22 s32 s42 s52) = ae y s02 s12 s22 s32 s42 s52 := by rfl
theorem gx (x : Session_session) (s0 : AV) (s1 : AV) (s2 : AV) (s3 : AV) (s4 : AV) (s5 : AV) : (ae x s0 s1 s2 s3 s4 s5)[3]? = some (vi x.sides.Sender.Next) := by rfl
theorem gP (x : Session_session) (s0 : AV) (s1 : AV) (s2 : AV) (s3 : AV) (s4 : AV) (s5 : AV) : (ae x s0 s1 s2 s3 s4 s5)[7]? = some s0 := by rfl
theorem gK (x : Session_session) (s0 : AV) (s1 : AV) (s2 : AV) (s3 : AV) (s4 : AV) (s5 : AV) : (ae x s0 s1 s2 s3 s4 s5)[8]? = some (vb x.sides.Sender.Bar) := by rfl
theorem jk (x : Session_session) (s0 : AV) (s1 : AV) (s2 : AV) (s3 : AV) (s4 : AV) (s5 : AV) : (ae x s0 s1 s2 s3 s4 s5)[15]? = some (vi x.plan.Start) := by rfl
theorem jf (x : Session_session) (s0 : AV) (s1 : AV) (s2 : AV) (s3 : AV) (s4 : AV) (s5 : AV) : (ae x s0 s1 s2 s3 s4 s5)[20]? = some (vi x.plan.Burst) := by rfl
theorem jp (x : Session_session) (s0 : AV) (s1 : AV) (s2 : AV) (s3 : AV) (s4 : AV) (s5 : AV) : (ae x s0 s1 s2 s3 s4 s5)[21]? = some (vi x.plan.Round) := by rfl
theorem lK (x : Session_session) (s0 : AV) (s1 : AV) (s2 : AV) (s3 : AV) (s4 : AV) (s5 : AV) : (ae x s0 s1 s2 s3 s4 s5)[22]? = some (vi x.many) := by rfl
theorem lI (x : Session_session) (s0 : AV) (s1 : AV) (s2 : AV) (s3 : AV) (s4 : AV) (s5 : AV) (v : Int) : (ae x s0 s1 s2 s3 s4 s5).set 22 (vi v) = ae { x with many := v } s0 s1 s2 s3 s4 s5 := by rfl
theorem jX (x : Session_session) (s0 : AV) (s1 : AV) (s2 : AV) (s3 : AV) (s4 : AV) (s5 : AV) : (ae x s0 s1 s2 s3 s4 s5)[23]? = some (vi x.accepted) := by rfl
theorem jV (x : Session_session) (s0 : AV) (s1 : AV) (s2 : AV) (s3 : AV) (s4 : AV) (s5 : AV) (v : Int) : (ae x s0 s1 s2 s3 s4 s5).set 23 (vi v) = ae { x with accepted := v } s0 s1 s2 s3 s4 s5 := by rfl
theorem lG (x : Session_session) (s0 : AV) (s1 : AV) (s2 : AV) (s3 : AV) (s4 : AV) (s5 : AV) : (ae x s0 s1 s2 s3 s4 s5)[24]? = some s2 := by rfl
theorem lR (x : Session_session) (s0 : AV) (s1 : AV) (s2 : AV) (s3 : AV) (s4 : AV) (s5 : AV) (v : AV) : (ae x s0 s1 s2 s3 s4 s5).set 24 v = ae x s0 s1 v s3 s4 s5 := by rfl
theorem iO (x : Session_session) (s0 : AV) (s1 : AV) (s2 : AV) (s3 : AV) (s4 : AV) (s5 : AV) : (ae x s0 s1 s2 s3 s4 s5)[25]? = some s3 := by rfl
theorem iL (x : Session_session) (s0 : AV) (s1 : AV) (s2 : AV) (s3 : AV) (s4 : AV) (s5 : AV) (v : AV) : (ae x s0 s1 s2 s3 s4 s5).set 25 v = ae x s0 s1 s2 v s4 s5 := by rfl
theorem jK (x : Session_session) (s0 : AV) (s1 : AV) (s2 : AV) (s3 : AV) (s4 : AV) (s5 : AV) : (ae x s0 s1 s2 s3 s4 s5)[26]? = some s4 := by rfl
theorem jH (x : Session_session) (s0 : AV) (s1 : AV) (s2 : AV) (s3 : AV) (s4 : AV) (s5 : AV) (v : AV) : (ae x s0 s1 s2 s3 s4 s5).set 26 v = ae x s0 s1 s2 s3 v s5 := by rfl
theorem i6 (x : Session_session) (s0 : AV) (s1 : AV) (s2 : AV) (s3 : AV) (s4 : AV) (s5 : AV) : (ae x s0 s1 s2 s3 s4 s5)[27]? = some s5 := by rfl
theorem i7 (x : Session_session) (s0 : AV) (s1 : AV) (s2 : AV) (s3 : AV) (s4 : AV) (s5 : AV) (v : AV) : (ae x s0 s1 s2 s3 s4 s5).set 27 v = ae x s0 s1 s2 s3 s4 v := by rfl
theorem js (x : Session_session) (s0 : AV) (s1 : AV) (s2 : AV) (s3 : AV) (s4 : AV) (s5 : AV) : (ae x s0 s1 s2 s3 s4 s5)[28]? = some (vi x.out.Rounds) := by rfl
theorem jm (x : Session_session) (s0 : AV) (s1 : AV) (s2 : AV) (s3 : AV) (s4 : AV) (s5 : AV) (v : Int) : (ae x s0 s1 s2 s3 s4 s5).set 28 (vi v) = ae { x with out.Rounds := v } s0 s1 s2 s3 s4 s5 := by rfl
theorem l9 (x : Session_session) (s0 : AV) (s1 : AV) (s2 : AV) (s3 : AV) (s4 : AV) (s5 : AV) : (ae x s0 s1 s2 s3 s4 s5)[29]? = some (vi x.err) := by rfl
theorem mc (x : Session_session) (s0 : AV) (s1 : AV) (s2 : AV) (s3 : AV) (s4 : AV) (s5 : AV) (v : Int) : (ae x s0 s1 s2 s3 s4 s5).set 29 (vi v) = ae { x with err := v } s0 s1 s2 s3 s4 s5 := by rfl
theorem iW (x : Session_session) (s0 : AV) (s1 : AV) (s2 : AV) (s3 : AV) (s4 : AV) (s5 : AV) : cd (ae x s0 s1 s2 s3 s4 s5) 0 9 = some (av x.sides.Sender s0) := by rfl
theorem iZ (x : Session_session) (s0 : AV) (s1 : AV) (s2 : AV) (s3 : AV) (s4 : AV) (s5 : AV) (v : Sender) (w0 : AV) : ct (ae x s0 s1 s2 s3 s4 s5) 0 (av v w0) = ae { x with sides.Sender := v } w0 s1 s2 s3 s4 s5 := by rfl
theorem iN (x : Session_session) (s0 : AV) (s1 : AV) (s2 : AV) (s3 : AV) (s4 : AV) (s5 : AV) : cd (ae x s0 s1 s2 s3 s4 s5) 9 6 = some (aB x.sides.Reorder s1) := by rfl
theorem iJ (x : Session_session) (s0 : AV) (s1 : AV) (s2 : AV) (s3 : AV) (s4 : AV) (s5 : AV) (v : Reorder) (w0 : AV) : ct (ae x s0 s1 s2 s3 s4 s5) 9 (aB v w0) = ae { x with sides.Reorder := v } s0 w0 s2 s3 s4 s5 := by rfl
theorem lE (x : Session_session) (s0 : AV) (s1 : AV) (s2 : AV) (s3 : AV) (s4 : AV) (s5 : AV) : cd (ae x s0 s1 s2 s3 s4 s5) 15 7 = some (am x.plan) := by rfl
theorem lD (x : Session_session) (s0 : AV) (s1 : AV) (s2 : AV) (s3 : AV) (s4 : AV) (s5 : AV) (v : SessionPlan) : ct (ae x s0 s1 s2 s3 s4 s5) 15 (am v) = ae { x with plan := v } s0 s1 s2 s3 s4 s5 := by rfl
theorem ml (x : Session_session) (s0 : AV) (s1 : AV) (s2 : AV) (s3 : AV) (s4 : AV) (s5 : AV) : cd (ae x s0 s1 s2 s3 s4 s5) 25 4 = some (aA x.out s3 s4 s5) := by rfl
theorem pj (x : Session_session) (s0 : AV) (s1 : AV) (s2 : AV) (s3 : AV) (s4 : AV) (s5 : AV) (o : Nat → Ob) (n : Nat) : (ae x s0 s1 s2 s3 s4 s5).map (fz o (n + 1)) = ae x (fz o (n + 1) s0) (fz o (n + 1) s1) (fz o (n + 1) s2) (fz o (n + 1) s3) (fz o (n + 1) s4) (fz o (n + 1) s5) := by rfl
theorem mf (x : Session_session) (s0 : AV) (s1 : AV) (s2 : AV) (s3 : AV) (s4 : AV) (s5 : AV) (o : Nat → Ob) (n : Nat) : (ae x s0 s1 s2 s3 s4 s5).flatMap (bc o (n + 1)) = bc o (n + 1) s0 ++ (bc o (n + 1) s1 ++ (bc o (n + 1) s2 ++ (bc o (n + 1) s3 ++ (bc o (n + 1) s4 ++ bc o (n + 1) s5)))) := by
 simp only [ae, bu, av, aB, aU, am, aA, List.cons_append, List.nil_append, List.append_nil, List.flatMap_cons, List.flatMap_nil, fc]
theorem fe (x : Session_session) (s0 : AV) (s1 : AV) (s2 : AV) (s3 : AV) (s4 : AV) (s5 : AV) (h_s0 : aw s0) (h_s1 : aw s1) (h_s2 : aw s2) (h_s3 : aw s3) (h_s4 : aw s4) (h_s5 : aw s5) : ∀ c ∈ (ae x s0 s1 s2 s3 s4 s5), aw c := by
 simp only [ae, bu, av, aB, aU, am, aA, List.cons_append, List.nil_append]
 repeat' (first | exact aw.v _ | assumption | exact List.forall_mem_nil _ | refine List.forall_mem_cons.2 ⟨?_, ?_⟩)
theorem pd {st : AS} {F : List Nat} {σ : List (Option Nat)} (x : Session_session) (s0 : AV) (s1 : AV) (s2 : AV) (s3 : AV) (s4 : AV) (s5 : AV) (s02 : AV) (s12 : AV) (s22 : AV) (s32 : AV) (s42 : AV) (s52 : AV) (h_s0 : Tm st F σ s0 s02) (h_s1 : Tm st F σ s1 s12) (h_s2 : Tm st F σ s2 s22) (h_s3 : Tm st F σ s3 s32) (h_s4 : Tm st F σ s4 s42) (h_s5 : Tm st F σ s5 s52) : TmL st F σ (ae x s0 s1 s2 s3 s4 s5) (ae x s02 s12 s22 s32 s42 s52) := by
 simp only [ae, bu, av, aB, aU, am, aA, List.cons_append, List.nil_append]
 repeat' (first | exact TmL.nil | (refine TmL.cons (Tm.v _) ?_) | (refine TmL.cons (by assumption) ?_))
theorem aq {st : AS} {F : List Nat} {σ : List (Option Nat)} {x y : Session_session} {s0 s1 s2 s3 s4 s5 s02 s12 s22 s32 s42 s52 : AV} (hxy : ae y s02 s12 s22 s32 s42 s52 = ae x s02 s12 s22 s32 s42 s52) (h_s0 : Tm st F σ s0 s02) (h_s1 : Tm st F σ s1 s12) (h_s2 : Tm st F σ s2 s22) (h_s3 : Tm st F σ s3 s32) (h_s4 : Tm st F σ s4 s42) (h_s5 : Tm st F σ s5 s52) : TmL st F σ (ae x s0 s1 s2 s3 s4 s5) (ae y s02 s12 s22 s32 s42 s52) := by
 rw [hxy]; exact pd x s0 s1 s2 s3 s4 s5 s02 s12 s22 s32 s42 s52 h_s0 h_s1 h_s2 h_s3 h_s4 h_s5
theorem bb (x : Session_session) {s0 s1 s2 s3 s4 s5 : (Nat → Nat) → AV} (h_s0 : aE s0) (h_s1 : aE s1) (h_s2 : aE s2) (h_s3 : aE s3) (h_s4 : aE s4) (h_s5 : aE s5) : RenML fun q => ae x (s0 q) (s1 q) (s2 q) (s3 q) (s4 q) (s5 q) := by
 simp only [ae, bu, av, aB, aU, am, aA, List.cons_append, List.nil_append]
 repeat' (first | exact RenML.nil | (refine RenML.cons (aE.const (aw.v _)) ?_) | (refine RenML.cons (by assumption) ?_))
attribute [go_sem] ny nA my nz gx gP gK jk jf jp lK lI jX jV lG lR iO iL jK jH i6 i7 js jm l9 mc iW iZ iN iJ lE lD ml pj mf

structure BlockAsk where
 Token : Int
 Tid : Int
 Size : Int
 Start : Int
 deriving DecidableEq

def BlockAsk.z : BlockAsk := ⟨0, 0, 0, 0⟩

def bq (x : BlockAsk) : List AV := [vi x.Token, vi x.Tid, vi x.Size, vi x.Start]

theorem vD (x : BlockAsk) : (bq x).length = 4 := by rfl
theorem vG (x : BlockAsk) : cd (bq x) 0 4 = some (bq x) := by rfl
theorem tN (x : BlockAsk) : (bq x).take 4 = (bq x) := by rfl
theorem uq (x : BlockAsk) (y : BlockAsk) : ct (bq x) 0 (bq y) = bq y := by rfl
theorem qv (x : BlockAsk) : (bq x)[0]? = some (vi x.Token) := by rfl
theorem qH (x : BlockAsk) (v : Int) : (bq x).set 0 (vi v) = bq { x with Token := v } := by rfl
theorem sH (x : BlockAsk) (v : Int) : (bq x).set 1 (vi v) = bq { x with Tid := v } := by rfl
theorem sb (x : BlockAsk) (v : Int) : (bq x).set 2 (vi v) = bq { x with Size := v } := by rfl
theorem qC (x : BlockAsk) (v : Int) : (bq x).set 3 (vi v) = bq { x with Start := v } := by rfl
theorem pW (x : BlockAsk) (o : Nat → Ob) (n : Nat) : (bq x).map (fz o (n + 1)) = bq x := by rfl
theorem lT (x : BlockAsk) (o : Nat → Ob) (n : Nat) : (bq x).flatMap (bc o (n + 1)) = [] := by
 simp only [bq, List.cons_append, List.nil_append, List.append_nil, List.flatMap_cons, List.flatMap_nil, fc]
theorem cZ (x : BlockAsk) : ∀ c ∈ (bq x), aw c := by
 simp only [bq, List.cons_append, List.nil_append]
 repeat' (first | exact aw.v _ | assumption | exact List.forall_mem_nil _ | refine List.forall_mem_cons.2 ⟨?_, ?_⟩)
theorem AR (x : BlockAsk) (o : Nat → Ob) (n : Nat) : (bq x).map (fz o (n + 1)) = bq x := by simp only [pW]
theorem AJ (x : BlockAsk) (o : Nat → Ob) (n : Nat) : (bq x).flatMap (bc o (n + 1)) = [] := by simp only [lT, List.append_nil]
attribute [go_sem] vD vG tN uq qv qH sH sb qC pW lT AR AJ

structure BlockAnswer where
 Token : Int
 Tid : Int
 Status : Int
 Size : Int
 deriving DecidableEq

def BlockAnswer.z : BlockAnswer := ⟨0, 0, 0, 0⟩

def bf (x : BlockAnswer) : List AV := [vi x.Token, vi x.Tid, vi x.Status, vi x.Size]

theorem r9 (x : BlockAnswer) : (bf x).length = 4 := by rfl
theorem rx (x : BlockAnswer) : cd (bf x) 0 4 = some (bf x) := by rfl
theorem qD (x : BlockAnswer) : (bf x).take 4 = (bf x) := by rfl
theorem rE (x : BlockAnswer) (y : BlockAnswer) : ct (bf x) 0 (bf y) = bf y := by rfl
theorem nM (x : BlockAnswer) : (bf x)[0]? = some (vi x.Token) := by rfl
theorem nC (x : BlockAnswer) (v : Int) : (bf x).set 0 (vi v) = bf { x with Token := v } := by rfl
theorem pL (x : BlockAnswer) : (bf x)[1]? = some (vi x.Tid) := by rfl
theorem mE (x : BlockAnswer) : (bf x)[2]? = some (vi x.Status) := by rfl
theorem nW (x : BlockAnswer) : (bf x)[3]? = some (vi x.Size) := by rfl
theorem oG (x : BlockAnswer) (v : Int) : (bf x).set 3 (vi v) = bf { x with Size := v } := by rfl
theorem mq (x : BlockAnswer) (o : Nat → Ob) (n : Nat) : (bf x).map (fz o (n + 1)) = bf x := by rfl
theorem jY (x : BlockAnswer) (o : Nat → Ob) (n : Nat) : (bf x).flatMap (bc o (n + 1)) = [] := by
 simp only [bf, List.cons_append, List.nil_append, List.append_nil, List.flatMap_cons, List.flatMap_nil, fc]
theorem gI (x : BlockAnswer) : ∀ c ∈ (bf x), aw c := by
 simp only [bf, List.cons_append, List.nil_append]
 repeat' (first | exact aw.v _ | assumption | exact List.forall_mem_nil _ | refine List.forall_mem_cons.2 ⟨?_, ?_⟩)
theorem w7 (x : BlockAnswer) (o : Nat → Ob) (n : Nat) : (bf x).map (fz o (n + 1)) = bf x := by simp only [mq]
theorem wi (x : BlockAnswer) (o : Nat → Ob) (n : Nat) : (bf x).flatMap (bc o (n + 1)) = [] := by simp only [jY, List.append_nil]
attribute [go_sem] r9 rx qD rE nM nC pL mE nW oG mq jY w7 wi

def kr (l : List Frame) : AV := .imm (List.flatMap aY l) l.length
theorem qA (l : List Frame) : kr l = .imm (List.flatMap aY l) l.length := rfl
theorem gw (x : Frame) : (aY x).length = 41 := by rfl
theorem jz (l : List Frame) : aw (kr l) := aw.imm (jr dx l)
theorem bU (l : List Frame) : ∀ c ∈ l.flatMap aY, aw c := jr dx l
theorem zh (l : List Frame) : (l.flatMap aY).length = l.length * 41 := eP gw l
theorem zu (l : List Frame) (i o : Nat) (ho : o < 41) : (l.flatMap aY)[i * 41 + o]? = l[i]?.bind fun a => (aY a)[o]? := iS gw l i o ho
theorem yX (l : List Frame) (i : Nat) : (l.flatMap aY)[i * 41]? = l[i]?.bind fun a => (aY a)[0]? := iS gw l i 0 (by decide)
theorem y7 (l : List Frame) (i o n : Nat) (ho : o + n ≤ 41) (hn : 0 < n) : cd (l.flatMap aY) (i * 41 + o) n = l[i]?.bind fun a => cd (aY a) o n := iR gw l i o n ho hn
theorem yg (l : List Frame) (i n : Nat) (ho : n ≤ 41) (hn : 0 < n) : cd (l.flatMap aY) (i * 41) n = l[i]?.bind fun a => cd (aY a) 0 n := iR gw l i 0 n (by omega) hn
theorem xL (l : List Frame) : cd (l.flatMap aY) 0 (l.length * 41) = some (l.flatMap aY) := pB gw l
theorem ye (l : List Frame) (n : Nat) : (l.flatMap aY).take (n * 41) = (l.take n).flatMap aY := iE gw l n
theorem yV (l : List Frame) (n : Nat) : (l.flatMap aY).drop (n * 41) = (l.drop n).flatMap aY := jw gw l n
theorem vr (l : List Frame) (o : Nat → Ob) (n : Nat) : (l.flatMap aY).map (fz o (n + 2)) = (l.flatMap aY) := ub (fun a => BA a o n) l
theorem s8 (l : List Frame) (o : Nat → Ob) (n : Nat) : (l.flatMap aY).flatMap (bc o (n + 2)) = [] := mU (fun a => Bf a o n) l
theorem oE (l : List Frame) (i : Nat) (v : Bool) : (l.flatMap aY).set (i * 41 + 5) (vb v) = (l.modify i (fun y => { y with Head.Retry := v })).flatMap aY := dn gw l i 5 _ (fun y => { y with Head.Retry := v }) (by decide) (fun _ => by rfl)
theorem qJ (l : List Frame) (i : Nat) (v : Int) : (l.flatMap aY).set (i * 41 + 34) (vi v) = (l.modify i (fun y => { y with Head.Seq := v })).flatMap aY := dn gw l i 34 _ (fun y => { y with Head.Seq := v }) (by decide) (fun _ => by rfl)
theorem qu (l : List Frame) (i : Nat) (v : Int) : (l.flatMap aY).set (i * 41 + 36) (vi v) = (l.modify i (fun y => { y with Head.Tid := v })).flatMap aY := dn gw l i 36 _ (fun y => { y with Head.Tid := v }) (by decide) (fun _ => by rfl)
theorem zo (l : List Frame) (i : Nat) (x : Frame) (b0 : (List Int)) : ct (l.flatMap aY) (i * 41) (bm x (.imm (List.map vu b0) b0.length)) = (l.set i { x with Body := b0 }).flatMap aY := rV gw (by decide) l i { x with Body := b0 }
theorem ze (l : List Frame) (x : Frame) (b0 : (List Int)) : (l.flatMap aY) ++ bm x (rH b0) = (l ++ [{ x with Body := b0 }]).flatMap aY := by rw [List.flatMap_append]; simp only [List.flatMap_cons, List.flatMap_nil, List.append_nil]; rfl
theorem z9 (l : List Frame) (m : List Frame) : (l.flatMap aY) ++ m.flatMap aY = (l ++ m).flatMap aY := List.flatMap_append.symm
theorem B5 (l : List Frame) (o : Nat → Ob) (n : Nat) : fz o (n + 3) (kr l) = kr l := by simp only [qA, fz, vr]
theorem B3 (l : List Frame) (o : Nat → Ob) (n : Nat) : bc o (n + 3) (kr l) = [] := by simp only [qA, bc, s8]
attribute [go_sem] qA gw zh zu yX y7 yg xL ye yV vr s8 oE qJ qu zo ze z9 B5 B3

end Go.AX.Z.TN

/-! (TND) -/

set_option linter.unusedSimpArgs false
set_option linter.unusedVariables false
set_option maxHeartbeats 4000000
set_option maxRecDepth 20000
namespace Go.AX.Z.TN
open Go.AX

def gn : Option SessionPlan :=
 some { SessionPlan.z with Burst := 2, Hold := 16777216, Life := 1073741824, Limit := 2, Round := 10, Size := 2, Start := 4095 }

def cH (a0 : Int) (a1 : Int) (a2 : Int) : Option Bool :=
 some ((decide (a1 ≤ a0)) && (decide (a0 ≤ a2)))

def ik (a0 : SessionPlan) : Option Int :=
 ((cH a0.Start 0 4095).bind fun x2 =>
 ((
  bif x2 then
   ((cH a0.Size 1 64).bind fun x3 =>
   some x3)
  else
   some false).bind fun x4 =>
 ((
  bif x4 then
   ((cH a0.Limit 1 16).bind fun x5 =>
   some x5)
  else
   some false).bind fun x6 =>
 ((
  bif x6 then
   ((cH a0.Burst 1 64).bind fun x7 =>
   some x7)
  else
   some false).bind fun x8 =>
 ((cH a0.Life 1 1073741824).bind fun x9 =>
 ((
  bif x9 then
   ((cH a0.Hold 0 16777216).bind fun x10 =>
   some x10)
  else
   some false).bind fun x11 =>
 ((
  bif x11 then
   ((cH a0.Round 1 1000000).bind fun x12 =>
   some x12)
  else
   some false).bind fun x13 =>
 bif ((!x8) || (!x13)) then
  some 8
 else
  some 0)))))))

def bG (a0 : Int) (a1 : Int) (a2 : Int) : Option Bool :=
 some ((decide (a1 ≤ a0)) && (decide (a0 ≤ a2)))

def fF (a0 : Sender) : Option Int :=
 bif decide (0 < (a0.Out.length : Int)) then
  ((idx a0.Out 0).bind fun x27 =>
  some x27.Frame.Head.Seq)
 else
  some a0.Next

def cu (a0 : Int) (a1 : Int) : Option Int :=
 some (IntKind.wrap .i64 (zG .u64 (IntKind.wrap .u64 ((IntKind.wrap .u64 a1) - (IntKind.wrap .u64 a0))) 4095))

def dG (a0 : Sender) (x27 : Int) (x28 : Int) : Nat → (Int × Int × Int) → Option (Ex Int Unit)
 | 0, _ => none
 | n15 + 1, d31 =>
  bif decide (d31.2.2 < (a0.Out.length : Int)) then
   ((idx a0.Out d31.2.2).bind fun x32 =>
   ((cu x27 x32.Frame.Head.Seq).bind fun x33 =>
   ((bG x32.Frame.Head.Seq 0 4095).bind fun x34 =>
   ((
    bif (((!x34) || (decide (x33 ≤ d31.1))) || (decide (x28 ≤ x33))) then
     some true
    else
     ((bG x32.At d31.2.1 1099511627776).bind fun x35 =>
     some (!x35))).bind fun x36 =>
   ((
    bif x36 then
     some true
    else
     ((bG x32.Tries 0 a0.Limit).bind fun x37 =>
     some (!x37))).bind fun x38 =>
   bif (x38 || (x32.Flying && (x32.Tries == 0))) then
    some (Ex.ret 8)
   else
    dG a0 x27 x28 n15 (x33, x32.At, IntKind.wrap .i64 (d31.2.2 + 1)))))))
  else
   some (Ex.go ())

def dY (a0 : Sender) : Option Int :=
 ((bG a0.Tid 0 7).bind fun x16 =>
 ((
  bif (x16 && (decide (a0.Phase ≤ 2))) then
   ((bG a0.Token 0 255).bind fun x17 =>
   some x17)
  else
   some false).bind fun x18 =>
 ((
  bif x18 then
   ((bG a0.Next 0 4095).bind fun x19 =>
   some x19)
  else
   some false).bind fun x20 =>
 ((
  bif x20 then
   ((bG a0.Limit 1 16).bind fun x21 =>
   some x21)
  else
   some false).bind fun x22 =>
 ((
  bif x22 then
   ((bG a0.Life 1 1073741824).bind fun x23 =>
   some x23)
  else
   some false).bind fun x24 =>
 ((bG a0.Size 1 64).bind fun x25 =>
 ((
  bif (a0.Phase == 0) then
   some (a0.Size == 0)
  else
   some x25).bind fun d26 =>
 bif (((!x24) || (!d26)) || ((a0.Phase != 2) && ((decide (0 < (a0.Out.length : Int))) || a0.Bar))) then
  some 8
 else
  ((fF a0).bind fun x27 =>
  ((cu x27 a0.Next).bind fun x28 =>
  bif decide (a0.Size < x28) then
   some 8
  else
   ((
    dG a0 x27 x28 big ((-1), 0, 0)).bind fun o30 =>
   (o30.k fun d29 =>
   some 0)))))))))))

def kE (a0 : Int) (a1 : Int) (a2 : Int) (a3 : Int) : Option (Sender × Int) :=
 ((dY { Sender.z with Life := a3, Limit := a2, Next := a1, Tid := a0 }).bind fun x16 =>
 bif (x16 != 0) then
  some (Sender.z, 2)
 else
  some ({ Sender.z with Life := a3, Limit := a2, Next := a1, Tid := a0 }, 0))

def aW (a0 : Int) (a1 : Session_session) (a2 : (List Bool)) : Option Session_session :=
 bif (a1.err == 0) then
  some { a1 with err := a0 }
 else
  some a1

def dJ (a0 : Frame) : Option Frame :=
 ((chk (decide (a0.Body.length ≤ 140737488355328))).bind fun x23 =>
 some a0)

def d8 (a0 : Sender) : Nat → (List Unacked × Int) → Option ((List Unacked))
 | 0, _ => none
 | n2 + 1, d22 =>
  bif decide (d22.2 < (a0.Out.length : Int)) then
   ((idx a0.Out d22.2).bind fun x23 =>
   ((dJ x23.Frame).bind fun x24 =>
   ((chk (decide ((d22.1.length + 1) * 128 ≤ 140737488355328))).bind fun x25 =>
   d8 a0 n2 ((d22.1 ++ [{ x23 with Frame := x24 }]), IntKind.wrap .i64 (d22.2 + 1)))))
  else
   some d22.1

def eS (a0 : Sender) : Option Sender :=
 ((
  d8 a0 big ([], 0)).bind fun d21 =>
 some { a0 with Out := d21 })

def jx (a0 : Sender) (a1 : Int) : Option (BlockAsk × Sender × Int) :=
 ((dY a0).bind fun x19 =>
 bif (x19 != 0) then
  some (BlockAsk.z, Sender.z, x19)
 else
  ((bG a1 1 64).bind fun x20 =>
  bif (!x20) then
   some (BlockAsk.z, Sender.z, 2)
  else
   bif (a0.Phase == 2) then
    some (BlockAsk.z, Sender.z, 20)
   else
    ((eS { a0 with Phase := 1, Size := a1, Token := IntKind.wrap .i64 ((a0.Token.tmod 255) + 1) }).bind fun x21 =>
    some ({ BlockAsk.z with Size := a1, Start := a0.Next, Tid := a0.Tid, Token := IntKind.wrap .i64 ((a0.Token.tmod 255) + 1) }, x21, 0))))

def fO (a0 : Sender) (a1 : BlockAnswer) : Option (Sender × Int) :=
 ((dY a0).bind fun x24 =>
 ((
  bif (x24 != 0) then
   some (Ex.ret (Sender.z, x24))
  else
   bif (a0.Phase != 1) then
    some (Ex.ret (Sender.z, 20))
   else
    bif ((a1.Token != a0.Token) || (a1.Tid != a0.Tid)) then
     some (Ex.ret (Sender.z, 21))
    else
     bif (a1.Status != 0) then
      some (Ex.go { a0 with Phase := 0, Size := 0 })
     else
      ((bG a1.Size 1 a0.Size).bind fun x27 =>
      bif (!x27) then
       some (Ex.ret (Sender.z, 2))
      else
       some (Ex.go { a0 with Phase := 2, Size := a1.Size }))).bind fun o26 =>
 (o26.k fun d25 =>
 ((eS d25).bind fun x28 =>
 some (x28, 0)))))

def c9 (a0 : Int) : Option Bool :=
 some ((decide (0 ≤ a0)) && (decide (a0 < 4096)))

def dZ (a0 : Int) : Option Bool :=
 some ((decide (0 ≤ a0)) && (decide (a0 < 4096)))

def eC (a0 : Window) : Option Int :=
 ((dZ a0.Start).bind fun x32 =>
 bif (!x32) then
  some 8
 else
  some 0)

def ee (a0 : Int) : Option Bool :=
 some ((decide (0 ≤ a0)) && (decide (a0 ≤ 1099511627776)))

def cK (a0 : Reorder) : Nat → (Int × Int) → Option (Ex Int Unit)
 | 0, _ => none
 | n8 + 1, d36 =>
  bif decide (d36.2 < (a0.Held.length : Int)) then
   ((idx a0.Held d36.2).bind fun x37 =>
   ((cu a0.Start x37.Frame.Head.Seq).bind fun x38 =>
   ((c9 x37.Frame.Head.Seq).bind fun x39 =>
   ((
    bif (!x39) then
     some true
    else
     ((ee x37.At).bind fun x40 =>
     some (!x40))).bind fun x41 =>
   bif ((x41 || (decide (x38 ≤ d36.1))) || (decide (a0.Size ≤ x38))) then
    some (Ex.ret 8)
   else
    cK a0 n8 (x38, IntKind.wrap .i64 (d36.2 + 1))))))
  else
   some (Ex.go ())

def dX (a0 : Reorder) : Option Int :=
 ((c9 a0.Start).bind fun x31 =>
 ((
  bif (((((!x31) || (decide (a0.Size < 1))) || (decide (64 < a0.Size))) || (decide (a0.Hold < 0))) || (decide (16777216 < a0.Hold))) then
   some true
  else
   ((eC a0.Seen).bind fun x32 =>
   some (x32 != 0))).bind fun x33 =>
 bif x33 then
  some 8
 else
  ((
   cK a0 big (0, 0)).bind fun o35 =>
  (o35.k fun d34 =>
  some 0))))

def lz (a0 : Int) (a1 : Int) (a2 : Int) : Option (Reorder × Int) :=
 ((dX { Reorder.z with Hold := a2, Seen := { Window.z with Start := a0 }, Size := a1, Start := a0 }).bind fun x31 =>
 bif (x31 != 0) then
  some (Reorder.z, 2)
 else
  some ({ Reorder.z with Hold := a2, Seen := { Window.z with Start := a0 }, Size := a1, Start := a0 }, 0))

def dP (a0 : Session_session) (a1 : (List Bool)) : Option Session_session :=
 ((kE 0 a0.plan.Start a0.plan.Limit a0.plan.Life).bind fun x16 =>
 ((aW x16.2 a0 a1).bind fun x17 =>
 ((jx x16.1 a0.plan.Size).bind fun x18 =>
 ((aW x18.2.2 { x17 with out.Acked := a0.out.Acked, out.Delivered := a0.out.Delivered, out.Dropped := a0.out.Dropped } a1).bind fun x19 =>
 ((fO x18.2.1 { BlockAnswer.z with Size := a0.plan.Size, Token := x18.1.Token }).bind fun x20 =>
 ((aW x20.2 { x19 with out.Acked := a0.out.Acked, out.Delivered := a0.out.Delivered, out.Dropped := a0.out.Dropped, sides.Sender := x20.1 } a1).bind fun x21 =>
 ((lz a0.plan.Start a0.plan.Size a0.plan.Hold).bind fun x22 =>
 ((aW x22.2 { x21 with out.Acked := a0.out.Acked, out.Delivered := a0.out.Delivered, out.Dropped := a0.out.Dropped, sides.Reorder := x22.1 } a1).bind fun x23 =>
 some x23))))))))

def dI (a0 : Sender) : Nat → (List Int × Int) → Option ((List Int))
 | 0, _ => none
 | n3 + 1, d28 =>
  bif decide (d28.2 < (a0.Out.length : Int)) then
   ((idx a0.Out d28.2).bind fun x29 =>
   ((chk (decide ((d28.1.length + 1) * 8 ≤ 140737488355328))).bind fun x30 =>
   dI a0 n3 ((d28.1 ++ [x29.Frame.Head.Seq]), IntKind.wrap .i64 (d28.2 + 1))))
  else
   some d28.1

def fA (a0 : Sender) : Option ((List Int) × Sender × Int) :=
 ((dY a0).bind fun x26 =>
 bif (x26 != 0) then
  some ([], Sender.z, x26)
 else
  ((
   dI a0 big ([], 0)).bind fun d27 =>
  some (d27, { a0 with Bar := false, Out := [], Phase := 0, Size := 0 }, 0)))

def bN (a2 : (List Int)) (a0 : Session_session) : Nat → (List Int × Int) → Option ((List Int))
 | 0, _ => none
 | n2 + 1, d34 =>
  bif decide (d34.2 < (a2.length : Int)) then
   ((idx a2 d34.2).bind fun x35 =>
   ((cu a0.plan.Start x35).bind fun x36 =>
   ((chk (decide ((d34.1.length + 1) * 8 ≤ 140737488355328))).bind fun x37 =>
   bN a2 a0 n2 ((d34.1 ++ [x36]), IntKind.wrap .i64 (d34.2 + 1)))))
  else
   some d34.1

def ce (a0 : Session_session) (a1 : (List Bool)) (a2 : (List Int)) : Option (List Int) :=
 ((
  bN a2 a0 big ([], 0)).bind fun d33 =>
 some d33)

def dK (a0 : (List HeldSeq)) : Nat → (List HeldSeq × Int) → Option ((List HeldSeq))
 | 0, _ => none
 | n2 + 1, d46 =>
  bif decide (d46.2 < (a0.length : Int)) then
   ((idx a0 d46.2).bind fun x47 =>
   ((dJ x47.Frame).bind fun x48 =>
   ((chk (decide ((d46.1.length + 1) * 112 ≤ 140737488355328))).bind fun x49 =>
   dK a0 n2 ((d46.1 ++ [{ HeldSeq.z with At := x47.At, Frame := x48 }]), IntKind.wrap .i64 (d46.2 + 1)))))
  else
   some d46.1

def ey (a0 : (List HeldSeq)) : Option (List HeldSeq) :=
 ((
  dK a0 big ([], 0)).bind fun d45 =>
 some d45)

def eN (a0 : HeldSeq) (a1 : Int) (a2 : Reorder) : Option Int :=
 ((cu a2.Start a0.Frame.Head.Seq).bind fun x55 =>
 some (IntKind.wrap .i64 (x55 - a1)))

def aL (a0 : (List HeldSeq)) (a1 : Int) (a2 : Reorder) : Nat → (Int × Int) → Option (Int)
 | 0, _ => none
 | n2 + 1, d54 =>
  bif decide (d54.1 < d54.2) then
   ((idx a0 (IntKind.wrap .i64 (((IntKind.wrap .u64 (IntKind.wrap .i64 (d54.1 + d54.2)))).fdiv (2 ^ (min 1 64))))).bind fun x55 =>
   ((eN x55 a1 a2).bind fun x56 =>
   bif decide (x56 < 0) then
    aL a0 a1 a2 n2 (IntKind.wrap .i64 ((IntKind.wrap .i64 (((IntKind.wrap .u64 (IntKind.wrap .i64 (d54.1 + d54.2)))).fdiv (2 ^ (min 1 64)))) + 1), d54.2)
   else
    aL a0 a1 a2 n2 (d54.1, IntKind.wrap .i64 (((IntKind.wrap .u64 (IntKind.wrap .i64 (d54.1 + d54.2)))).fdiv (2 ^ (min 1 64))))))
  else
   some d54.1

def bF (a0 : (List HeldSeq)) (a1 : Int) (a2 : Reorder) : Option (Int × Bool) :=
 ((
  aL a0 a1 a2 big (0, (a0.length : Int))).bind fun d53 =>
 bif decide (d53 < (a0.length : Int)) then
  ((idx a0 d53).bind fun x57 =>
  ((eN x57 a1 a2).bind fun x58 =>
  some (d53, (x58 == 0))))
 else
  some (d53, false))

def fM (a0 : Reorder) (a1 : Int) : Option (Int × Bool) :=
 ((cu a0.Start a1).bind fun x52 =>
 ((bF a0.Held x52 a0).bind fun x53 =>
 some (x53.1, x53.2)))

def eH (a0 : Int) (a1 : Int) : Option Int :=
 some (IntKind.wrap .i64 (zG .u64 (IntKind.wrap .u64 ((IntKind.wrap .u64 a0) + (IntKind.wrap .u64 a1))) 4095))

def dF (a0 : Reorder) : Nat → (List Frame × Nat × Int × Int) → Option ((List Frame))
 | 0, _ => none
 | n2 + 1, d55 =>
  bif decide (d55.2.2.2 < d55.2.2.1) then
   ((chk (decide (d55.2.2.2 < (d55.2.1 : Int)))).bind fun x56 =>
   ((idx a0.Held d55.2.2.2).bind fun x57 =>
   ((chk (decide ((d55.1.length + 1) * 104 ≤ 140737488355328))).bind fun x58 =>
   dF a0 n2 ((d55.1 ++ [x57.Frame]), d55.2.1, d55.2.2.1, IntKind.wrap .i64 (d55.2.2.2 + 1)))))
  else
   some d55.1

def dH : Nat → (Reorder × List HeldSeq × List Frame) → Option ((Reorder × List HeldSeq × List Frame))
 | 0, _ => none
 | n7 + 1, d61 =>
  ((
   bif decide (0 < ((d61.2.1.length : Nat) : Int)) then
    ((idx d61.2.1 0).bind fun x62 =>
    some (x62.Frame.Head.Seq == d61.1.Start))
   else
    some false).bind fun x63 =>
  bif x63 then
   ((idx d61.2.1 0).bind fun x64 =>
   ((chk (decide ((d61.2.2.length + 1) * 104 ≤ 140737488355328))).bind fun x65 =>
   ((eH d61.1.Start 1).bind fun x66 =>
   ((chk (decide (1 ≤ (d61.2.1.length : Int)))).bind fun x67 =>
   dH n7 ({ d61.1 with Start := x66 }, (List.drop 1 d61.2.1), (d61.2.2 ++ [x64.Frame]))))))
  else
   some (d61.1, d61.2.1, d61.2.2))

def eB (a0 : Reorder) (a1 : Int) : Option (List Frame × Reorder × List HeldSeq) :=
 ((fM a0 a1).bind fun x52 =>
 ((chk (decide (0 ≤ x52.1) && decide (x52.1 ≤ (a0.Held.length : Int)))).bind fun x53 =>
 ((
  dF a0 big ([], (x52.1).toNat, (((x52.1).toNat : Nat) : Int), 0)).bind fun d54 =>
 ((chk (decide (0 ≤ x52.1) && decide (x52.1 ≤ (a0.Held.length : Int)))).bind fun x59 =>
 ((
  dH big ({ a0 with Start := a1 }, (List.drop ((x52.1).toNat) a0.Held), d54)).bind fun d60 =>
 some (d60.2.2, d60.1, d60.2.1))))))

def iB (a0 : Reorder) (a1 : Int) : Option ((List Frame) × Reorder × Int) :=
 ((dX a0).bind fun x43 =>
 bif (x43 != 0) then
  some ([], Reorder.z, x43)
 else
  ((c9 a1).bind fun x44 =>
  bif (!x44) then
   some ([], Reorder.z, 2)
  else
   ((ey a0.Held).bind fun x45 =>
   ((cu a0.Start a1).bind fun x46 =>
   bif decide (2048 ≤ x46) then
    some ([], { a0 with Held := x45 }, 0)
   else
    ((eB { a0 with Held := x45 } a1).bind fun x47 =>
    some (x47.1, { x47.2.1 with Held := x47.2.2 }, 0))))))

def bM (a0 : (List Frame)) (a1 : Session_session) : Nat → (List Int × Int) → Option ((List Int))
 | 0, _ => none
 | n2 + 1, d51 =>
  bif decide (d51.2 < (a0.length : Int)) then
   ((idx a0 d51.2).bind fun x52 =>
   ((cu a1.plan.Start x52.Head.Seq).bind fun x53 =>
   ((chk (decide ((d51.1.length + 1) * 8 ≤ 140737488355328))).bind fun x54 =>
   bM a0 a1 n2 ((d51.1 ++ [x53]), IntKind.wrap .i64 (d51.2 + 1)))))
  else
   some d51.1

def bH (a0 : (List Frame)) (a1 : Session_session) (a2 : (List Bool)) : Option (List Int) :=
 ((
  bM a0 a1 big (a1.out.Delivered, 0)).bind fun d50 =>
 some d50)

def co (a0 : Int) (a1 : Session_session) (a2 : (List Bool)) : Option (Session_session × List Int) :=
 ((iB a1.sides.Reorder a0).bind fun x43 =>
 ((aW x43.2.2 a1 a2).bind fun x44 =>
 ((bH x43.1 { x44 with out.Acked := a1.out.Acked, out.Delivered := a1.out.Delivered, out.Dropped := a1.out.Dropped, sides.Reorder := x43.2.1 } a2).bind fun x45 =>
 some ({ x44 with out.Acked := a1.out.Acked, out.Delivered := a1.out.Delivered, out.Dropped := a1.out.Dropped, sides.Reorder := x43.2.1 }, x45))))

def bZ (x27 : Session_session) : Nat → (List Int × Int) → Option ((List Int))
 | 0, _ => none
 | n2 + 1, d31 =>
  bif decide (d31.2 < x27.many) then
   ((chk (decide ((d31.1.length + 1) * 8 ≤ 140737488355328))).bind fun x32 =>
   bZ x27 n2 ((d31.1 ++ [d31.2]), IntKind.wrap .i64 (d31.2 + 1)))
  else
   some d31.1

def dQ (a0 : Session_session) (a1 : (List Bool)) : Option (Session_session × List Int × List Int) :=
 ((fA a0.sides.Sender).bind fun x26 =>
 ((aW x26.2.2 a0 a1).bind fun x27 =>
 ((ce { x27 with out.Acked := a0.out.Acked, out.Delivered := a0.out.Delivered, out.Dropped := a0.out.Dropped, sides.Sender := x26.2.1 } a1 x26.1).bind fun x28 =>
 ((chk (decide ((a0.out.Dropped.length + x28.length) * 8 ≤ 140737488355328))).bind fun x29 =>
 ((
  bZ x27 big ((a0.out.Dropped ++ x28), x27.accepted)).bind fun d30 =>
 ((co x26.2.1.Next { x27 with out.Acked := a0.out.Acked, out.Delivered := a0.out.Delivered, out.Dropped := d30, sides.Sender := x26.2.1 } a1).bind fun x33 =>
 some (x33.1, x33.2, d30)))))))

def dL (a0 : Sender) (a1 : Bool) : Option (Sender × Int) :=
 ((dY a0).bind fun x36 =>
 bif (x36 != 0) then
  some (Sender.z, x36)
 else
  bif (!a1) then
   some (Sender.z, 2)
  else
   bif (a0.Phase != 2) then
    some (Sender.z, 20)
   else
    ((eS a0).bind fun x37 =>
    some (x37, 0)))

def io (a0 : Unacked) (a1 : Sender) (a2 : Int) : Option Bool :=
 some ((!a0.Flying) && ((a0.Tries == a1.Limit) || (decide ((IntKind.wrap .i64 (a0.At + a1.Life)) ≤ a2))))

def ei (a0 : Unacked) (a1 : Sender) (a2 : Int) (a3 : List Int) : Option (Bool × List Int) :=
 ((io a0 a1 a2).bind fun x41 =>
 bif x41 then
  ((chk (decide ((a3.length + 1) * 8 ≤ 140737488355328))).bind fun x42 =>
  some (x41, (a3 ++ [a0.Frame.Head.Seq])))
 else
  some (x41, a3))

def aZ (a0 : Sender) (a1 : Int) : Nat → (List Int × Int) → Option (Ex (Int × List Int) (List Int))
 | 0, _ => none
 | n2 + 1, d41 =>
  bif decide (d41.2 < ((a0.Out.length : Nat) : Int)) then
   ((idx a0.Out d41.2).bind fun x42 =>
   ((ei x42 a0 a1 d41.1).bind fun x43 =>
   bif x43.1 then
    some (Ex.ret (d41.2, x43.2))
   else
    aZ a0 a1 n2 (x43.2, IntKind.wrap .i64 (d41.2 + 1))))
  else
   some (Ex.go d41.1)

def b9 (a0 : Sender) (a1 : Int) : Option (Int × List Int) :=
 ((
  aZ a0 a1 big ([], 0)).bind fun o40 =>
 (o40.k fun d39 =>
 some ((-1), d39)))

def aV (a1 : Int) : Nat → (List Unacked × Sender × List Int × Int × Int) → Option ((List Unacked × Int × Sender × List Int))
 | 0, _ => none
 | n3 + 1, d41 =>
  bif decide (d41.2.2.2.2 < ((d41.1.length : Nat) : Int)) then
   ((idx d41.1 d41.2.2.2.2).bind fun x42 =>
   ((ei x42 { d41.2.1 with Out := d41.1 } a1 d41.2.2.1).bind fun x43 =>
   bif (!x43.1) then
    ((idx d41.1 d41.2.2.2.1).bind fun x44 =>
    aV a1 n3 ((d41.1.set ((d41.2.2.2.1).toNat) x42), { d41.2.1 with Out := d41.1 }, x43.2, IntKind.wrap .i64 (d41.2.2.2.1 + 1), IntKind.wrap .i64 (d41.2.2.2.2 + 1)))
   else
    aV a1 n3 (d41.1, { d41.2.1 with Out := d41.1 }, x43.2, d41.2.2.2.1, IntKind.wrap .i64 (d41.2.2.2.2 + 1))))
  else
   some (d41.1, d41.2.2.2.1, d41.2.1, d41.2.2.1)

def bJ (a0 : Sender) (a1 : Int) : Option (List Unacked × Sender × List Int) :=
 ((b9 a0 a1).bind fun x39 =>
 bif (x39.1 == (-1)) then
  some (a0.Out, a0, x39.2)
 else
  ((
   aV a1 big (a0.Out, a0, x39.2, x39.1, IntKind.wrap .i64 (x39.1 + 1))).bind fun d40 =>
  ((chk (decide (0 ≤ d40.2.1) && decide (d40.2.1 ≤ (d40.1.length : Int)))).bind fun x45 =>
  ((chk (decide (0 ≤ d40.2.1) && decide (d40.2.1 ≤ (d40.1.length : Int)))).bind fun x46 =>
  some ((List.take ((d40.2.1).toNat) d40.1), d40.2.2.1, d40.2.2.2)))))

def jy (a0 : Sender) (a1 : Int) : Option (List Int × Sender × List Unacked) :=
 ((bJ a0 a1).bind fun x39 =>
 some (x39.2.2, x39.2.1, x39.1))

def eW (a0 : Sender) (a1 : Int) : Option ((List Int) × Sender × Int) :=
 ((bG a1 0 1099511627776).bind fun x35 =>
 ((dL a0 x35).bind fun x36 =>
 bif (x36.2 != 0) then
  some ([], Sender.z, x36.2)
 else
  ((jy x36.1 a1).bind fun x37 =>
  some (x37.1, { x37.2.1 with Bar := (x37.2.1.Bar || (decide (0 < ((x37.1.length : Nat) : Int)))), Out := x37.2.2 }, 0))))

def fa (a0 : (List Bool)) : Option (Bool × List Bool) :=
 bif ((a0.length : Int) == 0) then
  some (false, a0)
 else
  ((idx a0 0).bind fun x42 =>
  ((chk (decide (1 ≤ (a0.length : Int)))).bind fun x43 =>
  some (x42, (List.drop 1 a0))))

def gA (a0 : Sender) : Option Int :=
 ((dY a0).bind fun x45 =>
 bif (x45 != 0) then
  some 0
 else
  ((fF a0).bind fun x46 =>
  some x46))

def eE (a0 : Sender) : Option (Sender × Int) :=
 ((dL a0 true).bind fun x49 =>
 bif (x49.2 != 0) then
  some (Sender.z, x49.2)
 else
  bif (!x49.1.Bar) then
   some (Sender.z, 20)
  else
   some ({ x49.1 with Bar := false }, 0))

def fD (a0 : Sender) (a1 : Frame) (a2 : Int) : Option (Frame × Sender × Int) :=
 ((bG a2 0 1099511627776).bind fun x51 =>
 ((dL a0 x51).bind fun x52 =>
 bif (x52.2 != 0) then
  some (Frame.z, Sender.z, x52.2)
 else
  ((
   bif decide (0 < ((x52.1.Out.length : Nat) : Int)) then
    ((idx x52.1.Out (IntKind.wrap .i64 (((x52.1.Out.length : Nat) : Int) - 1))).bind fun x53 =>
    some (decide (a2 < x53.At)))
   else
    some false).bind fun x54 =>
  bif x54 then
   some (Frame.z, Sender.z, 20)
  else
   ((fF x52.1).bind fun x55 =>
   ((cu x55 x52.1.Next).bind fun x56 =>
   bif decide (x52.1.Size ≤ x56) then
    some (Frame.z, Sender.z, 22)
   else
    ((dJ a1).bind fun x57 =>
    ((chk (decide ((x52.1.Out.length + 1) * 128 ≤ 140737488355328))).bind fun x58 =>
    ((eH x52.1.Next 1).bind fun x59 =>
    ((dJ { x57 with Head.Retry := false, Head.Seq := x52.1.Next, Head.Tid := x52.1.Tid }).bind fun x60 =>
    some (x60, { x52.1 with Next := x59, Out := (x52.1.Out ++ [{ Unacked.z with At := a2, Frame := { x57 with Head.Retry := false, Head.Seq := x52.1.Next, Head.Tid := x52.1.Tid } }]) }, 0))))))))))

def bX (a0 : Int) (a1 : Session_session) (a2 : (List Bool)) : Nat → Session_session → Option (Ex Session_session Session_session)
 | 0, _ => none
 | n2 + 1, d52 =>
  bif ((decide (d52.accepted < d52.many)) && (d52.err == 0)) then
   ((fD d52.sides.Sender Frame.z a0).bind fun x53 =>
   bif (x53.2.2 == 22) then
    some (Ex.ret d52)
   else
    ((aW x53.2.2 { d52 with out.Acked := a1.out.Acked, out.Delivered := a1.out.Delivered, out.Dropped := a1.out.Dropped } a2).bind fun x54 =>
    bX a0 a1 a2 n2 { x54 with accepted := IntKind.wrap .i64 (x54.accepted + 1), sides.Sender := x53.2.1 }))
  else
   some (Ex.go d52)

def cM (a0 : Int) (a1 : Session_session) (a2 : (List Bool)) : Option Session_session :=
 ((
  bX a0 a1 a2 big a1).bind fun o51 =>
 (o51.k fun d50 =>
 some d50))

def dC (x56 : (Sender × Int)) (a1 : Int) : Nat → (List Unacked × List Frame × Int) → Option ((List Unacked × List Frame))
 | 0, _ => none
 | n3 + 1, d58 =>
  bif decide (d58.2.2 < ((x56.1.Out.length : Nat) : Int)) then
   ((idx d58.1 d58.2.2).bind fun x59 =>
   bif (((d58.2.1.length : Nat) : Int) == a1) then
    some (d58.1, d58.2.1)
   else
    bif (x59.Flying || (x59.Tries == x56.1.Limit)) then
     dC x56 a1 n3 (d58.1, d58.2.1, IntKind.wrap .i64 (d58.2.2 + 1))
    else
     ((dJ x59.Frame).bind fun x60 =>
     ((chk (decide ((d58.2.1.length + 1) * 104 ≤ 140737488355328))).bind fun x61 =>
     dC x56 a1 n3 (((d58.1.modify (d58.2.2.toNat) fun y => { y with Tries := IntKind.wrap .i64 (x59.Tries + 1) }).modify (d58.2.2.toNat) fun y => { y with Flying := true }), (d58.2.1 ++ [{ x60 with Head.Retry := decide (0 < x59.Tries) }]), IntKind.wrap .i64 (d58.2.2 + 1)))))
  else
   some (d58.1, d58.2.1)

def gq (a0 : Sender) (a1 : Int) : Option ((List Frame) × Sender × Int) :=
 ((dL a0 (decide (0 ≤ a1))).bind fun x56 =>
 bif (x56.2 != 0) then
  some ([], Sender.z, x56.2)
 else
  ((
   dC x56 a1 big (x56.1.Out, [], 0)).bind fun d57 =>
  some (d57.2, { x56.1 with Out := d57.1 }, 0)))

def eT (a0 : Window) (a1 : Int) : Option Int :=
 ((eC a0).bind fun x75 =>
 bif (x75 != 0) then
  some x75
 else
  ((dZ a1).bind fun x76 =>
  bif (!x76) then
   some 2
  else
   some 0))

def jM (a0 : Window) (a1 : Int) : Option (Window × Int) :=
 ((eT a0 a1).bind fun x75 =>
 bif (x75 != 0) then
  some (Window.z, x75)
 else
  ((cu a0.Start a1).bind fun x76 =>
  bif decide (x76 < 2048) then
   ((chk (decide (¬ x76 < 0))).bind fun x77 =>
   some ({ Window.z with Bits := (a0.Bits).fdiv (2 ^ (min (x76).toNat 64)), Start := a1 }, 0))
  else
   ((chk (decide (¬ (IntKind.wrap .i64 (4096 - x76)) < 0))).bind fun x78 =>
   some ({ Window.z with Bits := IntKind.wrap .u64 (a0.Bits * 2 ^ (min ((IntKind.wrap .i64 (4096 - x76))).toNat 64)), Start := a1 }, 0))))

def jL (a0 : Window) (a1 : Int) : Option (Window × Int) :=
 ((eT a0 a1).bind fun x77 =>
 bif (x77 != 0) then
  some (Window.z, x77)
 else
  ((cu a0.Start a1).bind fun x78 =>
  bif decide (64 ≤ x78) then
   some (Window.z, 21)
  else
   ((chk (decide (¬ x78 < 0))).bind fun x79 =>
   some ({ a0 with Bits := bor .u64 a0.Bits (IntKind.wrap .u64 (1 * 2 ^ (min (x78).toNat 64))) }, 0))))

def iP (a0 : Window) (a1 : Int) : Option Window :=
 ((cu a0.Start a1).bind fun x73 =>
 bif decide (2048 ≤ x73) then
  some a0
 else
  ((
   bif decide (64 ≤ x73) then
    ((eH a1 (-63)).bind fun x75 =>
    ((jM a0 x75).bind fun x76 =>
    some x76.1))
   else
    some a0).bind fun d74 =>
  ((jL d74 a1).bind fun x77 =>
  some x77.1)))

def cg (a0 : Int) (a1 : List HeldSeq) (a2 : List HeldSeq) : Option (List HeldSeq) :=
 ((chk (decide (0 ≤ a0) && decide (a0 ≤ (a1.length : Int)))).bind fun x81 =>
 bif (((a2.length : Nat) : Int) == 0) then
  some a1
 else
  bif (a0 == ((a1.length : Nat) : Int)) then
   ((chk (decide ((a1.length + a2.length) * 112 ≤ 140737488355328))).bind fun x82 =>
   some (a1 ++ a2))
  else
   none)

def bQ (a0 : Int) (a1 : List HeldSeq) (a2 : List HeldSeq) : Option (List HeldSeq) :=
 ((chk (decide (0 ≤ a0) && decide (a0 ≤ (a1.length : Int)))).bind fun x13 =>
 bif (((a2.length : Nat) : Int) == 0) then
  some a1
 else
  bif (a0 == ((a1.length : Nat) : Int)) then
   ((chk (decide ((a1.length + a2.length) * 112 ≤ 140737488355328))).bind fun x14 =>
   some (a1 ++ a2))
  else
   ((chk (decide (a2.length = 1) && decide ((a1.length + 1) * 112 ≤ 140737488355328))).bind fun x15 =>
   some (a1.take a0.toNat ++ a2 ++ a1.drop a0.toNat)))

def iz (a0 : Reorder) (a1 : Frame) (a2 : Int) : Option ((List Frame) × Reorder × Int) :=
 ((dX a0).bind fun x67 =>
 bif (x67 != 0) then
  some ([], Reorder.z, x67)
 else
  ((ee a2).bind fun x68 =>
  ((
   bif (!x68) then
    some true
   else
    ((c9 a1.Head.Seq).bind fun x69 =>
    some (!x69))).bind fun x70 =>
  bif x70 then
   some ([], Reorder.z, 2)
  else
   ((cu a0.Start a1.Head.Seq).bind fun x71 =>
   ((fM a0 a1.Head.Seq).bind fun x72 =>
   bif ((decide (2048 ≤ x71)) || x72.2) then
    some ([], Reorder.z, 21)
   else
    ((iP a0.Seen a1.Head.Seq).bind fun x73 =>
    ((ey a0.Held).bind fun x74 =>
    ((dJ a1).bind fun x75 =>
    ((bQ x72.1 x74 [{ HeldSeq.z with At := a2, Frame := x75 }]).bind fun x76 =>
    ((
     bif decide (a0.Size ≤ x71) then
      ((eH a1.Head.Seq (IntKind.wrap .i64 (1 - a0.Size))).bind fun x78 =>
      some x78)
     else
      some a0.Start).bind fun d77 =>
    ((eB { a0 with Held := x76, Seen := x73 } d77).bind fun x79 =>
    some (x79.1, { x79.2.1 with Held := x79.2.2 }, 0))))))))))))

def bL (x56 : ((List Frame) × Sender × Int)) (a0 : Int) (a1 : Session_session) : Nat → (Session_session × List Bool × List Int × Int) → Option ((Session_session × List Bool × List Int))
 | 0, _ => none
 | n2 + 1, d59 =>
  bif decide (d59.2.2.2 < (x56.1.length : Int)) then
   ((idx x56.1 d59.2.2.2).bind fun x60 =>
   ((fa d59.2.1).bind fun x61 =>
   bif x61.1 then
    bL x56 a0 a1 n2 (d59.1, x61.2, d59.2.2.1, IntKind.wrap .i64 (d59.2.2.2 + 1))
   else
    ((iz d59.1.sides.Reorder x60 a0).bind fun x62 =>
    bif (x62.2.2 == 0) then
     ((bH x62.1 { d59.1 with out.Acked := a1.out.Acked, out.Delivered := d59.2.2.1, out.Dropped := a1.out.Dropped, sides.Reorder := x62.2.1 } x61.2).bind fun x63 =>
     bL x56 a0 a1 n2 ({ d59.1 with out.Acked := a1.out.Acked, out.Delivered := d59.2.2.1, out.Dropped := a1.out.Dropped, sides.Reorder := x62.2.1 }, x61.2, x63, IntKind.wrap .i64 (d59.2.2.2 + 1)))
    else
     bL x56 a0 a1 n2 (d59.1, x61.2, d59.2.2.1, IntKind.wrap .i64 (d59.2.2.2 + 1)))))
  else
   some (d59.1, d59.2.1, d59.2.2.1)

def cW (a0 : Int) (a1 : Session_session) (a2 : (List Bool)) : Option (Int × Session_session × List Bool × List Int) :=
 ((gq a1.sides.Sender a1.plan.Burst).bind fun x56 =>
 ((aW x56.2.2 a1 a2).bind fun x57 =>
 ((
  bL x56 a0 a1 big ({ x57 with sides.Sender := x56.2.1 }, a2, a1.out.Delivered, 0)).bind fun d58 =>
 some ((x56.1.length : Int), d58.1, d58.2.1, d58.2.2))))

def eg (a0 : Sender) : Nat → (List Unacked × Int) → Option ((List Unacked))
 | 0, _ => none
 | n2 + 1, d68 =>
  bif decide (d68.2 < ((a0.Out.length : Nat) : Int)) then
   ((idx d68.1 d68.2).bind fun x69 =>
   eg a0 n2 ((d68.1.modify ((d68.2).toNat) fun y => { y with Flying := false }), IntKind.wrap .i64 (d68.2 + 1)))
  else
   some d68.1

def iA (a0 : Sender) : Option (List Unacked) :=
 ((
  eg a0 big (a0.Out, 0)).bind fun d67 =>
 some d67)

def gg (a0 : Sender) : Option (Sender × Int) :=
 ((dL a0 true).bind fun x66 =>
 bif (x66.2 != 0) then
  some (Sender.z, x66.2)
 else
  ((iA x66.1).bind fun x67 =>
  some ({ x66.1 with Out := x67 }, 0)))

def fk (a0 : Reorder) : Option (Window × Int) :=
 ((dX a0).bind fun x70 =>
 bif (x70 != 0) then
  some (Window.z, x70)
 else
  some (a0.Seen, 0))

def kD (a0 : Window) (a1 : Int) : Option Bool :=
 ((eT a0 a1).bind fun x77 =>
 bif (x77 != 0) then
  some false
 else
  ((cu a0.Start a1).bind fun x78 =>
  ((
   bif decide (x78 < 64) then
    ((chk (decide (¬ x78 < 0))).bind fun x79 =>
    some ((zG .u64 ((a0.Bits).fdiv (2 ^ (min (x78).toNat 64))) 1) == 1))
   else
    some false).bind fun x80 =>
  some x80)))

def gd (a0 : Unacked) (a1 : Window) : Option Bool :=
 ((
  bif decide (0 < a0.Tries) then
   ((kD a1 a0.Frame.Head.Seq).bind fun x77 =>
   some x77)
  else
   some false).bind fun x78 =>
 some x78)

def ej (a0 : Unacked) (a1 : Window) (a2 : List Int) : Option (Bool × List Int) :=
 ((gd a0 a1).bind fun x77 =>
 bif x77 then
  ((chk (decide ((a2.length + 1) * 8 ≤ 140737488355328))).bind fun x78 =>
  some (x77, (a2 ++ [a0.Frame.Head.Seq])))
 else
  some (x77, a2))

def aX (a1 : List Unacked) (a0 : Window) : Nat → (List Int × Int) → Option (Ex (Int × List Int) (List Int))
 | 0, _ => none
 | n2 + 1, d77 =>
  bif decide (d77.2 < ((a1.length : Nat) : Int)) then
   ((idx a1 d77.2).bind fun x78 =>
   ((ej x78 a0 d77.1).bind fun x79 =>
   bif x79.1 then
    some (Ex.ret (d77.2, x79.2))
   else
    aX a1 a0 n2 (x79.2, IntKind.wrap .i64 (d77.2 + 1))))
  else
   some (Ex.go d77.1)

def bV (a0 : Window) (a1 : List Unacked) : Option (Int × List Int) :=
 ((
  aX a1 a0 big ([], 0)).bind fun o76 =>
 (o76.k fun d75 =>
 some ((-1), d75)))

def aT (a0 : Window) : Nat → (List Unacked × List Int × Int × Int) → Option ((List Unacked × Int × List Int))
 | 0, _ => none
 | n3 + 1, d77 =>
  bif decide (d77.2.2.2 < ((d77.1.length : Nat) : Int)) then
   ((idx d77.1 d77.2.2.2).bind fun x78 =>
   ((ej x78 a0 d77.2.1).bind fun x79 =>
   bif (!x79.1) then
    ((idx d77.1 d77.2.2.1).bind fun x80 =>
    aT a0 n3 ((d77.1.set ((d77.2.2.1).toNat) x78), x79.2, IntKind.wrap .i64 (d77.2.2.1 + 1), IntKind.wrap .i64 (d77.2.2.2 + 1)))
   else
    aT a0 n3 (d77.1, x79.2, d77.2.2.1, IntKind.wrap .i64 (d77.2.2.2 + 1))))
  else
   some (d77.1, d77.2.2.1, d77.2.1)

def bD (a0 : Window) (a1 : List Unacked) : Option (List Unacked × List Int) :=
 ((bV a0 a1).bind fun x75 =>
 bif (x75.1 == (-1)) then
  some (a1, x75.2)
 else
  ((
   aT a0 big (a1, x75.2, x75.1, IntKind.wrap .i64 (x75.1 + 1))).bind fun d76 =>
  ((chk (decide (0 ≤ d76.2.1) && decide (d76.2.1 ≤ (d76.1.length : Int)))).bind fun x81 =>
  ((chk (decide (0 ≤ d76.2.1) && decide (d76.2.1 ≤ (d76.1.length : Int)))).bind fun x82 =>
  some ((List.take ((d76.2.1).toNat) d76.1), d76.2.2)))))

def fK (a0 : Sender) (a1 : Window) : Option (List Int × List Unacked) :=
 ((bD a1 a0.Out).bind fun x75 =>
 some (x75.2, x75.1))

def fy (a0 : Sender) (a1 : Window) : Option ((List Int) × Sender × Int) :=
 ((eC a1).bind fun x73 =>
 ((dL a0 (x73 == 0)).bind fun x74 =>
 bif (x74.2 != 0) then
  some ([], Sender.z, x74.2)
 else
  ((fK x74.1 a1).bind fun x75 =>
  ((iA { x74.1 with Out := x75.2 }).bind fun x76 =>
  some (x75.1, { x74.1 with Out := x76 }, 0)))))

def cD (a0 : Session_session) (a1 : (List Bool)) : Option (Session_session × List Bool × List Int) :=
 ((fa a1).bind fun x65 =>
 bif x65.1 then
  ((gg a0.sides.Sender).bind fun x66 =>
  ((aW x66.2 a0 x65.2).bind fun x67 =>
  some ({ x67 with sides.Sender := x66.1 }, x65.2, a0.out.Acked)))
 else
  ((fk a0.sides.Reorder).bind fun x68 =>
  ((aW x68.2 a0 x65.2).bind fun x69 =>
  ((fy x69.sides.Sender x68.1).bind fun x70 =>
  ((aW x70.2.2 { x69 with out.Acked := a0.out.Acked, out.Delivered := a0.out.Delivered, out.Dropped := a0.out.Dropped } x65.2).bind fun x71 =>
  ((ce { x71 with out.Acked := a0.out.Acked, out.Delivered := a0.out.Delivered, out.Dropped := a0.out.Dropped, sides.Sender := x70.2.1 } x65.2 x70.1).bind fun x72 =>
  ((chk (decide ((a0.out.Acked.length + x72.length) * 8 ≤ 140737488355328))).bind fun x73 =>
  some ({ x71 with sides.Sender := x70.2.1 }, x65.2, (a0.out.Acked ++ x72)))))))))

def cN (b : Reorder) (now : Int) (l : List HeldSeq) : Nat → Option (Ex (List Frame × Reorder × Int) Unit)
 | 0 => some (Ex.go ())
 | c + 1 =>
  ((l[c]?).bind fun x =>
  bif decide ((IntKind.wrap .i64 (x.At + b.Hold)) ≤ now) then
   ((eH x.Frame.Head.Seq 1).bind fun y =>
   ((eB { b with Held := l } y).bind fun z =>
   some (Ex.ret (z.1, { z.2.1 with Held := z.2.2 }, 0))))
  else
   cN b now l c)

def dB (a0 : Reorder) (a1 : Int) : Option ((List Frame) × Reorder × Int) :=
 ((dX a0).bind fun x67 =>
 bif (x67 != 0) then
  some ([], Reorder.z, x67)
 else
  ((ee a1).bind fun x68 =>
  bif (!x68) then
   some ([], Reorder.z, 2)
  else
   ((ey a0.Held).bind fun x69 =>
   ((chk (decide (x69.length < 4611686018427387904))).bind fun x70 =>
   ((cN a0 a1 x69 x69.length).bind fun o71 =>
   (o71.k fun d72 =>
   some ([], { a0 with Held := x69 }, 0)))))))

def c7 (a0 : Session_session) (a1 : (List Bool)) : Option (Session_session × List Bool × List Int × List Int × List Int) :=
 ((eW a0.sides.Sender (IntKind.wrap .i64 (a0.out.Rounds * a0.plan.Round))).bind fun x35 =>
 ((aW x35.2.2 a0 a1).bind fun x36 =>
 ((ce { x36 with out.Acked := a0.out.Acked, out.Delivered := a0.out.Delivered, out.Dropped := a0.out.Dropped, sides.Sender := x35.2.1 } a1 x35.1).bind fun x37 =>
 ((chk (decide ((a0.out.Dropped.length + x37.length) * 8 ≤ 140737488355328))).bind fun x38 =>
 bif x35.2.1.Bar then
  ((fa a1).bind fun x39 =>
  ((
   bif (!x39.1) then
    ((gA x35.2.1).bind fun x41 =>
    ((co x41 { x36 with out.Acked := a0.out.Acked, out.Delivered := a0.out.Delivered, out.Dropped := (a0.out.Dropped ++ x37), sides.Sender := x35.2.1 } x39.2).bind fun x42 =>
    ((eE x42.1.sides.Sender).bind fun x43 =>
    ((aW x43.2 { x42.1 with out.Acked := a0.out.Acked, out.Delivered := x42.2, out.Dropped := (a0.out.Dropped ++ x37), sides.Sender := x43.1 } x39.2).bind fun x44 =>
    some (x44, x42.2)))))
   else
    some ({ x36 with sides.Sender := x35.2.1 }, a0.out.Delivered)).bind fun d40 =>
  ((cM (IntKind.wrap .i64 (a0.out.Rounds * a0.plan.Round)) { d40.1 with out.Acked := a0.out.Acked, out.Delivered := d40.2, out.Dropped := (a0.out.Dropped ++ x37) } x39.2).bind fun x45 =>
  ((cW (IntKind.wrap .i64 (a0.out.Rounds * a0.plan.Round)) { x45 with out.Acked := a0.out.Acked, out.Delivered := d40.2, out.Dropped := (a0.out.Dropped ++ x37) } x39.2).bind fun x46 =>
  ((
   bif decide (0 < x46.1) then
    ((cD { x46.2.1 with out.Acked := a0.out.Acked, out.Delivered := x46.2.2.2, out.Dropped := (a0.out.Dropped ++ x37) } x46.2.2.1).bind fun x48 =>
    some (x48.1, x48.2.1, x48.2.2))
   else
    some (x46.2.1, x46.2.2.1, a0.out.Acked)).bind fun d47 =>
  ((dB d47.1.sides.Reorder (IntKind.wrap .i64 (a0.out.Rounds * a0.plan.Round))).bind fun x49 =>
  ((aW x49.2.2 { d47.1 with out.Acked := d47.2.2, out.Delivered := x46.2.2.2, out.Dropped := (a0.out.Dropped ++ x37) } d47.2.1).bind fun x50 =>
  ((bH x49.1 { x50 with out.Acked := d47.2.2, out.Delivered := x46.2.2.2, out.Dropped := (a0.out.Dropped ++ x37), sides.Reorder := x49.2.1 } d47.2.1).bind fun x51 =>
  some ({ x50 with out.Acked := d47.2.2, out.Delivered := x46.2.2.2, out.Dropped := (a0.out.Dropped ++ x37), out.Rounds := IntKind.wrap .i64 (x50.out.Rounds + 1), sides.Reorder := x49.2.1 }, d47.2.1, x51, d47.2.2, (a0.out.Dropped ++ x37))))))))))
 else
  ((cM (IntKind.wrap .i64 (a0.out.Rounds * a0.plan.Round)) { x36 with out.Acked := a0.out.Acked, out.Delivered := a0.out.Delivered, out.Dropped := (a0.out.Dropped ++ x37), sides.Sender := x35.2.1 } a1).bind fun x52 =>
  ((cW (IntKind.wrap .i64 (a0.out.Rounds * a0.plan.Round)) { x52 with out.Acked := a0.out.Acked, out.Delivered := a0.out.Delivered, out.Dropped := (a0.out.Dropped ++ x37) } a1).bind fun x53 =>
  ((
   bif decide (0 < x53.1) then
    ((cD { x53.2.1 with out.Acked := a0.out.Acked, out.Delivered := x53.2.2.2, out.Dropped := (a0.out.Dropped ++ x37) } x53.2.2.1).bind fun x55 =>
    some (x55.1, x55.2.1, x55.2.2))
   else
    some (x53.2.1, x53.2.2.1, a0.out.Acked)).bind fun d54 =>
  ((dB d54.1.sides.Reorder (IntKind.wrap .i64 (a0.out.Rounds * a0.plan.Round))).bind fun x56 =>
  ((aW x56.2.2 { d54.1 with out.Acked := d54.2.2, out.Delivered := x53.2.2.2, out.Dropped := (a0.out.Dropped ++ x37) } d54.2.1).bind fun x57 =>
  ((bH x56.1 { x57 with out.Acked := d54.2.2, out.Delivered := x53.2.2.2, out.Dropped := (a0.out.Dropped ++ x37), sides.Reorder := x56.2.1 } d54.2.1).bind fun x58 =>
  some ({ x57 with out.Acked := d54.2.2, out.Delivered := x53.2.2.2, out.Dropped := (a0.out.Dropped ++ x37), out.Rounds := IntKind.wrap .i64 (x57.out.Rounds + 1), sides.Reorder := x56.2.1 }, d54.2.1, x58, d54.2.2, (a0.out.Dropped ++ x37))))))))))))

def d7 (a1 : Int) : Nat → (Session_session × List Bool × List Int × List Int × List Int) → Option ((Session_session × List Bool × List Int × List Int × List Int))
 | 0, _ => none
 | n4 + 1, d6 =>
  bif ((d6.1.err == 0) && (((decide (d6.1.accepted < a1)) || (decide (0 < (d6.1.sides.Sender.Out.length : Int)))) || d6.1.sides.Sender.Bar)) then
   bif (d6.1.out.Rounds == 2000) then
    ((dQ { d6.1 with out.Acked := d6.2.2.2.1, out.Delivered := d6.2.2.1, out.Dropped := d6.2.2.2.2 } d6.2.1).bind fun x7 =>
    some (x7.1, d6.2.1, x7.2.1, d6.2.2.2.1, x7.2.2))
   else
    ((c7 { d6.1 with out.Acked := d6.2.2.2.1, out.Delivered := d6.2.2.1, out.Dropped := d6.2.2.2.2 } d6.2.1).bind fun x8 =>
    d7 a1 n4 (x8.1, x8.2.1, x8.2.2.1, x8.2.2.2.1, x8.2.2.2.2))
  else
   some (d6.1, d6.2.1, d6.2.2.1, d6.2.2.2.1, d6.2.2.2.2)

def fu (a0 : SessionPlan) (a1 : Int) (a2 : (List Bool)) : Option (SessionResult × Int) :=
 ((ik a0).bind fun x2 =>
 bif (x2 != 0) then
  some (SessionResult.z, x2)
 else
  ((cH a1 0 200).bind fun x3 =>
  bif (!x3) then
   some (SessionResult.z, 4)
  else
   ((dP { Session_session.z with many := a1, out.Acked := ([] : List Int), out.Delivered := ([] : List Int), out.Dropped := ([] : List Int), plan := a0 } a2).bind fun x4 =>
   ((
    d7 a1 big (x4, a2, ([] : List Int), ([] : List Int), ([] : List Int))).bind fun d5 =>
   bif (d5.1.err != 0) then
    some (SessionResult.z, d5.1.err)
   else
    some ({ d5.1.out with Acked := d5.2.2.2.1, Delivered := d5.2.2.1, Dropped := d5.2.2.2.2 }, 0)))))

def bW (a0 : (List Int)) (a1 : (List Int)) : Nat → Int → Option (Ex Bool Unit)
 | 0, _ => none
 | n3 + 1, d26 =>
  bif decide (d26 < (a0.length : Int)) then
   ((idx a0 d26).bind fun x27 =>
   ((idx a1 d26).bind fun x28 =>
   bif (x27 != x28) then
    some (Ex.ret false)
   else
    bW a0 a1 n3 (IntKind.wrap .i64 (d26 + 1))))
  else
   some (Ex.go ())

def bR (a0 : (List Int)) (a1 : (List Int)) : Option Bool :=
 bif ((a0.length : Int) != (a1.length : Int)) then
  some false
 else
  ((
   bW a0 a1 big 0).bind fun o25 =>
  (o25.k fun d24 =>
  some true))

def eV (a0 : (List Bool)) (a1 : (List Int)) (a2 : (List Int)) (a3 : (List Int)) : Option (Int × Bool) :=
 (gn.bind fun x22 =>
 ((fu x22 3 a0).bind fun x23 =>
 ((
  bif (x23.2 == 0) then
   ((bR x23.1.Delivered a1).bind fun x24 =>
   some x24)
  else
   some false).bind fun x25 =>
 ((
  bif x25 then
   ((bR x23.1.Acked a2).bind fun x26 =>
   some x26)
  else
   some false).bind fun x27 =>
 ((
  bif x27 then
   ((bR x23.1.Dropped a3).bind fun x28 =>
   some x28)
  else
   some false).bind fun x29 =>
 some (x23.1.Rounds, x29))))))

def fw : Option Bool :=
 ((eV [] [0, 1, 2] [0, 1, 2] []).bind fun x22 =>
 ((eV [true] [0, 1, 2] [1, 0, 2] []).bind fun x23 =>
 ((eV [true, false, false, true] [1, 2] [1, 2] [0]).bind fun x24 =>
 some ((((x22.2 && (x22.1 == 2)) && x23.2) && (x23.1 == 3)) && x24.2))))

def eU (a0 : SessionResult) (a1 : SessionResult) : Option Bool :=
 ((
  bif (a0.Rounds == a1.Rounds) then
   ((bR a0.Delivered a1.Delivered).bind fun x26 =>
   some x26)
  else
   some false).bind fun x27 =>
 ((
  bif x27 then
   ((bR a0.Acked a1.Acked).bind fun x28 =>
   some x28)
  else
   some false).bind fun x29 =>
 ((
  bif x29 then
   ((bR a0.Dropped a1.Dropped).bind fun x30 =>
   some x30)
  else
   some false).bind fun x31 =>
 some x31)))

def et (a0 : Int) : Option Bool :=
 some ((decide (0 ≤ a0)) && (decide (a0 ≤ 4095)))

def dA (a0 : SessionPlan) (a1 : Int) (a2 : (List Bool)) (a3 : Int) : Option Bool :=
 (fw.bind fun x58 =>
 bif ((decide (5000 < (a2.length : Int))) || (!x58)) then
  some x58
 else
  ((fu a0 a1 a2).bind fun x59 =>
  ((
   bif (x59.2 != 0) then
    some true
   else
    ((et a3).bind fun x60 =>
    some (!x60))).bind fun x61 =>
  bif x61 then
   some x58
  else
   ((fu { a0 with Start := a3 } a1 a2).bind fun x62 =>
   ((
    bif (x58 && (x62.2 == 0)) then
     ((eU x59.1 x62.1).bind fun x63 =>
     some x63)
    else
     some false).bind fun x64 =>
   some x64)))))

end Go.AX.Z.TN

/-! (TNF) -/

namespace Go.AX.Z.TN
open Go.AX Go.Proofs

def tab : List (TypeId × List (Option IntKind)) :=
 []

noncomputable def K : Ctx := ⟨Try.prog, fun _ => none, ID tab⟩

theorem Js : agB K.P 113 = some true := by kernel_rfl
theorem KC : agB K.P 23 = some true := by kernel_rfl
theorem LW : agB K.P 25 = some false := by kernel_rfl
theorem L1 : agB K.P 27 = some true := by kernel_rfl
theorem K6 : agB K.P 28 = some false := by kernel_rfl
theorem ag3 : agB K.P 3 = some false := by kernel_rfl
theorem Lj : agB K.P 31 = some false := by kernel_rfl
theorem Lh : agB K.P 34 = some false := by kernel_rfl
theorem ag4 : agB K.P 4 = some false := by kernel_rfl
theorem LL : agB K.P 43 = some false := by kernel_rfl
theorem KM : agB K.P 45 = some true := by kernel_rfl
theorem Ma : agB K.P 46 = some false := by kernel_rfl
theorem K3 : agB K.P 47 = some false := by kernel_rfl
theorem LZ : agB K.P 49 = some true := by kernel_rfl
theorem ag5 : agB K.P 5 = some false := by kernel_rfl
theorem LD : agB K.P 51 = some true := by kernel_rfl
theorem Kw : agB K.P 53 = some true := by kernel_rfl
theorem LP : agB K.P 63 = some true := by kernel_rfl
theorem Kq : agB K.P 79 = some false := by kernel_rfl
theorem Me : agB K.P 89 = some true := by kernel_rfl
theorem LM : agB K.P 90 = some false := by kernel_rfl
theorem LO : agB K.P 92 = some true := by kernel_rfl
theorem KS : agB K.P 94 = some true := by kernel_rfl
theorem KE : agB K.P 99 = some false := by kernel_rfl
theorem JG : sq K.P 113 = some [(0, 1), (1, 41)] := by kernel_rfl
theorem LI : sq K.P 23 = some [(0, 1), (1, 1), (2, 1), (3, 1), (4, 1), (5, 1), (6, 1)] := by kernel_rfl
theorem L8 : sq K.P 27 = some [(0, 1), (1, 1), (2, 1), (3, 1)] := by kernel_rfl
theorem Mi : sq K.P 45 = some [(0, 1), (1, 1), (2, 1), (3, 1), (4, 1), (5, 1), (6, 1), (7, 1), (8, 1)] := by kernel_rfl
theorem Ld : sq K.P 49 = some [(0, 1), (1, 1)] := by kernel_rfl
theorem Ls : sq K.P 51 = some [(0, 1), (1, 1), (2, 1), (3, 1), (4, 2)] := by kernel_rfl
theorem Ll : sq K.P 55 = some [(0, 15), (15, 7), (22, 1), (23, 1), (24, 1), (25, 4), (29, 1)] := by kernel_rfl
theorem Lt : sq K.P 63 = some [(0, 1), (1, 1), (2, 1), (3, 1)] := by kernel_rfl
theorem Mo : sq K.P 68 = some [(0, 1), (1, 1), (2, 1), (3, 1)] := by kernel_rfl
theorem KR : sq K.P 92 = some [(0, 40), (40, 1)] := by kernel_rfl
theorem Mb : sq K.P 94 = some [(0, 1), (1, 1), (2, 1), (3, 41)] := by kernel_rfl
theorem J1 : qn K.P 113 = some 112 := by kernel_rfl
theorem K5 : qn K.P 23 = some 56 := by kernel_rfl
theorem by3 : qn K.P 3 = some 8 := by kernel_rfl
theorem by4 : qn K.P 4 = some 1 := by kernel_rfl
theorem by5 : qn K.P 5 = some 1 := by kernel_rfl
theorem L9 : qn K.P 92 = some 104 := by kernel_rfl
theorem KQ : qn K.P 94 = some 128 := by kernel_rfl
theorem KI : elS K.P 25 = some 3 := by kernel_rfl
theorem Mc : elS K.P 31 = some 4 := by kernel_rfl
theorem KL : elS K.P 32 = some 23 := by kernel_rfl
theorem Mx : elS K.P 43 = some 94 := by kernel_rfl
theorem JW : elS K.P 46 = some 113 := by kernel_rfl
theorem Le : elS K.P 79 = some 92 := by kernel_rfl
theorem Ku : elS K.P 90 = some 5 := by kernel_rfl
theorem Mu : elS K.P 3 = none := by kernel_rfl
theorem Et : flE K.P 113 0 = some (0, 3) := by kernel_rfl
theorem Fg : flE K.P 113 1 = some (1, 92) := by kernel_rfl
theorem IG : flE K.P 23 0 = some (0, 3) := by kernel_rfl
theorem G7 : flE K.P 23 1 = some (1, 3) := by kernel_rfl
theorem IH : flE K.P 23 2 = some (2, 3) := by kernel_rfl
theorem GQ : flE K.P 23 3 = some (3, 3) := by kernel_rfl
theorem Jc : flE K.P 23 4 = some (4, 3) := by kernel_rfl
theorem Hb : flE K.P 23 5 = some (5, 3) := by kernel_rfl
theorem IR : flE K.P 23 6 = some (6, 3) := by kernel_rfl
theorem Jd : flE K.P 27 0 = some (0, 25) := by kernel_rfl
theorem Hu : flE K.P 27 1 = some (1, 25) := by kernel_rfl
theorem Gx : flE K.P 27 2 = some (2, 25) := by kernel_rfl
theorem If : flE K.P 27 3 = some (3, 3) := by kernel_rfl
theorem G8 : flE K.P 45 0 = some (0, 3) := by kernel_rfl
theorem Hf : flE K.P 45 1 = some (1, 5) := by kernel_rfl
theorem Gy : flE K.P 45 2 = some (2, 3) := by kernel_rfl
theorem G4 : flE K.P 45 3 = some (3, 3) := by kernel_rfl
theorem GN : flE K.P 45 4 = some (4, 3) := by kernel_rfl
theorem GW : flE K.P 45 5 = some (5, 3) := by kernel_rfl
theorem Iw : flE K.P 45 6 = some (6, 3) := by kernel_rfl
theorem Il : flE K.P 45 7 = some (7, 43) := by kernel_rfl
theorem I5 : flE K.P 45 8 = some (8, 4) := by kernel_rfl
theorem Gs : flE K.P 49 0 = some (0, 3) := by kernel_rfl
theorem I0 : flE K.P 49 1 = some (1, 47) := by kernel_rfl
theorem GL : flE K.P 51 0 = some (0, 3) := by kernel_rfl
theorem GF : flE K.P 51 1 = some (1, 3) := by kernel_rfl
theorem HL : flE K.P 51 2 = some (2, 3) := by kernel_rfl
theorem Ij : flE K.P 51 3 = some (3, 46) := by kernel_rfl
theorem Jh : flE K.P 51 4 = some (4, 49) := by kernel_rfl
theorem I9 : flE K.P 53 0 = some (0, 45) := by kernel_rfl
theorem GM : flE K.P 53 1 = some (9, 51) := by kernel_rfl
theorem Ha : flE K.P 55 0 = some (0, 53) := by kernel_rfl
theorem HF : flE K.P 55 1 = some (15, 23) := by kernel_rfl
theorem Je : flE K.P 55 2 = some (22, 3) := by kernel_rfl
theorem Gw : flE K.P 55 3 = some (23, 3) := by kernel_rfl
theorem IV : flE K.P 55 4 = some (24, 34) := by kernel_rfl
theorem Hr : flE K.P 55 5 = some (25, 27) := by kernel_rfl
theorem Jg : flE K.P 55 6 = some (29, 28) := by kernel_rfl
theorem IF : flE K.P 63 0 = some (0, 3) := by kernel_rfl
theorem It : flE K.P 68 0 = some (0, 3) := by kernel_rfl
theorem Gn : flE K.P 68 1 = some (1, 3) := by kernel_rfl
theorem Gq : flE K.P 68 2 = some (2, 3) := by kernel_rfl
theorem GT : flE K.P 68 3 = some (3, 3) := by kernel_rfl
theorem FZ : flE K.P 89 14 = some (34, 3) := by kernel_rfl
theorem EH : flE K.P 89 16 = some (36, 3) := by kernel_rfl
theorem I4 : flE K.P 89 5 = some (5, 4) := by kernel_rfl
theorem IU : flE K.P 92 0 = some (0, 89) := by kernel_rfl
theorem IB : flE K.P 92 1 = some (40, 90) := by kernel_rfl
theorem Jk : flE K.P 94 0 = some (0, 3) := by kernel_rfl
theorem GX : flE K.P 94 1 = some (1, 3) := by kernel_rfl
theorem H8 : flE K.P 94 2 = some (2, 4) := by kernel_rfl
theorem I7 : flE K.P 94 3 = some (3, 92) := by kernel_rfl
theorem J7 : inK K.P 133 = some .u64 := by kernel_rfl
theorem in3 : inK K.P 3 = some .i64 := by kernel_rfl
theorem Kx : inK K.P 47 = some .u64 := by kernel_rfl
theorem KA : E8 K.P 4 = true := by kernel_rfl
theorem Gk : cr K.P 113 = some 42 := by kernel_rfl
theorem Lu : cr K.P 23 = some 7 := by kernel_rfl
theorem L6 : cr K.P 25 = some 1 := by kernel_rfl
theorem KU : cr K.P 27 = some 4 := by kernel_rfl
theorem LJ : cr K.P 28 = some 1 := by kernel_rfl
theorem sz3 : cr K.P 3 = some 1 := by kernel_rfl
theorem Md : cr K.P 31 = some 1 := by kernel_rfl
theorem Kp : cr K.P 34 = some 1 := by kernel_rfl
theorem sz4 : cr K.P 4 = some 1 := by kernel_rfl
theorem Lk : cr K.P 43 = some 1 := by kernel_rfl
theorem Mf : cr K.P 45 = some 9 := by kernel_rfl
theorem LF : cr K.P 46 = some 1 := by kernel_rfl
theorem Ky : cr K.P 47 = some 1 := by kernel_rfl
theorem KW : cr K.P 49 = some 2 := by kernel_rfl
theorem sz5 : cr K.P 5 = some 1 := by kernel_rfl
theorem Li : cr K.P 51 = some 6 := by kernel_rfl
theorem KV : cr K.P 53 = some 15 := by kernel_rfl
theorem KD : cr K.P 63 = some 4 := by kernel_rfl
theorem LC : cr K.P 79 = some 1 := by kernel_rfl
theorem Lp : cr K.P 89 = some 40 := by kernel_rfl
theorem Lz : cr K.P 90 = some 1 := by kernel_rfl
theorem Lc : cr K.P 92 = some 41 := by kernel_rfl
theorem Ln : cr K.P 94 = some 44 := by kernel_rfl
theorem L0 : cr K.P 99 = some 1 := by kernel_rfl
theorem JM : K.P.underlying 133 = some (.int .u64) := by kernel_rfl
theorem Mt : K.P.underlying 25 = some (.slice 3) := by kernel_rfl
theorem un3 : K.P.underlying 3 = some (.int .i64) := by kernel_rfl
theorem Mh : K.P.underlying 31 = some (.slice 4) := by kernel_rfl
theorem LX : K.P.underlying 32 = some (.slice 23) := by kernel_rfl
theorem Lm : K.P.underlying 43 = some (.slice 94) := by kernel_rfl
theorem LQ : K.P.underlying 46 = some (.slice 113) := by kernel_rfl
theorem Mp : K.P.underlying 47 = some (.int .u64) := by kernel_rfl
theorem L3 : K.P.underlying 79 = some (.slice 92) := by kernel_rfl
theorem KF : K.P.underlying 90 = some (.slice 5) := by kernel_rfl
theorem JQ : zer K.P 113 = some (bT HeldSeq.z cA) := by kernel_rfl
theorem KN : zer K.P 23 = some (am SessionPlan.z) := by kernel_rfl
theorem My : zer K.P 25 = some [.v (.slice none 0 0)] := by kernel_rfl
theorem L7 : zer K.P 27 = some (aA SessionResult.z cA cA cA) := by kernel_rfl
theorem Mq : zer K.P 28 = some [.v (.int .i64 0)] := by kernel_rfl
theorem ze3 : zer K.P 3 = some [.v (.int .i64 0)] := by kernel_rfl
theorem ze4 : zer K.P 4 = some [.v (.bool false)] := by kernel_rfl
theorem KO : zer K.P 45 = some (av Sender.z cA) := by kernel_rfl
theorem KP : zer K.P 49 = some (aU Window.z) := by kernel_rfl
theorem ze5 : zer K.P 5 = some [.v (.int .u8 0)] := by kernel_rfl
theorem LN : zer K.P 51 = some (aB Reorder.z cA) := by kernel_rfl
theorem LE : zer K.P 55 = some (ae Session_session.z cA cA (.v .nilFunc) cA cA cA) := by kernel_rfl
theorem Mn : zer K.P 63 = some (bq BlockAsk.z) := by kernel_rfl
theorem LU : zer K.P 68 = some (bf BlockAnswer.z) := by kernel_rfl
theorem KH : zer K.P 79 = some [.v (.slice none 0 0)] := by kernel_rfl
theorem K7 : zer K.P 92 = some (bm Frame.z cA) := by kernel_rfl
theorem K9 : zer K.P 94 = some (bh Unacked.z cA) := by kernel_rfl
attribute [go_sem] Js KC LW L1 K6 ag3 Lj Lh ag4 LL KM Ma K3 LZ ag5 LD Kw LP Kq Me LM LO KS KE JG LI L8 Mi Ld Ls Ll Lt Mo KR Mb J1 K5 by3 by4 by5 L9 KQ KI Mc KL Mx JW Le Ku Mu Et Fg IG G7 IH GQ Jc Hb IR Jd Hu Gx If G8 Hf Gy G4 GN GW Iw Il I5 Gs I0 GL GF HL Ij Jh I9 GM Ha HF Je Gw IV Hr Jg IF It Gn Gq GT FZ EH I4 IU IB Jk GX H8 I7 J7 in3 Kx KA Gk Lu L6 KU LJ sz3 Md Kp sz4 Lk Mf LF Ky KW sz5 Li KV KD LC Lp Lz Lc Ln L0 JM Mt un3 Mh LX Lm LQ Mp L3 KF JQ KN My L7 Mq ze3 ze4 KO KP ze5 LN LE Mn LU KH K7 K9
theorem mixed : K.P.follows .mixedOrders = true := by kernel_rfl
theorem hC : COk K := ⟨FB.of_tab (tab := tab) rfl (by kernel_rfl), mixed⟩
theorem rs9 : Try.f9.results = #[.cell 0 23] := rfl
theorem Mr : Try.f16.results = #[.tmp 6] := rfl
theorem Jq : Try.f11.results = #[.tmp 2] := rfl
theorem KX : Try.f40.results = #[.tmp 6] := rfl
theorem Kl : Try.f48.results = #[.tmp 2] := rfl
theorem Mm : Try.f43.results = #[.tmp 4] := rfl
theorem FC : Try.f39.results = #[.tmp 2] := rfl
theorem JI : Try.f23.results = #[.cell 8 45, .tmp 9] := rfl
theorem JP : Try.f24.results = #[] := rfl
theorem LK : Try.f60.results = #[.cell 2 92] := rfl
theorem Kr : Try.f41.results = #[.cell 2 45] := rfl
theorem F7s : Try.f25.results = #[.cell 4 63, .cell 5 45, .tmp 6] := rfl
theorem Cr : Try.f26.results = #[.cell 4 45, .tmp 5] := rfl
theorem Kt : Try.f61.results = #[.tmp 2] := rfl
theorem L4 : Try.f72.results = #[.tmp 2] := rfl
theorem Kj : Try.f62.results = #[.tmp 2] := rfl
theorem Mw : Try.f55.results = #[.tmp 2] := rfl
theorem HY : Try.f42.results = #[.tmp 2] := rfl
theorem Jz : Try.f27.results = #[.cell 6 51, .tmp 7] := rfl
theorem LH : Try.f18.results = #[] := rfl
theorem Ju : Try.f28.results = #[.tmp 2, .cell 3 45, .tmp 4] := rfl
theorem LR : Try.f29.results = #[.tmp 4] := rfl
theorem K4 : Try.f56.results = #[.tmp 2] := rfl
theorem LB : Try.f75.results = #[.tmp 5] := rfl
theorem J6 : Try.f74.results = #[.tmp 6, .tmp 7] := rfl
theorem Ml : Try.f65.results = #[.tmp 4, .tmp 5] := rfl
theorem KZ : Try.f59.results = #[.tmp 4] := rfl
theorem Lf : Try.f58.results = #[.tmp 4, .cell 5 51] := rfl
theorem Ek : Try.f44.results = #[.tmp 4, .cell 5 51, .tmp 6] := rfl
theorem Mj : Try.f38.results = #[] := rfl
theorem Lr : Try.f30.results = #[] := rfl
theorem KT : Try.f19.results = #[] := rfl
theorem EQ : Try.f45.results = #[.cell 4 45, .tmp 5] := rfl
theorem L5 : Try.f47.results = #[.tmp 4] := rfl
theorem ET : Try.f64.results = #[.tmp 4] := rfl
theorem En : Try.f73.results = #[.tmp 4] := rfl
theorem Es : Try.f63.results = #[.tmp 4] := rfl
theorem J4 : Try.f46.results = #[.cell 4 25] := rfl
theorem J5 : Try.f31.results = #[.tmp 4, .cell 5 45, .tmp 6] := rfl
theorem JS : Try.f17.results = #[.tmp 1] := rfl
theorem Kk : Try.f32.results = #[.tmp 2] := rfl
theorem Hx : Try.f33.results = #[.cell 2 45, .tmp 3] := rfl
theorem Fb : Try.f49.results = #[.cell 6 92, .cell 7 45, .tmp 8] := rfl
theorem JX : Try.f34.results = #[] := rfl
theorem JK : Try.f50.results = #[.tmp 4, .cell 5 45, .tmp 6] := rfl
theorem HP : Try.f80.results = #[.tmp 4] := rfl
theorem He : Try.f76.results = #[.cell 4 49, .tmp 5] := rfl
theorem H6 : Try.f77.results = #[.cell 4 49, .tmp 5] := rfl
theorem JZ : Try.f66.results = #[.cell 4 49] := rfl
theorem Eo : Try.f67.results = #[.tmp 6] := rfl
theorem F2 : Try.f51.results = #[.tmp 6, .cell 7 51, .tmp 8] := rfl
theorem LG : Try.f35.results = #[.tmp 4] := rfl
theorem Mz : Try.f68.results = #[] := rfl
theorem Kd : Try.f52.results = #[.cell 2 45, .tmp 3] := rfl
theorem JU : Try.f53.results = #[.cell 2 49, .tmp 3] := rfl
theorem Ki : Try.f70.results = #[.tmp 4] := rfl
theorem KG : Try.f69.results = #[.tmp 3] := rfl
theorem J9 : Try.f54.results = #[.tmp 4, .cell 5 45, .tmp 6] := rfl
theorem JF : Try.f36.results = #[] := rfl
theorem JH : Try.f37.results = #[.cell 4 79, .cell 5 51, .cell 6 28] := rfl
theorem JV : Try.f20.results = #[] := rfl
theorem FQ : Try.f10.results = #[.cell 6 27, .tmp 7] := rfl
theorem I1 : Try.f22.results = #[.tmp 4] := rfl
theorem LV : Try.f21.results = #[.tmp 8, .tmp 9] := rfl
theorem Lq : Try.f12.results = #[.tmp 0] := rfl
theorem LT : Try.f13.results = #[.tmp 4] := rfl
theorem Lx : Try.f15.results = #[.tmp 2] := rfl
theorem rs7 : Try.f7.results = #[.tmp 8] := rfl
end Go.AX.Z.TN

/-! (TNI) -/

set_option linter.unusedSimpArgs false
set_option linter.unusedVariables false
set_option maxHeartbeats 1000000
namespace Go.AX.Z.TN
open Go.AX Go.Proofs

/-- What slices.Backward hands out. -/
def rL (l : List HeldSeq) : List (List AV) := (List.range l.length).map fun i => [vi ((l.length - 1 - i : Nat) : Int), match l[l.length - 1 - i]? with | some x => .agg (ai x) | none => .unk]
theorem sv (l : List HeldSeq) : (rL l).length = l.length := by simp [rL]
theorem xu {l : List HeldSeq} {k i : Nat} {x : HeldSeq} (hk : k + i + 1 = l.length) (hx : l[i]? = some x) : (rL l)[k]? = some [vi (i : Int), .agg (ai x)] := by
 have e : l.length - 1 - k = i := by omega
 have h : (List.range l.length)[k]? = some k := by rw [List.getElem?_range (by omega)]
 unfold rL
 rw [List.getElem?_map, h]
 simp only [Option.map_some, e, hx]
theorem xo {l : List HeldSeq} {k : Nat} {x : List AV} (h : (rL l)[k]? = some x) : ∃ i e, k + i + 1 = l.length ∧ l[i]? = some e ∧ x = [vi (i : Int), .agg (ai e)] := by
 have hk : k < l.length := by rw [← sv l]; exact (List.getElem?_eq_some_iff.1 h).1
 have hi : l.length - 1 - k < l.length := by omega
 have := xu (k := k) (i := l.length - 1 - k) (by omega) (List.getElem?_eq_getElem hi)
 rw [h] at this
 cases this
 exact ⟨_, _, by omega, List.getElem?_eq_getElem hi, rfl⟩

def tB (y : Value) (q : Nat) : Nat → AV := upd (upd (fun _ => .unk) 1 (.ptr q 0)) 0 (.v y)

theorem Ch (l : List HeldSeq) (hL : l.length < 4611686018427387904) (p q : Nat) : Ka K 71 [.ptr p 0] (fun hs => hs.objs p = .live [.ref q 0 l.length 42] ∧ hs.objs q = .live (List.flatMap ai l)) (rL l) := by
 intro lo lb ρ0 V0 J Jx hlb hJ hJx hJc hJxc hy ρ V hs W h0
 have hAb : ∀ i, Abides K (J i) := fun i => ⟨fun ρ V hs W h => ⟨(hJ i ρ V hs W h).2.1, (hJ i ρ V hs W h).2.2.1⟩, hJc i⟩
 have hAx : Abides K Jx := ⟨hJx, hJxc⟩
 obtain ⟨loc, hloc, rfl⟩ : ∃ loc, ρ0 p = some loc ∧ lb = #[.pointer (some ⟨loc.b, loc.base + 0, none⟩)] := by
  obtain ⟨e1, e2⟩ := hlb
  obtain ⟨lb⟩ := lb
  match lb, e1, e2 with
  | [y], _, e2 =>
   have := e2 0 _ y rfl rfl
   cases this with
   | ptr _ _ loc h => exact ⟨loc, h, rfl⟩
 obtain ⟨Y, hY⟩ : ∃ Y, Value.func (.yield lo) #[] #[] = Y := ⟨_, rfl⟩
 refine callsIn_of_wp (fn := Try.f71) Try.func71 rfl trivial ?_ rfl
 have hst0 := StJ.start (N := Try.f71.ntmps) (t := tB Y p) (J := J 0) (args := #[.func (.yield lo) #[] #[]] ++ #[.pointer (some ⟨loc.b, loc.base + 0, none⟩)]) (by show 2 ≤ 19; decide) h0 (fun i y hy => by
  match i, hy with
  | 0, hy => cases hy; rw [hY]; exact .v _
  | 1, hy => cases hy; exact .ptr p 0 loc ((hJ 0 _ _ _ _ h0).1.rho _ _ hloc)) (fun i hi => by
  have hi : 2 ≤ i := hi
  unfold tB
  rw [ba _ _ (by omega), ba _ _ (by omega)])
 have hRd : ∀ i ρ V hs W, J i ρ V hs W → hs.objs p = .live [.ref q 0 l.length 42] ∧ hs.objs q = .live (List.flatMap ai l) := fun i ρ V hs W h => (hJ i ρ V hs W h).2.2.2
 refine wpIn_seq ?_
 obtain ⟨r1, r2⟩ := hRd _ _ _ _ _ hst0.j
 refine oX hC (hAb 0) (by decide +kernel) (by decide +kernel) (K := fun t => t 0 = .v Y ∧ t 1 = .ptr p 0 ∧ t 3 = vi ((l.length : Int) - 1)) hst0 ?_ ?_
 ·
  unfold tB
  simp only [go_sem, Nat.reduceEqDiff, reduceIte, Nat.reduceAdd, Nat.reduceMul, Nat.reduceSub, Nat.reduceLT, Nat.reduceLeDiff, Int.reduceToNat, Int.reduceBEq, Int.reduceBNe, Int.reduceLT, Int.reduceLE, Int.reduceAdd, Int.reduceSub, Int.reduceMul, Int.reduceNeg, Int.reduceEq, Int.reduceNe, r1, mm (show -4611686018427387904 ≤ (l.length : Int) - 1 by omega) (show (l.length : Int) - 1 < 4611686018427387904 by omega)]
  try exact ⟨rfl, rfl, rfl, rfl⟩
 intro ρ1 V1 hs1 a1 W1 t1 ⟨e0, e1, e3⟩ _ hst1
 refine wpIn_block ?_
 refine wpIn_loop (I := fun a w => ∃ (k c : Nat) (ρ : Rho) (V : br) (hs : HS) (t : Nat → AV), k + c = l.length ∧ t 0 = .v Y ∧ t 1 = .ptr p 0 ∧ t 3 = vi ((c : Int) - 1) ∧ StJ Try.f71.ntmps t (J k) ρ V hs a w)
  (fun a _ => (match a.tmps.getD 3 undef with | .int _ n => (n + 1).toNat | _ => 0)) ⟨0, l.length, ρ1, V1, hs1, t1, by omega, e0, e1, e3, hst1⟩ ?_
 rintro a w ⟨k, c, ρ2, V2, hs2, t2, hk, e0, e1, e3, hst2⟩
 have hk3 : a.tmps.getD 3 undef = .int .i64 ((c : Int) - 1) := by
  have := hst2.tm 3
  rw [e3] at this
  exact Rel.v_inv this
 refine wpIn_seq ?_
 refine wpIn_seq ?_
 refine oX hC (hAb _) (by decide +kernel) (by decide +kernel) (K := fun t => t 0 = .v Y ∧ t 1 = .ptr p 0 ∧ t 3 = vi ((c : Int) - 1) ∧ t 8 = vb (decide (0 ≤ (c : Int) - 1))) hst2 ?_ ?_
 ·
  simp only [go_sem, Nat.reduceEqDiff, reduceIte, Nat.reduceAdd, Nat.reduceMul, Nat.reduceSub, Nat.reduceLT, Nat.reduceLeDiff, Int.reduceToNat, Int.reduceBEq, Int.reduceBNe, Int.reduceLT, Int.reduceLE, Int.reduceAdd, Int.reduceSub, Int.reduceMul, Int.reduceNeg, Int.reduceEq, Int.reduceNe, e0, e1, e3]
  try exact ⟨rfl, rfl, rfl, rfl, rfl⟩
 intro ρ3 V3 hs3 a3 W3 t3 ⟨e0, e1, e3, e8⟩ _ hst3
 have hc8 : a3.eval (.tmp 8) = .bool (decide (0 ≤ (c : Int) - 1)) := by
  have := ji (C := K) (s := { toHS := hs3, tmps := t3 }) hst3.tm ((hAb _).inv _ _ _ _ hst3.j).2 (.tmp 8)
  rw [show ev K { toHS := hs3, tmps := t3 } (.tmp 8) = t3 8 from rfl, e8] at this
  exact Rel.v_inv this
 refine wpIn_cond_split hc8 (fun hlt => ?_) (fun hge => ?_)
 ·
  obtain ⟨i, rfl⟩ : ∃ i, c = i + 1 := ⟨c - 1, by have := of_decide_eq_true hlt; omega⟩
  have e3 : t3 3 = vi (i : Int) := by rw [e3]; congr 2; omega
  have hil : i < l.length := by omega
  obtain ⟨x, hx⟩ : ∃ x, l[i]? = some x := ⟨_, List.getElem?_eq_getElem hil⟩
  refine wpIn_skip ?_
  refine wpIn_seq ?_
  refine wpIn_block ?_
  refine wpIn_seq ?_
  obtain ⟨r1, r2⟩ := hRd _ _ _ _ _ hst3.j
  obtain ⟨f0, f1, f2, f3⟩ := cz (show idx l (i : Int) = some x by rw [lZ]; exact hx)
  rw [Int.toNat_natCast] at f2
  refine A7 hC (hAb _) (hAb (k + 1)) hAx (by decide +kernel) (by decide +kernel) 6 _ rfl (l := lo) rfl rfl rfl (x := [vi (i : Int), .agg (ai x)]) (b := true) hst3
   (K1 := fun t => t 0 = .v Y ∧ t 1 = .ptr p 0 ∧ t 3 = vi (i : Int) ∧ t 11 = .v Y ∧ t 12 = vi (i : Int) ∧ t 16 = .agg (ai x))
   (K2 := fun r t => t 0 = .v Y ∧ t 1 = .ptr p 0 ∧ t 3 = vi (i : Int) ∧ t 18 = vb (match r with | some false => true | _ => false)) ?_ ?_ ?_ ?_ ?_ ?_ ?_ ?_
  ·
   simp only [go_sem, Nat.reduceEqDiff, reduceIte, Nat.reduceAdd, Nat.reduceMul, Nat.reduceSub, Nat.reduceLT, Nat.reduceLeDiff, Int.reduceToNat, Int.reduceBEq, Int.reduceBNe, Int.reduceLT, Int.reduceLE, Int.reduceAdd, Int.reduceSub, Int.reduceMul, Int.reduceNeg, Int.reduceEq, Int.reduceNe, e0, e1, e3, r1, r2, f0, f1, f2, Int.toNat_natCast]
   try exact ⟨rfl, rfl, rfl, rfl, rfl, rfl⟩
  ·
   rintro t1 _
   exact .inl ⟨rfl, rfl⟩
  ·
   rintro _ t1 hs' ⟨_, _, _, h11, h12, h16⟩
   exact ⟨by rw [hY]; exact h11, by show [t1 12, t1 16] = _; rw [h12, h16]⟩
  ·
   intro _ ρ' V' hs' W' args' _ hj hargs
   exact hy _ _ _ _ _ _ _ hj (xu (by omega) hx) hargs
  ·
   rintro r t1 hs' ⟨e0, e1, e3, _⟩ hr
   cases r with
   | none => cases hr
   | some r =>
    cases r <;> simp only [go_sem, Nat.reduceEqDiff, reduceIte, Nat.reduceAdd, Nat.reduceMul, Nat.reduceSub, Nat.reduceLT, Nat.reduceLeDiff, Int.reduceToNat, Int.reduceBEq, Int.reduceBNe, Int.reduceLT, Int.reduceLE, Int.reduceAdd, Int.reduceSub, Int.reduceMul, Int.reduceNeg, Int.reduceEq, Int.reduceNe, e0, e1, e3] <;> first | rfl | exact ⟨rfl, rfl, rfl, rfl, rfl⟩
  ·
   intro h; cases h
  ·
   rintro _ ρ5 V5 hs5 a5 W5 t5 ⟨e0, e1, e3, e18⟩ _ hst5
   have hc : a5.eval (.tmp 18) = .bool false := by
    have := ji (C := K) (s := { toHS := hs5, tmps := t5 }) hst5.tm ((hAb _).inv _ _ _ _ hst5.j).2 (.tmp 18)
    rw [show ev K { toHS := hs5, tmps := t5 } (.tmp 18) = t5 18 from rfl, e18] at this
    exact Rel.v_inv this
   refine wpIn_cond_false hc (wpIn_skip ?_)
   refine oX hC (hAb _) (by decide +kernel) (by decide +kernel) (K := fun t => t 0 = .v Y ∧ t 1 = .ptr p 0 ∧ t 3 = vi ((i : Int) - 1)) hst5 ?_ ?_
   ·
    simp only [go_sem, Nat.reduceEqDiff, reduceIte, Nat.reduceAdd, Nat.reduceMul, Nat.reduceSub, Nat.reduceLT, Nat.reduceLeDiff, Int.reduceToNat, Int.reduceBEq, Int.reduceBNe, Int.reduceLT, Int.reduceLE, Int.reduceAdd, Int.reduceSub, Int.reduceMul, Int.reduceNeg, Int.reduceEq, Int.reduceNe, e0, e1, e3, mm (show -4611686018427387904 ≤ (i : Int) - 1 by omega) (show (i : Int) - 1 < 4611686018427387904 by omega)]
    try exact ⟨rfl, rfl, rfl, rfl⟩
   rintro ρ6 V6 hs6 a6 W6 t6 ⟨e0, e1, e3⟩ _ hst6
   refine ⟨⟨k + 1, i, ρ6, V6, hs6, t6, by omega, e0, e1, e3, hst6⟩, ?_⟩
   have h3 : a6.tmps.getD 3 undef = .int .i64 ((i : Int) - 1) := by
    have := hst6.tm 3
    rw [e3] at this
    exact Rel.v_inv this
   show (match a6.tmps.getD 3 undef with | .int _ n => (n + 1).toNat | _ => 0) < (match a.tmps.getD 3 undef with | .int _ n => (n + 1).toNat | _ => 0)
   rw [h3, hk3]
   show ((i : Int) - 1 + 1).toNat < (((i + 1 : Nat) : Int) - 1 + 1).toNat
   omega
  ·
   rintro _ ρ5 V5 hs5 a5 W5 t5 ⟨e0, e1, e3, e18⟩ _ hst5
   have hc : a5.eval (.tmp 18) = .bool true := by
    have := ji (C := K) (s := { toHS := hs5, tmps := t5 }) hst5.tm (hAx.inv _ _ _ _ hst5.j).2 (.tmp 18)
    rw [show ev K { toHS := hs5, tmps := t5 } (.tmp 18) = t5 18 from rfl, e18] at this
    exact Rel.v_inv this
   refine wpIn_cond_true hc (wpIn_ret ?_)
   exact zP (R := fun e W' => (∃ v, e = .returned v) ∧ ∃ ρ' V' hs', J (rL l).length ρ' V' hs' W' ∨ Jx ρ' V' hs' W') hst5 rfl (fun v h => ⟨⟨v, rfl⟩, _, _, _, .inr h⟩)
 ·
  have hc0 : c = 0 := by have := of_decide_eq_false hge; omega
  subst hc0
  refine wpIn_exit ?_
  exact zP (R := fun e W' => (∃ v, e = .returned v) ∧ ∃ ρ' V' hs', J (rL l).length ρ' V' hs' W' ∨ Jx ρ' V' hs' W') hst3 rfl (fun v h => ⟨⟨v, rfl⟩, _, _, _, .inl (by rw [sv, ← hk]; exact h)⟩)

theorem Cy (n q : Nat) (hs : HS) : Snd K 57 [.ref q 0 n 42] hs (fun r hs' => r = .clo 71 [] [.ptr hs.next 0] ∧ hs'.objs = upd hs.objs hs.next (.live [.ref q 0 n 42]) ∧ hs.next < hs'.next) := by
 obtain ⟨objs, nx⟩ := hs
 refine u9 hC (fn := Try.f57) Try.func57 rfl rfl (by decide +kernel) (Nat.le_of_ble_eq_true rfl) ?_
 refine rZ fun KK hKK => ?_
 refine ap ?_
 simp only [gL, List.getD_cons_zero, go_sem, Nat.reduceEqDiff, reduceIte, Nat.reduceAdd]
 refine hKK _ ?_; clear hKK KK
 refine rZ fun KK hKK => ?_
 refine ap ?_
 simp only [go_sem, Nat.reduceEqDiff, reduceIte, Nat.reduceAdd]
 refine hKK _ ?_; clear hKK KK
 refine aM ?_
 refine ax (fn := Try.f57) (rs := #[.tmp 2]) rfl (by simp only [go_sem, sr, kP, rb, vV, Nat.reduceEqDiff, reduceIte, Nat.reduceAdd]; rfl) ?_
 exact ⟨rfl, rfl, by show nx < nx + 2 + 2; omega⟩

end Go.AX.Z.TN
