/- A part of the proof: the types, the facts of the program and the functions, read plainly. -/
import Derived.Test.YtpjogfcpmcbafaaCorec
import Derived.Test.YtpjogfcpmcbafaaProg
import Derived.KernelRfl
set_option linter.unusedVariables false
set_option linter.unusedSimpArgs false

/-! (TNS) -/

set_option linter.unusedSimpArgs false
set_option linter.unusedVariables false
namespace Go.AX.Z.TN
open Go.AX
structure SessionPlan where
 Start : Int
 Size : Int
 Limit : Int
 Life : Int
 Hold : Int
 Burst : Int
 Round : Int
 deriving DecidableEq

def SessionPlan.z : SessionPlan := ⟨0, 0, 0, 0, 0, 0, 0⟩

def am (x : SessionPlan) : List AV := [vi x.Start, vi x.Size, vi x.Limit, vi x.Life, vi x.Hold, vi x.Burst, vi x.Round]

theorem su (x : SessionPlan) : (am x).length = 7 := by rfl
theorem r9 (x : SessionPlan) : sub? (am x) 0 7 = some (am x) := by rfl
theorem rn (x : SessionPlan) : (am x).take 7 = (am x) := by rfl
theorem sf (x : SessionPlan) (y : SessionPlan) : cC (am x) 0 (am y) = am y := by rfl
theorem oh (x : SessionPlan) : (am x)[0]? = some (vi x.Start) := by rfl
theorem nT (x : SessionPlan) (v : Int) : (am x).set 0 (vi v) = am { x with Start := v } := by rfl
theorem oF (x : SessionPlan) : (am x)[1]? = some (vi x.Size) := by rfl
theorem pk (x : SessionPlan) (v : Int) : (am x).set 1 (vi v) = am { x with Size := v } := by rfl
theorem om (x : SessionPlan) : (am x)[2]? = some (vi x.Limit) := by rfl
theorem nX (x : SessionPlan) (v : Int) : (am x).set 2 (vi v) = am { x with Limit := v } := by rfl
theorem pd (x : SessionPlan) : (am x)[3]? = some (vi x.Life) := by rfl
theorem pM (x : SessionPlan) (v : Int) : (am x).set 3 (vi v) = am { x with Life := v } := by rfl
theorem pK (x : SessionPlan) : (am x)[4]? = some (vi x.Hold) := by rfl
theorem pN (x : SessionPlan) (v : Int) : (am x).set 4 (vi v) = am { x with Hold := v } := by rfl
theorem nP (x : SessionPlan) : (am x)[5]? = some (vi x.Burst) := by rfl
theorem nO (x : SessionPlan) (v : Int) : (am x).set 5 (vi v) = am { x with Burst := v } := by rfl
theorem nQ (x : SessionPlan) : (am x)[6]? = some (vi x.Round) := by rfl
theorem nW (x : SessionPlan) (v : Int) : (am x).set 6 (vi v) = am { x with Round := v } := by rfl
theorem mF (x : SessionPlan) (o : Nat → Ob) (n : Nat) : (am x).map (fz o (n + 1)) = am x := by rfl
theorem kt (x : SessionPlan) (o : Nat → Ob) (n : Nat) : (am x).flatMap (bc o (n + 1)) = [] := by
 simp only [am, List.cons_append, List.nil_append, List.append_nil, List.flatMap_cons, List.flatMap_nil, fk]
theorem cm (x : SessionPlan) : ∀ c ∈ (am x), aw c := by
 simp only [am, List.cons_append, List.nil_append]
 repeat' (first | exact aw.v _ | assumption | exact List.forall_mem_nil _ | refine List.forall_mem_cons.2 ⟨?_, ?_⟩)
theorem qi (x : SessionPlan) (o : Nat → Ob) (n : Nat) : (am x).map (fz o (n + 1)) = am x := by simp only [mF]
theorem qr (x : SessionPlan) (o : Nat → Ob) (n : Nat) : (am x).flatMap (bc o (n + 1)) = [] := by simp only [kt, List.append_nil]
attribute [go_sem] su r9 rn sf oh nT oF pk om nX pd pM pK pN nP nO nQ nW mF kt qi qr

structure SessionResult where
 Delivered : (List Int)
 Acked : (List Int)
 Dropped : (List Int)
 Rounds : Int
 deriving DecidableEq

def SessionResult.z : SessionResult := ⟨[], [], [], 0⟩

def az (x : SessionResult) (s0 : AV) (s1 : AV) (s2 : AV) : List AV := [s0, s1, s2, vi x.Rounds]

theorem pV (x : SessionResult) (s0 : AV) (s1 : AV) (s2 : AV) : (az x s0 s1 s2).length = 4 := by rfl
theorem p8 (x : SessionResult) (s0 : AV) (s1 : AV) (s2 : AV) : sub? (az x s0 s1 s2) 0 4 = some (az x s0 s1 s2) := by rfl
theorem pf (x : SessionResult) (s0 : AV) (s1 : AV) (s2 : AV) : (az x s0 s1 s2).take 4 = (az x s0 s1 s2) := by rfl
theorem pY (x : SessionResult) (s0 : AV) (s1 : AV) (s2 : AV) (y : SessionResult) (s02 : AV) (s12 : AV) (s22 : AV) : cC (az x s0 s1 s2) 0 (az y s02 s12 s22) = az y s02 s12 s22 := by rfl
theorem kz (x : SessionResult) (s0 : AV) (s1 : AV) (s2 : AV) : (az x s0 s1 s2)[0]? = some s0 := by rfl
theorem kF (x : SessionResult) (s0 : AV) (s1 : AV) (s2 : AV) (v : AV) : (az x s0 s1 s2).set 0 v = az x v s1 s2 := by rfl
theorem mb (x : SessionResult) (s0 : AV) (s1 : AV) (s2 : AV) : (az x s0 s1 s2)[1]? = some s1 := by rfl
theorem me (x : SessionResult) (s0 : AV) (s1 : AV) (s2 : AV) (v : AV) : (az x s0 s1 s2).set 1 v = az x s0 v s2 := by rfl
theorem lz (x : SessionResult) (s0 : AV) (s1 : AV) (s2 : AV) : (az x s0 s1 s2)[2]? = some s2 := by rfl
theorem lv (x : SessionResult) (s0 : AV) (s1 : AV) (s2 : AV) (v : AV) : (az x s0 s1 s2).set 2 v = az x s0 s1 v := by rfl
theorem l0 (x : SessionResult) (s0 : AV) (s1 : AV) (s2 : AV) : (az x s0 s1 s2)[3]? = some (vi x.Rounds) := by rfl
theorem lX (x : SessionResult) (s0 : AV) (s1 : AV) (s2 : AV) (v : Int) : (az x s0 s1 s2).set 3 (vi v) = az { x with Rounds := v } s0 s1 s2 := by rfl
theorem kN (x : SessionResult) (s0 : AV) (s1 : AV) (s2 : AV) (o : Nat → Ob) (n : Nat) : (az x s0 s1 s2).map (fz o (n + 1)) = az x (fz o (n + 1) s0) (fz o (n + 1) s1) (fz o (n + 1) s2) := by rfl
theorem jv (x : SessionResult) (s0 : AV) (s1 : AV) (s2 : AV) (o : Nat → Ob) (n : Nat) : (az x s0 s1 s2).flatMap (bc o (n + 1)) = bc o (n + 1) s0 ++ (bc o (n + 1) s1 ++ bc o (n + 1) s2) := by
 simp only [az, List.cons_append, List.nil_append, List.append_nil, List.flatMap_cons, List.flatMap_nil, fk]
theorem nY (x : SessionResult) (s0 : AV) (s1 : AV) (s2 : AV) (h_s0 : aw s0) (h_s1 : aw s1) (h_s2 : aw s2) : ∀ c ∈ (az x s0 s1 s2), aw c := by
 simp only [az, List.cons_append, List.nil_append]
 repeat' (first | exact aw.v _ | assumption | exact List.forall_mem_nil _ | refine List.forall_mem_cons.2 ⟨?_, ?_⟩)
theorem qY {st : AS} {F : List Nat} {σ : List (Option Nat)} (x : SessionResult) (s0 : AV) (s1 : AV) (s2 : AV) (s02 : AV) (s12 : AV) (s22 : AV) (h_s0 : Tm st F σ s0 s02) (h_s1 : Tm st F σ s1 s12) (h_s2 : Tm st F σ s2 s22) : TmL st F σ (az x s0 s1 s2) (az x s02 s12 s22) := by
 simp only [az, List.cons_append, List.nil_append]
 repeat' (first | exact TmL.nil | (refine TmL.cons (Tm.v _) ?_) | (refine TmL.cons (by assumption) ?_))
theorem bl {st : AS} {F : List Nat} {σ : List (Option Nat)} {x y : SessionResult} {s0 s1 s2 s02 s12 s22 : AV} (hxy : az y s02 s12 s22 = az x s02 s12 s22) (h_s0 : Tm st F σ s0 s02) (h_s1 : Tm st F σ s1 s12) (h_s2 : Tm st F σ s2 s22) : TmL st F σ (az x s0 s1 s2) (az y s02 s12 s22) := by
 rw [hxy]; exact qY x s0 s1 s2 s02 s12 s22 h_s0 h_s1 h_s2
theorem p4 (x : SessionResult) {s0 s1 s2 : (Nat → Nat) → AV} (h_s0 : aF s0) (h_s1 : aF s1) (h_s2 : aF s2) : RenML fun q => az x (s0 q) (s1 q) (s2 q) := by
 simp only [az, List.cons_append, List.nil_append]
 repeat' (first | exact RenML.nil | (refine RenML.cons (aF.const (aw.v _)) ?_) | (refine RenML.cons (by assumption) ?_))
def dL (x : SessionResult) : List AV := az x (lC x.Delivered) (lC x.Acked) (lC x.Dropped)
theorem iF (x : SessionResult) : dL x = az x (lC x.Delivered) (lC x.Acked) (lC x.Dropped) := rfl
theorem gb (x : SessionResult) : ∀ c ∈ dL x, aw c := nY x _ _ _ (dg _) (dg _) (dg _)
theorem up (x : SessionResult) (o : Nat → Ob) (n : Nat) : (dL x).map (fz o (n + 2)) = dL x := by simp only [iF, kN, yt, yt, yt]
theorem uo (x : SessionResult) (o : Nat → Ob) (n : Nat) : (dL x).flatMap (bc o (n + 2)) = [] := by simp only [iF, jv, yB, yB, yB, List.append_nil]
attribute [go_sem] pV p8 pf pY kz kF mb me lz lv l0 lX kN jv iF up uo

def jO (l : List SessionPlan) : AV := .imm (List.flatMap am l) l.length
theorem jF (l : List SessionPlan) : jO l = .imm (List.flatMap am l) l.length := rfl
theorem bZ (x : SessionPlan) : (am x).length = 7 := by rfl
theorem rF (l : List SessionPlan) : (l.flatMap am).length = l.length * 7 := eX bZ l
theorem sa (l : List SessionPlan) (i o : Nat) (ho : o < 7) : (l.flatMap am)[i * 7 + o]? = l[i]?.bind fun a => (am a)[o]? := jo bZ l i o ho
theorem rp (l : List SessionPlan) (i : Nat) : (l.flatMap am)[i * 7]? = l[i]?.bind fun a => (am a)[0]? := jo bZ l i 0 (by decide)
theorem sv (l : List SessionPlan) (i o n : Nat) (ho : o + n ≤ 7) (hn : 0 < n) : sub? (l.flatMap am) (i * 7 + o) n = l[i]?.bind fun a => sub? (am a) o n := jf bZ l i o n ho hn
theorem qI (l : List SessionPlan) (i n : Nat) (ho : n ≤ 7) (hn : 0 < n) : sub? (l.flatMap am) (i * 7) n = l[i]?.bind fun a => sub? (am a) 0 n := jf bZ l i 0 n (by omega) hn
theorem rm (l : List SessionPlan) : sub? (l.flatMap am) 0 (l.length * 7) = some (l.flatMap am) := pU bZ l
theorem qy (l : List SessionPlan) (n : Nat) : (l.flatMap am).take (n * 7) = (l.take n).flatMap am := iU bZ l n
theorem rj (l : List SessionPlan) (n : Nat) : (l.flatMap am).drop (n * 7) = (l.drop n).flatMap am := jA bZ l n
theorem mj (l : List SessionPlan) (o : Nat → Ob) (n : Nat) : (l.flatMap am).map (fz o (n + 1)) = (l.flatMap am) := uC (fun a => qi a o n) l
theorem lG (l : List SessionPlan) (o : Nat → Ob) (n : Nat) : (l.flatMap am).flatMap (bc o (n + 1)) = [] := mR (fun a => qr a o n) l
theorem nV (l : List SessionPlan) (i : Nat) (v : Int) : (l.flatMap am).set (i * 7) (vi v) = (l.modify i (fun y => { y with Start := v })).flatMap am := dy bZ l i 0 _ (fun y => { y with Start := v }) (by decide) (fun _ => by rfl)
theorem oG (l : List SessionPlan) (i : Nat) (v : Int) : (l.flatMap am).set (i * 7 + 1) (vi v) = (l.modify i (fun y => { y with Size := v })).flatMap am := dy bZ l i 1 _ (fun y => { y with Size := v }) (by decide) (fun _ => by rfl)
theorem oc (l : List SessionPlan) (i : Nat) (v : Int) : (l.flatMap am).set (i * 7 + 2) (vi v) = (l.modify i (fun y => { y with Limit := v })).flatMap am := dy bZ l i 2 _ (fun y => { y with Limit := v }) (by decide) (fun _ => by rfl)
theorem pq (l : List SessionPlan) (i : Nat) (v : Int) : (l.flatMap am).set (i * 7 + 3) (vi v) = (l.modify i (fun y => { y with Life := v })).flatMap am := dy bZ l i 3 _ (fun y => { y with Life := v }) (by decide) (fun _ => by rfl)
theorem ot (l : List SessionPlan) (i : Nat) (v : Int) : (l.flatMap am).set (i * 7 + 4) (vi v) = (l.modify i (fun y => { y with Hold := v })).flatMap am := dy bZ l i 4 _ (fun y => { y with Hold := v }) (by decide) (fun _ => by rfl)
theorem nS (l : List SessionPlan) (i : Nat) (v : Int) : (l.flatMap am).set (i * 7 + 5) (vi v) = (l.modify i (fun y => { y with Burst := v })).flatMap am := dy bZ l i 5 _ (fun y => { y with Burst := v }) (by decide) (fun _ => by rfl)
theorem od (l : List SessionPlan) (i : Nat) (v : Int) : (l.flatMap am).set (i * 7 + 6) (vi v) = (l.modify i (fun y => { y with Round := v })).flatMap am := dy bZ l i 6 _ (fun y => { y with Round := v }) (by decide) (fun _ => by rfl)
theorem rJ (l : List SessionPlan) (i : Nat) (x : SessionPlan) : cC (l.flatMap am) (i * 7) (am x) = (l.set i x).flatMap am := sd bZ (by decide) l i x
theorem sm (l : List SessionPlan) (x : SessionPlan) : (l.flatMap am) ++ am x = (l ++ [x]).flatMap am := by simp
theorem sk (l : List SessionPlan) (m : List SessionPlan) : (l.flatMap am) ++ m.flatMap am = (l ++ m).flatMap am := List.flatMap_append.symm
theorem t9 (l : List SessionPlan) (o : Nat → Ob) (n : Nat) : fz o (n + 2) (jO l) = jO l := by simp only [jF, fz, mj]
theorem ul (l : List SessionPlan) (o : Nat → Ob) (n : Nat) : bc o (n + 2) (jO l) = [] := by simp only [jF, bc, lG]
attribute [go_sem] jF bZ rF sa rp sv qI rm qy rj mj lG nV oG oc pq ot nS od rJ sm sk t9 ul

structure Addr where
 a0 : Int
 a1 : Int
 a2 : Int
 a3 : Int
 a4 : Int
 a5 : Int
 deriving DecidableEq

def Addr.z : Addr := ⟨0, 0, 0, 0, 0, 0⟩

def dF (x : Addr) : List AV := [vu x.a0, vu x.a1, vu x.a2, vu x.a3, vu x.a4, vu x.a5]

theorem Bv (x : Addr) : (dF x).length = 6 := by rfl
theorem Bj (x : Addr) : sub? (dF x) 0 6 = some (dF x) := by rfl
theorem zR (x : Addr) : (dF x).take 6 = (dF x) := by rfl
theorem A6 (x : Addr) (y : Addr) : cC (dF x) 0 (dF y) = dF y := by rfl
theorem xW (x : Addr) (o : Nat → Ob) (n : Nat) : (dF x).map (fz o (n + 1)) = dF x := by rfl
theorem se (x : Addr) (o : Nat → Ob) (n : Nat) : (dF x).flatMap (bc o (n + 1)) = [] := by
 simp only [dF, List.cons_append, List.nil_append, List.append_nil, List.flatMap_cons, List.flatMap_nil, fk]
theorem Id (x : Addr) (o : Nat → Ob) (n : Nat) : (dF x).map (fz o (n + 1)) = dF x := by simp only [xW]
theorem Ib (x : Addr) (o : Nat → Ob) (n : Nat) : (dF x).flatMap (bc o (n + 1)) = [] := by simp only [se, List.append_nil]
attribute [go_sem] Bv Bj zR A6 xW se Id Ib

structure Header where
 Kind : Int
 Sub : Int
 ToDs : Bool
 FromDs : Bool
 More : Bool
 Retry : Bool
 Sleep : Bool
 MoreData : Bool
 Protected : Bool
 Duration : Int
 A1 : Addr
 A2 : Addr
 A3 : Addr
 A4 : Addr
 Seq : Int
 Frag : Int
 Tid : Int
 Ack : Int
 Amsdu : Bool
 Eosp : Bool
 deriving DecidableEq

def Header.z : Header := ⟨0, 0, false, false, false, false, false, false, false, 0, Addr.z, Addr.z, Addr.z, Addr.z, 0, 0, 0, 0, false, false⟩

def cN (x : Header) : List AV := [vu x.Kind, vu x.Sub, vb x.ToDs, vb x.FromDs, vb x.More, vb x.Retry, vb x.Sleep, vb x.MoreData, vb x.Protected, vi x.Duration] ++ (dF x.A1) ++ (dF x.A2) ++ (dF x.A3) ++ (dF x.A4) ++ [vi x.Seq, vi x.Frag, vi x.Tid, vu x.Ack, vb x.Amsdu, vb x.Eosp]

theorem zl (x : Header) : (cN x).length = 40 := by rfl
theorem y5 (x : Header) : sub? (cN x) 0 40 = some (cN x) := by rfl
theorem w8 (x : Header) : (cN x).take 40 = (cN x) := by rfl
theorem yp (x : Header) (y : Header) : cC (cN x) 0 (cN y) = cN y := by rfl
theorem tH (x : Header) (o : Nat → Ob) (n : Nat) : (cN x).map (fz o (n + 1)) = cN x := by rfl
theorem o8 (x : Header) (o : Nat → Ob) (n : Nat) : (cN x).flatMap (bc o (n + 1)) = [] := by
 simp only [cN, dF, List.cons_append, List.nil_append, List.append_nil, List.flatMap_cons, List.flatMap_nil, fk]
theorem D8 (x : Header) (o : Nat → Ob) (n : Nat) : (cN x).map (fz o (n + 1)) = cN x := by simp only [tH]
theorem Dl (x : Header) (o : Nat → Ob) (n : Nat) : (cN x).flatMap (bc o (n + 1)) = [] := by simp only [o8, List.append_nil]
attribute [go_sem] zl y5 w8 yp tH o8 D8 Dl

structure Frame where
 Head : Header
 Body : (List Int)
 deriving DecidableEq

def Frame.z : Frame := ⟨Header.z, []⟩

def bn (x : Frame) (s0 : AV) : List AV := (cN x.Head) ++ [s0]

theorem Ag (x : Frame) (s0 : AV) : (bn x s0).length = 41 := by rfl
theorem zW (x : Frame) (s0 : AV) : sub? (bn x s0) 0 41 = some (bn x s0) := by rfl
theorem yy (x : Frame) (s0 : AV) : (bn x s0).take 41 = (bn x s0) := by rfl
theorem zY (x : Frame) (s0 : AV) (y : Frame) (s02 : AV) : cC (bn x s0) 0 (bn y s02) = bn y s02 := by rfl
theorem oC (x : Frame) (s0 : AV) (v : Bool) : (bn x s0).set 5 (vb v) = bn { x with Head.Retry := v } s0 := by rfl
theorem qD (x : Frame) (s0 : AV) : (bn x s0)[34]? = some (vi x.Head.Seq) := by rfl
theorem re (x : Frame) (s0 : AV) (v : Int) : (bn x s0).set 34 (vi v) = bn { x with Head.Seq := v } s0 := by rfl
theorem qE (x : Frame) (s0 : AV) (v : Int) : (bn x s0).set 36 (vi v) = bn { x with Head.Tid := v } s0 := by rfl
theorem wa (x : Frame) (s0 : AV) : (bn x s0)[40]? = some s0 := by rfl
theorem uQ (x : Frame) (s0 : AV) (v : AV) : (bn x s0).set 40 v = bn x v := by rfl
theorem vB (x : Frame) (s0 : AV) (o : Nat → Ob) (n : Nat) : (bn x s0).map (fz o (n + 1)) = bn x (fz o (n + 1) s0) := by rfl
theorem p9 (x : Frame) (s0 : AV) (o : Nat → Ob) (n : Nat) : (bn x s0).flatMap (bc o (n + 1)) = bc o (n + 1) s0 := by
 simp only [bn, cN, dF, List.cons_append, List.nil_append, List.append_nil, List.flatMap_cons, List.flatMap_nil, fk]
theorem w7 (x : Frame) (s0 : AV) (h_s0 : aw s0) : ∀ c ∈ (bn x s0), aw c := by
 simp only [bn, cN, dF, List.cons_append, List.nil_append]
 repeat' (first | exact aw.v _ | assumption | exact List.forall_mem_nil _ | refine List.forall_mem_cons.2 ⟨?_, ?_⟩)
theorem BA {st : AS} {F : List Nat} {σ : List (Option Nat)} (x : Frame) (s0 : AV) (s02 : AV) (h_s0 : Tm st F σ s0 s02) : TmL st F σ (bn x s0) (bn x s02) := by
 simp only [bn, cN, dF, List.cons_append, List.nil_append]
 repeat' (first | exact TmL.nil | (refine TmL.cons (Tm.v _) ?_) | (refine TmL.cons (by assumption) ?_))
theorem c9 {st : AS} {F : List Nat} {σ : List (Option Nat)} {x y : Frame} {s0 s02 : AV} (hxy : bn y s02 = bn x s02) (h_s0 : Tm st F σ s0 s02) : TmL st F σ (bn x s0) (bn y s02) := by
 rw [hxy]; exact BA x s0 s02 h_s0
def aY (x : Frame) : List AV := bn x (rY x.Body)
theorem ra (x : Frame) : aY x = bn x (rY x.Body) := rfl
theorem dD (x : Frame) : ∀ c ∈ aY x, aw c := w7 x _ (rr _)
theorem BQ (x : Frame) (o : Nat → Ob) (n : Nat) : (aY x).map (fz o (n + 2)) = aY x := by simp only [ra, vB, zp]
theorem BL (x : Frame) (o : Nat → Ob) (n : Nat) : (aY x).flatMap (bc o (n + 2)) = [] := by simp only [ra, p9, yv, List.append_nil]
attribute [go_sem] Ag zW yy zY oC qD re qE wa uQ vB p9 ra BQ BL

structure Unacked where
 At : Int
 Tries : Int
 Flying : Bool
 Frame : Frame
 deriving DecidableEq

def Unacked.z : Unacked := ⟨0, 0, false, Frame.z⟩

def bh (x : Unacked) (s0 : AV) : List AV := [vi x.At, vi x.Tries, vb x.Flying] ++ (bn x.Frame s0)

theorem xx (x : Unacked) (s0 : AV) : (bh x s0).length = 44 := by rfl
theorem wI (x : Unacked) (s0 : AV) : sub? (bh x s0) 0 44 = some (bh x s0) := by rfl
theorem ve (x : Unacked) (s0 : AV) : (bh x s0).take 44 = (bh x s0) := by rfl
theorem wE (x : Unacked) (s0 : AV) (y : Unacked) (s02 : AV) : cC (bh x s0) 0 (bh y s02) = bh y s02 := by rfl
theorem uT (x : Unacked) (s0 : AV) : (bh x s0)[0]? = some (vi x.At) := by rfl
theorem vP (x : Unacked) (s0 : AV) (v : Int) : (bh x s0).set 0 (vi v) = bh { x with At := v } s0 := by rfl
theorem sg (x : Unacked) (s0 : AV) : (bh x s0)[1]? = some (vi x.Tries) := by rfl
theorem qH (x : Unacked) (s0 : AV) : (bh x s0)[2]? = some (vb x.Flying) := by rfl
theorem lq (x : Unacked) (s0 : AV) : (bh x s0)[37]? = some (vi x.Frame.Head.Seq) := by rfl
theorem rD (x : Unacked) (s0 : AV) : sub? (bh x s0) 3 41 = some (bn x.Frame s0) := by rfl
theorem sc (x : Unacked) (s0 : AV) (v : Frame) (w0 : AV) : cC (bh x s0) 3 (bn v w0) = bh { x with Frame := v } w0 := by rfl
theorem rS (x : Unacked) (s0 : AV) (o : Nat → Ob) (n : Nat) : (bh x s0).map (fz o (n + 1)) = bh x (fz o (n + 1) s0) := by rfl
theorem nJ (x : Unacked) (s0 : AV) (o : Nat → Ob) (n : Nat) : (bh x s0).flatMap (bc o (n + 1)) = bc o (n + 1) s0 := by
 simp only [bh, bn, cN, dF, List.cons_append, List.nil_append, List.append_nil, List.flatMap_cons, List.flatMap_nil, fk]
theorem tV (x : Unacked) (s0 : AV) (h_s0 : aw s0) : ∀ c ∈ (bh x s0), aw c := by
 simp only [bh, bn, cN, dF, List.cons_append, List.nil_append]
 repeat' (first | exact aw.v _ | assumption | exact List.forall_mem_nil _ | refine List.forall_mem_cons.2 ⟨?_, ?_⟩)
theorem yz {st : AS} {F : List Nat} {σ : List (Option Nat)} (x : Unacked) (s0 : AV) (s02 : AV) (h_s0 : Tm st F σ s0 s02) : TmL st F σ (bh x s0) (bh x s02) := by
 simp only [bh, bn, cN, dF, List.cons_append, List.nil_append]
 repeat' (first | exact TmL.nil | (refine TmL.cons (Tm.v _) ?_) | (refine TmL.cons (by assumption) ?_))
theorem qk {st : AS} {F : List Nat} {σ : List (Option Nat)} {x y : Unacked} {s0 s02 : AV} (hxy : bh y s02 = bh x s02) (h_s0 : Tm st F σ s0 s02) : TmL st F σ (bh x s0) (bh y s02) := by
 rw [hxy]; exact yz x s0 s02 h_s0
theorem qd (x : Unacked) {s0 : (Nat → Nat) → AV} (h_s0 : aF s0) : RenML fun q => bh x (s0 q) := by
 simp only [bh, bn, cN, dF, List.cons_append, List.nil_append]
 repeat' (first | exact RenML.nil | (refine RenML.cons (aF.const (aw.v _)) ?_) | (refine RenML.cons (by assumption) ?_))
def ag (x : Unacked) : List AV := bh x (rY x.Frame.Body)
theorem ne (x : Unacked) : ag x = bh x (rY x.Frame.Body) := rfl
theorem iC (x : Unacked) : ∀ c ∈ ag x, aw c := tV x _ (rr _)
theorem xV (x : Unacked) (o : Nat → Ob) (n : Nat) : (ag x).map (fz o (n + 2)) = ag x := by simp only [ne, rS, zp]
theorem xZ (x : Unacked) (o : Nat → Ob) (n : Nat) : (ag x).flatMap (bc o (n + 2)) = [] := by simp only [ne, nJ, yv, List.append_nil]
attribute [go_sem] xx wI ve wE uT vP sg qH lq rD sc rS nJ ne xV xZ

def gI (l : List Unacked) : AV := .imm (List.flatMap ag l) l.length
theorem na (l : List Unacked) : gI l = .imm (List.flatMap ag l) l.length := rfl
theorem cY (x : Unacked) : (ag x).length = 44 := by rfl
theorem nL (l : List Unacked) : aw (gI l) := aw.imm (jz iC l)
theorem ah (l : List Unacked) : ∀ c ∈ l.flatMap ag, aw c := jz iC l
theorem wB (l : List Unacked) : (l.flatMap ag).length = l.length * 44 := eX cY l
theorem wC (l : List Unacked) (i o : Nat) (ho : o < 44) : (l.flatMap ag)[i * 44 + o]? = l[i]?.bind fun a => (ag a)[o]? := jo cY l i o ho
theorem uV (l : List Unacked) (i : Nat) : (l.flatMap ag)[i * 44]? = l[i]?.bind fun a => (ag a)[0]? := jo cY l i 0 (by decide)
theorem xu (l : List Unacked) (i o n : Nat) (ho : o + n ≤ 44) (hn : 0 < n) : sub? (l.flatMap ag) (i * 44 + o) n = l[i]?.bind fun a => sub? (ag a) o n := jf cY l i o n ho hn
theorem wg (l : List Unacked) (i n : Nat) (ho : n ≤ 44) (hn : 0 < n) : sub? (l.flatMap ag) (i * 44) n = l[i]?.bind fun a => sub? (ag a) 0 n := jf cY l i 0 n (by omega) hn
theorem wz (l : List Unacked) (o : Nat) : (l.flatMap ag)[o]? = l[o / 44]?.bind fun a => (ag a)[o % 44]? := xJ cY (by decide) l o
theorem wl (l : List Unacked) (o n : Nat) (ho : o % 44 + n ≤ 44) (hn : 0 < n) : sub? (l.flatMap ag) o n = l[o / 44]?.bind fun a => sub? (ag a) (o % 44) n := xA cY l o n ho hn
theorem wv (l : List Unacked) : sub? (l.flatMap ag) 0 (l.length * 44) = some (l.flatMap ag) := pU cY l
theorem vS (l : List Unacked) (n : Nat) : (l.flatMap ag).take (n * 44) = (l.take n).flatMap ag := iU cY l n
theorem vO (l : List Unacked) (n : Nat) : (l.flatMap ag).drop (n * 44) = (l.drop n).flatMap ag := jA cY l n
theorem r8 (l : List Unacked) (o : Nat → Ob) (n : Nat) : (l.flatMap ag).map (fz o (n + 2)) = (l.flatMap ag) := uC (fun a => xV a o n) l
theorem qg (l : List Unacked) (o : Nat → Ob) (n : Nat) : (l.flatMap ag).flatMap (bc o (n + 2)) = [] := mR (fun a => xZ a o n) l
theorem vQ (l : List Unacked) (i : Nat) (v : Int) : (l.flatMap ag).set (i * 44) (vi v) = (l.modify i (fun y => { y with At := v })).flatMap ag := dy cY l i 0 _ (fun y => { y with At := v }) (by decide) (fun _ => by rfl)
theorem rG (l : List Unacked) (i : Nat) (v : Int) : (l.flatMap ag).set (i * 44 + 1) (vi v) = (l.modify i (fun y => { y with Tries := v })).flatMap ag := dy cY l i 1 _ (fun y => { y with Tries := v }) (by decide) (fun _ => by rfl)
theorem qz (l : List Unacked) (i : Nat) (v : Bool) : (l.flatMap ag).set (i * 44 + 2) (vb v) = (l.modify i (fun y => { y with Flying := v })).flatMap ag := dy cY l i 2 _ (fun y => { y with Flying := v }) (by decide) (fun _ => by rfl)
theorem kp (l : List Unacked) (i : Nat) (v : Bool) : (l.flatMap ag).set (i * 44 + 8) (vb v) = (l.modify i (fun y => { y with Frame.Head.Retry := v })).flatMap ag := dy cY l i 8 _ (fun y => { y with Frame.Head.Retry := v }) (by decide) (fun _ => by rfl)
theorem kY (l : List Unacked) (i : Nat) (v : Int) : (l.flatMap ag).set (i * 44 + 37) (vi v) = (l.modify i (fun y => { y with Frame.Head.Seq := v })).flatMap ag := dy cY l i 37 _ (fun y => { y with Frame.Head.Seq := v }) (by decide) (fun _ => by rfl)
theorem lg (l : List Unacked) (i : Nat) (v : Int) : (l.flatMap ag).set (i * 44 + 39) (vi v) = (l.modify i (fun y => { y with Frame.Head.Tid := v })).flatMap ag := dy cY l i 39 _ (fun y => { y with Frame.Head.Tid := v }) (by decide) (fun _ => by rfl)
theorem wU (l : List Unacked) (i : Nat) (x : Unacked) (b0 : (List Int)) : cC (l.flatMap ag) (i * 44) (bh x (.imm (List.map vu b0) b0.length)) = (l.set i { x with Frame.Body := b0 }).flatMap ag := sd cY (by decide) l i { x with Frame.Body := b0 }
theorem xm (l : List Unacked) (x : Unacked) (b0 : (List Int)) : (l.flatMap ag) ++ bh x (rY b0) = (l ++ [{ x with Frame.Body := b0 }]).flatMap ag := by rw [List.flatMap_append]; simp only [List.flatMap_cons, List.flatMap_nil, List.append_nil]; rfl
theorem wY (l : List Unacked) (m : List Unacked) : (l.flatMap ag) ++ m.flatMap ag = (l ++ m).flatMap ag := List.flatMap_append.symm
theorem ov (l : List Unacked) (o : Nat → Ob) (n : Nat) : fz o (n + 3) (gI l) = gI l := by simp only [na, fz, r8]
theorem o7 (l : List Unacked) (o : Nat → Ob) (n : Nat) : bc o (n + 3) (gI l) = [] := by simp only [na, bc, qg]
attribute [go_sem] na cY wB wC uV xu wg wv vS vO r8 qg vQ rG qz kp kY lg wU xm wY ov o7

structure Sender where
 Tid : Int
 Phase : Int
 Token : Int
 Next : Int
 Size : Int
 Limit : Int
 Life : Int
 Out : (List Unacked)
 Bar : Bool
 deriving DecidableEq

def Sender.z : Sender := ⟨0, 0, 0, 0, 0, 0, 0, [], false⟩

def av (x : Sender) (s0 : AV) : List AV := [vi x.Tid, vu x.Phase, vi x.Token, vi x.Next, vi x.Size, vi x.Limit, vi x.Life, s0, vb x.Bar]

theorem yZ (x : Sender) (s0 : AV) : (av x s0).length = 9 := by rfl
theorem yA (x : Sender) (s0 : AV) : sub? (av x s0) 0 9 = some (av x s0) := by rfl
theorem wW (x : Sender) (s0 : AV) : (av x s0).take 9 = (av x s0) := by rfl
theorem zi (x : Sender) (s0 : AV) (y : Sender) (s02 : AV) : cC (av x s0) 0 (av y s02) = av y s02 := by rfl
theorem vC (x : Sender) (s0 : AV) : (av x s0)[0]? = some (vi x.Tid) := by rfl
theorem wy (x : Sender) (s0 : AV) (v : Int) : (av x s0).set 0 (vi v) = av { x with Tid := v } s0 := by rfl
theorem tx (x : Sender) (s0 : AV) : (av x s0)[1]? = some (vu x.Phase) := by rfl
theorem sA (x : Sender) (s0 : AV) (v : Int) : (av x s0).set 1 (vu v) = av { x with Phase := v } s0 := by rfl
theorem td (x : Sender) (s0 : AV) : (av x s0)[2]? = some (vi x.Token) := by rfl
theorem tw (x : Sender) (s0 : AV) (v : Int) : (av x s0).set 2 (vi v) = av { x with Token := v } s0 := by rfl
theorem ue (x : Sender) (s0 : AV) : (av x s0)[3]? = some (vi x.Next) := by rfl
theorem uf (x : Sender) (s0 : AV) (v : Int) : (av x s0).set 3 (vi v) = av { x with Next := v } s0 := by rfl
theorem ud (x : Sender) (s0 : AV) : (av x s0)[4]? = some (vi x.Size) := by rfl
theorem uq (x : Sender) (s0 : AV) (v : Int) : (av x s0).set 4 (vi v) = av { x with Size := v } s0 := by rfl
theorem tq (x : Sender) (s0 : AV) : (av x s0)[5]? = some (vi x.Limit) := by rfl
theorem sD (x : Sender) (s0 : AV) (v : Int) : (av x s0).set 5 (vi v) = av { x with Limit := v } s0 := by rfl
theorem uc (x : Sender) (s0 : AV) : (av x s0)[6]? = some (vi x.Life) := by rfl
theorem ur (x : Sender) (s0 : AV) (v : Int) : (av x s0).set 6 (vi v) = av { x with Life := v } s0 := by rfl
theorem u5 (x : Sender) (s0 : AV) : (av x s0)[7]? = some s0 := by rfl
theorem va (x : Sender) (s0 : AV) (v : AV) : (av x s0).set 7 v = av x v := by rfl
theorem vH (x : Sender) (s0 : AV) : (av x s0)[8]? = some (vb x.Bar) := by rfl
theorem vm (x : Sender) (s0 : AV) (v : Bool) : (av x s0).set 8 (vb v) = av { x with Bar := v } s0 := by rfl
theorem tL (x : Sender) (s0 : AV) (o : Nat → Ob) (n : Nat) : (av x s0).map (fz o (n + 1)) = av x (fz o (n + 1) s0) := by rfl
theorem oq (x : Sender) (s0 : AV) (o : Nat → Ob) (n : Nat) : (av x s0).flatMap (bc o (n + 1)) = bc o (n + 1) s0 := by
 simp only [av, List.cons_append, List.nil_append, List.append_nil, List.flatMap_cons, List.flatMap_nil, fk]
theorem vR (x : Sender) (s0 : AV) (h_s0 : aw s0) : ∀ c ∈ (av x s0), aw c := by
 simp only [av, List.cons_append, List.nil_append]
 repeat' (first | exact aw.v _ | assumption | exact List.forall_mem_nil _ | refine List.forall_mem_cons.2 ⟨?_, ?_⟩)
theorem zL {st : AS} {F : List Nat} {σ : List (Option Nat)} (x : Sender) (s0 : AV) (s02 : AV) (h_s0 : Tm st F σ s0 s02) : TmL st F σ (av x s0) (av x s02) := by
 simp only [av, List.cons_append, List.nil_append]
 repeat' (first | exact TmL.nil | (refine TmL.cons (Tm.v _) ?_) | (refine TmL.cons (by assumption) ?_))
theorem al {st : AS} {F : List Nat} {σ : List (Option Nat)} {x y : Sender} {s0 s02 : AV} (hxy : av y s02 = av x s02) (h_s0 : Tm st F σ s0 s02) : TmL st F σ (av x s0) (av y s02) := by
 rw [hxy]; exact zL x s0 s02 h_s0
theorem bD (x : Sender) {s0 : (Nat → Nat) → AV} (h_s0 : aF s0) : RenML fun q => av x (s0 q) := by
 simp only [av, List.cons_append, List.nil_append]
 repeat' (first | exact RenML.nil | (refine RenML.cons (aF.const (aw.v _)) ?_) | (refine RenML.cons (by assumption) ?_))
def bt (x : Sender) : List AV := av x (gI x.Out)
theorem ow (x : Sender) : bt x = av x (gI x.Out) := rfl
theorem aR (x : Sender) : ∀ c ∈ bt x, aw c := vR x _ (nL _)
theorem C9 (x : Sender) (o : Nat → Ob) (n : Nat) : (bt x).map (fz o (n + 3)) = bt x := by simp only [ow, tL, ov]
theorem Dd (x : Sender) (o : Nat → Ob) (n : Nat) : (bt x).flatMap (bc o (n + 3)) = [] := by simp only [ow, oq, o7, List.append_nil]
attribute [go_sem] yZ yA wW zi vC wy tx sA td tw ue uf ud uq tq sD uc ur u5 va vH vm tL oq ow C9 Dd

structure HeldSeq where
 At : Int
 Frame : Frame
 deriving DecidableEq

def HeldSeq.z : HeldSeq := ⟨0, Frame.z⟩

def bU (x : HeldSeq) (s0 : AV) : List AV := [vi x.At] ++ (bn x.Frame s0)

theorem lU (x : HeldSeq) (s0 : AV) : (bU x s0).length = 42 := by rfl
theorem xr (x : HeldSeq) (s0 : AV) : sub? (bU x s0) 0 42 = some (bU x s0) := by rfl
theorem vE (x : HeldSeq) (s0 : AV) : (bU x s0).take 42 = (bU x s0) := by rfl
theorem xa (x : HeldSeq) (s0 : AV) (y : HeldSeq) (s02 : AV) : cC (bU x s0) 0 (bU y s02) = bU y s02 := by rfl
theorem vY (x : HeldSeq) (s0 : AV) : (bU x s0)[0]? = some (vi x.At) := by rfl
theorem uW (x : HeldSeq) (s0 : AV) (v : Int) : (bU x s0).set 0 (vi v) = bU { x with At := v } s0 := by rfl
theorem lp (x : HeldSeq) (s0 : AV) : (bU x s0)[35]? = some (vi x.Frame.Head.Seq) := by rfl
theorem r6 (x : HeldSeq) (s0 : AV) : sub? (bU x s0) 1 41 = some (bn x.Frame s0) := by rfl
theorem rA (x : HeldSeq) (s0 : AV) (v : Frame) (w0 : AV) : cC (bU x s0) 1 (bn v w0) = bU { x with Frame := v } w0 := by rfl
theorem rC (x : HeldSeq) (s0 : AV) (o : Nat → Ob) (n : Nat) : (bU x s0).map (fz o (n + 1)) = bU x (fz o (n + 1) s0) := by rfl
theorem ny (x : HeldSeq) (s0 : AV) (o : Nat → Ob) (n : Nat) : (bU x s0).flatMap (bc o (n + 1)) = bc o (n + 1) s0 := by
 simp only [bU, bn, cN, dF, List.cons_append, List.nil_append, List.append_nil, List.flatMap_cons, List.flatMap_nil, fk]
theorem um (x : HeldSeq) (s0 : AV) (h_s0 : aw s0) : ∀ c ∈ (bU x s0), aw c := by
 simp only [bU, bn, cN, dF, List.cons_append, List.nil_append]
 repeat' (first | exact aw.v _ | assumption | exact List.forall_mem_nil _ | refine List.forall_mem_cons.2 ⟨?_, ?_⟩)
def ai (x : HeldSeq) : List AV := bU x (rY x.Frame.Body)
theorem mZ (x : HeldSeq) : ai x = bU x (rY x.Frame.Body) := rfl
theorem kh (x : HeldSeq) : ∀ c ∈ ai x, aw c := um x _ (rr _)
theorem xU (x : HeldSeq) (o : Nat → Ob) (n : Nat) : (ai x).map (fz o (n + 2)) = ai x := by simp only [mZ, rC, zp]
theorem xO (x : HeldSeq) (o : Nat → Ob) (n : Nat) : (ai x).flatMap (bc o (n + 2)) = [] := by simp only [mZ, ny, yv, List.append_nil]
attribute [go_sem] lU xr vE xa vY uW lp r6 rA rC ny mZ xU xO

def eK (l : List HeldSeq) : AV := .imm (List.flatMap ai l) l.length
theorem mT (l : List HeldSeq) : eK l = .imm (List.flatMap ai l) l.length := rfl
theorem cX (x : HeldSeq) : (ai x).length = 42 := by rfl
theorem fN (l : List HeldSeq) : aw (eK l) := aw.imm (jz kh l)
theorem au (l : List HeldSeq) : ∀ c ∈ l.flatMap ai, aw c := jz kh l
theorem fT (l : List HeldSeq) : (l.flatMap ai).length = l.length * 42 := eX cX l
theorem wL (l : List HeldSeq) (i o : Nat) (ho : o < 42) : (l.flatMap ai)[i * 42 + o]? = l[i]?.bind fun a => (ai a)[o]? := jo cX l i o ho
theorem vU (l : List HeldSeq) (i : Nat) : (l.flatMap ai)[i * 42]? = l[i]?.bind fun a => (ai a)[0]? := jo cX l i 0 (by decide)
theorem wO (l : List HeldSeq) (i o n : Nat) (ho : o + n ≤ 42) (hn : 0 < n) : sub? (l.flatMap ai) (i * 42 + o) n = l[i]?.bind fun a => sub? (ai a) o n := jf cX l i o n ho hn
theorem ww (l : List HeldSeq) (i n : Nat) (ho : n ≤ 42) (hn : 0 < n) : sub? (l.flatMap ai) (i * 42) n = l[i]?.bind fun a => sub? (ai a) 0 n := jf cX l i 0 n (by omega) hn
theorem pC (l : List HeldSeq) (o : Nat) : (l.flatMap ai)[o]? = l[o / 42]?.bind fun a => (ai a)[o % 42]? := xJ cX (by decide) l o
theorem oA (l : List HeldSeq) (o n : Nat) (ho : o % 42 + n ≤ 42) (hn : 0 < n) : sub? (l.flatMap ai) o n = l[o / 42]?.bind fun a => sub? (ai a) (o % 42) n := xA cX l o n ho hn
theorem vz (l : List HeldSeq) : sub? (l.flatMap ai) 0 (l.length * 42) = some (l.flatMap ai) := pU cX l
theorem wq (l : List HeldSeq) (n : Nat) : (l.flatMap ai).take (n * 42) = (l.take n).flatMap ai := iU cX l n
theorem vl (l : List HeldSeq) (n : Nat) : (l.flatMap ai).drop (n * 42) = (l.drop n).flatMap ai := jA cX l n
theorem rE (l : List HeldSeq) (o : Nat → Ob) (n : Nat) : (l.flatMap ai).map (fz o (n + 2)) = (l.flatMap ai) := uC (fun a => xU a o n) l
theorem qp (l : List HeldSeq) (o : Nat → Ob) (n : Nat) : (l.flatMap ai).flatMap (bc o (n + 2)) = [] := mR (fun a => xO a o n) l
theorem vF (l : List HeldSeq) (i : Nat) (v : Int) : (l.flatMap ai).set (i * 42) (vi v) = (l.modify i (fun y => { y with At := v })).flatMap ai := dy cX l i 0 _ (fun y => { y with At := v }) (by decide) (fun _ => by rfl)
theorem kj (l : List HeldSeq) (i : Nat) (v : Bool) : (l.flatMap ai).set (i * 42 + 6) (vb v) = (l.modify i (fun y => { y with Frame.Head.Retry := v })).flatMap ai := dy cX l i 6 _ (fun y => { y with Frame.Head.Retry := v }) (by decide) (fun _ => by rfl)
theorem kQ (l : List HeldSeq) (i : Nat) (v : Int) : (l.flatMap ai).set (i * 42 + 35) (vi v) = (l.modify i (fun y => { y with Frame.Head.Seq := v })).flatMap ai := dy cX l i 35 _ (fun y => { y with Frame.Head.Seq := v }) (by decide) (fun _ => by rfl)
theorem lu (l : List HeldSeq) (i : Nat) (v : Int) : (l.flatMap ai).set (i * 42 + 37) (vi v) = (l.modify i (fun y => { y with Frame.Head.Tid := v })).flatMap ai := dy cX l i 37 _ (fun y => { y with Frame.Head.Tid := v }) (by decide) (fun _ => by rfl)
theorem wV (l : List HeldSeq) (i : Nat) (x : HeldSeq) (b0 : (List Int)) : cC (l.flatMap ai) (i * 42) (bU x (.imm (List.map vu b0) b0.length)) = (l.set i { x with Frame.Body := b0 }).flatMap ai := sd cX (by decide) l i { x with Frame.Body := b0 }
theorem xh (l : List HeldSeq) (x : HeldSeq) (b0 : (List Int)) : (l.flatMap ai) ++ bU x (rY b0) = (l ++ [{ x with Frame.Body := b0 }]).flatMap ai := by rw [List.flatMap_append]; simp only [List.flatMap_cons, List.flatMap_nil, List.append_nil]; rfl
theorem wN (l : List HeldSeq) (m : List HeldSeq) : (l.flatMap ai) ++ m.flatMap ai = (l ++ m).flatMap ai := List.flatMap_append.symm
theorem oP (l : List HeldSeq) (o : Nat → Ob) (n : Nat) : fz o (n + 3) (eK l) = eK l := by simp only [mT, fz, rE]
theorem oK (l : List HeldSeq) (o : Nat → Ob) (n : Nat) : bc o (n + 3) (eK l) = [] := by simp only [mT, bc, qp]
attribute [go_sem] mT cX fT wL vU wO ww vz wq vl rE qp vF kj kQ lu wV xh wN oP oK

structure Window where
 Start : Int
 Bits : Int
 deriving DecidableEq

def Window.z : Window := ⟨0, 0⟩

def aU (x : Window) : List AV := [vi x.Start, vq x.Bits]

theorem zd (x : Window) : (aU x).length = 2 := by rfl
theorem yl (x : Window) : sub? (aU x) 0 2 = some (aU x) := by rfl
theorem wZ (x : Window) : (aU x).take 2 = (aU x) := by rfl
theorem zo (x : Window) (y : Window) : cC (aU x) 0 (aU y) = aU y := by rfl
theorem sR (x : Window) : (aU x)[0]? = some (vi x.Start) := by rfl
theorem sX (x : Window) (v : Int) : (aU x).set 0 (vi v) = aU { x with Start := v } := by rfl
theorem uh (x : Window) : (aU x)[1]? = some (vq x.Bits) := by rfl
theorem ua (x : Window) (v : Int) : (aU x).set 1 (vq v) = aU { x with Bits := v } := by rfl
theorem tU (x : Window) (o : Nat → Ob) (n : Nat) : (aU x).map (fz o (n + 1)) = aU x := by rfl
theorem oN (x : Window) (o : Nat → Ob) (n : Nat) : (aU x).flatMap (bc o (n + 1)) = [] := by
 simp only [aU, List.cons_append, List.nil_append, List.append_nil, List.flatMap_cons, List.flatMap_nil, fk]
theorem aI (x : Window) : ∀ c ∈ (aU x), aw c := by
 simp only [aU, List.cons_append, List.nil_append]
 repeat' (first | exact aw.v _ | assumption | exact List.forall_mem_nil _ | refine List.forall_mem_cons.2 ⟨?_, ?_⟩)
theorem Es (x : Window) (o : Nat → Ob) (n : Nat) : (aU x).map (fz o (n + 1)) = aU x := by simp only [tU]
theorem Dy (x : Window) (o : Nat → Ob) (n : Nat) : (aU x).flatMap (bc o (n + 1)) = [] := by simp only [oN, List.append_nil]
attribute [go_sem] zd yl wZ zo sR sX uh ua tU oN Es Dy

structure Reorder where
 Start : Int
 Size : Int
 Hold : Int
 Held : (List HeldSeq)
 Seen : Window
 deriving DecidableEq

def Reorder.z : Reorder := ⟨0, 0, 0, [], Window.z⟩

def aB (x : Reorder) (s0 : AV) : List AV := [vi x.Start, vi x.Size, vi x.Hold, s0] ++ (aU x.Seen)

theorem wJ (x : Reorder) (s0 : AV) : (aB x s0).length = 6 := by rfl
theorem xn (x : Reorder) (s0 : AV) : sub? (aB x s0) 0 6 = some (aB x s0) := by rfl
theorem uO (x : Reorder) (s0 : AV) : (aB x s0).take 6 = (aB x s0) := by rfl
theorem xp (x : Reorder) (s0 : AV) (y : Reorder) (s02 : AV) : cC (aB x s0) 0 (aB y s02) = aB y s02 := by rfl
theorem rP (x : Reorder) (s0 : AV) : (aB x s0)[0]? = some (vi x.Start) := by rfl
theorem so (x : Reorder) (s0 : AV) (v : Int) : (aB x s0).set 0 (vi v) = aB { x with Start := v } s0 := by rfl
theorem sJ (x : Reorder) (s0 : AV) : (aB x s0)[1]? = some (vi x.Size) := by rfl
theorem sM (x : Reorder) (s0 : AV) (v : Int) : (aB x s0).set 1 (vi v) = aB { x with Size := v } s0 := by rfl
theorem s6 (x : Reorder) (s0 : AV) : (aB x s0)[2]? = some (vi x.Hold) := by rfl
theorem sU (x : Reorder) (s0 : AV) (v : Int) : (aB x s0).set 2 (vi v) = aB { x with Hold := v } s0 := by rfl
theorem tu (x : Reorder) (s0 : AV) : (aB x s0)[3]? = some s0 := by rfl
theorem tD (x : Reorder) (s0 : AV) (v : AV) : (aB x s0).set 3 v = aB x v := by rfl
theorem sP (x : Reorder) (s0 : AV) : sub? (aB x s0) 4 2 = some (aU x.Seen) := by rfl
theorem sN (x : Reorder) (s0 : AV) (v : Window) : cC (aB x s0) 4 (aU v) = aB { x with Seen := v } s0 := by rfl
theorem rL (x : Reorder) (s0 : AV) (o : Nat → Ob) (n : Nat) : (aB x s0).map (fz o (n + 1)) = aB x (fz o (n + 1) s0) := by rfl
theorem nB (x : Reorder) (s0 : AV) (o : Nat → Ob) (n : Nat) : (aB x s0).flatMap (bc o (n + 1)) = bc o (n + 1) s0 := by
 simp only [aB, aU, List.cons_append, List.nil_append, List.append_nil, List.flatMap_cons, List.flatMap_nil, fk]
theorem ub (x : Reorder) (s0 : AV) (h_s0 : aw s0) : ∀ c ∈ (aB x s0), aw c := by
 simp only [aB, aU, List.cons_append, List.nil_append]
 repeat' (first | exact aw.v _ | assumption | exact List.forall_mem_nil _ | refine List.forall_mem_cons.2 ⟨?_, ?_⟩)
theorem yx {st : AS} {F : List Nat} {σ : List (Option Nat)} (x : Reorder) (s0 : AV) (s02 : AV) (h_s0 : Tm st F σ s0 s02) : TmL st F σ (aB x s0) (aB x s02) := by
 simp only [aB, aU, List.cons_append, List.nil_append]
 repeat' (first | exact TmL.nil | (refine TmL.cons (Tm.v _) ?_) | (refine TmL.cons (by assumption) ?_))
theorem aJ {st : AS} {F : List Nat} {σ : List (Option Nat)} {x y : Reorder} {s0 s02 : AV} (hxy : aB y s02 = aB x s02) (h_s0 : Tm st F σ s0 s02) : TmL st F σ (aB x s0) (aB y s02) := by
 rw [hxy]; exact yx x s0 s02 h_s0
theorem iA (x : Reorder) {s0 : (Nat → Nat) → AV} (h_s0 : aF s0) : RenML fun q => aB x (s0 q) := by
 simp only [aB, aU, List.cons_append, List.nil_append]
 repeat' (first | exact RenML.nil | (refine RenML.cons (aF.const (aw.v _)) ?_) | (refine RenML.cons (by assumption) ?_))
theorem qj {q nx off : Nat} (x : Reorder) {s0 : AV} {s02 : AV} (h_s0 : Fr q nx off s0 s02) : FrL q nx off (aB x s0) (aB x s02) := by
 simp only [aB, aU, List.cons_append, List.nil_append]
 repeat' (first | exact FrL.nil | (refine FrL.cons _ _ _ _ (by assumption) ?_) | (refine FrL.cons _ _ _ _ (Fr.same _) ?_))
def c5 (x : Reorder) : List AV := aB x (eK x.Held)
theorem mU (x : Reorder) : c5 x = aB x (eK x.Held) := rfl
theorem bA (x : Reorder) : ∀ c ∈ c5 x, aw c := ub x _ (fN _)
theorem Cp (x : Reorder) (o : Nat → Ob) (n : Nat) : (c5 x).map (fz o (n + 3)) = c5 x := by simp only [mU, rL, oP]
theorem Cb (x : Reorder) (o : Nat → Ob) (n : Nat) : (c5 x).flatMap (bc o (n + 3)) = [] := by simp only [mU, nB, oK, List.append_nil]
attribute [go_sem] wJ xn uO xp rP so sJ sM s6 sU tu tD sP sN rL nB mU Cp Cb

structure Session_sides where
 Sender : Sender
 Reorder : Reorder
 deriving DecidableEq

def Session_sides.z : Session_sides := ⟨Sender.z, Reorder.z⟩

def bx (x : Session_sides) (s0 : AV) (s1 : AV) : List AV := (av x.Sender s0) ++ (aB x.Reorder s1)

theorem p6 (x : Session_sides) (s0 : AV) (s1 : AV) : (bx x s0 s1).length = 15 := by rfl
theorem pZ (x : Session_sides) (s0 : AV) (s1 : AV) : sub? (bx x s0 s1) 0 15 = some (bx x s0 s1) := by rfl
theorem oJ (x : Session_sides) (s0 : AV) (s1 : AV) : (bx x s0 s1).take 15 = (bx x s0 s1) := by rfl
theorem pW (x : Session_sides) (s0 : AV) (s1 : AV) (y : Session_sides) (s02 : AV) (s12 : AV) : cC (bx x s0 s1) 0 (bx y s02 s12) = bx y s02 s12 := by rfl
theorem kR (x : Session_sides) (s0 : AV) (s1 : AV) (o : Nat → Ob) (n : Nat) : (bx x s0 s1).map (fz o (n + 1)) = bx x (fz o (n + 1) s0) (fz o (n + 1) s1) := by rfl
theorem jt (x : Session_sides) (s0 : AV) (s1 : AV) (o : Nat → Ob) (n : Nat) : (bx x s0 s1).flatMap (bc o (n + 1)) = bc o (n + 1) s0 ++ bc o (n + 1) s1 := by
 simp only [bx, av, aB, aU, List.cons_append, List.nil_append, List.append_nil, List.flatMap_cons, List.flatMap_nil, fk]
def iE (x : Session_sides) : List AV := bx x (gI x.Sender.Out) (eK x.Reorder.Held)
theorem iK (x : Session_sides) : iE x = bx x (gI x.Sender.Out) (eK x.Reorder.Held) := rfl
theorem uj (x : Session_sides) (o : Nat → Ob) (n : Nat) : (iE x).map (fz o (n + 3)) = iE x := by simp only [iK, kR, ov, oP]
theorem t4 (x : Session_sides) (o : Nat → Ob) (n : Nat) : (iE x).flatMap (bc o (n + 3)) = [] := by simp only [iK, jt, o7, oK, List.append_nil]
attribute [go_sem] p6 pZ oJ pW kR jt iK uj t4

structure Session_session where
 sides : Session_sides
 plan : SessionPlan
 many : Int
 accepted : Int
 lost : Unit
 out : SessionResult
 err : Int
 deriving DecidableEq

def Session_session.z : Session_session := ⟨Session_sides.z, SessionPlan.z, 0, 0, (), SessionResult.z, 0⟩

def ae (x : Session_session) (s0 : AV) (s1 : AV) (s2 : AV) (s3 : AV) (s4 : AV) (s5 : AV) : List AV := (bx x.sides s0 s1) ++ (am x.plan) ++ [vi x.many, vi x.accepted, s2] ++ (az x.out s3 s4 s5) ++ [vi x.err]

theorem nU (x : Session_session) (s0 : AV) (s1 : AV) (s2 : AV) (s3 : AV) (s4 : AV) (s5 : AV) : (ae x s0 s1 s2 s3 s4 s5).length = 30 := by rfl
theorem nZ (x : Session_session) (s0 : AV) (s1 : AV) (s2 : AV) (s3 : AV) (s4 : AV) (s5 : AV) : sub? (ae x s0 s1 s2 s3 s4 s5) 0 30 = some (ae x s0 s1 s2 s3 s4 s5) := by rfl
theorem mI (x : Session_session) (s0 : AV) (s1 : AV) (s2 : AV) (s3 : AV) (s4 : AV) (s5 : AV) : (ae x s0 s1 s2 s3 s4 s5).take 30 = (ae x s0 s1 s2 s3 s4 s5) := by rfl
theorem ol (x : Session_session) (s0 : AV) (s1 : AV) (s2 : AV) (s3 : AV) (s4 : AV) (s5 : AV) (y : Session_session) (s02 : AV) (s12 : AV) (s22 : AV) (s32 : AV) (s42 : AV) (s52 : AV) : cC (ae x s0 s1 s2 s3 s4 s5) 0 (ae y s02 s12 s22 s32 s42 s52) = ae y s02 s12 s22 s32 s42 s52 := by rfl
theorem gH (x : Session_session) (s0 : AV) (s1 : AV) (s2 : AV) (s3 : AV) (s4 : AV) (s5 : AV) : (ae x s0 s1 s2 s3 s4 s5)[3]? = some (vi x.sides.Sender.Next) := by rfl
theorem gV (x : Session_session) (s0 : AV) (s1 : AV) (s2 : AV) (s3 : AV) (s4 : AV) (s5 : AV) : (ae x s0 s1 s2 s3 s4 s5)[7]? = some s0 := by rfl
theorem gW (x : Session_session) (s0 : AV) (s1 : AV) (s2 : AV) (s3 : AV) (s4 : AV) (s5 : AV) : (ae x s0 s1 s2 s3 s4 s5)[8]? = some (vb x.sides.Sender.Bar) := by rfl
theorem jH (x : Session_session) (s0 : AV) (s1 : AV) (s2 : AV) (s3 : AV) (s4 : AV) (s5 : AV) : (ae x s0 s1 s2 s3 s4 s5)[15]? = some (vi x.plan.Start) := by rfl
theorem jM (x : Session_session) (s0 : AV) (s1 : AV) (s2 : AV) (s3 : AV) (s4 : AV) (s5 : AV) : (ae x s0 s1 s2 s3 s4 s5)[20]? = some (vi x.plan.Burst) := by rfl
theorem jG (x : Session_session) (s0 : AV) (s1 : AV) (s2 : AV) (s3 : AV) (s4 : AV) (s5 : AV) : (ae x s0 s1 s2 s3 s4 s5)[21]? = some (vi x.plan.Round) := by rfl
theorem l5 (x : Session_session) (s0 : AV) (s1 : AV) (s2 : AV) (s3 : AV) (s4 : AV) (s5 : AV) : (ae x s0 s1 s2 s3 s4 s5)[22]? = some (vi x.many) := by rfl
theorem l6 (x : Session_session) (s0 : AV) (s1 : AV) (s2 : AV) (s3 : AV) (s4 : AV) (s5 : AV) (v : Int) : (ae x s0 s1 s2 s3 s4 s5).set 22 (vi v) = ae { x with many := v } s0 s1 s2 s3 s4 s5 := by rfl
theorem ko (x : Session_session) (s0 : AV) (s1 : AV) (s2 : AV) (s3 : AV) (s4 : AV) (s5 : AV) : (ae x s0 s1 s2 s3 s4 s5)[23]? = some (vi x.accepted) := by rfl
theorem kl (x : Session_session) (s0 : AV) (s1 : AV) (s2 : AV) (s3 : AV) (s4 : AV) (s5 : AV) (v : Int) : (ae x s0 s1 s2 s3 s4 s5).set 23 (vi v) = ae { x with accepted := v } s0 s1 s2 s3 s4 s5 := by rfl
theorem lY (x : Session_session) (s0 : AV) (s1 : AV) (s2 : AV) (s3 : AV) (s4 : AV) (s5 : AV) : (ae x s0 s1 s2 s3 s4 s5)[24]? = some s2 := by rfl
theorem lQ (x : Session_session) (s0 : AV) (s1 : AV) (s2 : AV) (s3 : AV) (s4 : AV) (s5 : AV) (v : AV) : (ae x s0 s1 s2 s3 s4 s5).set 24 v = ae x s0 s1 v s3 s4 s5 := by rfl
theorem i6 (x : Session_session) (s0 : AV) (s1 : AV) (s2 : AV) (s3 : AV) (s4 : AV) (s5 : AV) : (ae x s0 s1 s2 s3 s4 s5)[25]? = some s3 := by rfl
theorem i5 (x : Session_session) (s0 : AV) (s1 : AV) (s2 : AV) (s3 : AV) (s4 : AV) (s5 : AV) (v : AV) : (ae x s0 s1 s2 s3 s4 s5).set 25 v = ae x s0 s1 s2 v s4 s5 := by rfl
theorem jR (x : Session_session) (s0 : AV) (s1 : AV) (s2 : AV) (s3 : AV) (s4 : AV) (s5 : AV) : (ae x s0 s1 s2 s3 s4 s5)[26]? = some s4 := by rfl
theorem j9 (x : Session_session) (s0 : AV) (s1 : AV) (s2 : AV) (s3 : AV) (s4 : AV) (s5 : AV) (v : AV) : (ae x s0 s1 s2 s3 s4 s5).set 26 v = ae x s0 s1 s2 s3 v s5 := by rfl
theorem jq (x : Session_session) (s0 : AV) (s1 : AV) (s2 : AV) (s3 : AV) (s4 : AV) (s5 : AV) : (ae x s0 s1 s2 s3 s4 s5)[27]? = some s5 := by rfl
theorem jr (x : Session_session) (s0 : AV) (s1 : AV) (s2 : AV) (s3 : AV) (s4 : AV) (s5 : AV) (v : AV) : (ae x s0 s1 s2 s3 s4 s5).set 27 v = ae x s0 s1 s2 s3 s4 v := by rfl
theorem jw (x : Session_session) (s0 : AV) (s1 : AV) (s2 : AV) (s3 : AV) (s4 : AV) (s5 : AV) : (ae x s0 s1 s2 s3 s4 s5)[28]? = some (vi x.out.Rounds) := by rfl
theorem jI (x : Session_session) (s0 : AV) (s1 : AV) (s2 : AV) (s3 : AV) (s4 : AV) (s5 : AV) (v : Int) : (ae x s0 s1 s2 s3 s4 s5).set 28 (vi v) = ae { x with out.Rounds := v } s0 s1 s2 s3 s4 s5 := by rfl
theorem mu (x : Session_session) (s0 : AV) (s1 : AV) (s2 : AV) (s3 : AV) (s4 : AV) (s5 : AV) : (ae x s0 s1 s2 s3 s4 s5)[29]? = some (vi x.err) := by rfl
theorem mn (x : Session_session) (s0 : AV) (s1 : AV) (s2 : AV) (s3 : AV) (s4 : AV) (s5 : AV) (v : Int) : (ae x s0 s1 s2 s3 s4 s5).set 29 (vi v) = ae { x with err := v } s0 s1 s2 s3 s4 s5 := by rfl
theorem jj (x : Session_session) (s0 : AV) (s1 : AV) (s2 : AV) (s3 : AV) (s4 : AV) (s5 : AV) : sub? (ae x s0 s1 s2 s3 s4 s5) 0 9 = some (av x.sides.Sender s0) := by rfl
theorem jm (x : Session_session) (s0 : AV) (s1 : AV) (s2 : AV) (s3 : AV) (s4 : AV) (s5 : AV) (v : Sender) (w0 : AV) : cC (ae x s0 s1 s2 s3 s4 s5) 0 (av v w0) = ae { x with sides.Sender := v } w0 s1 s2 s3 s4 s5 := by rfl
theorem i7 (x : Session_session) (s0 : AV) (s1 : AV) (s2 : AV) (s3 : AV) (s4 : AV) (s5 : AV) : sub? (ae x s0 s1 s2 s3 s4 s5) 9 6 = some (aB x.sides.Reorder s1) := by rfl
theorem i9 (x : Session_session) (s0 : AV) (s1 : AV) (s2 : AV) (s3 : AV) (s4 : AV) (s5 : AV) (v : Reorder) (w0 : AV) : cC (ae x s0 s1 s2 s3 s4 s5) 9 (aB v w0) = ae { x with sides.Reorder := v } s0 w0 s2 s3 s4 s5 := by rfl
theorem l3 (x : Session_session) (s0 : AV) (s1 : AV) (s2 : AV) (s3 : AV) (s4 : AV) (s5 : AV) : sub? (ae x s0 s1 s2 s3 s4 s5) 15 7 = some (am x.plan) := by rfl
theorem l7 (x : Session_session) (s0 : AV) (s1 : AV) (s2 : AV) (s3 : AV) (s4 : AV) (s5 : AV) (v : SessionPlan) : cC (ae x s0 s1 s2 s3 s4 s5) 15 (am v) = ae { x with plan := v } s0 s1 s2 s3 s4 s5 := by rfl
theorem l8 (x : Session_session) (s0 : AV) (s1 : AV) (s2 : AV) (s3 : AV) (s4 : AV) (s5 : AV) : sub? (ae x s0 s1 s2 s3 s4 s5) 25 4 = some (az x.out s3 s4 s5) := by rfl
theorem oy (x : Session_session) (s0 : AV) (s1 : AV) (s2 : AV) (s3 : AV) (s4 : AV) (s5 : AV) (o : Nat → Ob) (n : Nat) : (ae x s0 s1 s2 s3 s4 s5).map (fz o (n + 1)) = ae x (fz o (n + 1) s0) (fz o (n + 1) s1) (fz o (n + 1) s2) (fz o (n + 1) s3) (fz o (n + 1) s4) (fz o (n + 1) s5) := by rfl
theorem mc (x : Session_session) (s0 : AV) (s1 : AV) (s2 : AV) (s3 : AV) (s4 : AV) (s5 : AV) (o : Nat → Ob) (n : Nat) : (ae x s0 s1 s2 s3 s4 s5).flatMap (bc o (n + 1)) = bc o (n + 1) s0 ++ (bc o (n + 1) s1 ++ (bc o (n + 1) s2 ++ (bc o (n + 1) s3 ++ (bc o (n + 1) s4 ++ bc o (n + 1) s5)))) := by
 simp only [ae, bx, av, aB, aU, am, az, List.cons_append, List.nil_append, List.append_nil, List.flatMap_cons, List.flatMap_nil, fk]
theorem fy (x : Session_session) (s0 : AV) (s1 : AV) (s2 : AV) (s3 : AV) (s4 : AV) (s5 : AV) (h_s0 : aw s0) (h_s1 : aw s1) (h_s2 : aw s2) (h_s3 : aw s3) (h_s4 : aw s4) (h_s5 : aw s5) : ∀ c ∈ (ae x s0 s1 s2 s3 s4 s5), aw c := by
 simp only [ae, bx, av, aB, aU, am, az, List.cons_append, List.nil_append]
 repeat' (first | exact aw.v _ | assumption | exact List.forall_mem_nil _ | refine List.forall_mem_cons.2 ⟨?_, ?_⟩)
theorem oY {st : AS} {F : List Nat} {σ : List (Option Nat)} (x : Session_session) (s0 : AV) (s1 : AV) (s2 : AV) (s3 : AV) (s4 : AV) (s5 : AV) (s02 : AV) (s12 : AV) (s22 : AV) (s32 : AV) (s42 : AV) (s52 : AV) (h_s0 : Tm st F σ s0 s02) (h_s1 : Tm st F σ s1 s12) (h_s2 : Tm st F σ s2 s22) (h_s3 : Tm st F σ s3 s32) (h_s4 : Tm st F σ s4 s42) (h_s5 : Tm st F σ s5 s52) : TmL st F σ (ae x s0 s1 s2 s3 s4 s5) (ae x s02 s12 s22 s32 s42 s52) := by
 simp only [ae, bx, av, aB, aU, am, az, List.cons_append, List.nil_append]
 repeat' (first | exact TmL.nil | (refine TmL.cons (Tm.v _) ?_) | (refine TmL.cons (by assumption) ?_))
theorem aq {st : AS} {F : List Nat} {σ : List (Option Nat)} {x y : Session_session} {s0 s1 s2 s3 s4 s5 s02 s12 s22 s32 s42 s52 : AV} (hxy : ae y s02 s12 s22 s32 s42 s52 = ae x s02 s12 s22 s32 s42 s52) (h_s0 : Tm st F σ s0 s02) (h_s1 : Tm st F σ s1 s12) (h_s2 : Tm st F σ s2 s22) (h_s3 : Tm st F σ s3 s32) (h_s4 : Tm st F σ s4 s42) (h_s5 : Tm st F σ s5 s52) : TmL st F σ (ae x s0 s1 s2 s3 s4 s5) (ae y s02 s12 s22 s32 s42 s52) := by
 rw [hxy]; exact oY x s0 s1 s2 s3 s4 s5 s02 s12 s22 s32 s42 s52 h_s0 h_s1 h_s2 h_s3 h_s4 h_s5
theorem bb (x : Session_session) {s0 s1 s2 s3 s4 s5 : (Nat → Nat) → AV} (h_s0 : aF s0) (h_s1 : aF s1) (h_s2 : aF s2) (h_s3 : aF s3) (h_s4 : aF s4) (h_s5 : aF s5) : RenML fun q => ae x (s0 q) (s1 q) (s2 q) (s3 q) (s4 q) (s5 q) := by
 simp only [ae, bx, av, aB, aU, am, az, List.cons_append, List.nil_append]
 repeat' (first | exact RenML.nil | (refine RenML.cons (aF.const (aw.v _)) ?_) | (refine RenML.cons (by assumption) ?_))
attribute [go_sem] nU nZ mI ol gH gV gW jH jM jG l5 l6 ko kl lY lQ i6 i5 jR j9 jq jr jw jI mu mn jj jm i7 i9 l3 l7 l8 oy mc

structure BlockAsk where
 Token : Int
 Tid : Int
 Size : Int
 Start : Int
 deriving DecidableEq

def BlockAsk.z : BlockAsk := ⟨0, 0, 0, 0⟩

def bv (x : BlockAsk) : List AV := [vi x.Token, vi x.Tid, vi x.Size, vi x.Start]

theorem wc (x : BlockAsk) : (bv x).length = 4 := by rfl
theorem vV (x : BlockAsk) : sub? (bv x) 0 4 = some (bv x) := by rfl
theorem ug (x : BlockAsk) : (bv x).take 4 = (bv x) := by rfl
theorem uF (x : BlockAsk) (y : BlockAsk) : cC (bv x) 0 (bv y) = bv y := by rfl
theorem qZ (x : BlockAsk) : (bv x)[0]? = some (vi x.Token) := by rfl
theorem rg (x : BlockAsk) (v : Int) : (bv x).set 0 (vi v) = bv { x with Token := v } := by rfl
theorem tt (x : BlockAsk) (v : Int) : (bv x).set 1 (vi v) = bv { x with Tid := v } := by rfl
theorem rK (x : BlockAsk) (v : Int) : (bv x).set 2 (vi v) = bv { x with Size := v } := by rfl
theorem ri (x : BlockAsk) (v : Int) : (bv x).set 3 (vi v) = bv { x with Start := v } := by rfl
theorem qe (x : BlockAsk) (o : Nat → Ob) (n : Nat) : (bv x).map (fz o (n + 1)) = bv x := by rfl
theorem mA (x : BlockAsk) (o : Nat → Ob) (n : Nat) : (bv x).flatMap (bc o (n + 1)) = [] := by
 simp only [bv, List.cons_append, List.nil_append, List.append_nil, List.flatMap_cons, List.flatMap_nil, fk]
theorem dc (x : BlockAsk) : ∀ c ∈ (bv x), aw c := by
 simp only [bv, List.cons_append, List.nil_append]
 repeat' (first | exact aw.v _ | assumption | exact List.forall_mem_nil _ | refine List.forall_mem_cons.2 ⟨?_, ?_⟩)
theorem Bm (x : BlockAsk) (o : Nat → Ob) (n : Nat) : (bv x).map (fz o (n + 1)) = bv x := by simp only [qe]
theorem AR (x : BlockAsk) (o : Nat → Ob) (n : Nat) : (bv x).flatMap (bc o (n + 1)) = [] := by simp only [mA, List.append_nil]
attribute [go_sem] wc vV ug uF qZ rg tt rK ri qe mA Bm AR

structure BlockAnswer where
 Token : Int
 Tid : Int
 Status : Int
 Size : Int
 deriving DecidableEq

def BlockAnswer.z : BlockAnswer := ⟨0, 0, 0, 0⟩

def bg (x : BlockAnswer) : List AV := [vi x.Token, vi x.Tid, vi x.Status, vi x.Size]

theorem sb (x : BlockAnswer) : (bg x).length = 4 := by rfl
theorem rX (x : BlockAnswer) : sub? (bg x) 0 4 = some (bg x) := by rfl
theorem rl (x : BlockAnswer) : (bg x).take 4 = (bg x) := by rfl
theorem sw (x : BlockAnswer) (y : BlockAnswer) : cC (bg x) 0 (bg y) = bg y := by rfl
theorem nR (x : BlockAnswer) : (bg x)[0]? = some (vi x.Token) := by rfl
theorem oa (x : BlockAnswer) (v : Int) : (bg x).set 0 (vi v) = bg { x with Token := v } := by rfl
theorem p5 (x : BlockAnswer) : (bg x)[1]? = some (vi x.Tid) := by rfl
theorem mS (x : BlockAnswer) : (bg x)[2]? = some (vi x.Status) := by rfl
theorem pz (x : BlockAnswer) : (bg x)[3]? = some (vi x.Size) := by rfl
theorem pE (x : BlockAnswer) (v : Int) : (bg x).set 3 (vi v) = bg { x with Size := v } := by rfl
theorem ma (x : BlockAnswer) (o : Nat → Ob) (n : Nat) : (bg x).map (fz o (n + 1)) = bg x := by rfl
theorem kv (x : BlockAnswer) (o : Nat → Ob) (n : Nat) : (bg x).flatMap (bc o (n + 1)) = [] := by
 simp only [bg, List.cons_append, List.nil_append, List.append_nil, List.flatMap_cons, List.flatMap_nil, fk]
theorem gX (x : BlockAnswer) : ∀ c ∈ (bg x), aw c := by
 simp only [bg, List.cons_append, List.nil_append]
 repeat' (first | exact aw.v _ | assumption | exact List.forall_mem_nil _ | refine List.forall_mem_cons.2 ⟨?_, ?_⟩)
theorem xk (x : BlockAnswer) (o : Nat → Ob) (n : Nat) : (bg x).map (fz o (n + 1)) = bg x := by simp only [ma]
theorem xf (x : BlockAnswer) (o : Nat → Ob) (n : Nat) : (bg x).flatMap (bc o (n + 1)) = [] := by simp only [kv, List.append_nil]
attribute [go_sem] sb rX rl sw nR oa p5 mS pz pE ma kv xk xf

def kG (l : List Frame) : AV := .imm (List.flatMap aY l) l.length
theorem qC (l : List Frame) : kG l = .imm (List.flatMap aY l) l.length := rfl
theorem gM (x : Frame) : (aY x).length = 41 := by rfl
theorem jQ (l : List Frame) : aw (kG l) := aw.imm (jz dD l)
theorem bW (l : List Frame) : ∀ c ∈ l.flatMap aY, aw c := jz dD l
theorem Ac (l : List Frame) : (l.flatMap aY).length = l.length * 41 := eX gM l
theorem Av (l : List Frame) (i o : Nat) (ho : o < 41) : (l.flatMap aY)[i * 41 + o]? = l[i]?.bind fun a => (aY a)[o]? := jo gM l i o ho
theorem yu (l : List Frame) (i : Nat) : (l.flatMap aY)[i * 41]? = l[i]?.bind fun a => (aY a)[0]? := jo gM l i 0 (by decide)
theorem zT (l : List Frame) (i o n : Nat) (ho : o + n ≤ 41) (hn : 0 < n) : sub? (l.flatMap aY) (i * 41 + o) n = l[i]?.bind fun a => sub? (aY a) o n := jf gM l i o n ho hn
theorem yk (l : List Frame) (i n : Nat) (ho : n ≤ 41) (hn : 0 < n) : sub? (l.flatMap aY) (i * 41) n = l[i]?.bind fun a => sub? (aY a) 0 n := jf gM l i 0 n (by omega) hn
theorem yD (l : List Frame) : sub? (l.flatMap aY) 0 (l.length * 41) = some (l.flatMap aY) := pU gM l
theorem ze (l : List Frame) (n : Nat) : (l.flatMap aY).take (n * 41) = (l.take n).flatMap aY := iU gM l n
theorem yh (l : List Frame) (n : Nat) : (l.flatMap aY).drop (n * 41) = (l.drop n).flatMap aY := jA gM l n
theorem vZ (l : List Frame) (o : Nat → Ob) (n : Nat) : (l.flatMap aY).map (fz o (n + 2)) = (l.flatMap aY) := uC (fun a => BQ a o n) l
theorem tP (l : List Frame) (o : Nat → Ob) (n : Nat) : (l.flatMap aY).flatMap (bc o (n + 2)) = [] := mR (fun a => BL a o n) l
theorem oZ (l : List Frame) (i : Nat) (v : Bool) : (l.flatMap aY).set (i * 41 + 5) (vb v) = (l.modify i (fun y => { y with Head.Retry := v })).flatMap aY := dy gM l i 5 _ (fun y => { y with Head.Retry := v }) (by decide) (fun _ => by rfl)
theorem qw (l : List Frame) (i : Nat) (v : Int) : (l.flatMap aY).set (i * 41 + 34) (vi v) = (l.modify i (fun y => { y with Head.Seq := v })).flatMap aY := dy gM l i 34 _ (fun y => { y with Head.Seq := v }) (by decide) (fun _ => by rfl)
theorem qu (l : List Frame) (i : Nat) (v : Int) : (l.flatMap aY).set (i * 41 + 36) (vi v) = (l.modify i (fun y => { y with Head.Tid := v })).flatMap aY := dy gM l i 36 _ (fun y => { y with Head.Tid := v }) (by decide) (fun _ => by rfl)
theorem Ab (l : List Frame) (i : Nat) (x : Frame) (b0 : (List Int)) : cC (l.flatMap aY) (i * 41) (bn x (.imm (List.map vu b0) b0.length)) = (l.set i { x with Body := b0 }).flatMap aY := sd gM (by decide) l i { x with Body := b0 }
theorem zw (l : List Frame) (x : Frame) (b0 : (List Int)) : (l.flatMap aY) ++ bn x (rY b0) = (l ++ [{ x with Body := b0 }]).flatMap aY := by rw [List.flatMap_append]; simp only [List.flatMap_cons, List.flatMap_nil, List.append_nil]; rfl
theorem zx (l : List Frame) (m : List Frame) : (l.flatMap aY) ++ m.flatMap aY = (l ++ m).flatMap aY := List.flatMap_append.symm
theorem Cc (l : List Frame) (o : Nat → Ob) (n : Nat) : fz o (n + 3) (kG l) = kG l := by simp only [qC, fz, vZ]
theorem Cf (l : List Frame) (o : Nat → Ob) (n : Nat) : bc o (n + 3) (kG l) = [] := by simp only [qC, bc, tP]
attribute [go_sem] qC gM Ac Av yu zT yk yD ze yh vZ tP oZ qw qu Ab zw zx Cc Cf

end Go.AX.Z.TN

/-! (TND) -/

set_option linter.unusedSimpArgs false
set_option linter.unusedVariables false
set_option maxHeartbeats 4000000
set_option maxRecDepth 20000
namespace Go.AX.Z.TN
open Go.AX

def gB : Option SessionPlan :=
 some { SessionPlan.z with Burst := 2, Hold := 16777216, Life := 1073741824, Limit := 2, Round := 10, Size := 2, Start := 4095 }

def cP (a0 : Int) (a1 : Int) (a2 : Int) : Option Bool :=
 some ((decide (a1 ≤ a0)) && (decide (a0 ≤ a2)))

def iB (a0 : SessionPlan) : Option Int :=
 ((cP a0.Start 0 4095).bind fun x2 =>
 ((
  bif x2 then
   ((cP a0.Size 1 64).bind fun x3 =>
   some x3)
  else
   some false).bind fun x4 =>
 ((
  bif x4 then
   ((cP a0.Limit 1 16).bind fun x5 =>
   some x5)
  else
   some false).bind fun x6 =>
 ((
  bif x6 then
   ((cP a0.Burst 1 64).bind fun x7 =>
   some x7)
  else
   some false).bind fun x8 =>
 ((cP a0.Life 1 1073741824).bind fun x9 =>
 ((
  bif x9 then
   ((cP a0.Hold 0 16777216).bind fun x10 =>
   some x10)
  else
   some false).bind fun x11 =>
 ((
  bif x11 then
   ((cP a0.Round 1 1000000).bind fun x12 =>
   some x12)
  else
   some false).bind fun x13 =>
 bif ((!x8) || (!x13)) then
  some 8
 else
  some 0)))))))

def bH (a0 : Int) (a1 : Int) (a2 : Int) : Option Bool :=
 some ((decide (a1 ≤ a0)) && (decide (a0 ≤ a2)))

def fK (a0 : Sender) : Option Int :=
 bif decide (0 < (a0.Out.length : Int)) then
  ((idx a0.Out 0).bind fun x27 =>
  some x27.Frame.Head.Seq)
 else
  some a0.Next

def cB (a0 : Int) (a1 : Int) : Option Int :=
 some (IntKind.wrap .i64 (uP .u64 (IntKind.wrap .u64 ((IntKind.wrap .u64 a1) - (IntKind.wrap .u64 a0))) 4095))

def dP (a0 : Sender) (x27 : Int) (x28 : Int) : Nat → (Int × Int × Int) → Option (Ex Int Unit)
 | 0, _ => none
 | n15 + 1, d31 =>
  bif decide (d31.2.2 < (a0.Out.length : Int)) then
   ((idx a0.Out d31.2.2).bind fun x32 =>
   ((cB x27 x32.Frame.Head.Seq).bind fun x33 =>
   ((bH x32.Frame.Head.Seq 0 4095).bind fun x34 =>
   ((
    bif (((!x34) || (decide (x33 ≤ d31.1))) || (decide (x28 ≤ x33))) then
     some true
    else
     ((bH x32.At d31.2.1 1099511627776).bind fun x35 =>
     some (!x35))).bind fun x36 =>
   ((
    bif x36 then
     some true
    else
     ((bH x32.Tries 0 a0.Limit).bind fun x37 =>
     some (!x37))).bind fun x38 =>
   bif (x38 || (x32.Flying && (x32.Tries == 0))) then
    some (Ex.ret 8)
   else
    dP a0 x27 x28 n15 (x33, x32.At, IntKind.wrap .i64 (d31.2.2 + 1)))))))
  else
   some (Ex.go ())

def d9 (a0 : Sender) : Option Int :=
 ((bH a0.Tid 0 7).bind fun x16 =>
 ((
  bif (x16 && (decide (a0.Phase ≤ 2))) then
   ((bH a0.Token 0 255).bind fun x17 =>
   some x17)
  else
   some false).bind fun x18 =>
 ((
  bif x18 then
   ((bH a0.Next 0 4095).bind fun x19 =>
   some x19)
  else
   some false).bind fun x20 =>
 ((
  bif x20 then
   ((bH a0.Limit 1 16).bind fun x21 =>
   some x21)
  else
   some false).bind fun x22 =>
 ((
  bif x22 then
   ((bH a0.Life 1 1073741824).bind fun x23 =>
   some x23)
  else
   some false).bind fun x24 =>
 ((bH a0.Size 1 64).bind fun x25 =>
 ((
  bif (a0.Phase == 0) then
   some (a0.Size == 0)
  else
   some x25).bind fun d26 =>
 bif (((!x24) || (!d26)) || ((a0.Phase != 2) && ((decide (0 < (a0.Out.length : Int))) || a0.Bar))) then
  some 8
 else
  ((fK a0).bind fun x27 =>
  ((cB x27 a0.Next).bind fun x28 =>
  bif decide (a0.Size < x28) then
   some 8
  else
   ((
    dP a0 x27 x28 big ((-1), 0, 0)).bind fun o30 =>
   (o30.k fun d29 =>
   some 0)))))))))))

def lf (a0 : Int) (a1 : Int) (a2 : Int) (a3 : Int) : Option (Sender × Int) :=
 ((d9 { Sender.z with Life := a3, Limit := a2, Next := a1, Tid := a0 }).bind fun x16 =>
 bif (x16 != 0) then
  some (Sender.z, 2)
 else
  some ({ Sender.z with Life := a3, Limit := a2, Next := a1, Tid := a0 }, 0))

def aW (a0 : Int) (a1 : Session_session) (a2 : (List Bool)) : Option Session_session :=
 bif (a1.err == 0) then
  some { a1 with err := a0 }
 else
  some a1

def dS (a0 : Frame) : Option Frame :=
 ((chk (decide (a0.Body.length ≤ 140737488355328))).bind fun x23 =>
 some a0)

def ei (a0 : Sender) : Nat → (List Unacked × Int) → Option ((List Unacked))
 | 0, _ => none
 | n2 + 1, d22 =>
  bif decide (d22.2 < (a0.Out.length : Int)) then
   ((idx a0.Out d22.2).bind fun x23 =>
   ((dS x23.Frame).bind fun x24 =>
   ((chk (decide ((d22.1.length + 1) * 128 ≤ 140737488355328))).bind fun x25 =>
   ei a0 n2 ((d22.1 ++ [{ x23 with Frame := x24 }]), IntKind.wrap .i64 (d22.2 + 1)))))
  else
   some d22.1

def eV (a0 : Sender) : Option Sender :=
 ((
  ei a0 big ([], 0)).bind fun d21 =>
 some { a0 with Out := d21 })

def jy (a0 : Sender) (a1 : Int) : Option (BlockAsk × Sender × Int) :=
 ((d9 a0).bind fun x19 =>
 bif (x19 != 0) then
  some (BlockAsk.z, Sender.z, x19)
 else
  ((bH a1 1 64).bind fun x20 =>
  bif (!x20) then
   some (BlockAsk.z, Sender.z, 2)
  else
   bif (a0.Phase == 2) then
    some (BlockAsk.z, Sender.z, 20)
   else
    ((eV { a0 with Phase := 1, Size := a1, Token := IntKind.wrap .i64 ((a0.Token.tmod 255) + 1) }).bind fun x21 =>
    some ({ BlockAsk.z with Size := a1, Start := a0.Next, Tid := a0.Tid, Token := IntKind.wrap .i64 ((a0.Token.tmod 255) + 1) }, x21, 0))))

def fV (a0 : Sender) (a1 : BlockAnswer) : Option (Sender × Int) :=
 ((d9 a0).bind fun x24 =>
 ((
  bif (x24 != 0) then
   some (Ex.ret (Sender.z, x24))
  else
   bif (a0.Phase != 1) then
    some (Ex.ret (Sender.z, 20))
   else
    bif ((a1.Token != a0.Token) || (a1.Tid != a0.Tid)) then
     some (Ex.ret (Sender.z, 21))
    else
     bif (a1.Status != 0) then
      some (Ex.go { a0 with Phase := 0, Size := 0 })
     else
      ((bH a1.Size 1 a0.Size).bind fun x27 =>
      bif (!x27) then
       some (Ex.ret (Sender.z, 2))
      else
       some (Ex.go { a0 with Phase := 2, Size := a1.Size }))).bind fun o26 =>
 (o26.k fun d25 =>
 ((eV d25).bind fun x28 =>
 some (x28, 0)))))

def dj (a0 : Int) : Option Bool :=
 some ((decide (0 ≤ a0)) && (decide (a0 < 4096)))

def d8 (a0 : Int) : Option Bool :=
 some ((decide (0 ≤ a0)) && (decide (a0 < 4096)))

def eE (a0 : Window) : Option Int :=
 ((d8 a0.Start).bind fun x32 =>
 bif (!x32) then
  some 8
 else
  some 0)

def en (a0 : Int) : Option Bool :=
 some ((decide (0 ≤ a0)) && (decide (a0 ≤ 1099511627776)))

def cR (a0 : Reorder) : Nat → (Int × Int) → Option (Ex Int Unit)
 | 0, _ => none
 | n8 + 1, d36 =>
  bif decide (d36.2 < (a0.Held.length : Int)) then
   ((idx a0.Held d36.2).bind fun x37 =>
   ((cB a0.Start x37.Frame.Head.Seq).bind fun x38 =>
   ((dj x37.Frame.Head.Seq).bind fun x39 =>
   ((
    bif (!x39) then
     some true
    else
     ((en x37.At).bind fun x40 =>
     some (!x40))).bind fun x41 =>
   bif ((x41 || (decide (x38 ≤ d36.1))) || (decide (a0.Size ≤ x38))) then
    some (Ex.ret 8)
   else
    cR a0 n8 (x38, IntKind.wrap .i64 (d36.2 + 1))))))
  else
   some (Ex.go ())

def ef (a0 : Reorder) : Option Int :=
 ((dj a0.Start).bind fun x31 =>
 ((
  bif (((((!x31) || (decide (a0.Size < 1))) || (decide (64 < a0.Size))) || (decide (a0.Hold < 0))) || (decide (16777216 < a0.Hold))) then
   some true
  else
   ((eE a0.Seen).bind fun x32 =>
   some (x32 != 0))).bind fun x33 =>
 bif x33 then
  some 8
 else
  ((
   cR a0 big (0, 0)).bind fun o35 =>
  (o35.k fun d34 =>
  some 0))))

def lF (a0 : Int) (a1 : Int) (a2 : Int) : Option (Reorder × Int) :=
 ((ef { Reorder.z with Hold := a2, Seen := { Window.z with Start := a0 }, Size := a1, Start := a0 }).bind fun x31 =>
 bif (x31 != 0) then
  some (Reorder.z, 2)
 else
  some ({ Reorder.z with Hold := a2, Seen := { Window.z with Start := a0 }, Size := a1, Start := a0 }, 0))

def dW (a0 : Session_session) (a1 : (List Bool)) : Option Session_session :=
 ((lf 0 a0.plan.Start a0.plan.Limit a0.plan.Life).bind fun x16 =>
 ((aW x16.2 a0 a1).bind fun x17 =>
 ((jy x16.1 a0.plan.Size).bind fun x18 =>
 ((aW x18.2.2 { x17 with out.Acked := a0.out.Acked, out.Delivered := a0.out.Delivered, out.Dropped := a0.out.Dropped } a1).bind fun x19 =>
 ((fV x18.2.1 { BlockAnswer.z with Size := a0.plan.Size, Token := x18.1.Token }).bind fun x20 =>
 ((aW x20.2 { x19 with out.Acked := a0.out.Acked, out.Delivered := a0.out.Delivered, out.Dropped := a0.out.Dropped, sides.Sender := x20.1 } a1).bind fun x21 =>
 ((lF a0.plan.Start a0.plan.Size a0.plan.Hold).bind fun x22 =>
 ((aW x22.2 { x21 with out.Acked := a0.out.Acked, out.Delivered := a0.out.Delivered, out.Dropped := a0.out.Dropped, sides.Reorder := x22.1 } a1).bind fun x23 =>
 some x23))))))))

def dR (a0 : Sender) : Nat → (List Int × Int) → Option ((List Int))
 | 0, _ => none
 | n3 + 1, d28 =>
  bif decide (d28.2 < (a0.Out.length : Int)) then
   ((idx a0.Out d28.2).bind fun x29 =>
   ((chk (decide ((d28.1.length + 1) * 8 ≤ 140737488355328))).bind fun x30 =>
   dR a0 n3 ((d28.1 ++ [x29.Frame.Head.Seq]), IntKind.wrap .i64 (d28.2 + 1))))
  else
   some d28.1

def fH (a0 : Sender) : Option ((List Int) × Sender × Int) :=
 ((d9 a0).bind fun x26 =>
 bif (x26 != 0) then
  some ([], Sender.z, x26)
 else
  ((
   dR a0 big ([], 0)).bind fun d27 =>
  some (d27, { a0 with Bar := false, Out := [], Phase := 0, Size := 0 }, 0)))

def bP (a2 : (List Int)) (a0 : Session_session) : Nat → (List Int × Int) → Option ((List Int))
 | 0, _ => none
 | n2 + 1, d34 =>
  bif decide (d34.2 < (a2.length : Int)) then
   ((idx a2 d34.2).bind fun x35 =>
   ((cB a0.plan.Start x35).bind fun x36 =>
   ((chk (decide ((d34.1.length + 1) * 8 ≤ 140737488355328))).bind fun x37 =>
   bP a2 a0 n2 ((d34.1 ++ [x36]), IntKind.wrap .i64 (d34.2 + 1)))))
  else
   some d34.1

def cg (a0 : Session_session) (a1 : (List Bool)) (a2 : (List Int)) : Option (List Int) :=
 ((
  bP a2 a0 big ([], 0)).bind fun d33 =>
 some d33)

def dO (a0 : (List HeldSeq)) : Nat → (List HeldSeq × Int) → Option ((List HeldSeq))
 | 0, _ => none
 | n2 + 1, d46 =>
  bif decide (d46.2 < (a0.length : Int)) then
   ((idx a0 d46.2).bind fun x47 =>
   ((dS x47.Frame).bind fun x48 =>
   ((chk (decide ((d46.1.length + 1) * 112 ≤ 140737488355328))).bind fun x49 =>
   dO a0 n2 ((d46.1 ++ [{ HeldSeq.z with At := x47.At, Frame := x48 }]), IntKind.wrap .i64 (d46.2 + 1)))))
  else
   some d46.1

def eH (a0 : (List HeldSeq)) : Option (List HeldSeq) :=
 ((
  dO a0 big ([], 0)).bind fun d45 =>
 some d45)

def eT (a0 : HeldSeq) (a1 : Int) (a2 : Reorder) : Option Int :=
 ((cB a2.Start a0.Frame.Head.Seq).bind fun x55 =>
 some (IntKind.wrap .i64 (x55 - a1)))

def aM (a0 : (List HeldSeq)) (a1 : Int) (a2 : Reorder) : Nat → (Int × Int) → Option (Int)
 | 0, _ => none
 | n2 + 1, d54 =>
  bif decide (d54.1 < d54.2) then
   ((idx a0 (IntKind.wrap .i64 (((IntKind.wrap .u64 (IntKind.wrap .i64 (d54.1 + d54.2)))).fdiv (2 ^ (min 1 64))))).bind fun x55 =>
   ((eT x55 a1 a2).bind fun x56 =>
   bif decide (x56 < 0) then
    aM a0 a1 a2 n2 (IntKind.wrap .i64 ((IntKind.wrap .i64 (((IntKind.wrap .u64 (IntKind.wrap .i64 (d54.1 + d54.2)))).fdiv (2 ^ (min 1 64)))) + 1), d54.2)
   else
    aM a0 a1 a2 n2 (d54.1, IntKind.wrap .i64 (((IntKind.wrap .u64 (IntKind.wrap .i64 (d54.1 + d54.2)))).fdiv (2 ^ (min 1 64))))))
  else
   some d54.1

def bG (a0 : (List HeldSeq)) (a1 : Int) (a2 : Reorder) : Option (Int × Bool) :=
 ((
  aM a0 a1 a2 big (0, (a0.length : Int))).bind fun d53 =>
 bif decide (d53 < (a0.length : Int)) then
  ((idx a0 d53).bind fun x57 =>
  ((eT x57 a1 a2).bind fun x58 =>
  some (d53, (x58 == 0))))
 else
  some (d53, false))

def fU (a0 : Reorder) (a1 : Int) : Option (Int × Bool) :=
 ((cB a0.Start a1).bind fun x52 =>
 ((bG a0.Held x52 a0).bind fun x53 =>
 some (x53.1, x53.2)))

def eN (a0 : Int) (a1 : Int) : Option Int :=
 some (IntKind.wrap .i64 (uP .u64 (IntKind.wrap .u64 ((IntKind.wrap .u64 a0) + (IntKind.wrap .u64 a1))) 4095))

def dM (a0 : Reorder) : Nat → (List Frame × Nat × Int × Int) → Option ((List Frame))
 | 0, _ => none
 | n2 + 1, d55 =>
  bif decide (d55.2.2.2 < d55.2.2.1) then
   ((chk (decide (d55.2.2.2 < (d55.2.1 : Int)))).bind fun x56 =>
   ((idx a0.Held d55.2.2.2).bind fun x57 =>
   ((chk (decide ((d55.1.length + 1) * 104 ≤ 140737488355328))).bind fun x58 =>
   dM a0 n2 ((d55.1 ++ [x57.Frame]), d55.2.1, d55.2.2.1, IntKind.wrap .i64 (d55.2.2.2 + 1)))))
  else
   some d55.1

def dN : Nat → (Reorder × List HeldSeq × List Frame) → Option ((Reorder × List HeldSeq × List Frame))
 | 0, _ => none
 | n7 + 1, d61 =>
  ((
   bif decide (0 < ((d61.2.1.length : Nat) : Int)) then
    ((idx d61.2.1 0).bind fun x62 =>
    some (x62.Frame.Head.Seq == d61.1.Start))
   else
    some false).bind fun x63 =>
  bif x63 then
   ((idx d61.2.1 0).bind fun x64 =>
   ((chk (decide ((d61.2.2.length + 1) * 104 ≤ 140737488355328))).bind fun x65 =>
   ((eN d61.1.Start 1).bind fun x66 =>
   ((chk (decide (1 ≤ (d61.2.1.length : Int)))).bind fun x67 =>
   dN n7 ({ d61.1 with Start := x66 }, (List.drop 1 d61.2.1), (d61.2.2 ++ [x64.Frame]))))))
  else
   some (d61.1, d61.2.1, d61.2.2))

def eD (a0 : Reorder) (a1 : Int) : Option (List Frame × Reorder × List HeldSeq) :=
 ((fU a0 a1).bind fun x52 =>
 ((chk (decide (0 ≤ x52.1) && decide (x52.1 ≤ (a0.Held.length : Int)))).bind fun x53 =>
 ((
  dM a0 big ([], (x52.1).toNat, (((x52.1).toNat : Nat) : Int), 0)).bind fun d54 =>
 ((chk (decide (0 ≤ x52.1) && decide (x52.1 ≤ (a0.Held.length : Int)))).bind fun x59 =>
 ((
  dN big ({ a0 with Start := a1 }, (List.drop ((x52.1).toNat) a0.Held), d54)).bind fun d60 =>
 some (d60.2.2, d60.1, d60.2.1))))))

def iR (a0 : Reorder) (a1 : Int) : Option ((List Frame) × Reorder × Int) :=
 ((ef a0).bind fun x43 =>
 bif (x43 != 0) then
  some ([], Reorder.z, x43)
 else
  ((dj a1).bind fun x44 =>
  bif (!x44) then
   some ([], Reorder.z, 2)
  else
   ((eH a0.Held).bind fun x45 =>
   ((cB a0.Start a1).bind fun x46 =>
   bif decide (2048 ≤ x46) then
    some ([], { a0 with Held := x45 }, 0)
   else
    ((eD { a0 with Held := x45 } a1).bind fun x47 =>
    some (x47.1, { x47.2.1 with Held := x47.2.2 }, 0))))))

def bO (a0 : (List Frame)) (a1 : Session_session) : Nat → (List Int × Int) → Option ((List Int))
 | 0, _ => none
 | n2 + 1, d51 =>
  bif decide (d51.2 < (a0.length : Int)) then
   ((idx a0 d51.2).bind fun x52 =>
   ((cB a1.plan.Start x52.Head.Seq).bind fun x53 =>
   ((chk (decide ((d51.1.length + 1) * 8 ≤ 140737488355328))).bind fun x54 =>
   bO a0 a1 n2 ((d51.1 ++ [x53]), IntKind.wrap .i64 (d51.2 + 1)))))
  else
   some d51.1

def bI (a0 : (List Frame)) (a1 : Session_session) (a2 : (List Bool)) : Option (List Int) :=
 ((
  bO a0 a1 big (a1.out.Delivered, 0)).bind fun d50 =>
 some d50)

def cu (a0 : Int) (a1 : Session_session) (a2 : (List Bool)) : Option (Session_session × List Int) :=
 ((iR a1.sides.Reorder a0).bind fun x43 =>
 ((aW x43.2.2 a1 a2).bind fun x44 =>
 ((bI x43.1 { x44 with out.Acked := a1.out.Acked, out.Delivered := a1.out.Delivered, out.Dropped := a1.out.Dropped, sides.Reorder := x43.2.1 } a2).bind fun x45 =>
 some ({ x44 with out.Acked := a1.out.Acked, out.Delivered := a1.out.Delivered, out.Dropped := a1.out.Dropped, sides.Reorder := x43.2.1 }, x45))))

def bX (x27 : Session_session) : Nat → (List Int × Int) → Option ((List Int))
 | 0, _ => none
 | n2 + 1, d31 =>
  bif decide (d31.2 < x27.many) then
   ((chk (decide ((d31.1.length + 1) * 8 ≤ 140737488355328))).bind fun x32 =>
   bX x27 n2 ((d31.1 ++ [d31.2]), IntKind.wrap .i64 (d31.2 + 1)))
  else
   some d31.1

def dV (a0 : Session_session) (a1 : (List Bool)) : Option (Session_session × List Int × List Int) :=
 ((fH a0.sides.Sender).bind fun x26 =>
 ((aW x26.2.2 a0 a1).bind fun x27 =>
 ((cg { x27 with out.Acked := a0.out.Acked, out.Delivered := a0.out.Delivered, out.Dropped := a0.out.Dropped, sides.Sender := x26.2.1 } a1 x26.1).bind fun x28 =>
 ((chk (decide ((a0.out.Dropped.length + x28.length) * 8 ≤ 140737488355328))).bind fun x29 =>
 ((
  bX x27 big ((a0.out.Dropped ++ x28), x27.accepted)).bind fun d30 =>
 ((cu x26.2.1.Next { x27 with out.Acked := a0.out.Acked, out.Delivered := a0.out.Delivered, out.Dropped := d30, sides.Sender := x26.2.1 } a1).bind fun x33 =>
 some (x33.1, x33.2, d30)))))))

def dQ (a0 : Sender) (a1 : Bool) : Option (Sender × Int) :=
 ((d9 a0).bind fun x36 =>
 bif (x36 != 0) then
  some (Sender.z, x36)
 else
  bif (!a1) then
   some (Sender.z, 2)
  else
   bif (a0.Phase != 2) then
    some (Sender.z, 20)
   else
    ((eV a0).bind fun x37 =>
    some (x37, 0)))

def iD (a0 : Unacked) (a1 : Sender) (a2 : Int) : Option Bool :=
 some ((!a0.Flying) && ((a0.Tries == a1.Limit) || (decide ((IntKind.wrap .i64 (a0.At + a1.Life)) ≤ a2))))

def er (a0 : Unacked) (a1 : Sender) (a2 : Int) (a3 : List Int) : Option (Bool × List Int) :=
 ((iD a0 a1 a2).bind fun x41 =>
 bif x41 then
  ((chk (decide ((a3.length + 1) * 8 ≤ 140737488355328))).bind fun x42 =>
  some (x41, (a3 ++ [a0.Frame.Head.Seq])))
 else
  some (x41, a3))

def aZ (a0 : Sender) (a1 : Int) : Nat → (List Int × Int) → Option (Ex (Int × List Int) (List Int))
 | 0, _ => none
 | n2 + 1, d41 =>
  bif decide (d41.2 < ((a0.Out.length : Nat) : Int)) then
   ((idx a0.Out d41.2).bind fun x42 =>
   ((er x42 a0 a1 d41.1).bind fun x43 =>
   bif x43.1 then
    some (Ex.ret (d41.2, x43.2))
   else
    aZ a0 a1 n2 (x43.2, IntKind.wrap .i64 (d41.2 + 1))))
  else
   some (Ex.go d41.1)

def cf (a0 : Sender) (a1 : Int) : Option (Int × List Int) :=
 ((
  aZ a0 a1 big ([], 0)).bind fun o40 =>
 (o40.k fun d39 =>
 some ((-1), d39)))

def aV (a1 : Int) : Nat → (List Unacked × Sender × List Int × Int × Int) → Option ((List Unacked × Int × Sender × List Int))
 | 0, _ => none
 | n3 + 1, d41 =>
  bif decide (d41.2.2.2.2 < ((d41.1.length : Nat) : Int)) then
   ((idx d41.1 d41.2.2.2.2).bind fun x42 =>
   ((er x42 { d41.2.1 with Out := d41.1 } a1 d41.2.2.1).bind fun x43 =>
   bif (!x43.1) then
    ((idx d41.1 d41.2.2.2.1).bind fun x44 =>
    aV a1 n3 ((d41.1.set ((d41.2.2.2.1).toNat) x42), { d41.2.1 with Out := d41.1 }, x43.2, IntKind.wrap .i64 (d41.2.2.2.1 + 1), IntKind.wrap .i64 (d41.2.2.2.2 + 1)))
   else
    aV a1 n3 (d41.1, { d41.2.1 with Out := d41.1 }, x43.2, d41.2.2.2.1, IntKind.wrap .i64 (d41.2.2.2.2 + 1))))
  else
   some (d41.1, d41.2.2.2.1, d41.2.1, d41.2.2.1)

def bK (a0 : Sender) (a1 : Int) : Option (List Unacked × Sender × List Int) :=
 ((cf a0 a1).bind fun x39 =>
 bif (x39.1 == (-1)) then
  some (a0.Out, a0, x39.2)
 else
  ((
   aV a1 big (a0.Out, a0, x39.2, x39.1, IntKind.wrap .i64 (x39.1 + 1))).bind fun d40 =>
  ((chk (decide (0 ≤ d40.2.1) && decide (d40.2.1 ≤ (d40.1.length : Int)))).bind fun x45 =>
  ((chk (decide (0 ≤ d40.2.1) && decide (d40.2.1 ≤ (d40.1.length : Int)))).bind fun x46 =>
  some ((List.take ((d40.2.1).toNat) d40.1), d40.2.2.1, d40.2.2.2)))))

def jP (a0 : Sender) (a1 : Int) : Option (List Int × Sender × List Unacked) :=
 ((bK a0 a1).bind fun x39 =>
 some (x39.2.2, x39.2.1, x39.1))

def fe (a0 : Sender) (a1 : Int) : Option ((List Int) × Sender × Int) :=
 ((bH a1 0 1099511627776).bind fun x35 =>
 ((dQ a0 x35).bind fun x36 =>
 bif (x36.2 != 0) then
  some ([], Sender.z, x36.2)
 else
  ((jP x36.1 a1).bind fun x37 =>
  some (x37.1, { x37.2.1 with Bar := (x37.2.1.Bar || (decide (0 < ((x37.1.length : Nat) : Int)))), Out := x37.2.2 }, 0))))

def fh (a0 : (List Bool)) : Option (Bool × List Bool) :=
 bif ((a0.length : Int) == 0) then
  some (false, a0)
 else
  ((idx a0 0).bind fun x42 =>
  ((chk (decide (1 ≤ (a0.length : Int)))).bind fun x43 =>
  some (x42, (List.drop 1 a0))))

def gL (a0 : Sender) : Option Int :=
 ((d9 a0).bind fun x45 =>
 bif (x45 != 0) then
  some 0
 else
  ((fK a0).bind fun x46 =>
  some x46))

def eI (a0 : Sender) : Option (Sender × Int) :=
 ((dQ a0 true).bind fun x49 =>
 bif (x49.2 != 0) then
  some (Sender.z, x49.2)
 else
  bif (!x49.1.Bar) then
   some (Sender.z, 20)
  else
   some ({ x49.1 with Bar := false }, 0))

def fE (a0 : Sender) (a1 : Frame) (a2 : Int) : Option (Frame × Sender × Int) :=
 ((bH a2 0 1099511627776).bind fun x51 =>
 ((dQ a0 x51).bind fun x52 =>
 bif (x52.2 != 0) then
  some (Frame.z, Sender.z, x52.2)
 else
  ((
   bif decide (0 < ((x52.1.Out.length : Nat) : Int)) then
    ((idx x52.1.Out (IntKind.wrap .i64 (((x52.1.Out.length : Nat) : Int) - 1))).bind fun x53 =>
    some (decide (a2 < x53.At)))
   else
    some false).bind fun x54 =>
  bif x54 then
   some (Frame.z, Sender.z, 20)
  else
   ((fK x52.1).bind fun x55 =>
   ((cB x55 x52.1.Next).bind fun x56 =>
   bif decide (x52.1.Size ≤ x56) then
    some (Frame.z, Sender.z, 22)
   else
    ((dS a1).bind fun x57 =>
    ((chk (decide ((x52.1.Out.length + 1) * 128 ≤ 140737488355328))).bind fun x58 =>
    ((eN x52.1.Next 1).bind fun x59 =>
    ((dS { x57 with Head.Retry := false, Head.Seq := x52.1.Next, Head.Tid := x52.1.Tid }).bind fun x60 =>
    some (x60, { x52.1 with Next := x59, Out := (x52.1.Out ++ [{ Unacked.z with At := a2, Frame := { x57 with Head.Retry := false, Head.Seq := x52.1.Next, Head.Tid := x52.1.Tid } }]) }, 0))))))))))

def b8 (a0 : Int) (a1 : Session_session) (a2 : (List Bool)) : Nat → Session_session → Option (Ex Session_session Session_session)
 | 0, _ => none
 | n2 + 1, d52 =>
  bif ((decide (d52.accepted < d52.many)) && (d52.err == 0)) then
   ((fE d52.sides.Sender Frame.z a0).bind fun x53 =>
   bif (x53.2.2 == 22) then
    some (Ex.ret d52)
   else
    ((aW x53.2.2 { d52 with out.Acked := a1.out.Acked, out.Delivered := a1.out.Delivered, out.Dropped := a1.out.Dropped } a2).bind fun x54 =>
    b8 a0 a1 a2 n2 { x54 with accepted := IntKind.wrap .i64 (x54.accepted + 1), sides.Sender := x53.2.1 }))
  else
   some (Ex.go d52)

def cU (a0 : Int) (a1 : Session_session) (a2 : (List Bool)) : Option Session_session :=
 ((
  b8 a0 a1 a2 big a1).bind fun o51 =>
 (o51.k fun d50 =>
 some d50))

def dJ (x56 : (Sender × Int)) (a1 : Int) : Nat → (List Unacked × List Frame × Int) → Option ((List Unacked × List Frame))
 | 0, _ => none
 | n3 + 1, d58 =>
  bif decide (d58.2.2 < ((x56.1.Out.length : Nat) : Int)) then
   ((idx d58.1 d58.2.2).bind fun x59 =>
   bif (((d58.2.1.length : Nat) : Int) == a1) then
    some (d58.1, d58.2.1)
   else
    bif (x59.Flying || (x59.Tries == x56.1.Limit)) then
     dJ x56 a1 n3 (d58.1, d58.2.1, IntKind.wrap .i64 (d58.2.2 + 1))
    else
     ((dS x59.Frame).bind fun x60 =>
     ((chk (decide ((d58.2.1.length + 1) * 104 ≤ 140737488355328))).bind fun x61 =>
     dJ x56 a1 n3 (((d58.1.modify (d58.2.2.toNat) fun y => { y with Tries := IntKind.wrap .i64 (x59.Tries + 1) }).modify (d58.2.2.toNat) fun y => { y with Flying := true }), (d58.2.1 ++ [{ x60 with Head.Retry := decide (0 < x59.Tries) }]), IntKind.wrap .i64 (d58.2.2 + 1)))))
  else
   some (d58.1, d58.2.1)

def gv (a0 : Sender) (a1 : Int) : Option ((List Frame) × Sender × Int) :=
 ((dQ a0 (decide (0 ≤ a1))).bind fun x56 =>
 bif (x56.2 != 0) then
  some ([], Sender.z, x56.2)
 else
  ((
   dJ x56 a1 big (x56.1.Out, [], 0)).bind fun d57 =>
  some (d57.2, { x56.1 with Out := d57.1 }, 0)))

def eW (a0 : Window) (a1 : Int) : Option Int :=
 ((eE a0).bind fun x75 =>
 bif (x75 != 0) then
  some x75
 else
  ((d8 a1).bind fun x76 =>
  bif (!x76) then
   some 2
  else
   some 0))

def jZ (a0 : Window) (a1 : Int) : Option (Window × Int) :=
 ((eW a0 a1).bind fun x75 =>
 bif (x75 != 0) then
  some (Window.z, x75)
 else
  ((cB a0.Start a1).bind fun x76 =>
  bif decide (x76 < 2048) then
   ((chk (decide (¬ x76 < 0))).bind fun x77 =>
   some ({ Window.z with Bits := (a0.Bits).fdiv (2 ^ (min (x76).toNat 64)), Start := a1 }, 0))
  else
   ((chk (decide (¬ (IntKind.wrap .i64 (4096 - x76)) < 0))).bind fun x78 =>
   some ({ Window.z with Bits := IntKind.wrap .u64 (a0.Bits * 2 ^ (min ((IntKind.wrap .i64 (4096 - x76))).toNat 64)), Start := a1 }, 0))))

def jW (a0 : Window) (a1 : Int) : Option (Window × Int) :=
 ((eW a0 a1).bind fun x77 =>
 bif (x77 != 0) then
  some (Window.z, x77)
 else
  ((cB a0.Start a1).bind fun x78 =>
  bif decide (64 ≤ x78) then
   some (Window.z, 21)
  else
   ((chk (decide (¬ x78 < 0))).bind fun x79 =>
   some ({ a0 with Bits := bor .u64 a0.Bits (IntKind.wrap .u64 (1 * 2 ^ (min (x78).toNat 64))) }, 0))))

def jh (a0 : Window) (a1 : Int) : Option Window :=
 ((cB a0.Start a1).bind fun x73 =>
 bif decide (2048 ≤ x73) then
  some a0
 else
  ((
   bif decide (64 ≤ x73) then
    ((eN a1 (-63)).bind fun x75 =>
    ((jZ a0 x75).bind fun x76 =>
    some x76.1))
   else
    some a0).bind fun d74 =>
  ((jW d74 a1).bind fun x77 =>
  some x77.1)))

def cp (a0 : Int) (a1 : List HeldSeq) (a2 : List HeldSeq) : Option (List HeldSeq) :=
 ((chk (decide (0 ≤ a0) && decide (a0 ≤ (a1.length : Int)))).bind fun x81 =>
 bif (((a2.length : Nat) : Int) == 0) then
  some a1
 else
  bif (a0 == ((a1.length : Nat) : Int)) then
   ((chk (decide ((a1.length + a2.length) * 112 ≤ 140737488355328))).bind fun x82 =>
   some (a1 ++ a2))
  else
   none)

def bR (a0 : Int) (a1 : List HeldSeq) (a2 : List HeldSeq) : Option (List HeldSeq) :=
 ((chk (decide (0 ≤ a0) && decide (a0 ≤ (a1.length : Int)))).bind fun x13 =>
 bif (((a2.length : Nat) : Int) == 0) then
  some a1
 else
  bif (a0 == ((a1.length : Nat) : Int)) then
   ((chk (decide ((a1.length + a2.length) * 112 ≤ 140737488355328))).bind fun x14 =>
   some (a1 ++ a2))
  else
   ((chk (decide (a2.length = 1) && decide ((a1.length + 1) * 112 ≤ 140737488355328))).bind fun x15 =>
   some (a1.take a0.toNat ++ a2 ++ a1.drop a0.toNat)))

def iO (a0 : Reorder) (a1 : Frame) (a2 : Int) : Option ((List Frame) × Reorder × Int) :=
 ((ef a0).bind fun x67 =>
 bif (x67 != 0) then
  some ([], Reorder.z, x67)
 else
  ((en a2).bind fun x68 =>
  ((
   bif (!x68) then
    some true
   else
    ((dj a1.Head.Seq).bind fun x69 =>
    some (!x69))).bind fun x70 =>
  bif x70 then
   some ([], Reorder.z, 2)
  else
   ((cB a0.Start a1.Head.Seq).bind fun x71 =>
   ((fU a0 a1.Head.Seq).bind fun x72 =>
   bif ((decide (2048 ≤ x71)) || x72.2) then
    some ([], Reorder.z, 21)
   else
    ((jh a0.Seen a1.Head.Seq).bind fun x73 =>
    ((eH a0.Held).bind fun x74 =>
    ((dS a1).bind fun x75 =>
    ((bR x72.1 x74 [{ HeldSeq.z with At := a2, Frame := x75 }]).bind fun x76 =>
    ((
     bif decide (a0.Size ≤ x71) then
      ((eN a1.Head.Seq (IntKind.wrap .i64 (1 - a0.Size))).bind fun x78 =>
      some x78)
     else
      some a0.Start).bind fun d77 =>
    ((eD { a0 with Held := x76, Seen := x73 } d77).bind fun x79 =>
    some (x79.1, { x79.2.1 with Held := x79.2.2 }, 0))))))))))))

def bL (x56 : ((List Frame) × Sender × Int)) (a0 : Int) (a1 : Session_session) : Nat → (Session_session × List Bool × List Int × Int) → Option ((Session_session × List Bool × List Int))
 | 0, _ => none
 | n2 + 1, d59 =>
  bif decide (d59.2.2.2 < (x56.1.length : Int)) then
   ((idx x56.1 d59.2.2.2).bind fun x60 =>
   ((fh d59.2.1).bind fun x61 =>
   bif x61.1 then
    bL x56 a0 a1 n2 (d59.1, x61.2, d59.2.2.1, IntKind.wrap .i64 (d59.2.2.2 + 1))
   else
    ((iO d59.1.sides.Reorder x60 a0).bind fun x62 =>
    bif (x62.2.2 == 0) then
     ((bI x62.1 { d59.1 with out.Acked := a1.out.Acked, out.Delivered := d59.2.2.1, out.Dropped := a1.out.Dropped, sides.Reorder := x62.2.1 } x61.2).bind fun x63 =>
     bL x56 a0 a1 n2 ({ d59.1 with out.Acked := a1.out.Acked, out.Delivered := d59.2.2.1, out.Dropped := a1.out.Dropped, sides.Reorder := x62.2.1 }, x61.2, x63, IntKind.wrap .i64 (d59.2.2.2 + 1)))
    else
     bL x56 a0 a1 n2 (d59.1, x61.2, d59.2.2.1, IntKind.wrap .i64 (d59.2.2.2 + 1)))))
  else
   some (d59.1, d59.2.1, d59.2.2.1)

def db (a0 : Int) (a1 : Session_session) (a2 : (List Bool)) : Option (Int × Session_session × List Bool × List Int) :=
 ((gv a1.sides.Sender a1.plan.Burst).bind fun x56 =>
 ((aW x56.2.2 a1 a2).bind fun x57 =>
 ((
  bL x56 a0 a1 big ({ x57 with sides.Sender := x56.2.1 }, a2, a1.out.Delivered, 0)).bind fun d58 =>
 some ((x56.1.length : Int), d58.1, d58.2.1, d58.2.2))))

def eo (a0 : Sender) : Nat → (List Unacked × Int) → Option ((List Unacked))
 | 0, _ => none
 | n2 + 1, d68 =>
  bif decide (d68.2 < ((a0.Out.length : Nat) : Int)) then
   ((idx d68.1 d68.2).bind fun x69 =>
   eo a0 n2 ((d68.1.modify ((d68.2).toNat) fun y => { y with Flying := false }), IntKind.wrap .i64 (d68.2 + 1)))
  else
   some d68.1

def iT (a0 : Sender) : Option (List Unacked) :=
 ((
  eo a0 big (a0.Out, 0)).bind fun d67 =>
 some d67)

def gz (a0 : Sender) : Option (Sender × Int) :=
 ((dQ a0 true).bind fun x66 =>
 bif (x66.2 != 0) then
  some (Sender.z, x66.2)
 else
  ((iT x66.1).bind fun x67 =>
  some ({ x66.1 with Out := x67 }, 0)))

def fm (a0 : Reorder) : Option (Window × Int) :=
 ((ef a0).bind fun x70 =>
 bif (x70 != 0) then
  some (Window.z, x70)
 else
  some (a0.Seen, 0))

def lk (a0 : Window) (a1 : Int) : Option Bool :=
 ((eW a0 a1).bind fun x77 =>
 bif (x77 != 0) then
  some false
 else
  ((cB a0.Start a1).bind fun x78 =>
  ((
   bif decide (x78 < 64) then
    ((chk (decide (¬ x78 < 0))).bind fun x79 =>
    some ((uP .u64 ((a0.Bits).fdiv (2 ^ (min (x78).toNat 64))) 1) == 1))
   else
    some false).bind fun x80 =>
  some x80)))

def gA (a0 : Unacked) (a1 : Window) : Option Bool :=
 ((
  bif decide (0 < a0.Tries) then
   ((lk a1 a0.Frame.Head.Seq).bind fun x77 =>
   some x77)
  else
   some false).bind fun x78 =>
 some x78)

def ey (a0 : Unacked) (a1 : Window) (a2 : List Int) : Option (Bool × List Int) :=
 ((gA a0 a1).bind fun x77 =>
 bif x77 then
  ((chk (decide ((a2.length + 1) * 8 ≤ 140737488355328))).bind fun x78 =>
  some (x77, (a2 ++ [a0.Frame.Head.Seq])))
 else
  some (x77, a2))

def aX (a1 : List Unacked) (a0 : Window) : Nat → (List Int × Int) → Option (Ex (Int × List Int) (List Int))
 | 0, _ => none
 | n2 + 1, d77 =>
  bif decide (d77.2 < ((a1.length : Nat) : Int)) then
   ((idx a1 d77.2).bind fun x78 =>
   ((ey x78 a0 d77.1).bind fun x79 =>
   bif x79.1 then
    some (Ex.ret (d77.2, x79.2))
   else
    aX a1 a0 n2 (x79.2, IntKind.wrap .i64 (d77.2 + 1))))
  else
   some (Ex.go d77.1)

def bV (a0 : Window) (a1 : List Unacked) : Option (Int × List Int) :=
 ((
  aX a1 a0 big ([], 0)).bind fun o76 =>
 (o76.k fun d75 =>
 some ((-1), d75)))

def aT (a0 : Window) : Nat → (List Unacked × List Int × Int × Int) → Option ((List Unacked × Int × List Int))
 | 0, _ => none
 | n3 + 1, d77 =>
  bif decide (d77.2.2.2 < ((d77.1.length : Nat) : Int)) then
   ((idx d77.1 d77.2.2.2).bind fun x78 =>
   ((ey x78 a0 d77.2.1).bind fun x79 =>
   bif (!x79.1) then
    ((idx d77.1 d77.2.2.1).bind fun x80 =>
    aT a0 n3 ((d77.1.set ((d77.2.2.1).toNat) x78), x79.2, IntKind.wrap .i64 (d77.2.2.1 + 1), IntKind.wrap .i64 (d77.2.2.2 + 1)))
   else
    aT a0 n3 (d77.1, x79.2, d77.2.2.1, IntKind.wrap .i64 (d77.2.2.2 + 1))))
  else
   some (d77.1, d77.2.2.1, d77.2.1)

def bF (a0 : Window) (a1 : List Unacked) : Option (List Unacked × List Int) :=
 ((bV a0 a1).bind fun x75 =>
 bif (x75.1 == (-1)) then
  some (a1, x75.2)
 else
  ((
   aT a0 big (a1, x75.2, x75.1, IntKind.wrap .i64 (x75.1 + 1))).bind fun d76 =>
  ((chk (decide (0 ≤ d76.2.1) && decide (d76.2.1 ≤ (d76.1.length : Int)))).bind fun x81 =>
  ((chk (decide (0 ≤ d76.2.1) && decide (d76.2.1 ≤ (d76.1.length : Int)))).bind fun x82 =>
  some ((List.take ((d76.2.1).toNat) d76.1), d76.2.2)))))

def fO (a0 : Sender) (a1 : Window) : Option (List Int × List Unacked) :=
 ((bF a1 a0.Out).bind fun x75 =>
 some (x75.2, x75.1))

def fJ (a0 : Sender) (a1 : Window) : Option ((List Int) × Sender × Int) :=
 ((eE a1).bind fun x73 =>
 ((dQ a0 (x73 == 0)).bind fun x74 =>
 bif (x74.2 != 0) then
  some ([], Sender.z, x74.2)
 else
  ((fO x74.1 a1).bind fun x75 =>
  ((iT { x74.1 with Out := x75.2 }).bind fun x76 =>
  some (x75.1, { x74.1 with Out := x76 }, 0)))))

def cK (a0 : Session_session) (a1 : (List Bool)) : Option (Session_session × List Bool × List Int) :=
 ((fh a1).bind fun x65 =>
 bif x65.1 then
  ((gz a0.sides.Sender).bind fun x66 =>
  ((aW x66.2 a0 x65.2).bind fun x67 =>
  some ({ x67 with sides.Sender := x66.1 }, x65.2, a0.out.Acked)))
 else
  ((fm a0.sides.Reorder).bind fun x68 =>
  ((aW x68.2 a0 x65.2).bind fun x69 =>
  ((fJ x69.sides.Sender x68.1).bind fun x70 =>
  ((aW x70.2.2 { x69 with out.Acked := a0.out.Acked, out.Delivered := a0.out.Delivered, out.Dropped := a0.out.Dropped } x65.2).bind fun x71 =>
  ((cg { x71 with out.Acked := a0.out.Acked, out.Delivered := a0.out.Delivered, out.Dropped := a0.out.Dropped, sides.Sender := x70.2.1 } x65.2 x70.1).bind fun x72 =>
  ((chk (decide ((a0.out.Acked.length + x72.length) * 8 ≤ 140737488355328))).bind fun x73 =>
  some ({ x71 with sides.Sender := x70.2.1 }, x65.2, (a0.out.Acked ++ x72)))))))))

def cV (b : Reorder) (now : Int) (l : List HeldSeq) : Nat → Option (Ex (List Frame × Reorder × Int) Unit)
 | 0 => some (Ex.go ())
 | c + 1 =>
  ((l[c]?).bind fun x =>
  bif decide ((IntKind.wrap .i64 (x.At + b.Hold)) ≤ now) then
   ((eN x.Frame.Head.Seq 1).bind fun y =>
   ((eD { b with Held := l } y).bind fun z =>
   some (Ex.ret (z.1, { z.2.1 with Held := z.2.2 }, 0))))
  else
   cV b now l c)

def dG (a0 : Reorder) (a1 : Int) : Option ((List Frame) × Reorder × Int) :=
 ((ef a0).bind fun x67 =>
 bif (x67 != 0) then
  some ([], Reorder.z, x67)
 else
  ((en a1).bind fun x68 =>
  bif (!x68) then
   some ([], Reorder.z, 2)
  else
   ((eH a0.Held).bind fun x69 =>
   ((chk (decide (x69.length < 4611686018427387904))).bind fun x70 =>
   ((cV a0 a1 x69 x69.length).bind fun o71 =>
   (o71.k fun d72 =>
   some ([], { a0 with Held := x69 }, 0)))))))

def dh (a0 : Session_session) (a1 : (List Bool)) : Option (Session_session × List Bool × List Int × List Int × List Int) :=
 ((fe a0.sides.Sender (IntKind.wrap .i64 (a0.out.Rounds * a0.plan.Round))).bind fun x35 =>
 ((aW x35.2.2 a0 a1).bind fun x36 =>
 ((cg { x36 with out.Acked := a0.out.Acked, out.Delivered := a0.out.Delivered, out.Dropped := a0.out.Dropped, sides.Sender := x35.2.1 } a1 x35.1).bind fun x37 =>
 ((chk (decide ((a0.out.Dropped.length + x37.length) * 8 ≤ 140737488355328))).bind fun x38 =>
 bif x35.2.1.Bar then
  ((fh a1).bind fun x39 =>
  ((
   bif (!x39.1) then
    ((gL x35.2.1).bind fun x41 =>
    ((cu x41 { x36 with out.Acked := a0.out.Acked, out.Delivered := a0.out.Delivered, out.Dropped := (a0.out.Dropped ++ x37), sides.Sender := x35.2.1 } x39.2).bind fun x42 =>
    ((eI x42.1.sides.Sender).bind fun x43 =>
    ((aW x43.2 { x42.1 with out.Acked := a0.out.Acked, out.Delivered := x42.2, out.Dropped := (a0.out.Dropped ++ x37), sides.Sender := x43.1 } x39.2).bind fun x44 =>
    some (x44, x42.2)))))
   else
    some ({ x36 with sides.Sender := x35.2.1 }, a0.out.Delivered)).bind fun d40 =>
  ((cU (IntKind.wrap .i64 (a0.out.Rounds * a0.plan.Round)) { d40.1 with out.Acked := a0.out.Acked, out.Delivered := d40.2, out.Dropped := (a0.out.Dropped ++ x37) } x39.2).bind fun x45 =>
  ((db (IntKind.wrap .i64 (a0.out.Rounds * a0.plan.Round)) { x45 with out.Acked := a0.out.Acked, out.Delivered := d40.2, out.Dropped := (a0.out.Dropped ++ x37) } x39.2).bind fun x46 =>
  ((
   bif decide (0 < x46.1) then
    ((cK { x46.2.1 with out.Acked := a0.out.Acked, out.Delivered := x46.2.2.2, out.Dropped := (a0.out.Dropped ++ x37) } x46.2.2.1).bind fun x48 =>
    some (x48.1, x48.2.1, x48.2.2))
   else
    some (x46.2.1, x46.2.2.1, a0.out.Acked)).bind fun d47 =>
  ((dG d47.1.sides.Reorder (IntKind.wrap .i64 (a0.out.Rounds * a0.plan.Round))).bind fun x49 =>
  ((aW x49.2.2 { d47.1 with out.Acked := d47.2.2, out.Delivered := x46.2.2.2, out.Dropped := (a0.out.Dropped ++ x37) } d47.2.1).bind fun x50 =>
  ((bI x49.1 { x50 with out.Acked := d47.2.2, out.Delivered := x46.2.2.2, out.Dropped := (a0.out.Dropped ++ x37), sides.Reorder := x49.2.1 } d47.2.1).bind fun x51 =>
  some ({ x50 with out.Acked := d47.2.2, out.Delivered := x46.2.2.2, out.Dropped := (a0.out.Dropped ++ x37), out.Rounds := IntKind.wrap .i64 (x50.out.Rounds + 1), sides.Reorder := x49.2.1 }, d47.2.1, x51, d47.2.2, (a0.out.Dropped ++ x37))))))))))
 else
  ((cU (IntKind.wrap .i64 (a0.out.Rounds * a0.plan.Round)) { x36 with out.Acked := a0.out.Acked, out.Delivered := a0.out.Delivered, out.Dropped := (a0.out.Dropped ++ x37), sides.Sender := x35.2.1 } a1).bind fun x52 =>
  ((db (IntKind.wrap .i64 (a0.out.Rounds * a0.plan.Round)) { x52 with out.Acked := a0.out.Acked, out.Delivered := a0.out.Delivered, out.Dropped := (a0.out.Dropped ++ x37) } a1).bind fun x53 =>
  ((
   bif decide (0 < x53.1) then
    ((cK { x53.2.1 with out.Acked := a0.out.Acked, out.Delivered := x53.2.2.2, out.Dropped := (a0.out.Dropped ++ x37) } x53.2.2.1).bind fun x55 =>
    some (x55.1, x55.2.1, x55.2.2))
   else
    some (x53.2.1, x53.2.2.1, a0.out.Acked)).bind fun d54 =>
  ((dG d54.1.sides.Reorder (IntKind.wrap .i64 (a0.out.Rounds * a0.plan.Round))).bind fun x56 =>
  ((aW x56.2.2 { d54.1 with out.Acked := d54.2.2, out.Delivered := x53.2.2.2, out.Dropped := (a0.out.Dropped ++ x37) } d54.2.1).bind fun x57 =>
  ((bI x56.1 { x57 with out.Acked := d54.2.2, out.Delivered := x53.2.2.2, out.Dropped := (a0.out.Dropped ++ x37), sides.Reorder := x56.2.1 } d54.2.1).bind fun x58 =>
  some ({ x57 with out.Acked := d54.2.2, out.Delivered := x53.2.2.2, out.Dropped := (a0.out.Dropped ++ x37), out.Rounds := IntKind.wrap .i64 (x57.out.Rounds + 1), sides.Reorder := x56.2.1 }, d54.2.1, x58, d54.2.2, (a0.out.Dropped ++ x37))))))))))))

def ek (a1 : Int) : Nat → (Session_session × List Bool × List Int × List Int × List Int) → Option ((Session_session × List Bool × List Int × List Int × List Int))
 | 0, _ => none
 | n4 + 1, d6 =>
  bif ((d6.1.err == 0) && (((decide (d6.1.accepted < a1)) || (decide (0 < (d6.1.sides.Sender.Out.length : Int)))) || d6.1.sides.Sender.Bar)) then
   bif (d6.1.out.Rounds == 2000) then
    ((dV { d6.1 with out.Acked := d6.2.2.2.1, out.Delivered := d6.2.2.1, out.Dropped := d6.2.2.2.2 } d6.2.1).bind fun x7 =>
    some (x7.1, d6.2.1, x7.2.1, d6.2.2.2.1, x7.2.2))
   else
    ((dh { d6.1 with out.Acked := d6.2.2.2.1, out.Delivered := d6.2.2.1, out.Dropped := d6.2.2.2.2 } d6.2.1).bind fun x8 =>
    ek a1 n4 (x8.1, x8.2.1, x8.2.2.1, x8.2.2.2.1, x8.2.2.2.2))
  else
   some (d6.1, d6.2.1, d6.2.2.1, d6.2.2.2.1, d6.2.2.2.2)

def gG (a0 : SessionPlan) (a1 : Int) (a2 : (List Bool)) : Option (SessionResult × Int) :=
 ((iB a0).bind fun x2 =>
 bif (x2 != 0) then
  some (SessionResult.z, x2)
 else
  ((cP a1 0 200).bind fun x3 =>
  bif (!x3) then
   some (SessionResult.z, 4)
  else
   ((dW { Session_session.z with many := a1, out.Acked := ([] : List Int), out.Delivered := ([] : List Int), out.Dropped := ([] : List Int), plan := a0 } a2).bind fun x4 =>
   ((
    ek a1 big (x4, a2, ([] : List Int), ([] : List Int), ([] : List Int))).bind fun d5 =>
   bif (d5.1.err != 0) then
    some (SessionResult.z, d5.1.err)
   else
    some ({ d5.1.out with Acked := d5.2.2.2.1, Delivered := d5.2.2.1, Dropped := d5.2.2.2.2 }, 0)))))

def bY (a0 : (List Int)) (a1 : (List Int)) : Nat → Int → Option (Ex Bool Unit)
 | 0, _ => none
 | n3 + 1, d26 =>
  bif decide (d26 < (a0.length : Int)) then
   ((idx a0 d26).bind fun x27 =>
   ((idx a1 d26).bind fun x28 =>
   bif (x27 != x28) then
    some (Ex.ret false)
   else
    bY a0 a1 n3 (IntKind.wrap .i64 (d26 + 1))))
  else
   some (Ex.go ())

def bT (a0 : (List Int)) (a1 : (List Int)) : Option Bool :=
 bif ((a0.length : Int) != (a1.length : Int)) then
  some false
 else
  ((
   bY a0 a1 big 0).bind fun o25 =>
  (o25.k fun d24 =>
  some true))

def eU (a0 : (List Bool)) (a1 : (List Int)) (a2 : (List Int)) (a3 : (List Int)) : Option (Int × Bool) :=
 (gB.bind fun x22 =>
 ((gG x22 3 a0).bind fun x23 =>
 ((
  bif (x23.2 == 0) then
   ((bT x23.1.Delivered a1).bind fun x24 =>
   some x24)
  else
   some false).bind fun x25 =>
 ((
  bif x25 then
   ((bT x23.1.Acked a2).bind fun x26 =>
   some x26)
  else
   some false).bind fun x27 =>
 ((
  bif x27 then
   ((bT x23.1.Dropped a3).bind fun x28 =>
   some x28)
  else
   some false).bind fun x29 =>
 some (x23.1.Rounds, x29))))))

def fF : Option Bool :=
 ((eU [] [0, 1, 2] [0, 1, 2] []).bind fun x22 =>
 ((eU [true] [0, 1, 2] [1, 0, 2] []).bind fun x23 =>
 ((eU [true, false, false, true] [1, 2] [1, 2] [0]).bind fun x24 =>
 some ((((x22.2 && (x22.1 == 2)) && x23.2) && (x23.1 == 3)) && x24.2))))

def eZ (a0 : SessionResult) (a1 : SessionResult) : Option Bool :=
 ((
  bif (a0.Rounds == a1.Rounds) then
   ((bT a0.Delivered a1.Delivered).bind fun x26 =>
   some x26)
  else
   some false).bind fun x27 =>
 ((
  bif x27 then
   ((bT a0.Acked a1.Acked).bind fun x28 =>
   some x28)
  else
   some false).bind fun x29 =>
 ((
  bif x29 then
   ((bT a0.Dropped a1.Dropped).bind fun x30 =>
   some x30)
  else
   some false).bind fun x31 =>
 some x31)))

def cE (a0 : (List Int)) (a1 : Int) : Nat → (Int × Int) → Option (Int)
 | 0, _ => none
 | n2 + 1, d33 =>
  bif decide (d33.2 < (a0.length : Int)) then
   ((idx a0 d33.2).bind fun x34 =>
   bif (x34 == a1) then
    cE a0 a1 n2 (IntKind.wrap .i64 (d33.1 + 1), IntKind.wrap .i64 (d33.2 + 1))
   else
    cE a0 a1 n2 (d33.1, IntKind.wrap .i64 (d33.2 + 1)))
  else
   some d33.1

def dX (a0 : (List Int)) (a1 : Int) : Option Int :=
 ((
  cE a0 a1 big (0, 0)).bind fun d32 =>
 some d32)

def bM (x21 : (SessionResult × Int)) (a1 : Int) : Nat → Int → Option (Ex Bool Unit)
 | 0, _ => none
 | n6 + 1, d26 =>
  bif decide (d26 < (x21.1.Delivered.length : Int)) then
   ((idx x21.1.Delivered d26).bind fun x27 =>
   ((
    bif ((decide (x27 < 0)) || (decide (a1 ≤ x27))) then
     some true
    else
     ((
      bif decide (0 < d26) then
       ((idx x21.1.Delivered (IntKind.wrap .i64 (d26 - 1))).bind fun x28 =>
       some (decide (x27 ≤ x28)))
      else
       some false).bind fun x29 =>
     some x29)).bind fun x30 =>
   bif x30 then
    some (Ex.ret false)
   else
    bM x21 a1 n6 (IntKind.wrap .i64 (d26 + 1))))
  else
   some (Ex.go ())

def bN (a1 : Int) (x21 : (SessionResult × Int)) : Nat → Int → Option (Ex Bool Unit)
 | 0, _ => none
 | n14 + 1, d33 =>
  bif decide (d33 < a1) then
   ((dX x21.1.Delivered d33).bind fun x34 =>
   ((
    bif (x34 != 1) then
     ((dX x21.1.Dropped d33).bind fun x35 =>
     some (x35 != 1))
    else
     some false).bind fun x36 =>
   bif x36 then
    some (Ex.ret false)
   else
    bN a1 x21 n14 (IntKind.wrap .i64 (d33 + 1))))
  else
   some (Ex.go ())

def ee (a0 : SessionPlan) (a1 : Int) (a2 : (List Bool)) : Option Bool :=
 (fF.bind fun x20 =>
 bif ((decide (5000 < (a2.length : Int))) || (!x20)) then
  some x20
 else
  ((gG a0 a1 a2).bind fun x21 =>
  bif (x21.2 != 0) then
   ((
    bif x20 then
     ((eZ x21.1 SessionResult.z).bind fun x22 =>
     some x22)
    else
     some false).bind fun x23 =>
   some x23)
  else
   ((
    bM x21 a1 big 0).bind fun o25 =>
   (o25.k fun d24 =>
   ((
    bN a1 x21 big 0).bind fun o32 =>
   (o32.k fun d31 =>
   some x20))))))

def kq (a0 : Int) : Option Bool :=
 some ((decide (0 ≤ a0)) && (decide (a0 ≤ 4095)))

end Go.AX.Z.TN

/-! (TNF) -/

namespace Go.AX.Z.TN
open Go.AX Go.Proofs

def tab : List (TypeId × List (Option IntKind)) :=
 []

noncomputable def K : Ctx := ⟨Try.prog, fun _ => none, JM tab⟩

theorem KY : agB K.P 113 = some true := by kernel_rfl
theorem Li : agB K.P 23 = some true := by kernel_rfl
theorem Mf : agB K.P 25 = some false := by kernel_rfl
theorem Mw : agB K.P 27 = some true := by kernel_rfl
theorem LL : agB K.P 28 = some false := by kernel_rfl
theorem ag3 : agB K.P 3 = some false := by kernel_rfl
theorem MU : agB K.P 31 = some false := by kernel_rfl
theorem K8 : agB K.P 34 = some false := by kernel_rfl
theorem ag4 : agB K.P 4 = some false := by kernel_rfl
theorem My : agB K.P 43 = some false := by kernel_rfl
theorem Nd : agB K.P 45 = some true := by kernel_rfl
theorem MT : agB K.P 46 = some false := by kernel_rfl
theorem MF : agB K.P 47 = some false := by kernel_rfl
theorem Lm : agB K.P 49 = some true := by kernel_rfl
theorem ag5 : agB K.P 5 = some false := by kernel_rfl
theorem MN : agB K.P 51 = some true := by kernel_rfl
theorem LS : agB K.P 53 = some true := by kernel_rfl
theorem Lf : agB K.P 63 = some true := by kernel_rfl
theorem LE : agB K.P 79 = some false := by kernel_rfl
theorem LF : agB K.P 89 = some true := by kernel_rfl
theorem Ml : agB K.P 90 = some false := by kernel_rfl
theorem Mc : agB K.P 92 = some true := by kernel_rfl
theorem MK : agB K.P 94 = some true := by kernel_rfl
theorem LU : agB K.P 99 = some false := by kernel_rfl
theorem KW : sC K.P 113 = some [(0, 1), (1, 41)] := by kernel_rfl
theorem LY : sC K.P 23 = some [(0, 1), (1, 1), (2, 1), (3, 1), (4, 1), (5, 1), (6, 1)] := by kernel_rfl
theorem LP : sC K.P 27 = some [(0, 1), (1, 1), (2, 1), (3, 1)] := by kernel_rfl
theorem MV : sC K.P 45 = some [(0, 1), (1, 1), (2, 1), (3, 1), (4, 1), (5, 1), (6, 1), (7, 1), (8, 1)] := by kernel_rfl
theorem Md : sC K.P 49 = some [(0, 1), (1, 1)] := by kernel_rfl
theorem L0 : sC K.P 51 = some [(0, 1), (1, 1), (2, 1), (3, 1), (4, 2)] := by kernel_rfl
theorem ML : sC K.P 55 = some [(0, 15), (15, 7), (22, 1), (23, 1), (24, 1), (25, 4), (29, 1)] := by kernel_rfl
theorem MO : sC K.P 63 = some [(0, 1), (1, 1), (2, 1), (3, 1)] := by kernel_rfl
theorem Ma : sC K.P 68 = some [(0, 1), (1, 1), (2, 1), (3, 1)] := by kernel_rfl
theorem LH : sC K.P 92 = some [(0, 40), (40, 1)] := by kernel_rfl
theorem M6 : sC K.P 94 = some [(0, 1), (1, 1), (2, 1), (3, 41)] := by kernel_rfl
theorem KG : rb K.P 113 = some 112 := by kernel_rfl
theorem M9 : rb K.P 23 = some 56 := by kernel_rfl
theorem by3 : rb K.P 3 = some 8 := by kernel_rfl
theorem by4 : rb K.P 4 = some 1 := by kernel_rfl
theorem by5 : rb K.P 5 = some 1 := by kernel_rfl
theorem Lx : rb K.P 92 = some 104 := by kernel_rfl
theorem Mu : rb K.P 94 = some 128 := by kernel_rfl
theorem Mh : elS K.P 25 = some 3 := by kernel_rfl
theorem M5 : elS K.P 31 = some 4 := by kernel_rfl
theorem Mz : elS K.P 32 = some 23 := by kernel_rfl
theorem Nf : elS K.P 43 = some 94 := by kernel_rfl
theorem Kq : elS K.P 46 = some 113 := by kernel_rfl
theorem L4 : elS K.P 79 = some 92 := by kernel_rfl
theorem LC : elS K.P 90 = some 5 := by kernel_rfl
theorem MQ : elS K.P 3 = none := by kernel_rfl
theorem Gm : flE K.P 113 0 = some (0, 3) := by kernel_rfl
theorem Gg : flE K.P 113 1 = some (1, 92) := by kernel_rfl
theorem HX : flE K.P 23 0 = some (0, 3) := by kernel_rfl
theorem JL : flE K.P 23 1 = some (1, 3) := by kernel_rfl
theorem Iy : flE K.P 23 2 = some (2, 3) := by kernel_rfl
theorem HW : flE K.P 23 3 = some (3, 3) := by kernel_rfl
theorem JK : flE K.P 23 4 = some (4, 3) := by kernel_rfl
theorem Jn : flE K.P 23 5 = some (5, 3) := by kernel_rfl
theorem IB : flE K.P 23 6 = some (6, 3) := by kernel_rfl
theorem Ho : flE K.P 27 0 = some (0, 25) := by kernel_rfl
theorem HQ : flE K.P 27 1 = some (1, 25) := by kernel_rfl
theorem Hw : flE K.P 27 2 = some (2, 25) := by kernel_rfl
theorem Jq : flE K.P 27 3 = some (3, 3) := by kernel_rfl
theorem JW : flE K.P 45 0 = some (0, 3) := by kernel_rfl
theorem Jg : flE K.P 45 1 = some (1, 5) := by kernel_rfl
theorem IC : flE K.P 45 2 = some (2, 3) := by kernel_rfl
theorem IA : flE K.P 45 3 = some (3, 3) := by kernel_rfl
theorem Jd : flE K.P 45 4 = some (4, 3) := by kernel_rfl
theorem Hh : flE K.P 45 5 = some (5, 3) := by kernel_rfl
theorem I6 : flE K.P 45 6 = some (6, 3) := by kernel_rfl
theorem H6 : flE K.P 45 7 = some (7, 43) := by kernel_rfl
theorem Ih : flE K.P 45 8 = some (8, 4) := by kernel_rfl
theorem ID : flE K.P 49 0 = some (0, 3) := by kernel_rfl
theorem Hc : flE K.P 49 1 = some (1, 47) := by kernel_rfl
theorem JH : flE K.P 51 0 = some (0, 3) := by kernel_rfl
theorem Jy : flE K.P 51 1 = some (1, 3) := by kernel_rfl
theorem Hk : flE K.P 51 2 = some (2, 3) := by kernel_rfl
theorem HP : flE K.P 51 3 = some (3, 46) := by kernel_rfl
theorem Il : flE K.P 51 4 = some (4, 49) := by kernel_rfl
theorem Ha : flE K.P 53 0 = some (0, 45) := by kernel_rfl
theorem Jw : flE K.P 53 1 = some (9, 51) := by kernel_rfl
theorem Ik : flE K.P 55 0 = some (0, 53) := by kernel_rfl
theorem HK : flE K.P 55 1 = some (15, 23) := by kernel_rfl
theorem Hb : flE K.P 55 2 = some (22, 3) := by kernel_rfl
theorem IR : flE K.P 55 3 = some (23, 3) := by kernel_rfl
theorem I4 : flE K.P 55 4 = some (24, 34) := by kernel_rfl
theorem Jh : flE K.P 55 5 = some (25, 27) := by kernel_rfl
theorem It : flE K.P 55 6 = some (29, 28) := by kernel_rfl
theorem IQ : flE K.P 63 0 = some (0, 3) := by kernel_rfl
theorem IF : flE K.P 68 0 = some (0, 3) := by kernel_rfl
theorem Iw : flE K.P 68 1 = some (1, 3) := by kernel_rfl
theorem HB : flE K.P 68 2 = some (2, 3) := by kernel_rfl
theorem JS : flE K.P 68 3 = some (3, 3) := by kernel_rfl
theorem Fd : flE K.P 89 14 = some (34, 3) := by kernel_rfl
theorem Gw : flE K.P 89 16 = some (36, 3) := by kernel_rfl
theorem Ju : flE K.P 89 5 = some (5, 4) := by kernel_rfl
theorem JN : flE K.P 92 0 = some (0, 89) := by kernel_rfl
theorem Ja : flE K.P 92 1 = some (40, 90) := by kernel_rfl
theorem Hd : flE K.P 94 0 = some (0, 3) := by kernel_rfl
theorem JC : flE K.P 94 1 = some (1, 3) := by kernel_rfl
theorem Hl : flE K.P 94 2 = some (2, 4) := by kernel_rfl
theorem JJ : flE K.P 94 3 = some (3, 92) := by kernel_rfl
theorem J9 : inK K.P 133 = some .u64 := by kernel_rfl
theorem in3 : inK K.P 3 = some .i64 := by kernel_rfl
theorem Mo : inK K.P 47 = some .u64 := by kernel_rfl
theorem L6 : E6 K.P 4 = true := by kernel_rfl
theorem GW : cz K.P 113 = some 42 := by kernel_rfl
theorem M3 : cz K.P 23 = some 7 := by kernel_rfl
theorem MI : cz K.P 25 = some 1 := by kernel_rfl
theorem Mj : cz K.P 27 = some 4 := by kernel_rfl
theorem MA : cz K.P 28 = some 1 := by kernel_rfl
theorem sz3 : cz K.P 3 = some 1 := by kernel_rfl
theorem Ls : cz K.P 31 = some 1 := by kernel_rfl
theorem MC : cz K.P 34 = some 1 := by kernel_rfl
theorem sz4 : cz K.P 4 = some 1 := by kernel_rfl
theorem Lt : cz K.P 43 = some 1 := by kernel_rfl
theorem Mb : cz K.P 45 = some 9 := by kernel_rfl
theorem LA : cz K.P 46 = some 1 := by kernel_rfl
theorem LR : cz K.P 47 = some 1 := by kernel_rfl
theorem LN : cz K.P 49 = some 2 := by kernel_rfl
theorem sz5 : cz K.P 5 = some 1 := by kernel_rfl
theorem MP : cz K.P 51 = some 6 := by kernel_rfl
theorem Mm : cz K.P 53 = some 15 := by kernel_rfl
theorem MH : cz K.P 63 = some 4 := by kernel_rfl
theorem L5 : cz K.P 79 = some 1 := by kernel_rfl
theorem Lz : cz K.P 89 = some 40 := by kernel_rfl
theorem ME : cz K.P 90 = some 1 := by kernel_rfl
theorem LI : cz K.P 92 = some 41 := by kernel_rfl
theorem LW : cz K.P 94 = some 44 := by kernel_rfl
theorem Lg : cz K.P 99 = some 1 := by kernel_rfl
theorem J5 : K.P.underlying 133 = some (.int .u64) := by kernel_rfl
theorem Lu : K.P.underlying 25 = some (.slice 3) := by kernel_rfl
theorem un3 : K.P.underlying 3 = some (.int .i64) := by kernel_rfl
theorem Mx : K.P.underlying 31 = some (.slice 4) := by kernel_rfl
theorem M4 : K.P.underlying 32 = some (.slice 23) := by kernel_rfl
theorem Mp : K.P.underlying 43 = some (.slice 94) := by kernel_rfl
theorem Mq : K.P.underlying 46 = some (.slice 113) := by kernel_rfl
theorem M8 : K.P.underlying 47 = some (.int .u64) := by kernel_rfl
theorem LD : K.P.underlying 79 = some (.slice 92) := by kernel_rfl
theorem Ll : K.P.underlying 90 = some (.slice 5) := by kernel_rfl
theorem Kh : zer K.P 113 = some (bU HeldSeq.z cI) := by kernel_rfl
theorem Le : zer K.P 23 = some (am SessionPlan.z) := by kernel_rfl
theorem LJ : zer K.P 25 = some [.v (.slice none 0 0)] := by kernel_rfl
theorem MX : zer K.P 27 = some (az SessionResult.z cI cI cI) := by kernel_rfl
theorem LM : zer K.P 28 = some [.v (.int .i64 0)] := by kernel_rfl
theorem ze3 : zer K.P 3 = some [.v (.int .i64 0)] := by kernel_rfl
theorem ze4 : zer K.P 4 = some [.v (.bool false)] := by kernel_rfl
theorem Lq : zer K.P 45 = some (av Sender.z cI) := by kernel_rfl
theorem L1 : zer K.P 49 = some (aU Window.z) := by kernel_rfl
theorem ze5 : zer K.P 5 = some [.v (.int .u8 0)] := by kernel_rfl
theorem LV : zer K.P 51 = some (aB Reorder.z cI) := by kernel_rfl
theorem LK : zer K.P 55 = some (ae Session_session.z cI cI (.v .nilFunc) cI cI cI) := by kernel_rfl
theorem Mi : zer K.P 63 = some (bv BlockAsk.z) := by kernel_rfl
theorem LG : zer K.P 68 = some (bg BlockAnswer.z) := by kernel_rfl
theorem MR : zer K.P 79 = some [.v (.slice none 0 0)] := by kernel_rfl
theorem K9 : zer K.P 92 = some (bn Frame.z cI) := by kernel_rfl
theorem L2 : zer K.P 94 = some (bh Unacked.z cI) := by kernel_rfl
attribute [go_sem] KY Li Mf Mw LL ag3 MU K8 ag4 My Nd MT MF Lm ag5 MN LS Lf LE LF Ml Mc MK LU KW LY LP MV Md L0 ML MO Ma LH M6 KG M9 by3 by4 by5 Lx Mu Mh M5 Mz Nf Kq L4 LC MQ Gm Gg HX JL Iy HW JK Jn IB Ho HQ Hw Jq JW Jg IC IA Jd Hh I6 H6 Ih ID Hc JH Jy Hk HP Il Ha Jw Ik HK Hb IR I4 Jh It IQ IF Iw HB JS Fd Gw Ju JN Ja Hd JC Hl JJ J9 in3 Mo L6 GW M3 MI Mj MA sz3 Ls MC sz4 Lt Mb LA LR LN sz5 MP Mm MH L5 Lz ME LI LW Lg J5 Lu un3 Mx M4 Mp Mq M8 LD Ll Kh Le LJ MX LM ze3 ze4 Lq L1 ze5 LV LK Mi LG MR K9 L2
theorem mixed : K.P.follows .mixedOrders = true := by kernel_rfl
theorem hC : COk K := ⟨F4.of_tab (tab := tab) rfl (by kernel_rfl), mixed⟩
theorem rs9 : Try.f9.results = #[.cell 0 23] := rfl
theorem MB : Try.f16.results = #[.tmp 6] := rfl
theorem Km : Try.f11.results = #[.tmp 2] := rfl
theorem Lr : Try.f40.results = #[.tmp 6] := rfl
theorem Ko : Try.f48.results = #[.tmp 2] := rfl
theorem Mt : Try.f43.results = #[.tmp 4] := rfl
theorem Fm : Try.f39.results = #[.tmp 2] := rfl
theorem KX : Try.f23.results = #[.cell 8 45, .tmp 9] := rfl
theorem Kd : Try.f24.results = #[] := rfl
theorem M1 : Try.f60.results = #[.cell 2 92] := rfl
theorem MZ : Try.f41.results = #[.cell 2 45] := rfl
theorem EM : Try.f25.results = #[.cell 4 63, .cell 5 45, .tmp 6] := rfl
theorem Dp : Try.f26.results = #[.cell 4 45, .tmp 5] := rfl
theorem L9 : Try.f61.results = #[.tmp 2] := rfl
theorem Lb : Try.f72.results = #[.tmp 2] := rfl
theorem KZ : Try.f62.results = #[.tmp 2] := rfl
theorem L8 : Try.f55.results = #[.tmp 2] := rfl
theorem Hg : Try.f42.results = #[.tmp 2] := rfl
theorem KL : Try.f27.results = #[.cell 6 51, .tmp 7] := rfl
theorem Mr : Try.f18.results = #[] := rfl
theorem KE : Try.f28.results = #[.tmp 2, .cell 3 45, .tmp 4] := rfl
theorem Me : Try.f29.results = #[.tmp 4] := rfl
theorem Mn : Try.f56.results = #[.tmp 2] := rfl
theorem LT : Try.f75.results = #[.tmp 5] := rfl
theorem Kg : Try.f74.results = #[.tmp 6, .tmp 7] := rfl
theorem Lj : Try.f65.results = #[.tmp 4, .tmp 5] := rfl
theorem MJ : Try.f59.results = #[.tmp 4] := rfl
theorem LO : Try.f58.results = #[.tmp 4, .cell 5 51] := rfl
theorem GG : Try.f44.results = #[.tmp 4, .cell 5 51, .tmp 6] := rfl
theorem M7 : Try.f38.results = #[] := rfl
theorem MG : Try.f30.results = #[] := rfl
theorem M0 : Try.f19.results = #[] := rfl
theorem Fc : Try.f45.results = #[.cell 4 45, .tmp 5] := rfl
theorem La : Try.f47.results = #[.tmp 4] := rfl
theorem ET : Try.f64.results = #[.tmp 4] := rfl
theorem EN : Try.f73.results = #[.tmp 4] := rfl
theorem GD : Try.f63.results = #[.tmp 4] := rfl
theorem Kx : Try.f46.results = #[.cell 4 25] := rfl
theorem Kw : Try.f31.results = #[.tmp 4, .cell 5 45, .tmp 6] := rfl
theorem KN : Try.f17.results = #[.tmp 1] := rfl
theorem Kp : Try.f32.results = #[.tmp 2] := rfl
theorem HU : Try.f33.results = #[.cell 2 45, .tmp 3] := rfl
theorem Gi : Try.f49.results = #[.cell 6 92, .cell 7 45, .tmp 8] := rfl
theorem J8 : Try.f34.results = #[] := rfl
theorem K3 : Try.f50.results = #[.tmp 4, .cell 5 45, .tmp 6] := rfl
theorem I1 : Try.f80.results = #[.tmp 4] := rfl
theorem Ip : Try.f76.results = #[.cell 4 49, .tmp 5] := rfl
theorem HD : Try.f77.results = #[.cell 4 49, .tmp 5] := rfl
theorem KA : Try.f66.results = #[.cell 4 49] := rfl
theorem EG : Try.f67.results = #[.tmp 6] := rfl
theorem FT : Try.f51.results = #[.tmp 6, .cell 7 51, .tmp 8] := rfl
theorem Lv : Try.f35.results = #[.tmp 4] := rfl
theorem Na : Try.f68.results = #[] := rfl
theorem KQ : Try.f52.results = #[.cell 2 45, .tmp 3] := rfl
theorem KC : Try.f53.results = #[.cell 2 49, .tmp 3] := rfl
theorem Kj : Try.f70.results = #[.tmp 4] := rfl
theorem Mk : Try.f69.results = #[.tmp 3] := rfl
theorem Kk : Try.f54.results = #[.tmp 4, .cell 5 45, .tmp 6] := rfl
theorem Kr : Try.f36.results = #[] := rfl
theorem KS : Try.f37.results = #[.cell 4 79, .cell 5 51, .cell 6 28] := rfl
theorem J3 : Try.f20.results = #[] := rfl
theorem FS : Try.f10.results = #[.cell 6 27, .tmp 7] := rfl
theorem Hq : Try.f22.results = #[.tmp 4] := rfl
theorem L3 : Try.f21.results = #[.tmp 8, .tmp 9] := rfl
theorem Ms : Try.f12.results = #[.tmp 0] := rfl
theorem MY : Try.f13.results = #[.tmp 4] := rfl
theorem M2 : Try.f14.results = #[.tmp 4] := rfl
theorem rs4 : Try.f4.results = #[.tmp 6] := rfl
end Go.AX.Z.TN

/-! (TNI) -/

set_option linter.unusedSimpArgs false
set_option linter.unusedVariables false
set_option maxHeartbeats 1000000
namespace Go.AX.Z.TN
open Go.AX Go.Proofs

/-- What slices.Backward hands out. -/
def rR (l : List HeldSeq) : List (List AV) := (List.range l.length).map fun i => [vi ((l.length - 1 - i : Nat) : Int), match l[l.length - 1 - i]? with | some x => .agg (ai x) | none => .unk]
theorem tC (l : List HeldSeq) : (rR l).length = l.length := by simp [rR]
theorem xT {l : List HeldSeq} {k i : Nat} {x : HeldSeq} (hk : k + i + 1 = l.length) (hx : l[i]? = some x) : (rR l)[k]? = some [vi (i : Int), .agg (ai x)] := by
 have e : l.length - 1 - k = i := by omega
 have h : (List.range l.length)[k]? = some k := by rw [List.getElem?_range (by omega)]
 unfold rR
 rw [List.getElem?_map, h]
 simp only [Option.map_some, e, hx]
theorem xL {l : List HeldSeq} {k : Nat} {x : List AV} (h : (rR l)[k]? = some x) : ∃ i e, k + i + 1 = l.length ∧ l[i]? = some e ∧ x = [vi (i : Int), .agg (ai e)] := by
 have hk : k < l.length := by rw [← tC l]; exact (List.getElem?_eq_some_iff.1 h).1
 have hi : l.length - 1 - k < l.length := by omega
 have := xT (k := k) (i := l.length - 1 - k) (by omega) (List.getElem?_eq_getElem hi)
 rw [h] at this
 cases this
 exact ⟨_, _, by omega, List.getElem?_eq_getElem hi, rfl⟩

def tB (y : Value) (q : Nat) : Nat → AV := upd (upd (fun _ => .unk) 1 (.ptr q 0)) 0 (.v y)

theorem CG (l : List HeldSeq) (hL : l.length < 4611686018427387904) (p q : Nat) : KV K 71 [.ptr p 0] (fun hs => hs.objs p = .live [.ref q 0 l.length 42] ∧ hs.objs q = .live (List.flatMap ai l)) (rR l) := by
 intro lo lb ρ0 V0 J Jx hlb hJ hJx hJc hJxc hy ρ V hs W h0
 have hAb : ∀ i, Abides K (J i) := fun i => ⟨fun ρ V hs W h => ⟨(hJ i ρ V hs W h).2.1, (hJ i ρ V hs W h).2.2.1⟩, hJc i⟩
 have hAx : Abides K Jx := ⟨hJx, hJxc⟩
 obtain ⟨loc, hloc, rfl⟩ : ∃ loc, ρ0 p = some loc ∧ lb = #[.pointer (some ⟨loc.b, loc.base + 0, none⟩)] := by
  obtain ⟨e1, e2⟩ := hlb
  obtain ⟨lb⟩ := lb
  match lb, e1, e2 with
  | [y], _, e2 =>
   have := e2 0 _ y rfl rfl
   cases this with
   | ptr _ _ loc h => exact ⟨loc, h, rfl⟩
 obtain ⟨Y, hY⟩ : ∃ Y, Value.func (.yield lo) #[] #[] = Y := ⟨_, rfl⟩
 refine callsIn_of_wp (fn := Try.f71) Try.func71 rfl trivial ?_ rfl
 have hst0 := StJ.start (N := Try.f71.ntmps) (t := tB Y p) (J := J 0) (args := #[.func (.yield lo) #[] #[]] ++ #[.pointer (some ⟨loc.b, loc.base + 0, none⟩)]) (by show 2 ≤ 19; decide) h0 (fun i y hy => by
  match i, hy with
  | 0, hy => cases hy; rw [hY]; exact .v _
  | 1, hy => cases hy; exact .ptr p 0 loc ((hJ 0 _ _ _ _ h0).1.rho _ _ hloc)) (fun i hi => by
  have hi : 2 ≤ i := hi
  unfold tB
  rw [ba _ _ (by omega), ba _ _ (by omega)])
 have hRd : ∀ i ρ V hs W, J i ρ V hs W → hs.objs p = .live [.ref q 0 l.length 42] ∧ hs.objs q = .live (List.flatMap ai l) := fun i ρ V hs W h => (hJ i ρ V hs W h).2.2.2
 refine wpIn_seq ?_
 obtain ⟨r1, r2⟩ := hRd _ _ _ _ _ hst0.j
 refine pI hC (hAb 0) (by decide +kernel) (by decide +kernel) (K := fun t => t 0 = .v Y ∧ t 1 = .ptr p 0 ∧ t 3 = vi ((l.length : Int) - 1)) hst0 ?_ ?_
 ·
  unfold tB
  simp only [go_sem, Nat.reduceEqDiff, reduceIte, Nat.reduceAdd, Nat.reduceMul, Nat.reduceSub, Nat.reduceLT, Nat.reduceLeDiff, Int.reduceToNat, Int.reduceBEq, Int.reduceBNe, Int.reduceLT, Int.reduceLE, Int.reduceAdd, Int.reduceSub, Int.reduceMul, Int.reduceNeg, Int.reduceEq, Int.reduceNe, r1, kw (show -4611686018427387904 ≤ (l.length : Int) - 1 by omega) (show (l.length : Int) - 1 < 4611686018427387904 by omega)]
  try exact ⟨rfl, rfl, rfl, rfl⟩
 intro ρ1 V1 hs1 a1 W1 t1 ⟨e0, e1, e3⟩ _ hst1
 refine wpIn_block ?_
 refine wpIn_loop (I := fun a w => ∃ (k c : Nat) (ρ : Rho) (V : bw) (hs : HS) (t : Nat → AV), k + c = l.length ∧ t 0 = .v Y ∧ t 1 = .ptr p 0 ∧ t 3 = vi ((c : Int) - 1) ∧ StJ Try.f71.ntmps t (J k) ρ V hs a w)
  (fun a _ => (match a.tmps.getD 3 undef with | .int _ n => (n + 1).toNat | _ => 0)) ⟨0, l.length, ρ1, V1, hs1, t1, by omega, e0, e1, e3, hst1⟩ ?_
 rintro a w ⟨k, c, ρ2, V2, hs2, t2, hk, e0, e1, e3, hst2⟩
 have hk3 : a.tmps.getD 3 undef = .int .i64 ((c : Int) - 1) := by
  have := hst2.tm 3
  rw [e3] at this
  exact Rel.v_inv this
 refine wpIn_seq ?_
 refine wpIn_seq ?_
 refine pI hC (hAb _) (by decide +kernel) (by decide +kernel) (K := fun t => t 0 = .v Y ∧ t 1 = .ptr p 0 ∧ t 3 = vi ((c : Int) - 1) ∧ t 8 = vb (decide (0 ≤ (c : Int) - 1))) hst2 ?_ ?_
 ·
  simp only [go_sem, Nat.reduceEqDiff, reduceIte, Nat.reduceAdd, Nat.reduceMul, Nat.reduceSub, Nat.reduceLT, Nat.reduceLeDiff, Int.reduceToNat, Int.reduceBEq, Int.reduceBNe, Int.reduceLT, Int.reduceLE, Int.reduceAdd, Int.reduceSub, Int.reduceMul, Int.reduceNeg, Int.reduceEq, Int.reduceNe, e0, e1, e3]
  try exact ⟨rfl, rfl, rfl, rfl, rfl⟩
 intro ρ3 V3 hs3 a3 W3 t3 ⟨e0, e1, e3, e8⟩ _ hst3
 have hc8 : a3.eval (.tmp 8) = .bool (decide (0 ≤ (c : Int) - 1)) := by
  have := jK (C := K) (s := { toHS := hs3, tmps := t3 }) hst3.tm ((hAb _).inv _ _ _ _ hst3.j).2 (.tmp 8)
  rw [show ev K { toHS := hs3, tmps := t3 } (.tmp 8) = t3 8 from rfl, e8] at this
  exact Rel.v_inv this
 refine wpIn_cond_split hc8 (fun hlt => ?_) (fun hge => ?_)
 ·
  obtain ⟨i, rfl⟩ : ∃ i, c = i + 1 := ⟨c - 1, by have := of_decide_eq_true hlt; omega⟩
  have e3 : t3 3 = vi (i : Int) := by rw [e3]; congr 2; omega
  have hil : i < l.length := by omega
  obtain ⟨x, hx⟩ : ∃ x, l[i]? = some x := ⟨_, List.getElem?_eq_getElem hil⟩
  refine wpIn_skip ?_
  refine wpIn_seq ?_
  refine wpIn_block ?_
  refine wpIn_seq ?_
  obtain ⟨r1, r2⟩ := hRd _ _ _ _ _ hst3.j
  obtain ⟨f0, f1, f2, f3⟩ := co (show idx l (i : Int) = some x by rw [kS]; exact hx)
  rw [Int.toNat_natCast] at f2
  refine A7 hC (hAb _) (hAb (k + 1)) hAx (by decide +kernel) (by decide +kernel) 6 _ rfl (l := lo) rfl rfl rfl (x := [vi (i : Int), .agg (ai x)]) (b := true) hst3
   (K1 := fun t => t 0 = .v Y ∧ t 1 = .ptr p 0 ∧ t 3 = vi (i : Int) ∧ t 11 = .v Y ∧ t 12 = vi (i : Int) ∧ t 16 = .agg (ai x))
   (K2 := fun r t => t 0 = .v Y ∧ t 1 = .ptr p 0 ∧ t 3 = vi (i : Int) ∧ t 18 = vb (match r with | some false => true | _ => false)) ?_ ?_ ?_ ?_ ?_ ?_ ?_ ?_
  ·
   simp only [go_sem, Nat.reduceEqDiff, reduceIte, Nat.reduceAdd, Nat.reduceMul, Nat.reduceSub, Nat.reduceLT, Nat.reduceLeDiff, Int.reduceToNat, Int.reduceBEq, Int.reduceBNe, Int.reduceLT, Int.reduceLE, Int.reduceAdd, Int.reduceSub, Int.reduceMul, Int.reduceNeg, Int.reduceEq, Int.reduceNe, e0, e1, e3, r1, r2, f0, f1, f2, Int.toNat_natCast]
   try exact ⟨rfl, rfl, rfl, rfl, rfl, rfl⟩
  ·
   rintro t1 _
   exact .inl ⟨rfl, rfl⟩
  ·
   rintro _ t1 hs' ⟨_, _, _, h11, h12, h16⟩
   exact ⟨by rw [hY]; exact h11, by show [t1 12, t1 16] = _; rw [h12, h16]⟩
  ·
   intro _ ρ' V' hs' W' args' _ hj hargs
   exact hy _ _ _ _ _ _ _ hj (xT (by omega) hx) hargs
  ·
   rintro r t1 hs' ⟨e0, e1, e3, _⟩ hr
   cases r with
   | none => cases hr
   | some r =>
    cases r <;> simp only [go_sem, Nat.reduceEqDiff, reduceIte, Nat.reduceAdd, Nat.reduceMul, Nat.reduceSub, Nat.reduceLT, Nat.reduceLeDiff, Int.reduceToNat, Int.reduceBEq, Int.reduceBNe, Int.reduceLT, Int.reduceLE, Int.reduceAdd, Int.reduceSub, Int.reduceMul, Int.reduceNeg, Int.reduceEq, Int.reduceNe, e0, e1, e3] <;> first | rfl | exact ⟨rfl, rfl, rfl, rfl, rfl⟩
  ·
   intro h; cases h
  ·
   rintro _ ρ5 V5 hs5 a5 W5 t5 ⟨e0, e1, e3, e18⟩ _ hst5
   have hc : a5.eval (.tmp 18) = .bool false := by
    have := jK (C := K) (s := { toHS := hs5, tmps := t5 }) hst5.tm ((hAb _).inv _ _ _ _ hst5.j).2 (.tmp 18)
    rw [show ev K { toHS := hs5, tmps := t5 } (.tmp 18) = t5 18 from rfl, e18] at this
    exact Rel.v_inv this
   refine wpIn_cond_false hc (wpIn_skip ?_)
   refine pI hC (hAb _) (by decide +kernel) (by decide +kernel) (K := fun t => t 0 = .v Y ∧ t 1 = .ptr p 0 ∧ t 3 = vi ((i : Int) - 1)) hst5 ?_ ?_
   ·
    simp only [go_sem, Nat.reduceEqDiff, reduceIte, Nat.reduceAdd, Nat.reduceMul, Nat.reduceSub, Nat.reduceLT, Nat.reduceLeDiff, Int.reduceToNat, Int.reduceBEq, Int.reduceBNe, Int.reduceLT, Int.reduceLE, Int.reduceAdd, Int.reduceSub, Int.reduceMul, Int.reduceNeg, Int.reduceEq, Int.reduceNe, e0, e1, e3, kw (show -4611686018427387904 ≤ (i : Int) - 1 by omega) (show (i : Int) - 1 < 4611686018427387904 by omega)]
    try exact ⟨rfl, rfl, rfl, rfl⟩
   rintro ρ6 V6 hs6 a6 W6 t6 ⟨e0, e1, e3⟩ _ hst6
   refine ⟨⟨k + 1, i, ρ6, V6, hs6, t6, by omega, e0, e1, e3, hst6⟩, ?_⟩
   have h3 : a6.tmps.getD 3 undef = .int .i64 ((i : Int) - 1) := by
    have := hst6.tm 3
    rw [e3] at this
    exact Rel.v_inv this
   show (match a6.tmps.getD 3 undef with | .int _ n => (n + 1).toNat | _ => 0) < (match a.tmps.getD 3 undef with | .int _ n => (n + 1).toNat | _ => 0)
   rw [h3, hk3]
   show ((i : Int) - 1 + 1).toNat < (((i + 1 : Nat) : Int) - 1 + 1).toNat
   omega
  ·
   rintro _ ρ5 V5 hs5 a5 W5 t5 ⟨e0, e1, e3, e18⟩ _ hst5
   have hc : a5.eval (.tmp 18) = .bool true := by
    have := jK (C := K) (s := { toHS := hs5, tmps := t5 }) hst5.tm (hAx.inv _ _ _ _ hst5.j).2 (.tmp 18)
    rw [show ev K { toHS := hs5, tmps := t5 } (.tmp 18) = t5 18 from rfl, e18] at this
    exact Rel.v_inv this
   refine wpIn_cond_true hc (wpIn_ret ?_)
   exact Ak (R := fun e W' => (∃ v, e = .returned v) ∧ ∃ ρ' V' hs', J (rR l).length ρ' V' hs' W' ∨ Jx ρ' V' hs' W') hst5 rfl (fun v h => ⟨⟨v, rfl⟩, _, _, _, .inr h⟩)
 ·
  have hc0 : c = 0 := by have := of_decide_eq_false hge; omega
  subst hc0
  refine wpIn_exit ?_
  exact Ak (R := fun e W' => (∃ v, e = .returned v) ∧ ∃ ρ' V' hs', J (rR l).length ρ' V' hs' W' ∨ Jx ρ' V' hs' W') hst3 rfl (fun v h => ⟨⟨v, rfl⟩, _, _, _, .inl (by rw [tC, ← hk]; exact h)⟩)

theorem C8 (n q : Nat) (hs : HS) : Snd K 57 [.ref q 0 n 42] hs (fun r hs' => r = .clo 71 [] [.ptr hs.next 0] ∧ hs'.objs = upd hs.objs hs.next (.live [.ref q 0 n 42]) ∧ hs.next < hs'.next) := by
 obtain ⟨objs, nx⟩ := hs
 refine uS hC (fn := Try.f57) Try.func57 rfl rfl (by decide +kernel) (Nat.le_of_ble_eq_true rfl) ?_
 refine rB fun KK hKK => ?_
 refine ap ?_
 simp only [fX, List.getD_cons_zero, go_sem, Nat.reduceEqDiff, reduceIte, Nat.reduceAdd]
 refine hKK _ ?_; clear hKK KK
 refine rB fun KK hKK => ?_
 refine ap ?_
 simp only [go_sem, Nat.reduceEqDiff, reduceIte, Nat.reduceAdd]
 refine hKK _ ?_; clear hKK KK
 refine aL ?_
 refine ax (fn := Try.f57) (rs := #[.tmp 2]) rfl (by simp only [go_sem, tk, kU, rO, wb, Nat.reduceEqDiff, reduceIte, Nat.reduceAdd]; rfl) ?_
 exact ⟨rfl, rfl, by show nx < nx + 2 + 2; omega⟩

end Go.AX.Z.TN
