/- A part of the proof: the types, the facts of the program and the functions, read plainly. -/
import Derived.Test.YtpjogfcpmcbafaaCorec
import Derived.Test.YtpjogfcpmcbafaaProg
import Derived.KernelRfl
set_option linter.unusedVariables false
set_option linter.unusedSimpArgs false

/-! (TNS) -/

set_option linter.unusedSimpArgs false
set_option linter.unusedVariables false
namespace Go.AX.Z.TN
open Go.AX
structure al where
 Start : Int
 Size : Int
 Limit : Int
 Life : Int
 Hold : Int
 Burst : Int
 Round : Int
 deriving DecidableEq

def al.z : al := ⟨0, 0, 0, 0, 0, 0, 0⟩

def ar (x : al) : List AV := [vi x.Start, vi x.Size, vi x.Limit, vi x.Life, vi x.Hold, vi x.Burst, vi x.Round]

theorem rL (x : al) : (ar x).length = 7 := by rfl
theorem sb (x : al) : cq (ar x) 0 7 = some (ar x) := by rfl
theorem rp (x : al) : (ar x).take 7 = (ar x) := by rfl
theorem sv (x : al) (y : al) : cH (ar x) 0 (ar y) = ar y := by rfl
theorem oo (x : al) : (ar x)[0]? = some (vi x.Start) := by rfl
theorem oc (x : al) (v : Int) : (ar x).set 0 (vi v) = ar { x with Start := v } := by rfl
theorem pK (x : al) : (ar x)[1]? = some (vi x.Size) := by rfl
theorem pO (x : al) (v : Int) : (ar x).set 1 (vi v) = ar { x with Size := v } := by rfl
theorem oy (x : al) : (ar x)[2]? = some (vi x.Limit) := by rfl
theorem ol (x : al) (v : Int) : (ar x).set 2 (vi v) = ar { x with Limit := v } := by rfl
theorem pG (x : al) : (ar x)[3]? = some (vi x.Life) := by rfl
theorem oR (x : al) (v : Int) : (ar x).set 3 (vi v) = ar { x with Life := v } := by rfl
theorem oK (x : al) : (ar x)[4]? = some (vi x.Hold) := by rfl
theorem o3 (x : al) (v : Int) : (ar x).set 4 (vi v) = ar { x with Hold := v } := by rfl
theorem oz (x : al) : (ar x)[5]? = some (vi x.Burst) := by rfl
theorem ot (x : al) (v : Int) : (ar x).set 5 (vi v) = ar { x with Burst := v } := by rfl
theorem nZ (x : al) : (ar x)[6]? = some (vi x.Round) := by rfl
theorem od (x : al) (v : Int) : (ar x).set 6 (vi v) = ar { x with Round := v } := by rfl
theorem ms (x : al) (o : Nat → Ob) (n : Nat) : (ar x).map (fz o (n + 1)) = ar x := by rfl
theorem kC (x : al) (o : Nat → Ob) (n : Nat) : (ar x).flatMap (bn o (n + 1)) = [] := by
 simp only [ar, List.cons_append, List.nil_append, List.append_nil, List.flatMap_cons, List.flatMap_nil, fw]
theorem b9 (x : al) : ∀ c ∈ (ar x), aB c := by
 simp only [ar, List.cons_append, List.nil_append]
 repeat' (first | exact aB.v _ | assumption | exact List.forall_mem_nil _ | refine List.forall_mem_cons.2 ⟨?_, ?_⟩)
theorem qA (x : al) (o : Nat → Ob) (n : Nat) : (ar x).map (fz o (n + 1)) = ar x := by simp only [ms]
theorem qo (x : al) (o : Nat → Ob) (n : Nat) : (ar x).flatMap (bn o (n + 1)) = [] := by simp only [kC, List.append_nil]
attribute [go_sem] rL sb rp sv oo oc pK pO oy ol pG oR oK o3 oz ot nZ od ms kC qA qo

structure aD where
 Delivered : (List Int)
 Acked : (List Int)
 Dropped : (List Int)
 Rounds : Int
 deriving DecidableEq

def aD.z : aD := ⟨[], [], [], 0⟩

def aH (x : aD) (s0 : AV) (s1 : AV) (s2 : AV) : List AV := [s0, s1, s2, vi x.Rounds]

theorem qi (x : aD) (s0 : AV) (s1 : AV) (s2 : AV) : (aH x s0 s1 s2).length = 4 := by rfl
theorem qf (x : aD) (s0 : AV) (s1 : AV) (s2 : AV) : cq (aH x s0 s1 s2) 0 4 = some (aH x s0 s1 s2) := by rfl
theorem pJ (x : aD) (s0 : AV) (s1 : AV) (s2 : AV) : (aH x s0 s1 s2).take 4 = (aH x s0 s1 s2) := by rfl
theorem qg (x : aD) (s0 : AV) (s1 : AV) (s2 : AV) (y : aD) (s02 : AV) (s12 : AV) (s22 : AV) : cH (aH x s0 s1 s2) 0 (aH y s02 s12 s22) = aH y s02 s12 s22 := by rfl
theorem kR (x : aD) (s0 : AV) (s1 : AV) (s2 : AV) : (aH x s0 s1 s2)[0]? = some s0 := by rfl
theorem kJ (x : aD) (s0 : AV) (s1 : AV) (s2 : AV) (v : AV) : (aH x s0 s1 s2).set 0 v = aH x v s1 s2 := by rfl
theorem mP (x : aD) (s0 : AV) (s1 : AV) (s2 : AV) : (aH x s0 s1 s2)[1]? = some s1 := by rfl
theorem mz (x : aD) (s0 : AV) (s1 : AV) (s2 : AV) (v : AV) : (aH x s0 s1 s2).set 1 v = aH x s0 v s2 := by rfl
theorem lI (x : aD) (s0 : AV) (s1 : AV) (s2 : AV) : (aH x s0 s1 s2)[2]? = some s2 := by rfl
theorem lJ (x : aD) (s0 : AV) (s1 : AV) (s2 : AV) (v : AV) : (aH x s0 s1 s2).set 2 v = aH x s0 s1 v := by rfl
theorem l8 (x : aD) (s0 : AV) (s1 : AV) (s2 : AV) : (aH x s0 s1 s2)[3]? = some (vi x.Rounds) := by rfl
theorem l0 (x : aD) (s0 : AV) (s1 : AV) (s2 : AV) (v : Int) : (aH x s0 s1 s2).set 3 (vi v) = aH { x with Rounds := v } s0 s1 s2 := by rfl
theorem kY (x : aD) (s0 : AV) (s1 : AV) (s2 : AV) (o : Nat → Ob) (n : Nat) : (aH x s0 s1 s2).map (fz o (n + 1)) = aH x (fz o (n + 1) s0) (fz o (n + 1) s1) (fz o (n + 1) s2) := by rfl
theorem jz (x : aD) (s0 : AV) (s1 : AV) (s2 : AV) (o : Nat → Ob) (n : Nat) : (aH x s0 s1 s2).flatMap (bn o (n + 1)) = bn o (n + 1) s0 ++ (bn o (n + 1) s1 ++ bn o (n + 1) s2) := by
 simp only [aH, List.cons_append, List.nil_append, List.append_nil, List.flatMap_cons, List.flatMap_nil, fw]
theorem oA (x : aD) (s0 : AV) (s1 : AV) (s2 : AV) (h_s0 : aB s0) (h_s1 : aB s1) (h_s2 : aB s2) : ∀ c ∈ (aH x s0 s1 s2), aB c := by
 simp only [aH, List.cons_append, List.nil_append]
 repeat' (first | exact aB.v _ | assumption | exact List.forall_mem_nil _ | refine List.forall_mem_cons.2 ⟨?_, ?_⟩)
theorem ru {st : AS} {F : List Nat} {σ : List (Option Nat)} (x : aD) (s0 : AV) (s1 : AV) (s2 : AV) (s02 : AV) (s12 : AV) (s22 : AV) (h_s0 : Tm st F σ s0 s02) (h_s1 : Tm st F σ s1 s12) (h_s2 : Tm st F σ s2 s22) : TmL st F σ (aH x s0 s1 s2) (aH x s02 s12 s22) := by
 simp only [aH, List.cons_append, List.nil_append]
 repeat' (first | exact TmL.nil | (refine TmL.cons (Tm.v _) ?_) | (refine TmL.cons (by assumption) ?_))
theorem bJ {st : AS} {F : List Nat} {σ : List (Option Nat)} {x y : aD} {s0 s1 s2 s02 s12 s22 : AV} (hxy : aH y s02 s12 s22 = aH x s02 s12 s22) (h_s0 : Tm st F σ s0 s02) (h_s1 : Tm st F σ s1 s12) (h_s2 : Tm st F σ s2 s22) : TmL st F σ (aH x s0 s1 s2) (aH y s02 s12 s22) := by
 rw [hxy]; exact ru x s0 s1 s2 s02 s12 s22 h_s0 h_s1 h_s2
theorem qa (x : aD) {s0 s1 s2 : (Nat → Nat) → AV} (h_s0 : aK s0) (h_s1 : aK s1) (h_s2 : aK s2) : RenML fun q => aH x (s0 q) (s1 q) (s2 q) := by
 simp only [aH, List.cons_append, List.nil_append]
 repeat' (first | exact RenML.nil | (refine RenML.cons (aK.const (aB.v _)) ?_) | (refine RenML.cons (by assumption) ?_))
def fa (x : aD) : List AV := aH x (l3 x.Delivered) (l3 x.Acked) (l3 x.Dropped)
theorem iH (x : aD) : fa x = aH x (l3 x.Delivered) (l3 x.Acked) (l3 x.Dropped) := rfl
theorem nY (x : aD) : ∀ c ∈ fa x, aB c := oA x _ _ _ (dA _) (dA _) (dA _)
theorem ui (x : aD) (o : Nat → Ob) (n : Nat) : (fa x).map (fz o (n + 2)) = fa x := by simp only [iH, kY, y9, y9, y9]
theorem uB (x : aD) (o : Nat → Ob) (n : Nat) : (fa x).flatMap (bn o (n + 2)) = [] := by simp only [iH, jz, yZ, yZ, yZ, List.append_nil]
attribute [go_sem] qi qf pJ qg kR kJ mP mz lI lJ l8 l0 kY jz iH ui uB

def jW (l : List al) : AV := .imm (List.flatMap ar l) l.length
theorem jD (l : List al) : jW l = .imm (List.flatMap ar l) l.length := rfl
theorem cn (x : al) : (ar x).length = 7 := by rfl
theorem rR (l : List al) : (l.flatMap ar).length = l.length * 7 := fg cn l
theorem sm (l : List al) (i o : Nat) (ho : o < 7) : (l.flatMap ar)[i * 7 + o]? = l[i]?.bind fun a => (ar a)[o]? := jt cn l i o ho
theorem qQ (l : List al) (i : Nat) : (l.flatMap ar)[i * 7]? = l[i]?.bind fun a => (ar a)[0]? := jt cn l i 0 (by decide)
theorem sa (l : List al) (i o n : Nat) (ho : o + n ≤ 7) (hn : 0 < n) : cq (l.flatMap ar) (i * 7 + o) n = l[i]?.bind fun a => cq (ar a) o n := jo cn l i o n ho hn
theorem re (l : List al) (i n : Nat) (ho : n ≤ 7) (hn : 0 < n) : cq (l.flatMap ar) (i * 7) n = l[i]?.bind fun a => cq (ar a) 0 n := jo cn l i 0 n (by omega) hn
theorem rB (l : List al) : cq (l.flatMap ar) 0 (l.length * 7) = some (l.flatMap ar) := p8 cn l
theorem rr (l : List al) (n : Nat) : (l.flatMap ar).take (n * 7) = (l.take n).flatMap ar := iY cn l n
theorem rh (l : List al) (n : Nat) : (l.flatMap ar).drop (n * 7) = (l.drop n).flatMap ar := jJ cn l n
theorem mJ (l : List al) (o : Nat → Ob) (n : Nat) : (l.flatMap ar).map (fz o (n + 1)) = (l.flatMap ar) := uD (fun a => qA a o n) l
theorem lQ (l : List al) (o : Nat → Ob) (n : Nat) : (l.flatMap ar).flatMap (bn o (n + 1)) = [] := ng (fun a => qo a o n) l
theorem oq (l : List al) (i : Nat) (v : Int) : (l.flatMap ar).set (i * 7) (vi v) = (l.modify i (fun y => { y with Start := v })).flatMap ar := dE cn l i 0 _ (fun y => { y with Start := v }) (by decide) (fun _ => by rfl)
theorem oN (l : List al) (i : Nat) (v : Int) : (l.flatMap ar).set (i * 7 + 1) (vi v) = (l.modify i (fun y => { y with Size := v })).flatMap ar := dE cn l i 1 _ (fun y => { y with Size := v }) (by decide) (fun _ => by rfl)
theorem oh (l : List al) (i : Nat) (v : Int) : (l.flatMap ar).set (i * 7 + 2) (vi v) = (l.modify i (fun y => { y with Limit := v })).flatMap ar := dE cn l i 2 _ (fun y => { y with Limit := v }) (by decide) (fun _ => by rfl)
theorem oL (l : List al) (i : Nat) (v : Int) : (l.flatMap ar).set (i * 7 + 3) (vi v) = (l.modify i (fun y => { y with Life := v })).flatMap ar := dE cn l i 3 _ (fun y => { y with Life := v }) (by decide) (fun _ => by rfl)
theorem oV (l : List al) (i : Nat) (v : Int) : (l.flatMap ar).set (i * 7 + 4) (vi v) = (l.modify i (fun y => { y with Hold := v })).flatMap ar := dE cn l i 4 _ (fun y => { y with Hold := v }) (by decide) (fun _ => by rfl)
theorem ow (l : List al) (i : Nat) (v : Int) : (l.flatMap ar).set (i * 7 + 5) (vi v) = (l.modify i (fun y => { y with Burst := v })).flatMap ar := dE cn l i 5 _ (fun y => { y with Burst := v }) (by decide) (fun _ => by rfl)
theorem oB (l : List al) (i : Nat) (v : Int) : (l.flatMap ar).set (i * 7 + 6) (vi v) = (l.modify i (fun y => { y with Round := v })).flatMap ar := dE cn l i 6 _ (fun y => { y with Round := v }) (by decide) (fun _ => by rfl)
theorem r8 (l : List al) (i : Nat) (x : al) : cH (l.flatMap ar) (i * 7) (ar x) = (l.set i x).flatMap ar := rV cn (by decide) l i x
theorem sF (l : List al) (x : al) : (l.flatMap ar) ++ ar x = (l ++ [x]).flatMap ar := by simp
theorem sB (l : List al) (m : List al) : (l.flatMap ar) ++ m.flatMap ar = (l ++ m).flatMap ar := List.flatMap_append.symm
theorem uq (l : List al) (o : Nat → Ob) (n : Nat) : fz o (n + 2) (jW l) = jW l := by simp only [jD, fz, mJ]
theorem uu (l : List al) (o : Nat → Ob) (n : Nat) : bn o (n + 2) (jW l) = [] := by simp only [jD, bn, lQ]
attribute [go_sem] jD cn rR sm qQ sa re rB rr rh mJ lQ oq oN oh oL oV ow oB r8 sF sB uq uu

structure Addr where
 a0 : Int
 a1 : Int
 a2 : Int
 a3 : Int
 a4 : Int
 a5 : Int
 deriving DecidableEq

def Addr.z : Addr := ⟨0, 0, 0, 0, 0, 0⟩

def dM (x : Addr) : List AV := [vu x.a0, vu x.a1, vu x.a2, vu x.a3, vu x.a4, vu x.a5]

theorem Bw (x : Addr) : (dM x).length = 6 := by rfl
theorem Bv (x : Addr) : cq (dM x) 0 6 = some (dM x) := by rfl
theorem zT (x : Addr) : (dM x).take 6 = (dM x) := by rfl
theorem Br (x : Addr) (y : Addr) : cH (dM x) 0 (dM y) = dM y := by rfl
theorem xY (x : Addr) (o : Nat → Ob) (n : Nat) : (dM x).map (fz o (n + 1)) = dM x := by rfl
theorem rO (x : Addr) (o : Nat → Ob) (n : Nat) : (dM x).flatMap (bn o (n + 1)) = [] := by
 simp only [dM, List.cons_append, List.nil_append, List.append_nil, List.flatMap_cons, List.flatMap_nil, fw]
theorem Ir (x : Addr) (o : Nat → Ob) (n : Nat) : (dM x).map (fz o (n + 1)) = dM x := by simp only [xY]
theorem HO (x : Addr) (o : Nat → Ob) (n : Nat) : (dM x).flatMap (bn o (n + 1)) = [] := by simp only [rO, List.append_nil]
attribute [go_sem] Bw Bv zT Br xY rO Ir HO

structure jj where
 Kind : Int
 Sub : Int
 ToDs : Bool
 FromDs : Bool
 More : Bool
 Retry : Bool
 Sleep : Bool
 MoreData : Bool
 Protected : Bool
 Duration : Int
 A1 : Addr
 A2 : Addr
 A3 : Addr
 A4 : Addr
 Seq : Int
 Frag : Int
 Tid : Int
 Ack : Int
 Amsdu : Bool
 Eosp : Bool
 deriving DecidableEq

def jj.z : jj := ⟨0, 0, false, false, false, false, false, false, false, 0, Addr.z, Addr.z, Addr.z, Addr.z, 0, 0, 0, 0, false, false⟩

def cS (x : jj) : List AV := [vu x.Kind, vu x.Sub, vb x.ToDs, vb x.FromDs, vb x.More, vb x.Retry, vb x.Sleep, vb x.MoreData, vb x.Protected, vi x.Duration] ++ (dM x.A1) ++ (dM x.A2) ++ (dM x.A3) ++ (dM x.A4) ++ [vi x.Seq, vi x.Frag, vi x.Tid, vu x.Ack, vb x.Amsdu, vb x.Eosp]

theorem y7 (x : jj) : (cS x).length = 40 := by rfl
theorem yV (x : jj) : cq (cS x) 0 40 = some (cS x) := by rfl
theorem xB (x : jj) : (cS x).take 40 = (cS x) := by rfl
theorem yI (x : jj) (y : jj) : cH (cS x) 0 (cS y) = cS y := by rfl
theorem tU (x : jj) (o : Nat → Ob) (n : Nat) : (cS x).map (fz o (n + 1)) = cS x := by rfl
theorem pC (x : jj) (o : Nat → Ob) (n : Nat) : (cS x).flatMap (bn o (n + 1)) = [] := by
 simp only [cS, dM, List.cons_append, List.nil_append, List.append_nil, List.flatMap_cons, List.flatMap_nil, fw]
theorem DT (x : jj) (o : Nat → Ob) (n : Nat) : (cS x).map (fz o (n + 1)) = cS x := by simp only [tU]
theorem Dj (x : jj) (o : Nat → Ob) (n : Nat) : (cS x).flatMap (bn o (n + 1)) = [] := by simp only [pC, List.append_nil]
attribute [go_sem] y7 yV xB yI tU pC DT Dj

structure Frame where
 Head : jj
 Body : (List Int)
 deriving DecidableEq

def Frame.z : Frame := ⟨jj.z, []⟩

def bu (x : Frame) (s0 : AV) : List AV := (cS x.Head) ++ [s0]

theorem zN (x : Frame) (s0 : AV) : (bu x s0).length = 41 := by rfl
theorem z6 (x : Frame) (s0 : AV) : cq (bu x s0) 0 41 = some (bu x s0) := by rfl
theorem yx (x : Frame) (s0 : AV) : (bu x s0).take 41 = (bu x s0) := by rfl
theorem Ae (x : Frame) (s0 : AV) (y : Frame) (s02 : AV) : cH (bu x s0) 0 (bu y s02) = bu y s02 := by rfl
theorem pr (x : Frame) (s0 : AV) (v : Bool) : (bu x s0).set 5 (vb v) = bu { x with Head.Retry := v } s0 := by rfl
theorem rq (x : Frame) (s0 : AV) : (bu x s0)[34]? = some (vi x.Head.Seq) := by rfl
theorem rg (x : Frame) (s0 : AV) (v : Int) : (bu x s0).set 34 (vi v) = bu { x with Head.Seq := v } s0 := by rfl
theorem qY (x : Frame) (s0 : AV) (v : Int) : (bu x s0).set 36 (vi v) = bu { x with Head.Tid := v } s0 := by rfl
theorem vf (x : Frame) (s0 : AV) : (bu x s0)[40]? = some s0 := by rfl
theorem wB (x : Frame) (s0 : AV) (v : AV) : (bu x s0).set 40 v = bu x v := by rfl
theorem vV (x : Frame) (s0 : AV) (o : Nat → Ob) (n : Nat) : (bu x s0).map (fz o (n + 1)) = bu x (fz o (n + 1) s0) := by rfl
theorem qu (x : Frame) (s0 : AV) (o : Nat → Ob) (n : Nat) : (bu x s0).flatMap (bn o (n + 1)) = bn o (n + 1) s0 := by
 simp only [bu, cS, dM, List.cons_append, List.nil_append, List.append_nil, List.flatMap_cons, List.flatMap_nil, fw]
theorem wM (x : Frame) (s0 : AV) (h_s0 : aB s0) : ∀ c ∈ (bu x s0), aB c := by
 simp only [bu, cS, dM, List.cons_append, List.nil_append]
 repeat' (first | exact aB.v _ | assumption | exact List.forall_mem_nil _ | refine List.forall_mem_cons.2 ⟨?_, ?_⟩)
theorem Bz {st : AS} {F : List Nat} {σ : List (Option Nat)} (x : Frame) (s0 : AV) (s02 : AV) (h_s0 : Tm st F σ s0 s02) : TmL st F σ (bu x s0) (bu x s02) := by
 simp only [bu, cS, dM, List.cons_append, List.nil_append]
 repeat' (first | exact TmL.nil | (refine TmL.cons (Tm.v _) ?_) | (refine TmL.cons (by assumption) ?_))
theorem db {st : AS} {F : List Nat} {σ : List (Option Nat)} {x y : Frame} {s0 s02 : AV} (hxy : bu y s02 = bu x s02) (h_s0 : Tm st F σ s0 s02) : TmL st F σ (bu x s0) (bu y s02) := by
 rw [hxy]; exact Bz x s0 s02 h_s0
def bg (x : Frame) : List AV := bu x (rW x.Body)
theorem rl (x : Frame) : bg x = bu x (rW x.Body) := rfl
theorem dJ (x : Frame) : ∀ c ∈ bg x, aB c := wM x _ (rt _)
theorem Cf (x : Frame) (o : Nat → Ob) (n : Nat) : (bg x).map (fz o (n + 2)) = bg x := by simp only [rl, vV, yH]
theorem Cb (x : Frame) (o : Nat → Ob) (n : Nat) : (bg x).flatMap (bn o (n + 2)) = [] := by simp only [rl, qu, zw, List.append_nil]
attribute [go_sem] zN z6 yx Ae pr rq rg qY vf wB vV qu rl Cf Cb

structure ax where
 At : Int
 Tries : Int
 Flying : Bool
 Frame : Frame
 deriving DecidableEq

def ax.z : ax := ⟨0, 0, false, Frame.z⟩

def br (x : ax) (s0 : AV) : List AV := [vi x.At, vi x.Tries, vb x.Flying] ++ (bu x.Frame s0)

theorem xh (x : ax) (s0 : AV) : (br x s0).length = 44 := by rfl
theorem wN (x : ax) (s0 : AV) : cq (br x s0) 0 44 = some (br x s0) := by rfl
theorem vy (x : ax) (s0 : AV) : (br x s0).take 44 = (br x s0) := by rfl
theorem wS (x : ax) (s0 : AV) (y : ax) (s02 : AV) : cH (br x s0) 0 (br y s02) = br y s02 := by rfl
theorem wL (x : ax) (s0 : AV) : (br x s0)[0]? = some (vi x.At) := by rfl
theorem wE (x : ax) (s0 : AV) (v : Int) : (br x s0).set 0 (vi v) = br { x with At := v } s0 := by rfl
theorem rK (x : ax) (s0 : AV) : (br x s0)[1]? = some (vi x.Tries) := by rfl
theorem qX (x : ax) (s0 : AV) : (br x s0)[2]? = some (vb x.Flying) := by rfl
theorem lk (x : ax) (s0 : AV) : (br x s0)[37]? = some (vi x.Frame.Head.Seq) := by rfl
theorem sC (x : ax) (s0 : AV) : cq (br x s0) 3 41 = some (bu x.Frame s0) := by rfl
theorem sr (x : ax) (s0 : AV) (v : Frame) (w0 : AV) : cH (br x s0) 3 (bu v w0) = br { x with Frame := v } w0 := by rfl
theorem rP (x : ax) (s0 : AV) (o : Nat → Ob) (n : Nat) : (br x s0).map (fz o (n + 1)) = br x (fz o (n + 1) s0) := by rfl
theorem nv (x : ax) (s0 : AV) (o : Nat → Ob) (n : Nat) : (br x s0).flatMap (bn o (n + 1)) = bn o (n + 1) s0 := by
 simp only [br, bu, cS, dM, List.cons_append, List.nil_append, List.append_nil, List.flatMap_cons, List.flatMap_nil, fw]
theorem ux (x : ax) (s0 : AV) (h_s0 : aB s0) : ∀ c ∈ (br x s0), aB c := by
 simp only [br, bu, cS, dM, List.cons_append, List.nil_append]
 repeat' (first | exact aB.v _ | assumption | exact List.forall_mem_nil _ | refine List.forall_mem_cons.2 ⟨?_, ?_⟩)
theorem ze {st : AS} {F : List Nat} {σ : List (Option Nat)} (x : ax) (s0 : AV) (s02 : AV) (h_s0 : Tm st F σ s0 s02) : TmL st F σ (br x s0) (br x s02) := by
 simp only [br, bu, cS, dM, List.cons_append, List.nil_append]
 repeat' (first | exact TmL.nil | (refine TmL.cons (Tm.v _) ?_) | (refine TmL.cons (by assumption) ?_))
theorem ql {st : AS} {F : List Nat} {σ : List (Option Nat)} {x y : ax} {s0 s02 : AV} (hxy : br y s02 = br x s02) (h_s0 : Tm st F σ s0 s02) : TmL st F σ (br x s0) (br y s02) := by
 rw [hxy]; exact ze x s0 s02 h_s0
theorem qr (x : ax) {s0 : (Nat → Nat) → AV} (h_s0 : aK s0) : RenML fun q => br x (s0 q) := by
 simp only [br, bu, cS, dM, List.cons_append, List.nil_append]
 repeat' (first | exact RenML.nil | (refine RenML.cons (aK.const (aB.v _)) ?_) | (refine RenML.cons (by assumption) ?_))
def ah (x : ax) : List AV := br x (rW x.Frame.Body)
theorem mX (x : ax) : ah x = br x (rW x.Frame.Body) := rfl
theorem iC (x : ax) : ∀ c ∈ ah x, aB c := ux x _ (rt _)
theorem xJ (x : ax) (o : Nat → Ob) (n : Nat) : (ah x).map (fz o (n + 2)) = ah x := by simp only [mX, rP, yH]
theorem xU (x : ax) (o : Nat → Ob) (n : Nat) : (ah x).flatMap (bn o (n + 2)) = [] := by simp only [mX, nv, zw, List.append_nil]
attribute [go_sem] xh wN vy wS wL wE rK qX lk sC sr rP nv mX xJ xU

def gR (l : List ax) : AV := .imm (List.flatMap ah l) l.length
theorem nr (l : List ax) : gR l = .imm (List.flatMap ah l) l.length := rfl
theorem c4 (x : ax) : (ah x).length = 44 := by rfl
theorem nN (l : List ax) : aB (gR l) := aB.imm (jL iC l)
theorem ai (l : List ax) : ∀ c ∈ l.flatMap ah, aB c := jL iC l
theorem xl (l : List ax) : (l.flatMap ah).length = l.length * 44 := fg c4 l
theorem xr (l : List ax) (i o : Nat) (ho : o < 44) : (l.flatMap ah)[i * 44 + o]? = l[i]?.bind fun a => (ah a)[o]? := jt c4 l i o ho
theorem v9 (l : List ax) (i : Nat) : (l.flatMap ah)[i * 44]? = l[i]?.bind fun a => (ah a)[0]? := jt c4 l i 0 (by decide)
theorem xz (l : List ax) (i o n : Nat) (ho : o + n ≤ 44) (hn : 0 < n) : cq (l.flatMap ah) (i * 44 + o) n = l[i]?.bind fun a => cq (ah a) o n := jo c4 l i o n ho hn
theorem vT (l : List ax) (i n : Nat) (ho : n ≤ 44) (hn : 0 < n) : cq (l.flatMap ah) (i * 44) n = l[i]?.bind fun a => cq (ah a) 0 n := jo c4 l i 0 n (by omega) hn
theorem wm (l : List ax) (o : Nat) : (l.flatMap ah)[o]? = l[o / 44]?.bind fun a => (ah a)[o % 44]? := yf c4 (by decide) l o
theorem vW (l : List ax) (o n : Nat) (ho : o % 44 + n ≤ 44) (hn : 0 < n) : cq (l.flatMap ah) o n = l[o / 44]?.bind fun a => cq (ah a) (o % 44) n := xL c4 l o n ho hn
theorem vY (l : List ax) : cq (l.flatMap ah) 0 (l.length * 44) = some (l.flatMap ah) := p8 c4 l
theorem vJ (l : List ax) (n : Nat) : (l.flatMap ah).take (n * 44) = (l.take n).flatMap ah := iY c4 l n
theorem vl (l : List ax) (n : Nat) : (l.flatMap ah).drop (n * 44) = (l.drop n).flatMap ah := jJ c4 l n
theorem sH (l : List ax) (o : Nat → Ob) (n : Nat) : (l.flatMap ah).map (fz o (n + 2)) = (l.flatMap ah) := uD (fun a => xJ a o n) l
theorem qz (l : List ax) (o : Nat → Ob) (n : Nat) : (l.flatMap ah).flatMap (bn o (n + 2)) = [] := ng (fun a => xU a o n) l
theorem vd (l : List ax) (i : Nat) (v : Int) : (l.flatMap ah).set (i * 44) (vi v) = (l.modify i (fun y => { y with At := v })).flatMap ah := dE c4 l i 0 _ (fun y => { y with At := v }) (by decide) (fun _ => by rfl)
theorem so (l : List ax) (i : Nat) (v : Int) : (l.flatMap ah).set (i * 44 + 1) (vi v) = (l.modify i (fun y => { y with Tries := v })).flatMap ah := dE c4 l i 1 _ (fun y => { y with Tries := v }) (by decide) (fun _ => by rfl)
theorem qO (l : List ax) (i : Nat) (v : Bool) : (l.flatMap ah).set (i * 44 + 2) (vb v) = (l.modify i (fun y => { y with Flying := v })).flatMap ah := dE c4 l i 2 _ (fun y => { y with Flying := v }) (by decide) (fun _ => by rfl)
theorem kt (l : List ax) (i : Nat) (v : Bool) : (l.flatMap ah).set (i * 44 + 8) (vb v) = (l.modify i (fun y => { y with Frame.Head.Retry := v })).flatMap ah := dE c4 l i 8 _ (fun y => { y with Frame.Head.Retry := v }) (by decide) (fun _ => by rfl)
theorem lG (l : List ax) (i : Nat) (v : Int) : (l.flatMap ah).set (i * 44 + 37) (vi v) = (l.modify i (fun y => { y with Frame.Head.Seq := v })).flatMap ah := dE c4 l i 37 _ (fun y => { y with Frame.Head.Seq := v }) (by decide) (fun _ => by rfl)
theorem lv (l : List ax) (i : Nat) (v : Int) : (l.flatMap ah).set (i * 44 + 39) (vi v) = (l.modify i (fun y => { y with Frame.Head.Tid := v })).flatMap ah := dE c4 l i 39 _ (fun y => { y with Frame.Head.Tid := v }) (by decide) (fun _ => by rfl)
theorem xn (l : List ax) (i : Nat) (x : ax) (b0 : (List Int)) : cH (l.flatMap ah) (i * 44) (br x (.imm (List.map vu b0) b0.length)) = (l.set i { x with Frame.Body := b0 }).flatMap ah := rV c4 (by decide) l i { x with Frame.Body := b0 }
theorem wQ (l : List ax) (x : ax) (b0 : (List Int)) : (l.flatMap ah) ++ br x (rW b0) = (l ++ [{ x with Frame.Body := b0 }]).flatMap ah := by rw [List.flatMap_append]; simp only [List.flatMap_cons, List.flatMap_nil, List.append_nil]; rfl
theorem xg (l : List ax) (m : List ax) : (l.flatMap ah) ++ m.flatMap ah = (l ++ m).flatMap ah := List.flatMap_append.symm
theorem pj (l : List ax) (o : Nat → Ob) (n : Nat) : fz o (n + 3) (gR l) = gR l := by simp only [nr, fz, sH]
theorem pQ (l : List ax) (o : Nat → Ob) (n : Nat) : bn o (n + 3) (gR l) = [] := by simp only [nr, bn, qz]
attribute [go_sem] nr c4 xl xr v9 xz vT vY vJ vl sH qz vd so qO kt lG lv xn wQ xg pj pQ

structure Sender where
 Tid : Int
 Phase : Int
 Token : Int
 Next : Int
 Size : Int
 Limit : Int
 Life : Int
 Out : (List ax)
 Bar : Bool
 deriving DecidableEq

def Sender.z : Sender := ⟨0, 0, 0, 0, 0, 0, 0, [], false⟩

def aA (x : Sender) (s0 : AV) : List AV := [vi x.Tid, vu x.Phase, vi x.Token, vi x.Next, vi x.Size, vi x.Limit, vi x.Life, s0, vb x.Bar]

theorem zB (x : Sender) (s0 : AV) : (aA x s0).length = 9 := by rfl
theorem yr (x : Sender) (s0 : AV) : cq (aA x s0) 0 9 = some (aA x s0) := by rfl
theorem wW (x : Sender) (s0 : AV) : (aA x s0).take 9 = (aA x s0) := by rfl
theorem yX (x : Sender) (s0 : AV) (y : Sender) (s02 : AV) : cH (aA x s0) 0 (aA y s02) = aA y s02 := by rfl
theorem vN (x : Sender) (s0 : AV) : (aA x s0)[0]? = some (vi x.Tid) := by rfl
theorem wn (x : Sender) (s0 : AV) (v : Int) : (aA x s0).set 0 (vi v) = aA { x with Tid := v } s0 := by rfl
theorem tM (x : Sender) (s0 : AV) : (aA x s0)[1]? = some (vu x.Phase) := by rfl
theorem tt (x : Sender) (s0 : AV) (v : Int) : (aA x s0).set 1 (vu v) = aA { x with Phase := v } s0 := by rfl
theorem tg (x : Sender) (s0 : AV) : (aA x s0)[2]? = some (vi x.Token) := by rfl
theorem tq (x : Sender) (s0 : AV) (v : Int) : (aA x s0).set 2 (vi v) = aA { x with Token := v } s0 := by rfl
theorem uh (x : Sender) (s0 : AV) : (aA x s0)[3]? = some (vi x.Next) := by rfl
theorem ug (x : Sender) (s0 : AV) (v : Int) : (aA x s0).set 3 (vi v) = aA { x with Next := v } s0 := by rfl
theorem uo (x : Sender) (s0 : AV) : (aA x s0)[4]? = some (vi x.Size) := by rfl
theorem um (x : Sender) (s0 : AV) (v : Int) : (aA x s0).set 4 (vi v) = aA { x with Size := v } s0 := by rfl
theorem s6 (x : Sender) (s0 : AV) : (aA x s0)[5]? = some (vi x.Limit) := by rfl
theorem tx (x : Sender) (s0 : AV) (v : Int) : (aA x s0).set 5 (vi v) = aA { x with Limit := v } s0 := by rfl
theorem ud (x : Sender) (s0 : AV) : (aA x s0)[6]? = some (vi x.Life) := by rfl
theorem uA (x : Sender) (s0 : AV) (v : Int) : (aA x s0).set 6 (vi v) = aA { x with Life := v } s0 := by rfl
theorem vR (x : Sender) (s0 : AV) : (aA x s0)[7]? = some s0 := by rfl
theorem vS (x : Sender) (s0 : AV) (v : AV) : (aA x s0).set 7 v = aA x v := by rfl
theorem wu (x : Sender) (s0 : AV) : (aA x s0)[8]? = some (vb x.Bar) := by rfl
theorem wD (x : Sender) (s0 : AV) (v : Bool) : (aA x s0).set 8 (vb v) = aA { x with Bar := v } s0 := by rfl
theorem tQ (x : Sender) (s0 : AV) (o : Nat → Ob) (n : Nat) : (aA x s0).map (fz o (n + 1)) = aA x (fz o (n + 1) s0) := by rfl
theorem oU (x : Sender) (s0 : AV) (o : Nat → Ob) (n : Nat) : (aA x s0).flatMap (bn o (n + 1)) = bn o (n + 1) s0 := by
 simp only [aA, List.cons_append, List.nil_append, List.append_nil, List.flatMap_cons, List.flatMap_nil, fw]
theorem uR (x : Sender) (s0 : AV) (h_s0 : aB s0) : ∀ c ∈ (aA x s0), aB c := by
 simp only [aA, List.cons_append, List.nil_append]
 repeat' (first | exact aB.v _ | assumption | exact List.forall_mem_nil _ | refine List.forall_mem_cons.2 ⟨?_, ?_⟩)
theorem AM {st : AS} {F : List Nat} {σ : List (Option Nat)} (x : Sender) (s0 : AV) (s02 : AV) (h_s0 : Tm st F σ s0 s02) : TmL st F σ (aA x s0) (aA x s02) := by
 simp only [aA, List.cons_append, List.nil_append]
 repeat' (first | exact TmL.nil | (refine TmL.cons (Tm.v _) ?_) | (refine TmL.cons (by assumption) ?_))
theorem ak {st : AS} {F : List Nat} {σ : List (Option Nat)} {x y : Sender} {s0 s02 : AV} (hxy : aA y s02 = aA x s02) (h_s0 : Tm st F σ s0 s02) : TmL st F σ (aA x s0) (aA y s02) := by
 rw [hxy]; exact AM x s0 s02 h_s0
theorem bL (x : Sender) {s0 : (Nat → Nat) → AV} (h_s0 : aK s0) : RenML fun q => aA x (s0 q) := by
 simp only [aA, List.cons_append, List.nil_append]
 repeat' (first | exact RenML.nil | (refine RenML.cons (aK.const (aB.v _)) ?_) | (refine RenML.cons (by assumption) ?_))
def bA (x : Sender) : List AV := aA x (gR x.Out)
theorem o9 (x : Sender) : bA x = aA x (gR x.Out) := rfl
theorem aY (x : Sender) : ∀ c ∈ bA x, aB c := uR x _ (nN _)
theorem Dr (x : Sender) (o : Nat → Ob) (n : Nat) : (bA x).map (fz o (n + 3)) = bA x := by simp only [o9, tQ, pj]
theorem DP (x : Sender) (o : Nat → Ob) (n : Nat) : (bA x).flatMap (bn o (n + 3)) = [] := by simp only [o9, oU, pQ, List.append_nil]
attribute [go_sem] zB yr wW yX vN wn tM tt tg tq uh ug uo um s6 tx ud uA vR vS wu wD tQ oU o9 Dr DP

structure az where
 At : Int
 Frame : Frame
 deriving DecidableEq

def az.z : az := ⟨0, Frame.z⟩

def cd (x : az) (s0 : AV) : List AV := [vi x.At] ++ (bu x.Frame s0)

theorem l6 (x : az) (s0 : AV) : (cd x s0).length = 42 := by rfl
theorem xH (x : az) (s0 : AV) : cq (cd x s0) 0 42 = some (cd x s0) := by rfl
theorem wJ (x : az) (s0 : AV) : (cd x s0).take 42 = (cd x s0) := by rfl
theorem xE (x : az) (s0 : AV) (y : az) (s02 : AV) : cH (cd x s0) 0 (cd y s02) = cd y s02 := by rfl
theorem vO (x : az) (s0 : AV) : (cd x s0)[0]? = some (vi x.At) := by rfl
theorem vk (x : az) (s0 : AV) (v : Int) : (cd x s0).set 0 (vi v) = cd { x with At := v } s0 := by rfl
theorem lu (x : az) (s0 : AV) : (cd x s0)[35]? = some (vi x.Frame.Head.Seq) := by rfl
theorem sc (x : az) (s0 : AV) : cq (cd x s0) 1 41 = some (bu x.Frame s0) := by rfl
theorem sD (x : az) (s0 : AV) (v : Frame) (w0 : AV) : cH (cd x s0) 1 (bu v w0) = cd { x with Frame := v } w0 := by rfl
theorem rX (x : az) (s0 : AV) (o : Nat → Ob) (n : Nat) : (cd x s0).map (fz o (n + 1)) = cd x (fz o (n + 1) s0) := by rfl
theorem nI (x : az) (s0 : AV) (o : Nat → Ob) (n : Nat) : (cd x s0).flatMap (bn o (n + 1)) = bn o (n + 1) s0 := by
 simp only [cd, bu, cS, dM, List.cons_append, List.nil_append, List.append_nil, List.flatMap_cons, List.flatMap_nil, fw]
theorem uw (x : az) (s0 : AV) (h_s0 : aB s0) : ∀ c ∈ (cd x s0), aB c := by
 simp only [cd, bu, cS, dM, List.cons_append, List.nil_append]
 repeat' (first | exact aB.v _ | assumption | exact List.forall_mem_nil _ | refine List.forall_mem_cons.2 ⟨?_, ?_⟩)
def aj (x : az) : List AV := cd x (rW x.Frame.Body)
theorem no (x : az) : aj x = cd x (rW x.Frame.Body) := rfl
theorem ku (x : az) : ∀ c ∈ aj x, aB c := uw x _ (rt _)
theorem ye (x : az) (o : Nat → Ob) (n : Nat) : (aj x).map (fz o (n + 2)) = aj x := by simp only [no, rX, yH]
theorem xQ (x : az) (o : Nat → Ob) (n : Nat) : (aj x).flatMap (bn o (n + 2)) = [] := by simp only [no, nI, zw, List.append_nil]
attribute [go_sem] l6 xH wJ xE vO vk lu sc sD rX nI no ye xQ

def eT (l : List az) : AV := .imm (List.flatMap aj l) l.length
theorem nk (l : List az) : eT l = .imm (List.flatMap aj l) l.length := rfl
theorem c6 (x : az) : (aj x).length = 42 := by rfl
theorem ge (l : List az) : aB (eT l) := aB.imm (jL ku l)
theorem ay (l : List az) : ∀ c ∈ l.flatMap aj, aB c := jL ku l
theorem gm (l : List az) : (l.flatMap aj).length = l.length * 42 := fg c6 l
theorem xe (l : List az) (i o : Nat) (ho : o < 42) : (l.flatMap aj)[i * 42 + o]? = l[i]?.bind fun a => (aj a)[o]? := jt c6 l i o ho
theorem uP (l : List az) (i : Nat) : (l.flatMap aj)[i * 42]? = l[i]?.bind fun a => (aj a)[0]? := jt c6 l i 0 (by decide)
theorem xA (l : List az) (i o n : Nat) (ho : o + n ≤ 42) (hn : 0 < n) : cq (l.flatMap aj) (i * 42 + o) n = l[i]?.bind fun a => cq (aj a) o n := jo c6 l i o n ho hn
theorem vo (l : List az) (i n : Nat) (ho : n ≤ 42) (hn : 0 < n) : cq (l.flatMap aj) (i * 42) n = l[i]?.bind fun a => cq (aj a) 0 n := jo c6 l i 0 n (by omega) hn
theorem pd (l : List az) (o : Nat) : (l.flatMap aj)[o]? = l[o / 42]?.bind fun a => (aj a)[o % 42]? := yf c6 (by decide) l o
theorem pz (l : List az) (o n : Nat) (ho : o % 42 + n ≤ 42) (hn : 0 < n) : cq (l.flatMap aj) o n = l[o / 42]?.bind fun a => cq (aj a) (o % 42) n := xL c6 l o n ho hn
theorem v8 (l : List az) : cq (l.flatMap aj) 0 (l.length * 42) = some (l.flatMap aj) := p8 c6 l
theorem vU (l : List az) (n : Nat) : (l.flatMap aj).take (n * 42) = (l.take n).flatMap aj := iY c6 l n
theorem vE (l : List az) (n : Nat) : (l.flatMap aj).drop (n * 42) = (l.drop n).flatMap aj := jJ c6 l n
theorem sj (l : List az) (o : Nat → Ob) (n : Nat) : (l.flatMap aj).map (fz o (n + 2)) = (l.flatMap aj) := uD (fun a => ye a o n) l
theorem qj (l : List az) (o : Nat → Ob) (n : Nat) : (l.flatMap aj).flatMap (bn o (n + 2)) = [] := ng (fun a => xQ a o n) l
theorem wi (l : List az) (i : Nat) (v : Int) : (l.flatMap aj).set (i * 42) (vi v) = (l.modify i (fun y => { y with At := v })).flatMap aj := dE c6 l i 0 _ (fun y => { y with At := v }) (by decide) (fun _ => by rfl)
theorem kx (l : List az) (i : Nat) (v : Bool) : (l.flatMap aj).set (i * 42 + 6) (vb v) = (l.modify i (fun y => { y with Frame.Head.Retry := v })).flatMap aj := dE c6 l i 6 _ (fun y => { y with Frame.Head.Retry := v }) (by decide) (fun _ => by rfl)
theorem lq (l : List az) (i : Nat) (v : Int) : (l.flatMap aj).set (i * 42 + 35) (vi v) = (l.modify i (fun y => { y with Frame.Head.Seq := v })).flatMap aj := dE c6 l i 35 _ (fun y => { y with Frame.Head.Seq := v }) (by decide) (fun _ => by rfl)
theorem lm (l : List az) (i : Nat) (v : Int) : (l.flatMap aj).set (i * 42 + 37) (vi v) = (l.modify i (fun y => { y with Frame.Head.Tid := v })).flatMap aj := dE c6 l i 37 _ (fun y => { y with Frame.Head.Tid := v }) (by decide) (fun _ => by rfl)
theorem wP (l : List az) (i : Nat) (x : az) (b0 : (List Int)) : cH (l.flatMap aj) (i * 42) (cd x (.imm (List.map vu b0) b0.length)) = (l.set i { x with Frame.Body := b0 }).flatMap aj := rV c6 (by decide) l i { x with Frame.Body := b0 }
theorem xf (l : List az) (x : az) (b0 : (List Int)) : (l.flatMap aj) ++ cd x (rW b0) = (l ++ [{ x with Frame.Body := b0 }]).flatMap aj := by rw [List.flatMap_append]; simp only [List.flatMap_cons, List.flatMap_nil, List.append_nil]; rfl
theorem wV (l : List az) (m : List az) : (l.flatMap aj) ++ m.flatMap aj = (l ++ m).flatMap aj := List.flatMap_append.symm
theorem pU (l : List az) (o : Nat → Ob) (n : Nat) : fz o (n + 3) (eT l) = eT l := by simp only [nk, fz, sj]
theorem pN (l : List az) (o : Nat → Ob) (n : Nat) : bn o (n + 3) (eT l) = [] := by simp only [nk, bn, qj]
attribute [go_sem] nk c6 gm xe uP xA vo v8 vU vE sj qj wi kx lq lm wP xf wV pU pN

structure aW where
 Start : Int
 Bits : Int
 deriving DecidableEq

def aW.z : aW := ⟨0, 0⟩

def bb (x : aW) : List AV := [vi x.Start, vq x.Bits]

theorem yv (x : aW) : (bb x).length = 2 := by rfl
theorem yP (x : aW) : cq (bb x) 0 2 = some (bb x) := by rfl
theorem xF (x : aW) : (bb x).take 2 = (bb x) := by rfl
theorem y3 (x : aW) (y : aW) : cH (bb x) 0 (bb y) = bb y := by rfl
theorem te (x : aW) : (bb x)[0]? = some (vi x.Start) := by rfl
theorem sW (x : aW) (v : Int) : (bb x).set 0 (vi v) = bb { x with Start := v } := by rfl
theorem ua (x : aW) : (bb x)[1]? = some (vq x.Bits) := by rfl
theorem uk (x : aW) (v : Int) : (bb x).set 1 (vq v) = bb { x with Bits := v } := by rfl
theorem tX (x : aW) (o : Nat → Ob) (n : Nat) : (bb x).map (fz o (n + 1)) = bb x := by rfl
theorem pv (x : aW) (o : Nat → Ob) (n : Nat) : (bb x).flatMap (bn o (n + 1)) = [] := by
 simp only [bb, List.cons_append, List.nil_append, List.append_nil, List.flatMap_cons, List.flatMap_nil, fw]
theorem aM (x : aW) : ∀ c ∈ (bb x), aB c := by
 simp only [bb, List.cons_append, List.nil_append]
 repeat' (first | exact aB.v _ | assumption | exact List.forall_mem_nil _ | refine List.forall_mem_cons.2 ⟨?_, ?_⟩)
theorem DC (x : aW) (o : Nat → Ob) (n : Nat) : (bb x).map (fz o (n + 1)) = bb x := by simp only [tX]
theorem EA (x : aW) (o : Nat → Ob) (n : Nat) : (bb x).flatMap (bn o (n + 1)) = [] := by simp only [pv, List.append_nil]
attribute [go_sem] yv yP xF y3 te sW ua uk tX pv DC EA

structure Reorder where
 Start : Int
 Size : Int
 Hold : Int
 Held : (List az)
 Seen : aW
 deriving DecidableEq

def Reorder.z : Reorder := ⟨0, 0, 0, [], aW.z⟩

def aF (x : Reorder) (s0 : AV) : List AV := [vi x.Start, vi x.Size, vi x.Hold, s0] ++ (bb x.Seen)

theorem xC (x : Reorder) (s0 : AV) : (aF x s0).length = 6 := by rfl
theorem wX (x : Reorder) (s0 : AV) : cq (aF x s0) 0 6 = some (aF x s0) := by rfl
theorem wo (x : Reorder) (s0 : AV) : (aF x s0).take 6 = (aF x s0) := by rfl
theorem xa (x : Reorder) (s0 : AV) (y : Reorder) (s02 : AV) : cH (aF x s0) 0 (aF y s02) = aF y s02 := by rfl
theorem sA (x : Reorder) (s0 : AV) : (aF x s0)[0]? = some (vi x.Start) := by rfl
theorem r6 (x : Reorder) (s0 : AV) (v : Int) : (aF x s0).set 0 (vi v) = aF { x with Start := v } s0 := by rfl
theorem tu (x : Reorder) (s0 : AV) : (aF x s0)[1]? = some (vi x.Size) := by rfl
theorem sX (x : Reorder) (s0 : AV) (v : Int) : (aF x s0).set 1 (vi v) = aF { x with Size := v } s0 := by rfl
theorem tk (x : Reorder) (s0 : AV) : (aF x s0)[2]? = some (vi x.Hold) := by rfl
theorem sT (x : Reorder) (s0 : AV) (v : Int) : (aF x s0).set 2 (vi v) = aF { x with Hold := v } s0 := by rfl
theorem sK (x : Reorder) (s0 : AV) : (aF x s0)[3]? = some s0 := by rfl
theorem ta (x : Reorder) (s0 : AV) (v : AV) : (aF x s0).set 3 v = aF x v := by rfl
theorem tj (x : Reorder) (s0 : AV) : cq (aF x s0) 4 2 = some (bb x.Seen) := by rfl
theorem tF (x : Reorder) (s0 : AV) (v : aW) : cH (aF x s0) 4 (bb v) = aF { x with Seen := v } s0 := by rfl
theorem rJ (x : Reorder) (s0 : AV) (o : Nat → Ob) (n : Nat) : (aF x s0).map (fz o (n + 1)) = aF x (fz o (n + 1) s0) := by rfl
theorem nL (x : Reorder) (s0 : AV) (o : Nat → Ob) (n : Nat) : (aF x s0).flatMap (bn o (n + 1)) = bn o (n + 1) s0 := by
 simp only [aF, bb, List.cons_append, List.nil_append, List.append_nil, List.flatMap_cons, List.flatMap_nil, fw]
theorem uv (x : Reorder) (s0 : AV) (h_s0 : aB s0) : ∀ c ∈ (aF x s0), aB c := by
 simp only [aF, bb, List.cons_append, List.nil_append]
 repeat' (first | exact aB.v _ | assumption | exact List.forall_mem_nil _ | refine List.forall_mem_cons.2 ⟨?_, ?_⟩)
theorem yK {st : AS} {F : List Nat} {σ : List (Option Nat)} (x : Reorder) (s0 : AV) (s02 : AV) (h_s0 : Tm st F σ s0 s02) : TmL st F σ (aF x s0) (aF x s02) := by
 simp only [aF, bb, List.cons_append, List.nil_append]
 repeat' (first | exact TmL.nil | (refine TmL.cons (Tm.v _) ?_) | (refine TmL.cons (by assumption) ?_))
theorem aN {st : AS} {F : List Nat} {σ : List (Option Nat)} {x y : Reorder} {s0 s02 : AV} (hxy : aF y s02 = aF x s02) (h_s0 : Tm st F σ s0 s02) : TmL st F σ (aF x s0) (aF y s02) := by
 rw [hxy]; exact yK x s0 s02 h_s0
theorem iA (x : Reorder) {s0 : (Nat → Nat) → AV} (h_s0 : aK s0) : RenML fun q => aF x (s0 q) := by
 simp only [aF, bb, List.cons_append, List.nil_append]
 repeat' (first | exact RenML.nil | (refine RenML.cons (aK.const (aB.v _)) ?_) | (refine RenML.cons (by assumption) ?_))
theorem qv {q nx off : Nat} (x : Reorder) {s0 : AV} {s02 : AV} (h_s0 : Fr q nx off s0 s02) : FrL q nx off (aF x s0) (aF x s02) := by
 simp only [aF, bb, List.cons_append, List.nil_append]
 repeat' (first | exact FrL.nil | (refine FrL.cons _ _ _ _ (by assumption) ?_) | (refine FrL.cons _ _ _ _ (Fr.same _) ?_))
def c7 (x : Reorder) : List AV := aF x (eT x.Held)
theorem nb (x : Reorder) : c7 x = aF x (eT x.Held) := rfl
theorem bF (x : Reorder) : ∀ c ∈ c7 x, aB c := uv x _ (ge _)
theorem CH (x : Reorder) (o : Nat → Ob) (n : Nat) : (c7 x).map (fz o (n + 3)) = c7 x := by simp only [nb, rJ, pU]
theorem Cr (x : Reorder) (o : Nat → Ob) (n : Nat) : (c7 x).flatMap (bn o (n + 3)) = [] := by simp only [nb, nL, pN, List.append_nil]
attribute [go_sem] xC wX wo xa sA r6 tu sX tk sT sK ta tj tF rJ nL nb CH Cr

structure ct where
 Sender : Sender
 Reorder : Reorder
 deriving DecidableEq

def ct.z : ct := ⟨Sender.z, Reorder.z⟩

def bD (x : ct) (s0 : AV) (s1 : AV) : List AV := (aA x.Sender s0) ++ (aF x.Reorder s1)

theorem qc (x : ct) (s0 : AV) (s1 : AV) : (bD x s0 s1).length = 15 := by rfl
theorem qh (x : ct) (s0 : AV) (s1 : AV) : cq (bD x s0 s1) 0 15 = some (bD x s0 s1) := by rfl
theorem pb (x : ct) (s0 : AV) (s1 : AV) : (bD x s0 s1).take 15 = (bD x s0 s1) := by rfl
theorem qd (x : ct) (s0 : AV) (s1 : AV) (y : ct) (s02 : AV) (s12 : AV) : cH (bD x s0 s1) 0 (bD y s02 s12) = bD y s02 s12 := by rfl
theorem lA (x : ct) (s0 : AV) (s1 : AV) (o : Nat → Ob) (n : Nat) : (bD x s0 s1).map (fz o (n + 1)) = bD x (fz o (n + 1) s0) (fz o (n + 1) s1) := by rfl
theorem jy (x : ct) (s0 : AV) (s1 : AV) (o : Nat → Ob) (n : Nat) : (bD x s0 s1).flatMap (bn o (n + 1)) = bn o (n + 1) s0 ++ bn o (n + 1) s1 := by
 simp only [bD, aA, aF, bb, List.cons_append, List.nil_append, List.append_nil, List.flatMap_cons, List.flatMap_nil, fw]
def iE (x : ct) : List AV := bD x (gR x.Sender.Out) (eT x.Reorder.Held)
theorem iI (x : ct) : iE x = bD x (gR x.Sender.Out) (eT x.Reorder.Held) := rfl
theorem ul (x : ct) (o : Nat → Ob) (n : Nat) : (iE x).map (fz o (n + 3)) = iE x := by simp only [iI, lA, pj, pU]
theorem uy (x : ct) (o : Nat → Ob) (n : Nat) : (iE x).flatMap (bn o (n + 3)) = [] := by simp only [iI, jy, pQ, pN, List.append_nil]
attribute [go_sem] qc qh pb qd lA jy iI ul uy

structure aa where
 sides : ct
 plan : al
 many : Int
 accepted : Int
 lost : Unit
 out : aD
 err : Int
 deriving DecidableEq

def aa.z : aa := ⟨ct.z, al.z, 0, 0, (), aD.z, 0⟩

def af (x : aa) (s0 : AV) (s1 : AV) (s2 : AV) (s3 : AV) (s4 : AV) (s5 : AV) : List AV := (bD x.sides s0 s1) ++ (ar x.plan) ++ [vi x.many, vi x.accepted, s2] ++ (aH x.out s3 s4 s5) ++ [vi x.err]

theorem oa (x : aa) (s0 : AV) (s1 : AV) (s2 : AV) (s3 : AV) (s4 : AV) (s5 : AV) : (af x s0 s1 s2 s3 s4 s5).length = 30 := by rfl
theorem om (x : aa) (s0 : AV) (s1 : AV) (s2 : AV) (s3 : AV) (s4 : AV) (s5 : AV) : cq (af x s0 s1 s2 s3 s4 s5) 0 30 = some (af x s0 s1 s2 s3 s4 s5) := by rfl
theorem na (x : aa) (s0 : AV) (s1 : AV) (s2 : AV) (s3 : AV) (s4 : AV) (s5 : AV) : (af x s0 s1 s2 s3 s4 s5).take 30 = (af x s0 s1 s2 s3 s4 s5) := by rfl
theorem oe (x : aa) (s0 : AV) (s1 : AV) (s2 : AV) (s3 : AV) (s4 : AV) (s5 : AV) (y : aa) (s02 : AV) (s12 : AV) (s22 : AV) (s32 : AV) (s42 : AV) (s52 : AV) : cH (af x s0 s1 s2 s3 s4 s5) 0 (af y s02 s12 s22 s32 s42 s52) = af y s02 s12 s22 s32 s42 s52 := by rfl
theorem gP (x : aa) (s0 : AV) (s1 : AV) (s2 : AV) (s3 : AV) (s4 : AV) (s5 : AV) : (af x s0 s1 s2 s3 s4 s5)[3]? = some (vi x.sides.Sender.Next) := by rfl
theorem hP (x : aa) (s0 : AV) (s1 : AV) (s2 : AV) (s3 : AV) (s4 : AV) (s5 : AV) : (af x s0 s1 s2 s3 s4 s5)[7]? = some s0 := by rfl
theorem hH (x : aa) (s0 : AV) (s1 : AV) (s2 : AV) (s3 : AV) (s4 : AV) (s5 : AV) : (af x s0 s1 s2 s3 s4 s5)[8]? = some (vb x.sides.Sender.Bar) := by rfl
theorem jF (x : aa) (s0 : AV) (s1 : AV) (s2 : AV) (s3 : AV) (s4 : AV) (s5 : AV) : (af x s0 s1 s2 s3 s4 s5)[15]? = some (vi x.plan.Start) := by rfl
theorem jI (x : aa) (s0 : AV) (s1 : AV) (s2 : AV) (s3 : AV) (s4 : AV) (s5 : AV) : (af x s0 s1 s2 s3 s4 s5)[20]? = some (vi x.plan.Burst) := by rfl
theorem jR (x : aa) (s0 : AV) (s1 : AV) (s2 : AV) (s3 : AV) (s4 : AV) (s5 : AV) : (af x s0 s1 s2 s3 s4 s5)[21]? = some (vi x.plan.Round) := by rfl
theorem l9 (x : aa) (s0 : AV) (s1 : AV) (s2 : AV) (s3 : AV) (s4 : AV) (s5 : AV) : (af x s0 s1 s2 s3 s4 s5)[22]? = some (vi x.many) := by rfl
theorem lY (x : aa) (s0 : AV) (s1 : AV) (s2 : AV) (s3 : AV) (s4 : AV) (s5 : AV) (v : Int) : (af x s0 s1 s2 s3 s4 s5).set 22 (vi v) = af { x with many := v } s0 s1 s2 s3 s4 s5 := by rfl
theorem kr (x : aa) (s0 : AV) (s1 : AV) (s2 : AV) (s3 : AV) (s4 : AV) (s5 : AV) : (af x s0 s1 s2 s3 s4 s5)[23]? = some (vi x.accepted) := by rfl
theorem ky (x : aa) (s0 : AV) (s1 : AV) (s2 : AV) (s3 : AV) (s4 : AV) (s5 : AV) (v : Int) : (af x s0 s1 s2 s3 s4 s5).set 23 (vi v) = af { x with accepted := v } s0 s1 s2 s3 s4 s5 := by rfl
theorem mf (x : aa) (s0 : AV) (s1 : AV) (s2 : AV) (s3 : AV) (s4 : AV) (s5 : AV) : (af x s0 s1 s2 s3 s4 s5)[24]? = some s2 := by rfl
theorem l7 (x : aa) (s0 : AV) (s1 : AV) (s2 : AV) (s3 : AV) (s4 : AV) (s5 : AV) (v : AV) : (af x s0 s1 s2 s3 s4 s5).set 24 v = af x s0 s1 v s3 s4 s5 := by rfl
theorem i6 (x : aa) (s0 : AV) (s1 : AV) (s2 : AV) (s3 : AV) (s4 : AV) (s5 : AV) : (af x s0 s1 s2 s3 s4 s5)[25]? = some s3 := by rfl
theorem i9 (x : aa) (s0 : AV) (s1 : AV) (s2 : AV) (s3 : AV) (s4 : AV) (s5 : AV) (v : AV) : (af x s0 s1 s2 s3 s4 s5).set 25 v = af x s0 s1 s2 v s4 s5 := by rfl
theorem kp (x : aa) (s0 : AV) (s1 : AV) (s2 : AV) (s3 : AV) (s4 : AV) (s5 : AV) : (af x s0 s1 s2 s3 s4 s5)[26]? = some s4 := by rfl
theorem jY (x : aa) (s0 : AV) (s1 : AV) (s2 : AV) (s3 : AV) (s4 : AV) (s5 : AV) (v : AV) : (af x s0 s1 s2 s3 s4 s5).set 26 v = af x s0 s1 s2 s3 v s5 := by rfl
theorem jv (x : aa) (s0 : AV) (s1 : AV) (s2 : AV) (s3 : AV) (s4 : AV) (s5 : AV) : (af x s0 s1 s2 s3 s4 s5)[27]? = some s5 := by rfl
theorem jx (x : aa) (s0 : AV) (s1 : AV) (s2 : AV) (s3 : AV) (s4 : AV) (s5 : AV) (v : AV) : (af x s0 s1 s2 s3 s4 s5).set 27 v = af x s0 s1 s2 s3 s4 v := by rfl
theorem jM (x : aa) (s0 : AV) (s1 : AV) (s2 : AV) (s3 : AV) (s4 : AV) (s5 : AV) : (af x s0 s1 s2 s3 s4 s5)[28]? = some (vi x.out.Rounds) := by rfl
theorem jN (x : aa) (s0 : AV) (s1 : AV) (s2 : AV) (s3 : AV) (s4 : AV) (s5 : AV) (v : Int) : (af x s0 s1 s2 s3 s4 s5).set 28 (vi v) = af { x with out.Rounds := v } s0 s1 s2 s3 s4 s5 := by rfl
theorem mT (x : aa) (s0 : AV) (s1 : AV) (s2 : AV) (s3 : AV) (s4 : AV) (s5 : AV) : (af x s0 s1 s2 s3 s4 s5)[29]? = some (vi x.err) := by rfl
theorem mC (x : aa) (s0 : AV) (s1 : AV) (s2 : AV) (s3 : AV) (s4 : AV) (s5 : AV) (v : Int) : (af x s0 s1 s2 s3 s4 s5).set 29 (vi v) = af { x with err := v } s0 s1 s2 s3 s4 s5 := by rfl
theorem jf (x : aa) (s0 : AV) (s1 : AV) (s2 : AV) (s3 : AV) (s4 : AV) (s5 : AV) : cq (af x s0 s1 s2 s3 s4 s5) 0 9 = some (aA x.sides.Sender s0) := by rfl
theorem jn (x : aa) (s0 : AV) (s1 : AV) (s2 : AV) (s3 : AV) (s4 : AV) (s5 : AV) (v : Sender) (w0 : AV) : cH (af x s0 s1 s2 s3 s4 s5) 0 (aA v w0) = af { x with sides.Sender := v } w0 s1 s2 s3 s4 s5 := by rfl
theorem ja (x : aa) (s0 : AV) (s1 : AV) (s2 : AV) (s3 : AV) (s4 : AV) (s5 : AV) : cq (af x s0 s1 s2 s3 s4 s5) 9 6 = some (aF x.sides.Reorder s1) := by rfl
theorem i8 (x : aa) (s0 : AV) (s1 : AV) (s2 : AV) (s3 : AV) (s4 : AV) (s5 : AV) (v : Reorder) (w0 : AV) : cH (af x s0 s1 s2 s3 s4 s5) 9 (aF v w0) = af { x with sides.Reorder := v } s0 w0 s2 s3 s4 s5 := by rfl
theorem me (x : aa) (s0 : AV) (s1 : AV) (s2 : AV) (s3 : AV) (s4 : AV) (s5 : AV) : cq (af x s0 s1 s2 s3 s4 s5) 15 7 = some (ar x.plan) := by rfl
theorem l4 (x : aa) (s0 : AV) (s1 : AV) (s2 : AV) (s3 : AV) (s4 : AV) (s5 : AV) (v : al) : cH (af x s0 s1 s2 s3 s4 s5) 15 (ar v) = af { x with plan := v } s0 s1 s2 s3 s4 s5 := by rfl
theorem mE (x : aa) (s0 : AV) (s1 : AV) (s2 : AV) (s3 : AV) (s4 : AV) (s5 : AV) : cq (af x s0 s1 s2 s3 s4 s5) 25 4 = some (aH x.out s3 s4 s5) := by rfl
theorem o5 (x : aa) (s0 : AV) (s1 : AV) (s2 : AV) (s3 : AV) (s4 : AV) (s5 : AV) (o : Nat → Ob) (n : Nat) : (af x s0 s1 s2 s3 s4 s5).map (fz o (n + 1)) = af x (fz o (n + 1) s0) (fz o (n + 1) s1) (fz o (n + 1) s2) (fz o (n + 1) s3) (fz o (n + 1) s4) (fz o (n + 1) s5) := by rfl
theorem mK (x : aa) (s0 : AV) (s1 : AV) (s2 : AV) (s3 : AV) (s4 : AV) (s5 : AV) (o : Nat → Ob) (n : Nat) : (af x s0 s1 s2 s3 s4 s5).flatMap (bn o (n + 1)) = bn o (n + 1) s0 ++ (bn o (n + 1) s1 ++ (bn o (n + 1) s2 ++ (bn o (n + 1) s3 ++ (bn o (n + 1) s4 ++ bn o (n + 1) s5)))) := by
 simp only [af, bD, aA, aF, bb, ar, aH, List.cons_append, List.nil_append, List.append_nil, List.flatMap_cons, List.flatMap_nil, fw]
theorem fG (x : aa) (s0 : AV) (s1 : AV) (s2 : AV) (s3 : AV) (s4 : AV) (s5 : AV) (h_s0 : aB s0) (h_s1 : aB s1) (h_s2 : aB s2) (h_s3 : aB s3) (h_s4 : aB s4) (h_s5 : aB s5) : ∀ c ∈ (af x s0 s1 s2 s3 s4 s5), aB c := by
 simp only [af, bD, aA, aF, bb, ar, aH, List.cons_append, List.nil_append]
 repeat' (first | exact aB.v _ | assumption | exact List.forall_mem_nil _ | refine List.forall_mem_cons.2 ⟨?_, ?_⟩)
theorem pc {st : AS} {F : List Nat} {σ : List (Option Nat)} (x : aa) (s0 : AV) (s1 : AV) (s2 : AV) (s3 : AV) (s4 : AV) (s5 : AV) (s02 : AV) (s12 : AV) (s22 : AV) (s32 : AV) (s42 : AV) (s52 : AV) (h_s0 : Tm st F σ s0 s02) (h_s1 : Tm st F σ s1 s12) (h_s2 : Tm st F σ s2 s22) (h_s3 : Tm st F σ s3 s32) (h_s4 : Tm st F σ s4 s42) (h_s5 : Tm st F σ s5 s52) : TmL st F σ (af x s0 s1 s2 s3 s4 s5) (af x s02 s12 s22 s32 s42 s52) := by
 simp only [af, bD, aA, aF, bb, ar, aH, List.cons_append, List.nil_append]
 repeat' (first | exact TmL.nil | (refine TmL.cons (Tm.v _) ?_) | (refine TmL.cons (by assumption) ?_))
theorem au {st : AS} {F : List Nat} {σ : List (Option Nat)} {x y : aa} {s0 s1 s2 s3 s4 s5 s02 s12 s22 s32 s42 s52 : AV} (hxy : af y s02 s12 s22 s32 s42 s52 = af x s02 s12 s22 s32 s42 s52) (h_s0 : Tm st F σ s0 s02) (h_s1 : Tm st F σ s1 s12) (h_s2 : Tm st F σ s2 s22) (h_s3 : Tm st F σ s3 s32) (h_s4 : Tm st F σ s4 s42) (h_s5 : Tm st F σ s5 s52) : TmL st F σ (af x s0 s1 s2 s3 s4 s5) (af y s02 s12 s22 s32 s42 s52) := by
 rw [hxy]; exact pc x s0 s1 s2 s3 s4 s5 s02 s12 s22 s32 s42 s52 h_s0 h_s1 h_s2 h_s3 h_s4 h_s5
theorem bm (x : aa) {s0 s1 s2 s3 s4 s5 : (Nat → Nat) → AV} (h_s0 : aK s0) (h_s1 : aK s1) (h_s2 : aK s2) (h_s3 : aK s3) (h_s4 : aK s4) (h_s5 : aK s5) : RenML fun q => af x (s0 q) (s1 q) (s2 q) (s3 q) (s4 q) (s5 q) := by
 simp only [af, bD, aA, aF, bb, ar, aH, List.cons_append, List.nil_append]
 repeat' (first | exact RenML.nil | (refine RenML.cons (aK.const (aB.v _)) ?_) | (refine RenML.cons (by assumption) ?_))
attribute [go_sem] oa om na oe gP hP hH jF jI jR l9 lY kr ky mf l7 i6 i9 kp jY jv jx jM jN mT mC jf jn ja i8 me l4 mE o5 mK

structure b8 where
 Token : Int
 Tid : Int
 Size : Int
 Start : Int
 deriving DecidableEq

def b8.z : b8 := ⟨0, 0, 0, 0⟩

def bC (x : b8) : List AV := [vi x.Token, vi x.Tid, vi x.Size, vi x.Start]

theorem wF (x : b8) : (bC x).length = 4 := by rfl
theorem uT (x : b8) : cq (bC x) 0 4 = some (bC x) := by rfl
theorem ub (x : b8) : (bC x).take 4 = (bC x) := by rfl
theorem ve (x : b8) (y : b8) : cH (bC x) 0 (bC y) = bC y := by rfl
theorem rD (x : b8) : (bC x)[0]? = some (vi x.Token) := by rfl
theorem qI (x : b8) (v : Int) : (bC x).set 0 (vi v) = bC { x with Token := v } := by rfl
theorem sU (x : b8) (v : Int) : (bC x).set 1 (vi v) = bC { x with Tid := v } := by rfl
theorem r9 (x : b8) (v : Int) : (bC x).set 2 (vi v) = bC { x with Size := v } := by rfl
theorem qW (x : b8) (v : Int) : (bC x).set 3 (vi v) = bC { x with Start := v } := by rfl
theorem qs (x : b8) (o : Nat → Ob) (n : Nat) : (bC x).map (fz o (n + 1)) = bC x := by rfl
theorem mA (x : b8) (o : Nat → Ob) (n : Nat) : (bC x).flatMap (bn o (n + 1)) = [] := by
 simp only [bC, List.cons_append, List.nil_append, List.append_nil, List.flatMap_cons, List.flatMap_nil, fw]
theorem dc (x : b8) : ∀ c ∈ (bC x), aB c := by
 simp only [bC, List.cons_append, List.nil_append]
 repeat' (first | exact aB.v _ | assumption | exact List.forall_mem_nil _ | refine List.forall_mem_cons.2 ⟨?_, ?_⟩)
theorem Be (x : b8) (o : Nat → Ob) (n : Nat) : (bC x).map (fz o (n + 1)) = bC x := by simp only [qs]
theorem BD (x : b8) (o : Nat → Ob) (n : Nat) : (bC x).flatMap (bn o (n + 1)) = [] := by simp only [mA, List.append_nil]
attribute [go_sem] wF uT ub ve rD qI sU r9 qW qs mA Be BD

structure bx where
 Token : Int
 Tid : Int
 Status : Int
 Size : Int
 deriving DecidableEq

def bx.z : bx := ⟨0, 0, 0, 0⟩

def bp (x : bx) : List AV := [vi x.Token, vi x.Tid, vi x.Status, vi x.Size]

theorem sw (x : bx) : (bp x).length = 4 := by rfl
theorem rQ (x : bx) : cq (bp x) 0 4 = some (bp x) := by rfl
theorem rF (x : bx) : (bp x).take 4 = (bp x) := by rfl
theorem rN (x : bx) (y : bx) : cH (bp x) 0 (bp y) = bp y := by rfl
theorem ou (x : bx) : (bp x)[0]? = some (vi x.Token) := by rfl
theorem ox (x : bx) (v : Int) : (bp x).set 0 (vi v) = bp { x with Token := v } := by rfl
theorem qb (x : bx) : (bp x)[1]? = some (vi x.Tid) := by rfl
theorem nh (x : bx) : (bp x)[2]? = some (vi x.Status) := by rfl
theorem pp (x : bx) : (bp x)[3]? = some (vi x.Size) := by rfl
theorem oI (x : bx) (v : Int) : (bp x).set 3 (vi v) = bp { x with Size := v } := by rfl
theorem mB (x : bx) (o : Nat → Ob) (n : Nat) : (bp x).map (fz o (n + 1)) = bp x := by rfl
theorem kG (x : bx) (o : Nat → Ob) (n : Nat) : (bp x).flatMap (bn o (n + 1)) = [] := by
 simp only [bp, List.cons_append, List.nil_append, List.append_nil, List.flatMap_cons, List.flatMap_nil, fw]
theorem g8 (x : bx) : ∀ c ∈ (bp x), aB c := by
 simp only [bp, List.cons_append, List.nil_append]
 repeat' (first | exact aB.v _ | assumption | exact List.forall_mem_nil _ | refine List.forall_mem_cons.2 ⟨?_, ?_⟩)
theorem w9 (x : bx) (o : Nat → Ob) (n : Nat) : (bp x).map (fz o (n + 1)) = bp x := by simp only [mB]
theorem xc (x : bx) (o : Nat → Ob) (n : Nat) : (bp x).flatMap (bn o (n + 1)) = [] := by simp only [kG, List.append_nil]
attribute [go_sem] sw rQ rF rN ou ox qb nh pp oI mB kG w9 xc

def kM (l : List Frame) : AV := .imm (List.flatMap bg l) l.length
theorem q8 (l : List Frame) : kM l = .imm (List.flatMap bg l) l.length := rfl
theorem gQ (x : Frame) : (bg x).length = 41 := by rfl
theorem jU (l : List Frame) : aB (kM l) := aB.imm (jL dJ l)
theorem ce (l : List Frame) : ∀ c ∈ l.flatMap bg, aB c := jL dJ l
theorem Au (l : List Frame) : (l.flatMap bg).length = l.length * 41 := fg gQ l
theorem AB (l : List Frame) (i o : Nat) (ho : o < 41) : (l.flatMap bg)[i * 41 + o]? = l[i]?.bind fun a => (bg a)[o]? := jt gQ l i o ho
theorem zk (l : List Frame) (i : Nat) : (l.flatMap bg)[i * 41]? = l[i]?.bind fun a => (bg a)[0]? := jt gQ l i 0 (by decide)
theorem zQ (l : List Frame) (i o n : Nat) (ho : o + n ≤ 41) (hn : 0 < n) : cq (l.flatMap bg) (i * 41 + o) n = l[i]?.bind fun a => cq (bg a) o n := jo gQ l i o n ho hn
theorem yS (l : List Frame) (i n : Nat) (ho : n ≤ 41) (hn : 0 < n) : cq (l.flatMap bg) (i * 41) n = l[i]?.bind fun a => cq (bg a) 0 n := jo gQ l i 0 n (by omega) hn
theorem zm (l : List Frame) : cq (l.flatMap bg) 0 (l.length * 41) = some (l.flatMap bg) := p8 gQ l
theorem zx (l : List Frame) (n : Nat) : (l.flatMap bg).take (n * 41) = (l.take n).flatMap bg := iY gQ l n
theorem zA (l : List Frame) (n : Nat) : (l.flatMap bg).drop (n * 41) = (l.drop n).flatMap bg := jJ gQ l n
theorem vg (l : List Frame) (o : Nat → Ob) (n : Nat) : (l.flatMap bg).map (fz o (n + 2)) = (l.flatMap bg) := uD (fun a => Cf a o n) l
theorem tZ (l : List Frame) (o : Nat → Ob) (n : Nat) : (l.flatMap bg).flatMap (bn o (n + 2)) = [] := ng (fun a => Cb a o n) l
theorem oY (l : List Frame) (i : Nat) (v : Bool) : (l.flatMap bg).set (i * 41 + 5) (vb v) = (l.modify i (fun y => { y with Head.Retry := v })).flatMap bg := dE gQ l i 5 _ (fun y => { y with Head.Retry := v }) (by decide) (fun _ => by rfl)
theorem q9 (l : List Frame) (i : Nat) (v : Int) : (l.flatMap bg).set (i * 41 + 34) (vi v) = (l.modify i (fun y => { y with Head.Seq := v })).flatMap bg := dE gQ l i 34 _ (fun y => { y with Head.Seq := v }) (by decide) (fun _ => by rfl)
theorem rm (l : List Frame) (i : Nat) (v : Int) : (l.flatMap bg).set (i * 41 + 36) (vi v) = (l.modify i (fun y => { y with Head.Tid := v })).flatMap bg := dE gQ l i 36 _ (fun y => { y with Head.Tid := v }) (by decide) (fun _ => by rfl)
theorem AG (l : List Frame) (i : Nat) (x : Frame) (b0 : (List Int)) : cH (l.flatMap bg) (i * 41) (bu x (.imm (List.map vu b0) b0.length)) = (l.set i { x with Body := b0 }).flatMap bg := rV gQ (by decide) l i { x with Body := b0 }
theorem AH (l : List Frame) (x : Frame) (b0 : (List Int)) : (l.flatMap bg) ++ bu x (rW b0) = (l ++ [{ x with Body := b0 }]).flatMap bg := by rw [List.flatMap_append]; simp only [List.flatMap_cons, List.flatMap_nil, List.append_nil]; rfl
theorem Ac (l : List Frame) (m : List Frame) : (l.flatMap bg) ++ m.flatMap bg = (l ++ m).flatMap bg := List.flatMap_append.symm
theorem CB (l : List Frame) (o : Nat → Ob) (n : Nat) : fz o (n + 3) (kM l) = kM l := by simp only [q8, fz, vg]
theorem CD (l : List Frame) (o : Nat → Ob) (n : Nat) : bn o (n + 3) (kM l) = [] := by simp only [q8, bn, tZ]
attribute [go_sem] q8 gQ Au AB zk zQ yS zm zx zA vg tZ oY q9 rm AG AH Ac CB CD

end Go.AX.Z.TN

/-! (TND) -/

set_option linter.unusedSimpArgs false
set_option linter.unusedVariables false
set_option maxHeartbeats 4000000
set_option maxRecDepth 20000
namespace Go.AX.Z.TN
open Go.AX

def gD : Option al :=
 some { al.z with Burst := 2, Hold := 16777216, Life := 1073741824, Limit := 2, Round := 10, Size := 2, Start := 4095 }

def cR (a0 : Int) (a1 : Int) (a2 : Int) : Option Bool :=
 some ((decide (a1 ≤ a0)) && (decide (a0 ≤ a2)))

def gq (a0 : al) : Option Int :=
 ((cR a0.Start 0 4095).bind fun x2 =>
 ((
  bif x2 then
   ((cR a0.Size 1 64).bind fun x3 =>
   some x3)
  else
   some false).bind fun x4 =>
 ((
  bif x4 then
   ((cR a0.Limit 1 16).bind fun x5 =>
   some x5)
  else
   some false).bind fun x6 =>
 ((
  bif x6 then
   ((cR a0.Burst 1 64).bind fun x7 =>
   some x7)
  else
   some false).bind fun x8 =>
 ((cR a0.Life 1 1073741824).bind fun x9 =>
 ((
  bif x9 then
   ((cR a0.Hold 0 16777216).bind fun x10 =>
   some x10)
  else
   some false).bind fun x11 =>
 ((
  bif x11 then
   ((cR a0.Round 1 1000000).bind fun x12 =>
   some x12)
  else
   some false).bind fun x13 =>
 bif ((!x8) || (!x13)) then
  some 8
 else
  some 0)))))))

def bP (a0 : Int) (a1 : Int) (a2 : Int) : Option Bool :=
 some ((decide (a1 ≤ a0)) && (decide (a0 ≤ a2)))

def fQ (a0 : Sender) : Option Int :=
 bif decide (0 < (a0.Out.length : Int)) then
  ((idx a0.Out 0).bind fun x27 =>
  some x27.Frame.Head.Seq)
 else
  some a0.Next

def cG (a0 : Int) (a1 : Int) : Option Int :=
 some (IntKind.wrap .i64 (vX .u64 (IntKind.wrap .u64 ((IntKind.wrap .u64 a1) - (IntKind.wrap .u64 a0))) 4095))

def dQ (a0 : Sender) (x27 : Int) (x28 : Int) : Nat → (Int × Int × Int) → Option (Ex Int Unit)
 | 0, _ => none
 | n15 + 1, d31 =>
  bif decide (d31.2.2 < (a0.Out.length : Int)) then
   ((idx a0.Out d31.2.2).bind fun x32 =>
   ((cG x27 x32.Frame.Head.Seq).bind fun x33 =>
   ((bP x32.Frame.Head.Seq 0 4095).bind fun x34 =>
   ((
    bif (((!x34) || (decide (x33 ≤ d31.1))) || (decide (x28 ≤ x33))) then
     some true
    else
     ((bP x32.At d31.2.1 1099511627776).bind fun x35 =>
     some (!x35))).bind fun x36 =>
   ((
    bif x36 then
     some true
    else
     ((bP x32.Tries 0 a0.Limit).bind fun x37 =>
     some (!x37))).bind fun x38 =>
   bif (x38 || (x32.Flying && (x32.Tries == 0))) then
    some (Ex.ret 8)
   else
    dQ a0 x27 x28 n15 (x33, x32.At, IntKind.wrap .i64 (d31.2.2 + 1)))))))
  else
   some (Ex.go ())

def ej (a0 : Sender) : Option Int :=
 ((bP a0.Tid 0 7).bind fun x16 =>
 ((
  bif (x16 && (decide (a0.Phase ≤ 2))) then
   ((bP a0.Token 0 255).bind fun x17 =>
   some x17)
  else
   some false).bind fun x18 =>
 ((
  bif x18 then
   ((bP a0.Next 0 4095).bind fun x19 =>
   some x19)
  else
   some false).bind fun x20 =>
 ((
  bif x20 then
   ((bP a0.Limit 1 16).bind fun x21 =>
   some x21)
  else
   some false).bind fun x22 =>
 ((
  bif x22 then
   ((bP a0.Life 1 1073741824).bind fun x23 =>
   some x23)
  else
   some false).bind fun x24 =>
 ((bP a0.Size 1 64).bind fun x25 =>
 ((
  bif (a0.Phase == 0) then
   some (a0.Size == 0)
  else
   some x25).bind fun d26 =>
 bif (((!x24) || (!d26)) || ((a0.Phase != 2) && ((decide (0 < (a0.Out.length : Int))) || a0.Bar))) then
  some 8
 else
  ((fQ a0).bind fun x27 =>
  ((cG x27 a0.Next).bind fun x28 =>
  bif decide (a0.Size < x28) then
   some 8
  else
   ((
    dQ a0 x27 x28 big ((-1), 0, 0)).bind fun o30 =>
   (o30.k fun d29 =>
   some 0)))))))))))

def lp (a0 : Int) (a1 : Int) (a2 : Int) (a3 : Int) : Option (Sender × Int) :=
 ((ej { Sender.z with Life := a3, Limit := a2, Next := a1, Tid := a0 }).bind fun x16 =>
 bif (x16 != 0) then
  some (Sender.z, 2)
 else
  some ({ Sender.z with Life := a3, Limit := a2, Next := a1, Tid := a0 }, 0))

def be (a0 : Int) (a1 : aa) (a2 : (List Bool)) : Option aa :=
 bif (a1.err == 0) then
  some { a1 with err := a0 }
 else
  some a1

def dT (a0 : Frame) : Option Frame :=
 ((chk (decide (a0.Body.length ≤ 140737488355328))).bind fun x23 =>
 some a0)

def eC (a0 : Sender) : Nat → (List ax × Int) → Option ((List ax))
 | 0, _ => none
 | n2 + 1, d22 =>
  bif decide (d22.2 < (a0.Out.length : Int)) then
   ((idx a0.Out d22.2).bind fun x23 =>
   ((dT x23.Frame).bind fun x24 =>
   ((chk (decide ((d22.1.length + 1) * 128 ≤ 140737488355328))).bind fun x25 =>
   eC a0 n2 ((d22.1 ++ [{ x23 with Frame := x24 }]), IntKind.wrap .i64 (d22.2 + 1)))))
  else
   some d22.1

def fc (a0 : Sender) : Option Sender :=
 ((
  eC a0 big ([], 0)).bind fun d21 =>
 some { a0 with Out := d21 })

def jT (a0 : Sender) (a1 : Int) : Option (b8 × Sender × Int) :=
 ((ej a0).bind fun x19 =>
 bif (x19 != 0) then
  some (b8.z, Sender.z, x19)
 else
  ((bP a1 1 64).bind fun x20 =>
  bif (!x20) then
   some (b8.z, Sender.z, 2)
  else
   bif (a0.Phase == 2) then
    some (b8.z, Sender.z, 20)
   else
    ((fc { a0 with Phase := 1, Size := a1, Token := IntKind.wrap .i64 ((a0.Token.tmod 255) + 1) }).bind fun x21 =>
    some ({ b8.z with Size := a1, Start := a0.Next, Tid := a0.Tid, Token := IntKind.wrap .i64 ((a0.Token.tmod 255) + 1) }, x21, 0))))

def gp (a0 : Sender) (a1 : bx) : Option (Sender × Int) :=
 ((ej a0).bind fun x24 =>
 ((
  bif (x24 != 0) then
   some (Ex.ret (Sender.z, x24))
  else
   bif (a0.Phase != 1) then
    some (Ex.ret (Sender.z, 20))
   else
    bif ((a1.Token != a0.Token) || (a1.Tid != a0.Tid)) then
     some (Ex.ret (Sender.z, 21))
    else
     bif (a1.Status != 0) then
      some (Ex.go { a0 with Phase := 0, Size := 0 })
     else
      ((bP a1.Size 1 a0.Size).bind fun x27 =>
      bif (!x27) then
       some (Ex.ret (Sender.z, 2))
      else
       some (Ex.go { a0 with Phase := 2, Size := a1.Size }))).bind fun o26 =>
 (o26.k fun d25 =>
 ((fc d25).bind fun x28 =>
 some (x28, 0)))))

def dp (a0 : Int) : Option Bool :=
 some ((decide (0 ≤ a0)) && (decide (a0 < 4096)))

def en (a0 : Int) : Option Bool :=
 some ((decide (0 ≤ a0)) && (decide (a0 < 4096)))

def eO (a0 : aW) : Option Int :=
 ((en a0.Start).bind fun x32 =>
 bif (!x32) then
  some 8
 else
  some 0)

def ez (a0 : Int) : Option Bool :=
 some ((decide (0 ≤ a0)) && (decide (a0 ≤ 1099511627776)))

def cW (a0 : Reorder) : Nat → (Int × Int) → Option (Ex Int Unit)
 | 0, _ => none
 | n8 + 1, d36 =>
  bif decide (d36.2 < (a0.Held.length : Int)) then
   ((idx a0.Held d36.2).bind fun x37 =>
   ((cG a0.Start x37.Frame.Head.Seq).bind fun x38 =>
   ((dp x37.Frame.Head.Seq).bind fun x39 =>
   ((
    bif (!x39) then
     some true
    else
     ((ez x37.At).bind fun x40 =>
     some (!x40))).bind fun x41 =>
   bif ((x41 || (decide (x38 ≤ d36.1))) || (decide (a0.Size ≤ x38))) then
    some (Ex.ret 8)
   else
    cW a0 n8 (x38, IntKind.wrap .i64 (d36.2 + 1))))))
  else
   some (Ex.go ())

def ei (a0 : Reorder) : Option Int :=
 ((dp a0.Start).bind fun x31 =>
 ((
  bif (((((!x31) || (decide (a0.Size < 1))) || (decide (64 < a0.Size))) || (decide (a0.Hold < 0))) || (decide (16777216 < a0.Hold))) then
   some true
  else
   ((eO a0.Seen).bind fun x32 =>
   some (x32 != 0))).bind fun x33 =>
 bif x33 then
  some 8
 else
  ((
   cW a0 big (0, 0)).bind fun o35 =>
  (o35.k fun d34 =>
  some 0))))

def lN (a0 : Int) (a1 : Int) (a2 : Int) : Option (Reorder × Int) :=
 ((ei { Reorder.z with Hold := a2, Seen := { aW.z with Start := a0 }, Size := a1, Start := a0 }).bind fun x31 =>
 bif (x31 != 0) then
  some (Reorder.z, 2)
 else
  some ({ Reorder.z with Hold := a2, Seen := { aW.z with Start := a0 }, Size := a1, Start := a0 }, 0))

def d4 (a0 : aa) (a1 : (List Bool)) : Option aa :=
 ((lp 0 a0.plan.Start a0.plan.Limit a0.plan.Life).bind fun x16 =>
 ((be x16.2 a0 a1).bind fun x17 =>
 ((jT x16.1 a0.plan.Size).bind fun x18 =>
 ((be x18.2.2 { x17 with out.Acked := a0.out.Acked, out.Delivered := a0.out.Delivered, out.Dropped := a0.out.Dropped } a1).bind fun x19 =>
 ((gp x18.2.1 { bx.z with Size := a0.plan.Size, Token := x18.1.Token }).bind fun x20 =>
 ((be x20.2 { x19 with out.Acked := a0.out.Acked, out.Delivered := a0.out.Delivered, out.Dropped := a0.out.Dropped, sides.Sender := x20.1 } a1).bind fun x21 =>
 ((lN a0.plan.Start a0.plan.Size a0.plan.Hold).bind fun x22 =>
 ((be x22.2 { x21 with out.Acked := a0.out.Acked, out.Delivered := a0.out.Delivered, out.Dropped := a0.out.Dropped, sides.Reorder := x22.1 } a1).bind fun x23 =>
 some x23))))))))

def dR (a0 : Sender) : Nat → (List Int × Int) → Option ((List Int))
 | 0, _ => none
 | n3 + 1, d28 =>
  bif decide (d28.2 < (a0.Out.length : Int)) then
   ((idx a0.Out d28.2).bind fun x29 =>
   ((chk (decide ((d28.1.length + 1) * 8 ≤ 140737488355328))).bind fun x30 =>
   dR a0 n3 ((d28.1 ++ [x29.Frame.Head.Seq]), IntKind.wrap .i64 (d28.2 + 1))))
  else
   some d28.1

def fR (a0 : Sender) : Option ((List Int) × Sender × Int) :=
 ((ej a0).bind fun x26 =>
 bif (x26 != 0) then
  some ([], Sender.z, x26)
 else
  ((
   dR a0 big ([], 0)).bind fun d27 =>
  some (d27, { a0 with Bar := false, Out := [], Phase := 0, Size := 0 }, 0)))

def bX (a2 : (List Int)) (a0 : aa) : Nat → (List Int × Int) → Option ((List Int))
 | 0, _ => none
 | n2 + 1, d34 =>
  bif decide (d34.2 < (a2.length : Int)) then
   ((idx a2 d34.2).bind fun x35 =>
   ((cG a0.plan.Start x35).bind fun x36 =>
   ((chk (decide ((d34.1.length + 1) * 8 ≤ 140737488355328))).bind fun x37 =>
   bX a2 a0 n2 ((d34.1 ++ [x36]), IntKind.wrap .i64 (d34.2 + 1)))))
  else
   some d34.1

def cr (a0 : aa) (a1 : (List Bool)) (a2 : (List Int)) : Option (List Int) :=
 ((
  bX a2 a0 big ([], 0)).bind fun d33 =>
 some d33)

def dU (a0 : (List az)) : Nat → (List az × Int) → Option ((List az))
 | 0, _ => none
 | n2 + 1, d46 =>
  bif decide (d46.2 < (a0.length : Int)) then
   ((idx a0 d46.2).bind fun x47 =>
   ((dT x47.Frame).bind fun x48 =>
   ((chk (decide ((d46.1.length + 1) * 112 ≤ 140737488355328))).bind fun x49 =>
   dU a0 n2 ((d46.1 ++ [{ az.z with At := x47.At, Frame := x48 }]), IntKind.wrap .i64 (d46.2 + 1)))))
  else
   some d46.1

def eN (a0 : (List az)) : Option (List az) :=
 ((
  dU a0 big ([], 0)).bind fun d45 =>
 some d45)

def fb (a0 : az) (a1 : Int) (a2 : Reorder) : Option Int :=
 ((cG a2.Start a0.Frame.Head.Seq).bind fun x55 =>
 some (IntKind.wrap .i64 (x55 - a1)))

def aR (a0 : (List az)) (a1 : Int) (a2 : Reorder) : Nat → (Int × Int) → Option (Int)
 | 0, _ => none
 | n2 + 1, d54 =>
  bif decide (d54.1 < d54.2) then
   ((idx a0 (IntKind.wrap .i64 (((IntKind.wrap .u64 (IntKind.wrap .i64 (d54.1 + d54.2)))).fdiv (2 ^ (min 1 64))))).bind fun x55 =>
   ((fb x55 a1 a2).bind fun x56 =>
   bif decide (x56 < 0) then
    aR a0 a1 a2 n2 (IntKind.wrap .i64 ((IntKind.wrap .i64 (((IntKind.wrap .u64 (IntKind.wrap .i64 (d54.1 + d54.2)))).fdiv (2 ^ (min 1 64)))) + 1), d54.2)
   else
    aR a0 a1 a2 n2 (d54.1, IntKind.wrap .i64 (((IntKind.wrap .u64 (IntKind.wrap .i64 (d54.1 + d54.2)))).fdiv (2 ^ (min 1 64))))))
  else
   some d54.1

def bN (a0 : (List az)) (a1 : Int) (a2 : Reorder) : Option (Int × Bool) :=
 ((
  aR a0 a1 a2 big (0, (a0.length : Int))).bind fun d53 =>
 bif decide (d53 < (a0.length : Int)) then
  ((idx a0 d53).bind fun x57 =>
  ((fb x57 a1 a2).bind fun x58 =>
  some (d53, (x58 == 0))))
 else
  some (d53, false))

def gl (a0 : Reorder) (a1 : Int) : Option (Int × Bool) :=
 ((cG a0.Start a1).bind fun x52 =>
 ((bN a0.Held x52 a0).bind fun x53 =>
 some (x53.1, x53.2)))

def eU (a0 : Int) (a1 : Int) : Option Int :=
 some (IntKind.wrap .i64 (vX .u64 (IntKind.wrap .u64 ((IntKind.wrap .u64 a0) + (IntKind.wrap .u64 a1))) 4095))

def dX (a0 : Reorder) : Nat → (List Frame × Nat × Int × Int) → Option ((List Frame))
 | 0, _ => none
 | n2 + 1, d55 =>
  bif decide (d55.2.2.2 < d55.2.2.1) then
   ((chk (decide (d55.2.2.2 < (d55.2.1 : Int)))).bind fun x56 =>
   ((idx a0.Held d55.2.2.2).bind fun x57 =>
   ((chk (decide ((d55.1.length + 1) * 104 ≤ 140737488355328))).bind fun x58 =>
   dX a0 n2 ((d55.1 ++ [x57.Frame]), d55.2.1, d55.2.2.1, IntKind.wrap .i64 (d55.2.2.2 + 1)))))
  else
   some d55.1

def dS : Nat → (Reorder × List az × List Frame) → Option ((Reorder × List az × List Frame))
 | 0, _ => none
 | n7 + 1, d61 =>
  ((
   bif decide (0 < ((d61.2.1.length : Nat) : Int)) then
    ((idx d61.2.1 0).bind fun x62 =>
    some (x62.Frame.Head.Seq == d61.1.Start))
   else
    some false).bind fun x63 =>
  bif x63 then
   ((idx d61.2.1 0).bind fun x64 =>
   ((chk (decide ((d61.2.2.length + 1) * 104 ≤ 140737488355328))).bind fun x65 =>
   ((eU d61.1.Start 1).bind fun x66 =>
   ((chk (decide (1 ≤ (d61.2.1.length : Int)))).bind fun x67 =>
   dS n7 ({ d61.1 with Start := x66 }, (List.drop 1 d61.2.1), (d61.2.2 ++ [x64.Frame]))))))
  else
   some (d61.1, d61.2.1, d61.2.2))

def eK (a0 : Reorder) (a1 : Int) : Option (List Frame × Reorder × List az) :=
 ((gl a0 a1).bind fun x52 =>
 ((chk (decide (0 ≤ x52.1) && decide (x52.1 ≤ (a0.Held.length : Int)))).bind fun x53 =>
 ((
  dX a0 big ([], (x52.1).toNat, (((x52.1).toNat : Nat) : Int), 0)).bind fun d54 =>
 ((chk (decide (0 ≤ x52.1) && decide (x52.1 ≤ (a0.Held.length : Int)))).bind fun x59 =>
 ((
  dS big ({ a0 with Start := a1 }, (List.drop ((x52.1).toNat) a0.Held), d54)).bind fun d60 =>
 some (d60.2.2, d60.1, d60.2.1))))))

def iZ (a0 : Reorder) (a1 : Int) : Option ((List Frame) × Reorder × Int) :=
 ((ei a0).bind fun x43 =>
 bif (x43 != 0) then
  some ([], Reorder.z, x43)
 else
  ((dp a1).bind fun x44 =>
  bif (!x44) then
   some ([], Reorder.z, 2)
  else
   ((eN a0.Held).bind fun x45 =>
   ((cG a0.Start a1).bind fun x46 =>
   bif decide (2048 ≤ x46) then
    some ([], { a0 with Held := x45 }, 0)
   else
    ((eK { a0 with Held := x45 } a1).bind fun x47 =>
    some (x47.1, { x47.2.1 with Held := x47.2.2 }, 0))))))

def bV (a0 : (List Frame)) (a1 : aa) : Nat → (List Int × Int) → Option ((List Int))
 | 0, _ => none
 | n2 + 1, d51 =>
  bif decide (d51.2 < (a0.length : Int)) then
   ((idx a0 d51.2).bind fun x52 =>
   ((cG a1.plan.Start x52.Head.Seq).bind fun x53 =>
   ((chk (decide ((d51.1.length + 1) * 8 ≤ 140737488355328))).bind fun x54 =>
   bV a0 a1 n2 ((d51.1 ++ [x53]), IntKind.wrap .i64 (d51.2 + 1)))))
  else
   some d51.1

def bO (a0 : (List Frame)) (a1 : aa) (a2 : (List Bool)) : Option (List Int) :=
 ((
  bV a0 a1 big (a1.out.Delivered, 0)).bind fun d50 =>
 some d50)

def cB (a0 : Int) (a1 : aa) (a2 : (List Bool)) : Option (aa × List Int) :=
 ((iZ a1.sides.Reorder a0).bind fun x43 =>
 ((be x43.2.2 a1 a2).bind fun x44 =>
 ((bO x43.1 { x44 with out.Acked := a1.out.Acked, out.Delivered := a1.out.Delivered, out.Dropped := a1.out.Dropped, sides.Reorder := x43.2.1 } a2).bind fun x45 =>
 some ({ x44 with out.Acked := a1.out.Acked, out.Delivered := a1.out.Delivered, out.Dropped := a1.out.Dropped, sides.Reorder := x43.2.1 }, x45))))

def cm (x27 : aa) : Nat → (List Int × Int) → Option ((List Int))
 | 0, _ => none
 | n2 + 1, d31 =>
  bif decide (d31.2 < x27.many) then
   ((chk (decide ((d31.1.length + 1) * 8 ≤ 140737488355328))).bind fun x32 =>
   cm x27 n2 ((d31.1 ++ [d31.2]), IntKind.wrap .i64 (d31.2 + 1)))
  else
   some d31.1

def d9 (a0 : aa) (a1 : (List Bool)) : Option (aa × List Int × List Int) :=
 ((fR a0.sides.Sender).bind fun x26 =>
 ((be x26.2.2 a0 a1).bind fun x27 =>
 ((cr { x27 with out.Acked := a0.out.Acked, out.Delivered := a0.out.Delivered, out.Dropped := a0.out.Dropped, sides.Sender := x26.2.1 } a1 x26.1).bind fun x28 =>
 ((chk (decide ((a0.out.Dropped.length + x28.length) * 8 ≤ 140737488355328))).bind fun x29 =>
 ((
  cm x27 big ((a0.out.Dropped ++ x28), x27.accepted)).bind fun d30 =>
 ((cB x26.2.1.Next { x27 with out.Acked := a0.out.Acked, out.Delivered := a0.out.Delivered, out.Dropped := d30, sides.Sender := x26.2.1 } a1).bind fun x33 =>
 some (x33.1, x33.2, d30)))))))

def dW (a0 : Sender) (a1 : Bool) : Option (Sender × Int) :=
 ((ej a0).bind fun x36 =>
 bif (x36 != 0) then
  some (Sender.z, x36)
 else
  bif (!a1) then
   some (Sender.z, 2)
  else
   bif (a0.Phase != 2) then
    some (Sender.z, 20)
   else
    ((fc a0).bind fun x37 =>
    some (x37, 0)))

def iD (a0 : ax) (a1 : Sender) (a2 : Int) : Option Bool :=
 some ((!a0.Flying) && ((a0.Tries == a1.Limit) || (decide ((IntKind.wrap .i64 (a0.At + a1.Life)) ≤ a2))))

def eF (a0 : ax) (a1 : Sender) (a2 : Int) (a3 : List Int) : Option (Bool × List Int) :=
 ((iD a0 a1 a2).bind fun x41 =>
 bif x41 then
  ((chk (decide ((a3.length + 1) * 8 ≤ 140737488355328))).bind fun x42 =>
  some (x41, (a3 ++ [a0.Frame.Head.Seq])))
 else
  some (x41, a3))

def bh (a0 : Sender) (a1 : Int) : Nat → (List Int × Int) → Option (Ex (Int × List Int) (List Int))
 | 0, _ => none
 | n2 + 1, d41 =>
  bif decide (d41.2 < ((a0.Out.length : Nat) : Int)) then
   ((idx a0.Out d41.2).bind fun x42 =>
   ((eF x42 a0 a1 d41.1).bind fun x43 =>
   bif x43.1 then
    some (Ex.ret (d41.2, x43.2))
   else
    bh a0 a1 n2 (x43.2, IntKind.wrap .i64 (d41.2 + 1))))
  else
   some (Ex.go d41.1)

def cp (a0 : Sender) (a1 : Int) : Option (Int × List Int) :=
 ((
  bh a0 a1 big ([], 0)).bind fun o40 =>
 (o40.k fun d39 =>
 some ((-1), d39)))

def bc (a1 : Int) : Nat → (List ax × Sender × List Int × Int × Int) → Option ((List ax × Int × Sender × List Int))
 | 0, _ => none
 | n3 + 1, d41 =>
  bif decide (d41.2.2.2.2 < ((d41.1.length : Nat) : Int)) then
   ((idx d41.1 d41.2.2.2.2).bind fun x42 =>
   ((eF x42 { d41.2.1 with Out := d41.1 } a1 d41.2.2.1).bind fun x43 =>
   bif (!x43.1) then
    ((idx d41.1 d41.2.2.2.1).bind fun x44 =>
    bc a1 n3 ((d41.1.set ((d41.2.2.2.1).toNat) x42), { d41.2.1 with Out := d41.1 }, x43.2, IntKind.wrap .i64 (d41.2.2.2.1 + 1), IntKind.wrap .i64 (d41.2.2.2.2 + 1)))
   else
    bc a1 n3 (d41.1, { d41.2.1 with Out := d41.1 }, x43.2, d41.2.2.2.1, IntKind.wrap .i64 (d41.2.2.2.2 + 1))))
  else
   some (d41.1, d41.2.2.2.1, d41.2.1, d41.2.2.1)

def bT (a0 : Sender) (a1 : Int) : Option (List ax × Sender × List Int) :=
 ((cp a0 a1).bind fun x39 =>
 bif (x39.1 == (-1)) then
  some (a0.Out, a0, x39.2)
 else
  ((
   bc a1 big (a0.Out, a0, x39.2, x39.1, IntKind.wrap .i64 (x39.1 + 1))).bind fun d40 =>
  ((chk (decide (0 ≤ d40.2.1) && decide (d40.2.1 ≤ (d40.1.length : Int)))).bind fun x45 =>
  ((chk (decide (0 ≤ d40.2.1) && decide (d40.2.1 ≤ (d40.1.length : Int)))).bind fun x46 =>
  some ((List.take ((d40.2.1).toNat) d40.1), d40.2.2.1, d40.2.2.2)))))

def jV (a0 : Sender) (a1 : Int) : Option (List Int × Sender × List ax) :=
 ((bT a0 a1).bind fun x39 =>
 some (x39.2.2, x39.2.1, x39.1))

def fu (a0 : Sender) (a1 : Int) : Option ((List Int) × Sender × Int) :=
 ((bP a1 0 1099511627776).bind fun x35 =>
 ((dW a0 x35).bind fun x36 =>
 bif (x36.2 != 0) then
  some ([], Sender.z, x36.2)
 else
  ((jV x36.1 a1).bind fun x37 =>
  some (x37.1, { x37.2.1 with Bar := (x37.2.1.Bar || (decide (0 < ((x37.1.length : Nat) : Int)))), Out := x37.2.2 }, 0))))

def fm (a0 : (List Bool)) : Option (Bool × List Bool) :=
 bif ((a0.length : Int) == 0) then
  some (false, a0)
 else
  ((idx a0 0).bind fun x42 =>
  ((chk (decide (1 ≤ (a0.length : Int)))).bind fun x43 =>
  some (x42, (List.drop 1 a0))))

def gN (a0 : Sender) : Option Int :=
 ((ej a0).bind fun x45 =>
 bif (x45 != 0) then
  some 0
 else
  ((fQ a0).bind fun x46 =>
  some x46))

def eP (a0 : Sender) : Option (Sender × Int) :=
 ((dW a0 true).bind fun x49 =>
 bif (x49.2 != 0) then
  some (Sender.z, x49.2)
 else
  bif (!x49.1.Bar) then
   some (Sender.z, 20)
  else
   some ({ x49.1 with Bar := false }, 0))

def fM (a0 : Sender) (a1 : Frame) (a2 : Int) : Option (Frame × Sender × Int) :=
 ((bP a2 0 1099511627776).bind fun x51 =>
 ((dW a0 x51).bind fun x52 =>
 bif (x52.2 != 0) then
  some (Frame.z, Sender.z, x52.2)
 else
  ((
   bif decide (0 < ((x52.1.Out.length : Nat) : Int)) then
    ((idx x52.1.Out (IntKind.wrap .i64 (((x52.1.Out.length : Nat) : Int) - 1))).bind fun x53 =>
    some (decide (a2 < x53.At)))
   else
    some false).bind fun x54 =>
  bif x54 then
   some (Frame.z, Sender.z, 20)
  else
   ((fQ x52.1).bind fun x55 =>
   ((cG x55 x52.1.Next).bind fun x56 =>
   bif decide (x52.1.Size ≤ x56) then
    some (Frame.z, Sender.z, 22)
   else
    ((dT a1).bind fun x57 =>
    ((chk (decide ((x52.1.Out.length + 1) * 128 ≤ 140737488355328))).bind fun x58 =>
    ((eU x52.1.Next 1).bind fun x59 =>
    ((dT { x57 with Head.Retry := false, Head.Seq := x52.1.Next, Head.Tid := x52.1.Tid }).bind fun x60 =>
    some (x60, { x52.1 with Next := x59, Out := (x52.1.Out ++ [{ ax.z with At := a2, Frame := { x57 with Head.Retry := false, Head.Seq := x52.1.Next, Head.Tid := x52.1.Tid } }]) }, 0))))))))))

def cg (a0 : Int) (a1 : aa) (a2 : (List Bool)) : Nat → aa → Option (Ex aa aa)
 | 0, _ => none
 | n2 + 1, d52 =>
  bif ((decide (d52.accepted < d52.many)) && (d52.err == 0)) then
   ((fM d52.sides.Sender Frame.z a0).bind fun x53 =>
   bif (x53.2.2 == 22) then
    some (Ex.ret d52)
   else
    ((be x53.2.2 { d52 with out.Acked := a1.out.Acked, out.Delivered := a1.out.Delivered, out.Dropped := a1.out.Dropped } a2).bind fun x54 =>
    cg a0 a1 a2 n2 { x54 with accepted := IntKind.wrap .i64 (x54.accepted + 1), sides.Sender := x53.2.1 }))
  else
   some (Ex.go d52)

def cX (a0 : Int) (a1 : aa) (a2 : (List Bool)) : Option aa :=
 ((
  cg a0 a1 a2 big a1).bind fun o51 =>
 (o51.k fun d50 =>
 some d50))

def dN (x56 : (Sender × Int)) (a1 : Int) : Nat → (List ax × List Frame × Int) → Option ((List ax × List Frame))
 | 0, _ => none
 | n3 + 1, d58 =>
  bif decide (d58.2.2 < ((x56.1.Out.length : Nat) : Int)) then
   ((idx d58.1 d58.2.2).bind fun x59 =>
   bif (((d58.2.1.length : Nat) : Int) == a1) then
    some (d58.1, d58.2.1)
   else
    bif (x59.Flying || (x59.Tries == x56.1.Limit)) then
     dN x56 a1 n3 (d58.1, d58.2.1, IntKind.wrap .i64 (d58.2.2 + 1))
    else
     ((dT x59.Frame).bind fun x60 =>
     ((chk (decide ((d58.2.1.length + 1) * 104 ≤ 140737488355328))).bind fun x61 =>
     dN x56 a1 n3 (((d58.1.modify (d58.2.2.toNat) fun y => { y with Tries := IntKind.wrap .i64 (x59.Tries + 1) }).modify (d58.2.2.toNat) fun y => { y with Flying := true }), (d58.2.1 ++ [{ x60 with Head.Retry := decide (0 < x59.Tries) }]), IntKind.wrap .i64 (d58.2.2 + 1)))))
  else
   some (d58.1, d58.2.1)

def gE (a0 : Sender) (a1 : Int) : Option ((List Frame) × Sender × Int) :=
 ((dW a0 (decide (0 ≤ a1))).bind fun x56 =>
 bif (x56.2 != 0) then
  some ([], Sender.z, x56.2)
 else
  ((
   dN x56 a1 big (x56.1.Out, [], 0)).bind fun d57 =>
  some (d57.2, { x56.1 with Out := d57.1 }, 0)))

def fh (a0 : aW) (a1 : Int) : Option Int :=
 ((eO a0).bind fun x75 =>
 bif (x75 != 0) then
  some x75
 else
  ((en a1).bind fun x76 =>
  bif (!x76) then
   some 2
  else
   some 0))

def kf (a0 : aW) (a1 : Int) : Option (aW × Int) :=
 ((fh a0 a1).bind fun x75 =>
 bif (x75 != 0) then
  some (aW.z, x75)
 else
  ((cG a0.Start a1).bind fun x76 =>
  bif decide (x76 < 2048) then
   ((chk (decide (¬ x76 < 0))).bind fun x77 =>
   some ({ aW.z with Bits := (a0.Bits).fdiv (2 ^ (min (x76).toNat 64)), Start := a1 }, 0))
  else
   ((chk (decide (¬ (IntKind.wrap .i64 (4096 - x76)) < 0))).bind fun x78 =>
   some ({ aW.z with Bits := IntKind.wrap .u64 (a0.Bits * 2 ^ (min ((IntKind.wrap .i64 (4096 - x76))).toNat 64)), Start := a1 }, 0))))

def kg (a0 : aW) (a1 : Int) : Option (aW × Int) :=
 ((fh a0 a1).bind fun x77 =>
 bif (x77 != 0) then
  some (aW.z, x77)
 else
  ((cG a0.Start a1).bind fun x78 =>
  bif decide (64 ≤ x78) then
   some (aW.z, 21)
  else
   ((chk (decide (¬ x78 < 0))).bind fun x79 =>
   some ({ a0 with Bits := bor .u64 a0.Bits (IntKind.wrap .u64 (1 * 2 ^ (min (x78).toNat 64))) }, 0))))

def jl (a0 : aW) (a1 : Int) : Option aW :=
 ((cG a0.Start a1).bind fun x73 =>
 bif decide (2048 ≤ x73) then
  some a0
 else
  ((
   bif decide (64 ≤ x73) then
    ((eU a1 (-63)).bind fun x75 =>
    ((kf a0 x75).bind fun x76 =>
    some x76.1))
   else
    some a0).bind fun d74 =>
  ((kg d74 a1).bind fun x77 =>
  some x77.1)))

def cw (a0 : Int) (a1 : List az) (a2 : List az) : Option (List az) :=
 ((chk (decide (0 ≤ a0) && decide (a0 ≤ (a1.length : Int)))).bind fun x81 =>
 bif (((a2.length : Nat) : Int) == 0) then
  some a1
 else
  bif (a0 == ((a1.length : Nat) : Int)) then
   ((chk (decide ((a1.length + a2.length) * 112 ≤ 140737488355328))).bind fun x82 =>
   some (a1 ++ a2))
  else
   none)

def bY (a0 : Int) (a1 : List az) (a2 : List az) : Option (List az) :=
 ((chk (decide (0 ≤ a0) && decide (a0 ≤ (a1.length : Int)))).bind fun x13 =>
 bif (((a2.length : Nat) : Int) == 0) then
  some a1
 else
  bif (a0 == ((a1.length : Nat) : Int)) then
   ((chk (decide ((a1.length + a2.length) * 112 ≤ 140737488355328))).bind fun x14 =>
   some (a1 ++ a2))
  else
   ((chk (decide (a2.length = 1) && decide ((a1.length + 1) * 112 ≤ 140737488355328))).bind fun x15 =>
   some (a1.take a0.toNat ++ a2 ++ a1.drop a0.toNat)))

def iT (a0 : Reorder) (a1 : Frame) (a2 : Int) : Option ((List Frame) × Reorder × Int) :=
 ((ei a0).bind fun x67 =>
 bif (x67 != 0) then
  some ([], Reorder.z, x67)
 else
  ((ez a2).bind fun x68 =>
  ((
   bif (!x68) then
    some true
   else
    ((dp a1.Head.Seq).bind fun x69 =>
    some (!x69))).bind fun x70 =>
  bif x70 then
   some ([], Reorder.z, 2)
  else
   ((cG a0.Start a1.Head.Seq).bind fun x71 =>
   ((gl a0 a1.Head.Seq).bind fun x72 =>
   bif ((decide (2048 ≤ x71)) || x72.2) then
    some ([], Reorder.z, 21)
   else
    ((jl a0.Seen a1.Head.Seq).bind fun x73 =>
    ((eN a0.Held).bind fun x74 =>
    ((dT a1).bind fun x75 =>
    ((bY x72.1 x74 [{ az.z with At := a2, Frame := x75 }]).bind fun x76 =>
    ((
     bif decide (a0.Size ≤ x71) then
      ((eU a1.Head.Seq (IntKind.wrap .i64 (1 - a0.Size))).bind fun x78 =>
      some x78)
     else
      some a0.Start).bind fun d77 =>
    ((eK { a0 with Held := x76, Seen := x73 } d77).bind fun x79 =>
    some (x79.1, { x79.2.1 with Held := x79.2.2 }, 0))))))))))))

def bU (x56 : ((List Frame) × Sender × Int)) (a0 : Int) (a1 : aa) : Nat → (aa × List Bool × List Int × Int) → Option ((aa × List Bool × List Int))
 | 0, _ => none
 | n2 + 1, d59 =>
  bif decide (d59.2.2.2 < (x56.1.length : Int)) then
   ((idx x56.1 d59.2.2.2).bind fun x60 =>
   ((fm d59.2.1).bind fun x61 =>
   bif x61.1 then
    bU x56 a0 a1 n2 (d59.1, x61.2, d59.2.2.1, IntKind.wrap .i64 (d59.2.2.2 + 1))
   else
    ((iT d59.1.sides.Reorder x60 a0).bind fun x62 =>
    bif (x62.2.2 == 0) then
     ((bO x62.1 { d59.1 with out.Acked := a1.out.Acked, out.Delivered := d59.2.2.1, out.Dropped := a1.out.Dropped, sides.Reorder := x62.2.1 } x61.2).bind fun x63 =>
     bU x56 a0 a1 n2 ({ d59.1 with out.Acked := a1.out.Acked, out.Delivered := d59.2.2.1, out.Dropped := a1.out.Dropped, sides.Reorder := x62.2.1 }, x61.2, x63, IntKind.wrap .i64 (d59.2.2.2 + 1)))
    else
     bU x56 a0 a1 n2 (d59.1, x61.2, d59.2.2.1, IntKind.wrap .i64 (d59.2.2.2 + 1)))))
  else
   some (d59.1, d59.2.1, d59.2.2.1)

def da (a0 : Int) (a1 : aa) (a2 : (List Bool)) : Option (Int × aa × List Bool × List Int) :=
 ((gE a1.sides.Sender a1.plan.Burst).bind fun x56 =>
 ((be x56.2.2 a1 a2).bind fun x57 =>
 ((
  bU x56 a0 a1 big ({ x57 with sides.Sender := x56.2.1 }, a2, a1.out.Delivered, 0)).bind fun d58 =>
 some ((x56.1.length : Int), d58.1, d58.2.1, d58.2.2))))

def ey (a0 : Sender) : Nat → (List ax × Int) → Option ((List ax))
 | 0, _ => none
 | n2 + 1, d68 =>
  bif decide (d68.2 < ((a0.Out.length : Nat) : Int)) then
   ((idx d68.1 d68.2).bind fun x69 =>
   ey a0 n2 ((d68.1.modify ((d68.2).toNat) fun y => { y with Flying := false }), IntKind.wrap .i64 (d68.2 + 1)))
  else
   some d68.1

def iP (a0 : Sender) : Option (List ax) :=
 ((
  ey a0 big (a0.Out, 0)).bind fun d67 =>
 some d67)

def gI (a0 : Sender) : Option (Sender × Int) :=
 ((dW a0 true).bind fun x66 =>
 bif (x66.2 != 0) then
  some (Sender.z, x66.2)
 else
  ((iP x66.1).bind fun x67 =>
  some ({ x66.1 with Out := x67 }, 0)))

def fy (a0 : Reorder) : Option (aW × Int) :=
 ((ei a0).bind fun x70 =>
 bif (x70 != 0) then
  some (aW.z, x70)
 else
  some (a0.Seen, 0))

def lg (a0 : aW) (a1 : Int) : Option Bool :=
 ((fh a0 a1).bind fun x77 =>
 bif (x77 != 0) then
  some false
 else
  ((cG a0.Start a1).bind fun x78 =>
  ((
   bif decide (x78 < 64) then
    ((chk (decide (¬ x78 < 0))).bind fun x79 =>
    some ((vX .u64 ((a0.Bits).fdiv (2 ^ (min (x78).toNat 64))) 1) == 1))
   else
    some false).bind fun x80 =>
  some x80)))

def gK (a0 : ax) (a1 : aW) : Option Bool :=
 ((
  bif decide (0 < a0.Tries) then
   ((lg a1 a0.Frame.Head.Seq).bind fun x77 =>
   some x77)
  else
   some false).bind fun x78 =>
 some x78)

def eH (a0 : ax) (a1 : aW) (a2 : List Int) : Option (Bool × List Int) :=
 ((gK a0 a1).bind fun x77 =>
 bif x77 then
  ((chk (decide ((a2.length + 1) * 8 ≤ 140737488355328))).bind fun x78 =>
  some (x77, (a2 ++ [a0.Frame.Head.Seq])))
 else
  some (x77, a2))

def bf (a1 : List ax) (a0 : aW) : Nat → (List Int × Int) → Option (Ex (Int × List Int) (List Int))
 | 0, _ => none
 | n2 + 1, d77 =>
  bif decide (d77.2 < ((a1.length : Nat) : Int)) then
   ((idx a1 d77.2).bind fun x78 =>
   ((eH x78 a0 d77.1).bind fun x79 =>
   bif x79.1 then
    some (Ex.ret (d77.2, x79.2))
   else
    bf a1 a0 n2 (x79.2, IntKind.wrap .i64 (d77.2 + 1))))
  else
   some (Ex.go d77.1)

def cf (a0 : aW) (a1 : List ax) : Option (Int × List Int) :=
 ((
  bf a1 a0 big ([], 0)).bind fun o76 =>
 (o76.k fun d75 =>
 some ((-1), d75)))

def ba (a0 : aW) : Nat → (List ax × List Int × Int × Int) → Option ((List ax × Int × List Int))
 | 0, _ => none
 | n3 + 1, d77 =>
  bif decide (d77.2.2.2 < ((d77.1.length : Nat) : Int)) then
   ((idx d77.1 d77.2.2.2).bind fun x78 =>
   ((eH x78 a0 d77.2.1).bind fun x79 =>
   bif (!x79.1) then
    ((idx d77.1 d77.2.2.1).bind fun x80 =>
    ba a0 n3 ((d77.1.set ((d77.2.2.1).toNat) x78), x79.2, IntKind.wrap .i64 (d77.2.2.1 + 1), IntKind.wrap .i64 (d77.2.2.2 + 1)))
   else
    ba a0 n3 (d77.1, x79.2, d77.2.2.1, IntKind.wrap .i64 (d77.2.2.2 + 1))))
  else
   some (d77.1, d77.2.2.1, d77.2.1)

def bM (a0 : aW) (a1 : List ax) : Option (List ax × List Int) :=
 ((cf a0 a1).bind fun x75 =>
 bif (x75.1 == (-1)) then
  some (a1, x75.2)
 else
  ((
   ba a0 big (a1, x75.2, x75.1, IntKind.wrap .i64 (x75.1 + 1))).bind fun d76 =>
  ((chk (decide (0 ≤ d76.2.1) && decide (d76.2.1 ≤ (d76.1.length : Int)))).bind fun x81 =>
  ((chk (decide (0 ≤ d76.2.1) && decide (d76.2.1 ≤ (d76.1.length : Int)))).bind fun x82 =>
  some ((List.take ((d76.2.1).toNat) d76.1), d76.2.2)))))

def fZ (a0 : Sender) (a1 : aW) : Option (List Int × List ax) :=
 ((bM a1 a0.Out).bind fun x75 =>
 some (x75.2, x75.1))

def fK (a0 : Sender) (a1 : aW) : Option ((List Int) × Sender × Int) :=
 ((eO a1).bind fun x73 =>
 ((dW a0 (x73 == 0)).bind fun x74 =>
 bif (x74.2 != 0) then
  some ([], Sender.z, x74.2)
 else
  ((fZ x74.1 a1).bind fun x75 =>
  ((iP { x74.1 with Out := x75.2 }).bind fun x76 =>
  some (x75.1, { x74.1 with Out := x76 }, 0)))))

def cP (a0 : aa) (a1 : (List Bool)) : Option (aa × List Bool × List Int) :=
 ((fm a1).bind fun x65 =>
 bif x65.1 then
  ((gI a0.sides.Sender).bind fun x66 =>
  ((be x66.2 a0 x65.2).bind fun x67 =>
  some ({ x67 with sides.Sender := x66.1 }, x65.2, a0.out.Acked)))
 else
  ((fy a0.sides.Reorder).bind fun x68 =>
  ((be x68.2 a0 x65.2).bind fun x69 =>
  ((fK x69.sides.Sender x68.1).bind fun x70 =>
  ((be x70.2.2 { x69 with out.Acked := a0.out.Acked, out.Delivered := a0.out.Delivered, out.Dropped := a0.out.Dropped } x65.2).bind fun x71 =>
  ((cr { x71 with out.Acked := a0.out.Acked, out.Delivered := a0.out.Delivered, out.Dropped := a0.out.Dropped, sides.Sender := x70.2.1 } x65.2 x70.1).bind fun x72 =>
  ((chk (decide ((a0.out.Acked.length + x72.length) * 8 ≤ 140737488355328))).bind fun x73 =>
  some ({ x71 with sides.Sender := x70.2.1 }, x65.2, (a0.out.Acked ++ x72)))))))))

def cY (b : Reorder) (now : Int) (l : List az) : Nat → Option (Ex (List Frame × Reorder × Int) Unit)
 | 0 => some (Ex.go ())
 | c + 1 =>
  ((l[c]?).bind fun x =>
  bif decide ((IntKind.wrap .i64 (x.At + b.Hold)) ≤ now) then
   ((eU x.Frame.Head.Seq 1).bind fun y =>
   ((eK { b with Held := l } y).bind fun z =>
   some (Ex.ret (z.1, { z.2.1 with Held := z.2.2 }, 0))))
  else
   cY b now l c)

def dO (a0 : Reorder) (a1 : Int) : Option ((List Frame) × Reorder × Int) :=
 ((ei a0).bind fun x67 =>
 bif (x67 != 0) then
  some ([], Reorder.z, x67)
 else
  ((ez a1).bind fun x68 =>
  bif (!x68) then
   some ([], Reorder.z, 2)
  else
   ((eN a0.Held).bind fun x69 =>
   ((chk (decide (x69.length < 4611686018427387904))).bind fun x70 =>
   ((cY a0 a1 x69 x69.length).bind fun o71 =>
   (o71.k fun d72 =>
   some ([], { a0 with Held := x69 }, 0)))))))

def dl (a0 : aa) (a1 : (List Bool)) : Option (aa × List Bool × List Int × List Int × List Int) :=
 ((fu a0.sides.Sender (IntKind.wrap .i64 (a0.out.Rounds * a0.plan.Round))).bind fun x35 =>
 ((be x35.2.2 a0 a1).bind fun x36 =>
 ((cr { x36 with out.Acked := a0.out.Acked, out.Delivered := a0.out.Delivered, out.Dropped := a0.out.Dropped, sides.Sender := x35.2.1 } a1 x35.1).bind fun x37 =>
 ((chk (decide ((a0.out.Dropped.length + x37.length) * 8 ≤ 140737488355328))).bind fun x38 =>
 bif x35.2.1.Bar then
  ((fm a1).bind fun x39 =>
  ((
   bif (!x39.1) then
    ((gN x35.2.1).bind fun x41 =>
    ((cB x41 { x36 with out.Acked := a0.out.Acked, out.Delivered := a0.out.Delivered, out.Dropped := (a0.out.Dropped ++ x37), sides.Sender := x35.2.1 } x39.2).bind fun x42 =>
    ((eP x42.1.sides.Sender).bind fun x43 =>
    ((be x43.2 { x42.1 with out.Acked := a0.out.Acked, out.Delivered := x42.2, out.Dropped := (a0.out.Dropped ++ x37), sides.Sender := x43.1 } x39.2).bind fun x44 =>
    some (x44, x42.2)))))
   else
    some ({ x36 with sides.Sender := x35.2.1 }, a0.out.Delivered)).bind fun d40 =>
  ((cX (IntKind.wrap .i64 (a0.out.Rounds * a0.plan.Round)) { d40.1 with out.Acked := a0.out.Acked, out.Delivered := d40.2, out.Dropped := (a0.out.Dropped ++ x37) } x39.2).bind fun x45 =>
  ((da (IntKind.wrap .i64 (a0.out.Rounds * a0.plan.Round)) { x45 with out.Acked := a0.out.Acked, out.Delivered := d40.2, out.Dropped := (a0.out.Dropped ++ x37) } x39.2).bind fun x46 =>
  ((
   bif decide (0 < x46.1) then
    ((cP { x46.2.1 with out.Acked := a0.out.Acked, out.Delivered := x46.2.2.2, out.Dropped := (a0.out.Dropped ++ x37) } x46.2.2.1).bind fun x48 =>
    some (x48.1, x48.2.1, x48.2.2))
   else
    some (x46.2.1, x46.2.2.1, a0.out.Acked)).bind fun d47 =>
  ((dO d47.1.sides.Reorder (IntKind.wrap .i64 (a0.out.Rounds * a0.plan.Round))).bind fun x49 =>
  ((be x49.2.2 { d47.1 with out.Acked := d47.2.2, out.Delivered := x46.2.2.2, out.Dropped := (a0.out.Dropped ++ x37) } d47.2.1).bind fun x50 =>
  ((bO x49.1 { x50 with out.Acked := d47.2.2, out.Delivered := x46.2.2.2, out.Dropped := (a0.out.Dropped ++ x37), sides.Reorder := x49.2.1 } d47.2.1).bind fun x51 =>
  some ({ x50 with out.Acked := d47.2.2, out.Delivered := x46.2.2.2, out.Dropped := (a0.out.Dropped ++ x37), out.Rounds := IntKind.wrap .i64 (x50.out.Rounds + 1), sides.Reorder := x49.2.1 }, d47.2.1, x51, d47.2.2, (a0.out.Dropped ++ x37))))))))))
 else
  ((cX (IntKind.wrap .i64 (a0.out.Rounds * a0.plan.Round)) { x36 with out.Acked := a0.out.Acked, out.Delivered := a0.out.Delivered, out.Dropped := (a0.out.Dropped ++ x37), sides.Sender := x35.2.1 } a1).bind fun x52 =>
  ((da (IntKind.wrap .i64 (a0.out.Rounds * a0.plan.Round)) { x52 with out.Acked := a0.out.Acked, out.Delivered := a0.out.Delivered, out.Dropped := (a0.out.Dropped ++ x37) } a1).bind fun x53 =>
  ((
   bif decide (0 < x53.1) then
    ((cP { x53.2.1 with out.Acked := a0.out.Acked, out.Delivered := x53.2.2.2, out.Dropped := (a0.out.Dropped ++ x37) } x53.2.2.1).bind fun x55 =>
    some (x55.1, x55.2.1, x55.2.2))
   else
    some (x53.2.1, x53.2.2.1, a0.out.Acked)).bind fun d54 =>
  ((dO d54.1.sides.Reorder (IntKind.wrap .i64 (a0.out.Rounds * a0.plan.Round))).bind fun x56 =>
  ((be x56.2.2 { d54.1 with out.Acked := d54.2.2, out.Delivered := x53.2.2.2, out.Dropped := (a0.out.Dropped ++ x37) } d54.2.1).bind fun x57 =>
  ((bO x56.1 { x57 with out.Acked := d54.2.2, out.Delivered := x53.2.2.2, out.Dropped := (a0.out.Dropped ++ x37), sides.Reorder := x56.2.1 } d54.2.1).bind fun x58 =>
  some ({ x57 with out.Acked := d54.2.2, out.Delivered := x53.2.2.2, out.Dropped := (a0.out.Dropped ++ x37), out.Rounds := IntKind.wrap .i64 (x57.out.Rounds + 1), sides.Reorder := x56.2.1 }, d54.2.1, x58, d54.2.2, (a0.out.Dropped ++ x37))))))))))))

def eo (a1 : Int) : Nat → (aa × List Bool × List Int × List Int × List Int) → Option ((aa × List Bool × List Int × List Int × List Int))
 | 0, _ => none
 | n4 + 1, d6 =>
  bif ((d6.1.err == 0) && (((decide (d6.1.accepted < a1)) || (decide (0 < (d6.1.sides.Sender.Out.length : Int)))) || d6.1.sides.Sender.Bar)) then
   bif (d6.1.out.Rounds == 2000) then
    ((d9 { d6.1 with out.Acked := d6.2.2.2.1, out.Delivered := d6.2.2.1, out.Dropped := d6.2.2.2.2 } d6.2.1).bind fun x7 =>
    some (x7.1, d6.2.1, x7.2.1, d6.2.2.2.1, x7.2.2))
   else
    ((dl { d6.1 with out.Acked := d6.2.2.2.1, out.Delivered := d6.2.2.1, out.Dropped := d6.2.2.2.2 } d6.2.1).bind fun x8 =>
    eo a1 n4 (x8.1, x8.2.1, x8.2.2.1, x8.2.2.2.1, x8.2.2.2.2))
  else
   some (d6.1, d6.2.1, d6.2.2.1, d6.2.2.2.1, d6.2.2.2.2)

def dV (a0 : al) (a1 : Int) (a2 : (List Bool)) : Option (aD × Int) :=
 ((gq a0).bind fun x2 =>
 bif (x2 != 0) then
  some (aD.z, x2)
 else
  ((cR a1 0 200).bind fun x3 =>
  bif (!x3) then
   some (aD.z, 4)
  else
   ((d4 { aa.z with many := a1, out.Acked := ([] : List Int), out.Delivered := ([] : List Int), out.Dropped := ([] : List Int), plan := a0 } a2).bind fun x4 =>
   ((
    eo a1 big (x4, a2, ([] : List Int), ([] : List Int), ([] : List Int))).bind fun d5 =>
   bif (d5.1.err != 0) then
    some (aD.z, d5.1.err)
   else
    some ({ d5.1.out with Acked := d5.2.2.2.1, Delivered := d5.2.2.1, Dropped := d5.2.2.2.2 }, 0)))))

def dr (a0 : (List Int)) (a1 : (List Int)) : Nat → Int → Option (Ex Bool Unit)
 | 0, _ => none
 | n3 + 1, d26 =>
  bif decide (d26 < (a0.length : Int)) then
   ((idx a0 d26).bind fun x27 =>
   ((idx a1 d26).bind fun x28 =>
   bif (x27 != x28) then
    some (Ex.ret false)
   else
    dr a0 a1 n3 (IntKind.wrap .i64 (d26 + 1))))
  else
   some (Ex.go ())

def cI (a0 : (List Int)) (a1 : (List Int)) : Option Bool :=
 bif ((a0.length : Int) != (a1.length : Int)) then
  some false
 else
  ((
   dr a0 a1 big 0).bind fun o25 =>
  (o25.k fun d24 =>
  some true))

def fi (a0 : (List Bool)) (a1 : (List Int)) (a2 : (List Int)) (a3 : (List Int)) : Option (Int × Bool) :=
 (gD.bind fun x22 =>
 ((dV x22 3 a0).bind fun x23 =>
 ((
  bif (x23.2 == 0) then
   ((cI x23.1.Delivered a1).bind fun x24 =>
   some x24)
  else
   some false).bind fun x25 =>
 ((
  bif x25 then
   ((cI x23.1.Acked a2).bind fun x26 =>
   some x26)
  else
   some false).bind fun x27 =>
 ((
  bif x27 then
   ((cI x23.1.Dropped a3).bind fun x28 =>
   some x28)
  else
   some false).bind fun x29 =>
 some (x23.1.Rounds, x29))))))

def fN : Option Bool :=
 ((fi [] [0, 1, 2] [0, 1, 2] []).bind fun x22 =>
 ((fi [true] [0, 1, 2] [1, 0, 2] []).bind fun x23 =>
 ((fi [true, false, false, true] [1, 2] [1, 2] [0]).bind fun x24 =>
 some ((((x22.2 && (x22.1 == 2)) && x23.2) && (x23.1 == 3)) && x24.2))))

def je (a0 : aD) (a1 : aD) : Option Bool :=
 ((
  bif (a0.Rounds == a1.Rounds) then
   ((cI a0.Delivered a1.Delivered).bind fun x26 =>
   some x26)
  else
   some false).bind fun x27 =>
 ((
  bif x27 then
   ((cI a0.Acked a1.Acked).bind fun x28 =>
   some x28)
  else
   some false).bind fun x29 =>
 ((
  bif x29 then
   ((cI a0.Dropped a1.Dropped).bind fun x30 =>
   some x30)
  else
   some false).bind fun x31 =>
 some x31)))

def gg : List al :=
 [{ al.z with Burst := 1, Life := 1, Limit := 1, Round := 1, Size := 1, Start := 4096 }, { al.z with Burst := 1, Life := 1, Limit := 1, Round := 1, Size := 65 }, { al.z with Burst := 1, Life := 1, Limit := 17, Round := 1, Size := 1 }, { al.z with Burst := 1, Life := 1, Limit := 1, Size := 1 }, { al.z with Burst := 65, Life := 1, Limit := 1, Round := 1, Size := 1 }, { al.z with Burst := 1, Hold := (-1), Life := 1, Limit := 1, Round := 1, Size := 1 }]

def gh : Nat → Int → Option (Ex Bool Unit)
 | 0, _ => none
 | n3 + 1, d8 =>
  bif decide (d8 < (gg.length : Int)) then
   ((idx gg d8).bind fun x9 =>
   ((gq x9).bind fun x10 =>
   bif (x10 != 8) then
    some (Ex.ret false)
   else
    gh n3 (IntKind.wrap .i64 (d8 + 1))))
  else
   some (Ex.go ())

def bS (a1 : Int) (x49 : (aD × Int)) : Nat → Int → Option (Ex Bool Unit)
 | 0, _ => none
 | n9 + 1, d54 =>
  bif decide (d54 < a1) then
   ((idx x49.1.Delivered d54).bind fun x55 =>
   ((
    bif (x55 != d54) then
     some true
    else
     ((idx x49.1.Acked d54).bind fun x56 =>
     some (x56 != d54))).bind fun x57 =>
   bif x57 then
    some (Ex.ret false)
   else
    bS a1 x49 n9 (IntKind.wrap .i64 (d54 + 1))))
  else
   some (Ex.go ())

def d3 (a0 : al) (a1 : Int) : Option Bool :=
 (fN.bind fun x48 =>
 ((dV a0 a1 []).bind fun x49 =>
 bif (((x49.2 != 0) || (!x48)) || (decide (a0.Life ≤ (IntKind.wrap .i64 (2000 * a0.Round))))) then
  some x48
 else
  ((
   bif ((((x49.1.Delivered.length : Int) != a1) || ((x49.1.Acked.length : Int) != a1)) || ((x49.1.Dropped.length : Int) != 0)) then
    some true
   else
    ((chk (decide ((if a0.Burst < a0.Size then a0.Burst else a0.Size) ≠ 0))).bind fun x50 =>
    some (x49.1.Rounds != (IntKind.wrap .i64 (((IntKind.wrap .i64 ((IntKind.wrap .i64 (a1 + (if a0.Burst < a0.Size then a0.Burst else a0.Size))) - 1))).tdiv (if a0.Burst < a0.Size then a0.Burst else a0.Size)))))).bind fun x51 =>
  bif x51 then
   some false
  else
   ((
    bS a1 x49 big 0).bind fun o53 =>
   (o53.k fun d52 =>
   some x48)))))

def kF (a0 : Int) : Option Bool :=
 some ((decide (0 ≤ a0)) && (decide (a0 ≤ 4095)))

end Go.AX.Z.TN

/-! (TNF) -/

namespace Go.AX.Z.TN
open Go.AX Go.Proofs

def tab : List (TypeId × List (Option IntKind)) :=
 []

noncomputable def K : Ctx := ⟨Try.prog, fun _ => none, Jf tab⟩

theorem KT : agB K.P 113 = some true := by kernel_rfl
theorem Lf : agB K.P 23 = some true := by kernel_rfl
theorem KZ : agB K.P 25 = some false := by kernel_rfl
theorem L5 : agB K.P 27 = some true := by kernel_rfl
theorem MH : agB K.P 28 = some false := by kernel_rfl
theorem ag3 : agB K.P 3 = some false := by kernel_rfl
theorem LC : agB K.P 31 = some false := by kernel_rfl
theorem Lv : agB K.P 34 = some false := by kernel_rfl
theorem ag4 : agB K.P 4 = some false := by kernel_rfl
theorem LZ : agB K.P 43 = some false := by kernel_rfl
theorem LH : agB K.P 45 = some true := by kernel_rfl
theorem Lx : agB K.P 46 = some false := by kernel_rfl
theorem L8 : agB K.P 47 = some false := by kernel_rfl
theorem Mu : agB K.P 49 = some true := by kernel_rfl
theorem ag5 : agB K.P 5 = some false := by kernel_rfl
theorem Lb : agB K.P 51 = some true := by kernel_rfl
theorem Ma : agB K.P 53 = some true := by kernel_rfl
theorem La : agB K.P 63 = some true := by kernel_rfl
theorem MN : agB K.P 79 = some false := by kernel_rfl
theorem Mt : agB K.P 89 = some true := by kernel_rfl
theorem Ls : agB K.P 90 = some false := by kernel_rfl
theorem Lz : agB K.P 92 = some true := by kernel_rfl
theorem LQ : agB K.P 94 = some true := by kernel_rfl
theorem LW : agB K.P 99 = some false := by kernel_rfl
theorem Ks : sR K.P 113 = some [(0, 1), (1, 41)] := by kernel_rfl
theorem K3 : sR K.P 23 = some [(0, 1), (1, 1), (2, 1), (3, 1), (4, 1), (5, 1), (6, 1)] := by kernel_rfl
theorem L7 : sR K.P 27 = some [(0, 1), (1, 1), (2, 1), (3, 1)] := by kernel_rfl
theorem Mb : sR K.P 45 = some [(0, 1), (1, 1), (2, 1), (3, 1), (4, 1), (5, 1), (6, 1), (7, 1), (8, 1)] := by kernel_rfl
theorem M6 : sR K.P 49 = some [(0, 1), (1, 1)] := by kernel_rfl
theorem LU : sR K.P 51 = some [(0, 1), (1, 1), (2, 1), (3, 1), (4, 2)] := by kernel_rfl
theorem Lc : sR K.P 55 = some [(0, 15), (15, 7), (22, 1), (23, 1), (24, 1), (25, 4), (29, 1)] := by kernel_rfl
theorem LO : sR K.P 63 = some [(0, 1), (1, 1), (2, 1), (3, 1)] := by kernel_rfl
theorem LA : sR K.P 68 = some [(0, 1), (1, 1), (2, 1), (3, 1)] := by kernel_rfl
theorem Ly : sR K.P 92 = some [(0, 40), (40, 1)] := by kernel_rfl
theorem L9 : sR K.P 94 = some [(0, 1), (1, 1), (2, 1), (3, 41)] := by kernel_rfl
theorem Ku : rx K.P 113 = some 112 := by kernel_rfl
theorem MK : rx K.P 23 = some 56 := by kernel_rfl
theorem by3 : rx K.P 3 = some 8 := by kernel_rfl
theorem by4 : rx K.P 4 = some 1 := by kernel_rfl
theorem by5 : rx K.P 5 = some 1 := by kernel_rfl
theorem K8 : rx K.P 92 = some 104 := by kernel_rfl
theorem MM : rx K.P 94 = some 128 := by kernel_rfl
theorem Lh : elS K.P 25 = some 3 := by kernel_rfl
theorem MD : elS K.P 31 = some 4 := by kernel_rfl
theorem MX : elS K.P 32 = some 23 := by kernel_rfl
theorem Me : elS K.P 43 = some 94 := by kernel_rfl
theorem J1 : elS K.P 46 = some 113 := by kernel_rfl
theorem Mp : elS K.P 79 = some 92 := by kernel_rfl
theorem L1 : elS K.P 90 = some 5 := by kernel_rfl
theorem LF : elS K.P 3 = none := by kernel_rfl
theorem Fo : flE K.P 113 0 = some (0, 3) := by kernel_rfl
theorem Gy : flE K.P 113 1 = some (1, 92) := by kernel_rfl
theorem Ip : flE K.P 23 0 = some (0, 3) := by kernel_rfl
theorem IJ : flE K.P 23 1 = some (1, 3) := by kernel_rfl
theorem Jd : flE K.P 23 2 = some (2, 3) := by kernel_rfl
theorem G4 : flE K.P 23 3 = some (3, 3) := by kernel_rfl
theorem Il : flE K.P 23 4 = some (4, 3) := by kernel_rfl
theorem Hd : flE K.P 23 5 = some (5, 3) := by kernel_rfl
theorem Hf : flE K.P 23 6 = some (6, 3) := by kernel_rfl
theorem Jo : flE K.P 27 0 = some (0, 25) := by kernel_rfl
theorem Iv : flE K.P 27 1 = some (1, 25) := by kernel_rfl
theorem Iu : flE K.P 27 2 = some (2, 25) := by kernel_rfl
theorem Jr : flE K.P 27 3 = some (3, 3) := by kernel_rfl
theorem I2 : flE K.P 45 0 = some (0, 3) := by kernel_rfl
theorem Jk : flE K.P 45 1 = some (1, 5) := by kernel_rfl
theorem JU : flE K.P 45 2 = some (2, 3) := by kernel_rfl
theorem HK : flE K.P 45 3 = some (3, 3) := by kernel_rfl
theorem I5 : flE K.P 45 4 = some (4, 3) := by kernel_rfl
theorem If : flE K.P 45 5 = some (5, 3) := by kernel_rfl
theorem IY : flE K.P 45 6 = some (6, 3) := by kernel_rfl
theorem JB : flE K.P 45 7 = some (7, 43) := by kernel_rfl
theorem HL : flE K.P 45 8 = some (8, 4) := by kernel_rfl
theorem JH : flE K.P 49 0 = some (0, 3) := by kernel_rfl
theorem Hy : flE K.P 49 1 = some (1, 47) := by kernel_rfl
theorem IC : flE K.P 51 0 = some (0, 3) := by kernel_rfl
theorem JE : flE K.P 51 1 = some (1, 3) := by kernel_rfl
theorem JL : flE K.P 51 2 = some (2, 3) := by kernel_rfl
theorem IP : flE K.P 51 3 = some (3, 46) := by kernel_rfl
theorem IT : flE K.P 51 4 = some (4, 49) := by kernel_rfl
theorem G8 : flE K.P 53 0 = some (0, 45) := by kernel_rfl
theorem JF : flE K.P 53 1 = some (9, 51) := by kernel_rfl
theorem HY : flE K.P 55 0 = some (0, 53) := by kernel_rfl
theorem HQ : flE K.P 55 1 = some (15, 23) := by kernel_rfl
theorem ID : flE K.P 55 2 = some (22, 3) := by kernel_rfl
theorem Ia : flE K.P 55 3 = some (23, 3) := by kernel_rfl
theorem HC : flE K.P 55 4 = some (24, 34) := by kernel_rfl
theorem Jn : flE K.P 55 5 = some (25, 27) := by kernel_rfl
theorem JD : flE K.P 55 6 = some (29, 28) := by kernel_rfl
theorem G6 : flE K.P 63 0 = some (0, 3) := by kernel_rfl
theorem Hl : flE K.P 68 0 = some (0, 3) := by kernel_rfl
theorem Iq : flE K.P 68 1 = some (1, 3) := by kernel_rfl
theorem G7 : flE K.P 68 2 = some (2, 3) := by kernel_rfl
theorem HF : flE K.P 68 3 = some (3, 3) := by kernel_rfl
theorem E8 : flE K.P 89 14 = some (34, 3) := by kernel_rfl
theorem FF : flE K.P 89 16 = some (36, 3) := by kernel_rfl
theorem HM : flE K.P 89 5 = some (5, 4) := by kernel_rfl
theorem G5 : flE K.P 92 0 = some (0, 89) := by kernel_rfl
theorem I1 : flE K.P 92 1 = some (40, 90) := by kernel_rfl
theorem Hb : flE K.P 94 0 = some (0, 3) := by kernel_rfl
theorem IM : flE K.P 94 1 = some (1, 3) := by kernel_rfl
theorem H9 : flE K.P 94 2 = some (2, 4) := by kernel_rfl
theorem H8 : flE K.P 94 3 = some (3, 92) := by kernel_rfl
theorem J2 : inK K.P 133 = some .u64 := by kernel_rfl
theorem in3 : inK K.P 3 = some .i64 := by kernel_rfl
theorem K4 : inK K.P 47 = some .u64 := by kernel_rfl
theorem Le : Ge K.P 4 = true := by kernel_rfl
theorem GV : cD K.P 113 = some 42 := by kernel_rfl
theorem M4 : cD K.P 23 = some 7 := by kernel_rfl
theorem M1 : cD K.P 25 = some 1 := by kernel_rfl
theorem Lr : cD K.P 27 = some 4 := by kernel_rfl
theorem LI : cD K.P 28 = some 1 := by kernel_rfl
theorem sz3 : cD K.P 3 = some 1 := by kernel_rfl
theorem LJ : cD K.P 31 = some 1 := by kernel_rfl
theorem LE : cD K.P 34 = some 1 := by kernel_rfl
theorem sz4 : cD K.P 4 = some 1 := by kernel_rfl
theorem Mx : cD K.P 43 = some 1 := by kernel_rfl
theorem Mj : cD K.P 45 = some 9 := by kernel_rfl
theorem MS : cD K.P 46 = some 1 := by kernel_rfl
theorem LT : cD K.P 47 = some 1 := by kernel_rfl
theorem LN : cD K.P 49 = some 2 := by kernel_rfl
theorem sz5 : cD K.P 5 = some 1 := by kernel_rfl
theorem MC : cD K.P 51 = some 6 := by kernel_rfl
theorem MB : cD K.P 53 = some 15 := by kernel_rfl
theorem Mg : cD K.P 63 = some 4 := by kernel_rfl
theorem Ln : cD K.P 79 = some 1 := by kernel_rfl
theorem MI : cD K.P 89 = some 40 := by kernel_rfl
theorem L2 : cD K.P 90 = some 1 := by kernel_rfl
theorem M2 : cD K.P 92 = some 41 := by kernel_rfl
theorem Lm : cD K.P 94 = some 44 := by kernel_rfl
theorem Ll : cD K.P 99 = some 1 := by kernel_rfl
theorem JZ : K.P.underlying 133 = some (.int .u64) := by kernel_rfl
theorem Ms : K.P.underlying 25 = some (.slice 3) := by kernel_rfl
theorem un3 : K.P.underlying 3 = some (.int .i64) := by kernel_rfl
theorem MV : K.P.underlying 31 = some (.slice 4) := by kernel_rfl
theorem MT : K.P.underlying 32 = some (.slice 23) := by kernel_rfl
theorem Lg : K.P.underlying 43 = some (.slice 94) := by kernel_rfl
theorem LL : K.P.underlying 46 = some (.slice 113) := by kernel_rfl
theorem Lk : K.P.underlying 47 = some (.int .u64) := by kernel_rfl
theorem Mi : K.P.underlying 79 = some (.slice 92) := by kernel_rfl
theorem M0 : K.P.underlying 90 = some (.slice 5) := by kernel_rfl
theorem Km : zer K.P 113 = some (cd az.z cM) := by kernel_rfl
theorem MZ : zer K.P 23 = some (ar al.z) := by kernel_rfl
theorem L6 : zer K.P 25 = some [.v (.slice none 0 0)] := by kernel_rfl
theorem My : zer K.P 27 = some (aH aD.z cM cM cM) := by kernel_rfl
theorem Mz : zer K.P 28 = some [.v (.int .i64 0)] := by kernel_rfl
theorem ze3 : zer K.P 3 = some [.v (.int .i64 0)] := by kernel_rfl
theorem ze4 : zer K.P 4 = some [.v (.bool false)] := by kernel_rfl
theorem Mq : zer K.P 45 = some (aA Sender.z cM) := by kernel_rfl
theorem M5 : zer K.P 49 = some (bb aW.z) := by kernel_rfl
theorem ze5 : zer K.P 5 = some [.v (.int .u8 0)] := by kernel_rfl
theorem LB : zer K.P 51 = some (aF Reorder.z cM) := by kernel_rfl
theorem MQ : zer K.P 55 = some (af aa.z cM cM (.v .nilFunc) cM cM cM) := by kernel_rfl
theorem ME : zer K.P 63 = some (bC b8.z) := by kernel_rfl
theorem KX : zer K.P 68 = some (bp bx.z) := by kernel_rfl
theorem Mv : zer K.P 79 = some [.v (.slice none 0 0)] := by kernel_rfl
theorem Mr : zer K.P 92 = some (bu Frame.z cM) := by kernel_rfl
theorem LG : zer K.P 94 = some (br ax.z cM) := by kernel_rfl
attribute [go_sem] KT Lf KZ L5 MH ag3 LC Lv ag4 LZ LH Lx L8 Mu ag5 Lb Ma La MN Mt Ls Lz LQ LW Ks K3 L7 Mb M6 LU Lc LO LA Ly L9 Ku MK by3 by4 by5 K8 MM Lh MD MX Me J1 Mp L1 LF Fo Gy Ip IJ Jd G4 Il Hd Hf Jo Iv Iu Jr I2 Jk JU HK I5 If IY JB HL JH Hy IC JE JL IP IT G8 JF HY HQ ID Ia HC Jn JD G6 Hl Iq G7 HF E8 FF HM G5 I1 Hb IM H9 H8 J2 in3 K4 Le GV M4 M1 Lr LI sz3 LJ LE sz4 Mx Mj MS LT LN sz5 MC MB Mg Ln MI L2 M2 Lm Ll JZ Ms un3 MV MT Lg LL Lk Mi M0 Km MZ L6 My Mz ze3 ze4 Mq M5 ze5 LB MQ ME KX Mv Mr LG
theorem mixed : K.P.follows .mixedOrders = true := by kernel_rfl
theorem hC : COk K := ⟨F5.of_tab (tab := tab) rfl (by kernel_rfl), mixed⟩
theorem rs9 : Try.f9.results = #[.cell 0 23] := rfl
theorem M3 : Try.f16.results = #[.tmp 6] := rfl
theorem KJ : Try.f11.results = #[.tmp 2] := rfl
theorem Lp : Try.f40.results = #[.tmp 6] := rfl
theorem KV : Try.f48.results = #[.tmp 2] := rfl
theorem Mk : Try.f43.results = #[.tmp 4] := rfl
theorem Fy : Try.f39.results = #[.tmp 2] := rfl
theorem J9 : Try.f23.results = #[.cell 8 45, .tmp 9] := rfl
theorem KE : Try.f24.results = #[] := rfl
theorem K7 : Try.f60.results = #[.cell 2 92] := rfl
theorem K6 : Try.f41.results = #[.cell 2 45] := rfl
theorem EU : Try.f25.results = #[.cell 4 63, .cell 5 45, .tmp 6] := rfl
theorem DR : Try.f26.results = #[.cell 4 45, .tmp 5] := rfl
theorem Lq : Try.f61.results = #[.tmp 2] := rfl
theorem Lu : Try.f72.results = #[.tmp 2] := rfl
theorem KB : Try.f62.results = #[.tmp 2] := rfl
theorem Mf : Try.f55.results = #[.tmp 2] := rfl
theorem It : Try.f42.results = #[.tmp 2] := rfl
theorem KN : Try.f27.results = #[.cell 6 51, .tmp 7] := rfl
theorem Mn : Try.f18.results = #[] := rfl
theorem Kr : Try.f28.results = #[.tmp 2, .cell 3 45, .tmp 4] := rfl
theorem MJ : Try.f29.results = #[.tmp 4] := rfl
theorem LP : Try.f56.results = #[.tmp 2] := rfl
theorem MP : Try.f75.results = #[.tmp 5] := rfl
theorem Ko : Try.f74.results = #[.tmp 6, .tmp 7] := rfl
theorem L3 : Try.f65.results = #[.tmp 4, .tmp 5] := rfl
theorem Lt : Try.f59.results = #[.tmp 4] := rfl
theorem K5 : Try.f58.results = #[.tmp 4, .cell 5 51] := rfl
theorem EV : Try.f44.results = #[.tmp 4, .cell 5 51, .tmp 6] := rfl
theorem LV : Try.f38.results = #[] := rfl
theorem MU : Try.f30.results = #[] := rfl
theorem MY : Try.f19.results = #[] := rfl
theorem E3 : Try.f45.results = #[.cell 4 45, .tmp 5] := rfl
theorem ML : Try.f47.results = #[.tmp 4] := rfl
theorem FE : Try.f64.results = #[.tmp 4] := rfl
theorem Fw : Try.f73.results = #[.tmp 4] := rfl
theorem E7 : Try.f63.results = #[.tmp 4] := rfl
theorem KD : Try.f46.results = #[.cell 4 25] := rfl
theorem Ky : Try.f31.results = #[.tmp 4, .cell 5 45, .tmp 6] := rfl
theorem Kb : Try.f17.results = #[.tmp 1] := rfl
theorem J8 : Try.f32.results = #[.tmp 2] := rfl
theorem Jh : Try.f33.results = #[.cell 2 45, .tmp 3] := rfl
theorem EI : Try.f49.results = #[.cell 6 92, .cell 7 45, .tmp 8] := rfl
theorem KM : Try.f34.results = #[] := rfl
theorem Ki : Try.f50.results = #[.tmp 4, .cell 5 45, .tmp 6] := rfl
theorem G3 : Try.f80.results = #[.tmp 4] := rfl
theorem Ha : Try.f76.results = #[.cell 4 49, .tmp 5] := rfl
theorem Jt : Try.f77.results = #[.cell 4 49, .tmp 5] := rfl
theorem J0 : Try.f66.results = #[.cell 4 49] := rfl
theorem E5 : Try.f67.results = #[.tmp 6] := rfl
theorem Fx : Try.f51.results = #[.tmp 6, .cell 7 51, .tmp 8] := rfl
theorem Ld : Try.f35.results = #[.tmp 4] := rfl
theorem LD : Try.f68.results = #[] := rfl
theorem Kg : Try.f52.results = #[.cell 2 45, .tmp 3] := rfl
theorem KL : Try.f53.results = #[.cell 2 49, .tmp 3] := rfl
theorem Kp : Try.f70.results = #[.tmp 4] := rfl
theorem Mc : Try.f69.results = #[.tmp 3] := rfl
theorem KA : Try.f54.results = #[.tmp 4, .cell 5 45, .tmp 6] := rfl
theorem KP : Try.f36.results = #[] := rfl
theorem KQ : Try.f37.results = #[.cell 4 79, .cell 5 51, .cell 6 28] := rfl
theorem J4 : Try.f20.results = #[] := rfl
theorem Gx : Try.f10.results = #[.cell 6 27, .tmp 7] := rfl
theorem H3 : Try.f22.results = #[.tmp 4] := rfl
theorem MF : Try.f21.results = #[.tmp 8, .tmp 9] := rfl
theorem Mo : Try.f12.results = #[.tmp 0] := rfl
theorem rs6 : Try.f6.results = #[.tmp 4] := rfl
end Go.AX.Z.TN

/-! (TNI) -/

set_option linter.unusedSimpArgs false
set_option linter.unusedVariables false
set_option maxHeartbeats 1000000
namespace Go.AX.Z.TN
open Go.AX Go.Proofs

/-- What slices.Backward hands out. -/
def sf (l : List az) : List (List AV) := (List.range l.length).map fun i => [vi ((l.length - 1 - i : Nat) : Int), match l[l.length - 1 - i]? with | some x => .agg (aj x) | none => .unk]
theorem s8 (l : List az) : (sf l).length = l.length := by simp [sf]
theorem yh {l : List az} {k i : Nat} {x : az} (hk : k + i + 1 = l.length) (hx : l[i]? = some x) : (sf l)[k]? = some [vi (i : Int), .agg (aj x)] := by
 have e : l.length - 1 - k = i := by omega
 have h : (List.range l.length)[k]? = some k := by rw [List.getElem?_range (by omega)]
 unfold sf
 rw [List.getElem?_map, h]
 simp only [Option.map_some, e, hx]
theorem yp {l : List az} {k : Nat} {x : List AV} (h : (sf l)[k]? = some x) : ∃ i e, k + i + 1 = l.length ∧ l[i]? = some e ∧ x = [vi (i : Int), .agg (aj e)] := by
 have hk : k < l.length := by rw [← s8 l]; exact (List.getElem?_eq_some_iff.1 h).1
 have hi : l.length - 1 - k < l.length := by omega
 have := yh (k := k) (i := l.length - 1 - k) (by omega) (List.getElem?_eq_getElem hi)
 rw [h] at this
 cases this
 exact ⟨_, _, by omega, List.getElem?_eq_getElem hi, rfl⟩

def tB (y : Value) (q : Nat) : Nat → AV := upd (upd (fun _ => .unk) 1 (.ptr q 0)) 0 (.v y)

theorem CA (l : List az) (hL : l.length < 4611686018427387904) (p q : Nat) : IX K 71 [.ptr p 0] (fun hs => hs.objs p = .live [.ref q 0 l.length 42] ∧ hs.objs q = .live (List.flatMap aj l)) (sf l) := by
 intro lo lb ρ0 V0 J Jx hlb hJ hJx hJc hJxc hy ρ V hs W h0
 have hAb : ∀ i, Abides K (J i) := fun i => ⟨fun ρ V hs W h => ⟨(hJ i ρ V hs W h).2.1, (hJ i ρ V hs W h).2.2.1⟩, hJc i⟩
 have hAx : Abides K Jx := ⟨hJx, hJxc⟩
 obtain ⟨loc, hloc, rfl⟩ : ∃ loc, ρ0 p = some loc ∧ lb = #[.pointer (some ⟨loc.b, loc.base + 0, none⟩)] := by
  obtain ⟨e1, e2⟩ := hlb
  obtain ⟨lb⟩ := lb
  match lb, e1, e2 with
  | [y], _, e2 =>
   have := e2 0 _ y rfl rfl
   cases this with
   | ptr _ _ loc h => exact ⟨loc, h, rfl⟩
 obtain ⟨Y, hY⟩ : ∃ Y, Value.func (.yield lo) #[] #[] = Y := ⟨_, rfl⟩
 refine callsIn_of_wp (fn := Try.f71) Try.func71 rfl trivial ?_ rfl
 have hst0 := StJ.start (N := Try.f71.ntmps) (t := tB Y p) (J := J 0) (args := #[.func (.yield lo) #[] #[]] ++ #[.pointer (some ⟨loc.b, loc.base + 0, none⟩)]) (by show 2 ≤ 19; decide) h0 (fun i y hy => by
  match i, hy with
  | 0, hy => cases hy; rw [hY]; exact .v _
  | 1, hy => cases hy; exact .ptr p 0 loc ((hJ 0 _ _ _ _ h0).1.rho _ _ hloc)) (fun i hi => by
  have hi : 2 ≤ i := hi
  unfold tB
  rw [bl _ _ (by omega), bl _ _ (by omega)])
 have hRd : ∀ i ρ V hs W, J i ρ V hs W → hs.objs p = .live [.ref q 0 l.length 42] ∧ hs.objs q = .live (List.flatMap aj l) := fun i ρ V hs W h => (hJ i ρ V hs W h).2.2.2
 refine wpIn_seq ?_
 obtain ⟨r1, r2⟩ := hRd _ _ _ _ _ hst0.j
 refine oH hC (hAb 0) (by decide +kernel) (by decide +kernel) (K := fun t => t 0 = .v Y ∧ t 1 = .ptr p 0 ∧ t 3 = vi ((l.length : Int) - 1)) hst0 ?_ ?_
 ·
  unfold tB
  simp only [go_sem, Nat.reduceEqDiff, reduceIte, Nat.reduceAdd, Nat.reduceMul, Nat.reduceSub, Nat.reduceLT, Nat.reduceLeDiff, Int.reduceToNat, Int.reduceBEq, Int.reduceBNe, Int.reduceLT, Int.reduceLE, Int.reduceAdd, Int.reduceSub, Int.reduceMul, Int.reduceNeg, Int.reduceEq, Int.reduceNe, r1, jm (show -4611686018427387904 ≤ (l.length : Int) - 1 by omega) (show (l.length : Int) - 1 < 4611686018427387904 by omega)]
  try exact ⟨rfl, rfl, rfl, rfl⟩
 intro ρ1 V1 hs1 a1 W1 t1 ⟨e0, e1, e3⟩ _ hst1
 refine wpIn_block ?_
 refine wpIn_loop (I := fun a w => ∃ (k c : Nat) (ρ : Rho) (V : bG) (hs : HS) (t : Nat → AV), k + c = l.length ∧ t 0 = .v Y ∧ t 1 = .ptr p 0 ∧ t 3 = vi ((c : Int) - 1) ∧ StJ Try.f71.ntmps t (J k) ρ V hs a w)
  (fun a _ => (match a.tmps.getD 3 undef with | .int _ n => (n + 1).toNat | _ => 0)) ⟨0, l.length, ρ1, V1, hs1, t1, by omega, e0, e1, e3, hst1⟩ ?_
 rintro a w ⟨k, c, ρ2, V2, hs2, t2, hk, e0, e1, e3, hst2⟩
 have hk3 : a.tmps.getD 3 undef = .int .i64 ((c : Int) - 1) := by
  have := hst2.tm 3
  rw [e3] at this
  exact Rel.v_inv this
 refine wpIn_seq ?_
 refine wpIn_seq ?_
 refine oH hC (hAb _) (by decide +kernel) (by decide +kernel) (K := fun t => t 0 = .v Y ∧ t 1 = .ptr p 0 ∧ t 3 = vi ((c : Int) - 1) ∧ t 8 = vb (decide (0 ≤ (c : Int) - 1))) hst2 ?_ ?_
 ·
  simp only [go_sem, Nat.reduceEqDiff, reduceIte, Nat.reduceAdd, Nat.reduceMul, Nat.reduceSub, Nat.reduceLT, Nat.reduceLeDiff, Int.reduceToNat, Int.reduceBEq, Int.reduceBNe, Int.reduceLT, Int.reduceLE, Int.reduceAdd, Int.reduceSub, Int.reduceMul, Int.reduceNeg, Int.reduceEq, Int.reduceNe, e0, e1, e3]
  try exact ⟨rfl, rfl, rfl, rfl, rfl⟩
 intro ρ3 V3 hs3 a3 W3 t3 ⟨e0, e1, e3, e8⟩ _ hst3
 have hc8 : a3.eval (.tmp 8) = .bool (decide (0 ≤ (c : Int) - 1)) := by
  have := jE (C := K) (s := { toHS := hs3, tmps := t3 }) hst3.tm ((hAb _).inv _ _ _ _ hst3.j).2 (.tmp 8)
  rw [show ev K { toHS := hs3, tmps := t3 } (.tmp 8) = t3 8 from rfl, e8] at this
  exact Rel.v_inv this
 refine wpIn_cond_split hc8 (fun hlt => ?_) (fun hge => ?_)
 ·
  obtain ⟨i, rfl⟩ : ∃ i, c = i + 1 := ⟨c - 1, by have := of_decide_eq_true hlt; omega⟩
  have e3 : t3 3 = vi (i : Int) := by rw [e3]; congr 2; omega
  have hil : i < l.length := by omega
  obtain ⟨x, hx⟩ : ∃ x, l[i]? = some x := ⟨_, List.getElem?_eq_getElem hil⟩
  refine wpIn_skip ?_
  refine wpIn_seq ?_
  refine wpIn_block ?_
  refine wpIn_seq ?_
  obtain ⟨r1, r2⟩ := hRd _ _ _ _ _ hst3.j
  obtain ⟨f0, f1, f2, f3⟩ := cz (show idx l (i : Int) = some x by rw [l5]; exact hx)
  rw [Int.toNat_natCast] at f2
  refine AU hC (hAb _) (hAb (k + 1)) hAx (by decide +kernel) (by decide +kernel) 6 _ rfl (l := lo) rfl rfl rfl (x := [vi (i : Int), .agg (aj x)]) (b := true) hst3
   (K1 := fun t => t 0 = .v Y ∧ t 1 = .ptr p 0 ∧ t 3 = vi (i : Int) ∧ t 11 = .v Y ∧ t 12 = vi (i : Int) ∧ t 16 = .agg (aj x))
   (K2 := fun r t => t 0 = .v Y ∧ t 1 = .ptr p 0 ∧ t 3 = vi (i : Int) ∧ t 18 = vb (match r with | some false => true | _ => false)) ?_ ?_ ?_ ?_ ?_ ?_ ?_ ?_
  ·
   simp only [go_sem, Nat.reduceEqDiff, reduceIte, Nat.reduceAdd, Nat.reduceMul, Nat.reduceSub, Nat.reduceLT, Nat.reduceLeDiff, Int.reduceToNat, Int.reduceBEq, Int.reduceBNe, Int.reduceLT, Int.reduceLE, Int.reduceAdd, Int.reduceSub, Int.reduceMul, Int.reduceNeg, Int.reduceEq, Int.reduceNe, e0, e1, e3, r1, r2, f0, f1, f2, Int.toNat_natCast]
   try exact ⟨rfl, rfl, rfl, rfl, rfl, rfl⟩
  ·
   rintro t1 _
   exact .inl ⟨rfl, rfl⟩
  ·
   rintro _ t1 hs' ⟨_, _, _, h11, h12, h16⟩
   exact ⟨by rw [hY]; exact h11, by show [t1 12, t1 16] = _; rw [h12, h16]⟩
  ·
   intro _ ρ' V' hs' W' args' _ hj hargs
   exact hy _ _ _ _ _ _ _ hj (yh (by omega) hx) hargs
  ·
   rintro r t1 hs' ⟨e0, e1, e3, _⟩ hr
   cases r with
   | none => cases hr
   | some r =>
    cases r <;> simp only [go_sem, Nat.reduceEqDiff, reduceIte, Nat.reduceAdd, Nat.reduceMul, Nat.reduceSub, Nat.reduceLT, Nat.reduceLeDiff, Int.reduceToNat, Int.reduceBEq, Int.reduceBNe, Int.reduceLT, Int.reduceLE, Int.reduceAdd, Int.reduceSub, Int.reduceMul, Int.reduceNeg, Int.reduceEq, Int.reduceNe, e0, e1, e3] <;> first | rfl | exact ⟨rfl, rfl, rfl, rfl, rfl⟩
  ·
   intro h; cases h
  ·
   rintro _ ρ5 V5 hs5 a5 W5 t5 ⟨e0, e1, e3, e18⟩ _ hst5
   have hc : a5.eval (.tmp 18) = .bool false := by
    have := jE (C := K) (s := { toHS := hs5, tmps := t5 }) hst5.tm ((hAb _).inv _ _ _ _ hst5.j).2 (.tmp 18)
    rw [show ev K { toHS := hs5, tmps := t5 } (.tmp 18) = t5 18 from rfl, e18] at this
    exact Rel.v_inv this
   refine wpIn_cond_false hc (wpIn_skip ?_)
   refine oH hC (hAb _) (by decide +kernel) (by decide +kernel) (K := fun t => t 0 = .v Y ∧ t 1 = .ptr p 0 ∧ t 3 = vi ((i : Int) - 1)) hst5 ?_ ?_
   ·
    simp only [go_sem, Nat.reduceEqDiff, reduceIte, Nat.reduceAdd, Nat.reduceMul, Nat.reduceSub, Nat.reduceLT, Nat.reduceLeDiff, Int.reduceToNat, Int.reduceBEq, Int.reduceBNe, Int.reduceLT, Int.reduceLE, Int.reduceAdd, Int.reduceSub, Int.reduceMul, Int.reduceNeg, Int.reduceEq, Int.reduceNe, e0, e1, e3, jm (show -4611686018427387904 ≤ (i : Int) - 1 by omega) (show (i : Int) - 1 < 4611686018427387904 by omega)]
    try exact ⟨rfl, rfl, rfl, rfl⟩
   rintro ρ6 V6 hs6 a6 W6 t6 ⟨e0, e1, e3⟩ _ hst6
   refine ⟨⟨k + 1, i, ρ6, V6, hs6, t6, by omega, e0, e1, e3, hst6⟩, ?_⟩
   have h3 : a6.tmps.getD 3 undef = .int .i64 ((i : Int) - 1) := by
    have := hst6.tm 3
    rw [e3] at this
    exact Rel.v_inv this
   show (match a6.tmps.getD 3 undef with | .int _ n => (n + 1).toNat | _ => 0) < (match a.tmps.getD 3 undef with | .int _ n => (n + 1).toNat | _ => 0)
   rw [h3, hk3]
   show ((i : Int) - 1 + 1).toNat < (((i + 1 : Nat) : Int) - 1 + 1).toNat
   omega
  ·
   rintro _ ρ5 V5 hs5 a5 W5 t5 ⟨e0, e1, e3, e18⟩ _ hst5
   have hc : a5.eval (.tmp 18) = .bool true := by
    have := jE (C := K) (s := { toHS := hs5, tmps := t5 }) hst5.tm (hAx.inv _ _ _ _ hst5.j).2 (.tmp 18)
    rw [show ev K { toHS := hs5, tmps := t5 } (.tmp 18) = t5 18 from rfl, e18] at this
    exact Rel.v_inv this
   refine wpIn_cond_true hc (wpIn_ret ?_)
   exact zJ (R := fun e W' => (∃ v, e = .returned v) ∧ ∃ ρ' V' hs', J (sf l).length ρ' V' hs' W' ∨ Jx ρ' V' hs' W') hst5 rfl (fun v h => ⟨⟨v, rfl⟩, _, _, _, .inr h⟩)
 ·
  have hc0 : c = 0 := by have := of_decide_eq_false hge; omega
  subst hc0
  refine wpIn_exit ?_
  exact zJ (R := fun e W' => (∃ v, e = .returned v) ∧ ∃ ρ' V' hs', J (sf l).length ρ' V' hs' W' ∨ Jx ρ' V' hs' W') hst3 rfl (fun v h => ⟨⟨v, rfl⟩, _, _, _, .inl (by rw [s8, ← hk]; exact h)⟩)

theorem DS (n q : Nat) (hs : HS) : Snd K 57 [.ref q 0 n 42] hs (fun r hs' => r = .clo 71 [] [.ptr hs.next 0] ∧ hs'.objs = upd hs.objs hs.next (.live [.ref q 0 n 42]) ∧ hs.next < hs'.next) := by
 obtain ⟨objs, nx⟩ := hs
 refine rE hC (fn := Try.f57) Try.func57 rfl rfl (by decide +kernel) (Nat.le_of_ble_eq_true rfl) ?_
 refine rZ fun KK hKK => ?_
 refine av ?_
 simp only [ju, List.getD_cons_zero, go_sem, Nat.reduceEqDiff, reduceIte, Nat.reduceAdd]
 refine hKK _ ?_; clear hKK KK
 refine rZ fun KK hKK => ?_
 refine av ?_
 simp only [go_sem, Nat.reduceEqDiff, reduceIte, Nat.reduceAdd]
 refine hKK _ ?_; clear hKK KK
 refine aS ?_
 refine aC (fn := Try.f57) (rs := #[.tmp 2]) rfl (by simp only [go_sem, tw, ll, sd, vB, Nat.reduceEqDiff, reduceIte, Nat.reduceAdd]; rfl) ?_
 exact ⟨rfl, rfl, by show nx < nx + 2 + 2; omega⟩

end Go.AX.Z.TN
