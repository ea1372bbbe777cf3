/- SessionWhole: the law returns true whatever its arguments. -/
import Derived.Test.YtpjogfcpmcbafaaWalkb
import Derived.KernelRfl
import Derived.Test.YtpjogfcpmcbafaaRows
import Derived.WalkKit
import Derived.ProofKit
import Derived.OpenShut
import Derived.JoinedCond
set_option linter.unusedVariables false
set_option linter.unusedSimpArgs false

/-! (TNP) -/

set_option linter.unusedVariables false
set_option linter.unusedSimpArgs false
namespace Go.AX.Z.TN
open Go.AX

theorem iL (a b : Int) : cG a b = some (aP a b) := by
 have := CO a b
 unfold cG vX
 rw [show IntKind.bits .u64 = 64 from rfl, this]
theorem z9 (a b : Int) : eU a b = some ((a + b) % 4096) := by
 have := Dv a b
 unfold eU vX
 rw [show IntKind.bits .u64 = 64 from rfl, this]
theorem fL (a b : Int) : 0 ≤ aP a b ∧ aP a b < 4096 := by unfold aP; omega
abbrev az.n (h : az) : Int := h.Frame.Head.Seq
end Go.AX.Z.TN

/-! (TNQ) -/

set_option linter.unusedVariables false
set_option linter.unusedSimpArgs false
namespace Go.AX.Z.TN.S
open Go.AX

def OkE (st dd lim last at' : Int) (x : ax) : Prop :=
 0 ≤ x.Frame.Head.Seq ∧ x.Frame.Head.Seq ≤ 4095 ∧ last < aP st x.Frame.Head.Seq ∧ aP st x.Frame.Head.Seq < dd ∧ at' ≤ x.At ∧ x.At ≤ 1099511627776 ∧ 0 ≤ x.Tries ∧ x.Tries ≤ lim ∧ (x.Flying = true → x.Tries ≠ 0)
instance (st dd lim last at' : Int) (x : ax) : Decidable (OkE st dd lim last at' x) := by unfold OkE; infer_instance

def OkL (st dd lim : Int) : Int → Int → List ax → Prop
 | _, _, [] => True
 | last, at', x :: l => OkE st dd lim last at' x ∧ OkL st dd lim (aP st x.Frame.Head.Seq) x.At l
def D6 (st dd lim : Int) : (last at' : Int) → (l : List ax) → Decidable (OkL st dd lim last at' l)
 | _, _, [] => .isTrue trivial
 | last, at', x :: l => by
  have := D6 st dd lim (aP st x.Frame.Head.Seq) x.At l
  unfold OkL; infer_instance
instance (st dd lim last at' : Int) (l : List ax) : Decidable (OkL st dd lim last at' l) := D6 st dd lim last at' l

theorem lF (s : Sender) (st dd : Int) (hs : s.Out.length < 4611686018427387904) : ∀ (l : List ax) (i n : Nat) (last at' : Int), s.Out.drop i = l → l.length < n →
  dQ s st dd n (last, at', (i : Int)) = some (if OkL st dd s.Limit last at' l then Ex.go () else Ex.ret 8)
 | [], i, n + 1, last, at', h, hn => by
  have := kv h
  rw [dQ, iK this]
  simp [OkL]
 | x :: l, i, n + 1, last, at', h, hn => by
  obtain ⟨h1, h2, h3⟩ := kA h
  have ih := lF s st dd hs l (i + 1) n (aP st x.Frame.Head.Seq) x.At h2 (by simpa using hn)
  rw [dQ, iG h3]
  simp only [cond_true, l5, h1, aE, iL, bP, gw (show i < _ by omega), ih, OkL]
  by_cases hx : OkE st dd s.Limit last at' x
  ·
   have hx' := hx
   obtain ⟨a, b, c, d, e, f, g, k, m⟩ := hx
   have e1 : ((!(decide (0 ≤ x.Frame.Head.Seq) && decide (x.Frame.Head.Seq ≤ 4095)) || decide (aP st x.Frame.Head.Seq ≤ last)) || decide (dd ≤ aP st x.Frame.Head.Seq)) = false := by
    simp [a, b]; omega
   have e2 : (!(decide (at' ≤ x.At) && decide (x.At ≤ 1099511627776))) = false := by simp [e, f]
   have e3 : (!(decide (0 ≤ x.Tries) && decide (x.Tries ≤ s.Limit))) = false := by simp [g, k]
   have e4 : (x.Flying && x.Tries == 0) = false := by
    cases hf : x.Flying
    ·
     rfl
    ·
     simpa using m hf
   simp only [e1, e2, e3, e4, cond_false, cond_true, aE, Bool.or_false, hx', true_and]
  ·
   simp only [hx, false_and, if_false]
   cases e1 : ((!(decide (0 ≤ x.Frame.Head.Seq) && decide (x.Frame.Head.Seq ≤ 4095)) || decide (aP st x.Frame.Head.Seq ≤ last)) || decide (dd ≤ aP st x.Frame.Head.Seq))
   ·
    cases e2 : (!(decide (at' ≤ x.At) && decide (x.At ≤ 1099511627776)))
    ·
     cases e3 : (!(decide (0 ≤ x.Tries) && decide (x.Tries ≤ s.Limit)))
     ·
      cases e4 : (x.Flying && x.Tries == 0)
      ·
       exfalso
       apply hx
       simp at e1 e2 e3 e4
       refine ⟨by omega, by omega, by omega, by omega, by omega, by omega, by omega, by omega, fun hf => ?_⟩
       exact e4 hf
      ·
       simp only [e4, cond_false, cond_true, aE, Bool.or_true, Bool.or_false]
     ·
      simp only [e3, cond_false, cond_true, aE, Bool.or_true, Bool.true_or, Bool.or_false]
    ·
     simp only [e2, cond_false, cond_true, aE, Bool.or_true, Bool.true_or, Bool.or_false]
   ·
    simp only [e1, cond_false, cond_true, aE, Bool.or_true, Bool.true_or, Bool.or_false]

def startOf (s : Sender) : Int := match s.Out with | [] => s.Next | x :: _ => x.Frame.Head.Seq
theorem zn (s : Sender) : fQ s = some (startOf s) := by
 unfold fQ startOf
 cases h : s.Out with
 | nil => simp
 | cons x l => simp [idx]

def Valid (s : Sender) : Prop :=
 (0 ≤ s.Tid ∧ s.Tid ≤ 7) ∧ s.Phase ≤ 2 ∧ (0 ≤ s.Token ∧ s.Token ≤ 255) ∧ (0 ≤ s.Next ∧ s.Next ≤ 4095) ∧ (1 ≤ s.Limit ∧ s.Limit ≤ 16) ∧ (1 ≤ s.Life ∧ s.Life ≤ 1073741824) ∧
  (if s.Phase = 0 then s.Size = 0 else 1 ≤ s.Size ∧ s.Size ≤ 64) ∧ (s.Phase ≠ 2 → s.Out = [] ∧ s.Bar = false) ∧ aP (startOf s) s.Next ≤ s.Size ∧
  OkL (startOf s) (aP (startOf s) s.Next) s.Limit (-1) 0 s.Out
instance (s : Sender) : Decidable (Valid s) := by unfold Valid; infer_instance

theorem check_e (s : Sender) (hs : s.Out.length < 4611686018427387904) : ej s = some (if Valid s then 0 else 8) := by
 have hL := lF s (startOf s) (aP (startOf s) s.Next) hs s.Out 0 big (-1) 0 rfl (fo hs)
 simp only [Int.ofNat_zero, Int.natCast_zero] at hL
 unfold ej
 simp only [bP, aE, zn, iL, hL]
 have b1 : ∀ (a b : Bool), (bif a then some b else some false) = some (a && b) := by intro a b; cases a <;> rfl
 have b2 : ∀ (a b c : Bool), (bif a then some b else some c) = some (bif a then b else c) := by intro a b c; cases a <;> rfl
 simp only [b1, b2, aE]
 by_cases h1 : (((!((((((decide (0 ≤ s.Tid) && decide (s.Tid ≤ 7)) && decide (s.Phase ≤ 2)) && (decide (0 ≤ s.Token) && decide (s.Token ≤ 255))) && (decide (0 ≤ s.Next) && decide (s.Next ≤ 4095))) && (decide (1 ≤ s.Limit) && decide (s.Limit ≤ 16))) && (decide (1 ≤ s.Life) && decide (s.Life ≤ 1073741824)))) || (!(bif s.Phase == 0 then s.Size == 0 else (decide (1 ≤ s.Size) && decide (s.Size ≤ 64))))) || ((s.Phase != 2) && ((decide (0 < (s.Out.length : Int))) || s.Bar))) = true
 ·
  rw [h1]
  have : ¬ Valid s := by
   rintro ⟨a, b, c, d, e, f, g, k, _⟩
   simp only [Bool.or_eq_true, Bool.and_eq_true, Bool.not_eq_true', Bool.and_eq_false_iff, decide_eq_true_eq, decide_eq_false_iff_not] at h1
   rcases h1 with (h1 | h1) | h1
   ·
    omega
   ·
    by_cases hp : s.Phase = 0
    ·
     rw [if_pos hp] at g; simp [hp, g] at h1
    ·
     rw [if_neg hp] at g
     have : (s.Phase == 0) = false := by simpa using hp
     rw [this] at h1
     simp at h1; omega
   ·
    obtain ⟨h2, h3⟩ := h1
    have := k (by simpa using h2)
    simp [this.1, this.2] at h3
  rw [if_neg this]; rfl
 ·
  rw [Bool.not_eq_true] at h1
  rw [h1, cond_false]
  simp only [Bool.or_eq_false_iff, Bool.and_eq_false_iff, Bool.not_eq_false', Bool.and_eq_true, decide_eq_true_eq, decide_eq_false_iff_not] at h1
  obtain ⟨⟨⟨⟨⟨⟨⟨a, b⟩, c⟩, d⟩, e⟩, f⟩, g⟩, k⟩ := h1
  have a := a
  have g' : (if s.Phase = 0 then s.Size = 0 else 1 ≤ s.Size ∧ s.Size ≤ 64) := by
   by_cases hp : s.Phase = 0
   ·
    rw [if_pos hp]; simpa [hp] using g
   ·
    rw [if_neg hp]
    have : (s.Phase == 0) = false := by simpa using hp
    rw [this] at g
    simpa using g
  have k' : s.Phase ≠ 2 → s.Out = [] ∧ s.Bar = false := by
   intro hp
   rcases k with k | k
   ·
    exact absurd (by simpa using k) hp
   ·
    refine ⟨?_, k.2⟩
    have := k.1
    rw [← List.length_eq_zero_iff]; omega
  by_cases h2 : s.Size < aP (startOf s) s.Next
  ·
   rw [decide_eq_true h2, cond_true, if_neg (by rintro ⟨_, _, _, _, _, _, _, _, q, _⟩; omega)]
  ·
   rw [decide_eq_false h2, cond_false]
   by_cases h3 : OkL (startOf s) (aP (startOf s) s.Next) s.Limit (-1) 0 s.Out
   ·
    rw [if_pos h3, if_pos ⟨a, b, c, d, e, f, g', k', by omega, h3⟩]; rfl
   ·
    rw [if_neg h3, if_neg (by rintro ⟨_, _, _, _, _, _, _, _, _, q⟩; exact h3 q)]; rfl

/-! A state of moderate size -/

def Fit (s : Sender) : Prop := s.Out.length ≤ 100000 ∧ ∀ x ∈ s.Out, x.Frame.Body.length ≤ 2400
theorem Fit.len {s : Sender} (h : Fit s) : s.Out.length < 4611686018427387904 := by have := h.1; omega

theorem Cc {f : Frame} (h : f.Body.length ≤ 2400) : dT f = some f := by
 unfold dT
 rw [fI (by omega)]; rfl

theorem mS (s : Sender) (hs : s.Out.length ≤ 100000) : ∀ (l acc : List ax) (i n : Nat), s.Out.drop i = l → l.length < n → (∀ x ∈ l, x.Frame.Body.length ≤ 2400) → acc.length + l.length ≤ 100000 →
  eC s n (acc, (i : Int)) = some (acc ++ l)
 | [], acc, i, n + 1, h, hn, hb, ha => by
  rw [eC, iK (kv h)]; simp
 | x :: l, acc, i, n + 1, h, hn, hb, ha => by
  obtain ⟨h1, h2, h3⟩ := kA h
  simp only [List.length_cons] at ha hn
  rw [eC, iG h3]
  have ih := mS s hs l (acc ++ [x]) (i + 1) n h2 (by omega) (fun y hy => hb y (by simp [hy])) (by simp; omega)
  simp only [cond_true, l5, h1, aE, Cc (hb x (by simp))]
  rw [fI (by omega)]
  simp only [aE, gw (show i < _ by omega)]
  rw [show ({ x with Frame := { x.Frame with Body := x.Frame.Body } } : ax) = x from rfl, ih]
  simp

theorem oD {s : Sender} (h : Fit s) : fc s = some s := by
 unfold fc
 have := mS s h.1 s.Out [] 0 big rfl (fo h.len) h.2 (by simpa using h.1)
 simp only [Int.ofNat_zero, Int.natCast_zero] at this
 rw [this]; rfl

theorem s7 {s : Sender} (h : Fit s) (b : Bool) : dW s b = some (if Valid s then (if b = true then (if s.Phase = 2 then (s, 0) else (Sender.z, 20)) else (Sender.z, 2)) else (Sender.z, 8)) := by
 unfold dW
 rw [check_e s h.len, aE]
 by_cases hv : Valid s
 ·
  simp only [if_pos hv]
  cases b
  ·
   rfl
  ·
   by_cases hp : s.Phase = 2
   ·
    simp [hp, oD h]
   ·
    have e : (s.Phase != 2) = true := by simpa using hp
    simp [hp, e]
 ·
  simp only [if_neg hv]; rfl
end Go.AX.Z.TN.S

/-! (TNR) -/

set_option linter.unusedVariables false
set_option linter.unusedSimpArgs false
namespace Go.AX.Z.TN.S
open Go.AX

def newS (a b c d : Int) : Sender := { Sender.z with Life := d, Limit := c, Next := b, Tid := a }
theorem newS_fit (a b c d : Int) : Fit (newS a b c d) := ⟨by simp [newS, Sender.z], by simp [newS, Sender.z]⟩
theorem new_e (a b c d : Int) : lp a b c d = some (if Valid (newS a b c d) then (newS a b c d, 0) else (Sender.z, 2)) := by
 unfold lp
 rw [show ({ Sender.z with Life := d, Limit := c, Next := b, Tid := a } : Sender) = newS a b c d from rfl, check_e _ (newS_fit a b c d).len, aE]
 by_cases hv : Valid (newS a b c d)
 ·
  simp only [if_pos hv]; rfl
 ·
  simp only [if_neg hv]; rfl

def tok (s : Sender) : Int := IntKind.wrap .i64 (s.Token.tmod 255 + 1)
def LS (s : Sender) (n : Int) : b8 := { b8.z with Size := n, Start := s.Next, Tid := s.Tid, Token := tok s }
def askS (s : Sender) (n : Int) : Sender := { s with Phase := 1, Size := n, Token := tok s }
theorem ask_e {s : Sender} (h : Fit s) (n : Int) : jT s n = some (if Valid s then (if 1 ≤ n ∧ n ≤ 64 then (if s.Phase = 2 then (b8.z, Sender.z, 20) else (LS s n, askS s n, 0)) else (b8.z, Sender.z, 2)) else (b8.z, Sender.z, 8)) := by
 unfold jT
 rw [check_e s h.len, aE]
 by_cases hv : Valid s
 ·
  simp only [if_pos hv, bP, aE]
  by_cases hn : 1 ≤ n ∧ n ≤ 64
  ·
   have e : (!(decide (1 ≤ n) && decide (n ≤ 64))) = false := by simp [hn]
   simp only [if_pos hn, e]
   by_cases hp : s.Phase = 2
   ·
    simp [hp]
   ·
    have hf : Fit (askS s n) := ⟨h.1, h.2⟩
    have e2 : (s.Phase == 2) = false := by simpa using hp
    simp only [if_neg hp, e2, cond_false]
    rw [show ({ s with Phase := 1, Size := n, Token := IntKind.wrap .i64 (s.Token.tmod 255 + 1) } : Sender) = askS s n from rfl, oD hf, aE]
    rfl
  ·
   have e : (!(decide (1 ≤ n) && decide (n ≤ 64))) = true := by
    simp only [Bool.not_eq_true', Bool.and_eq_false_iff, decide_eq_false_iff_not]; omega
   simp only [if_neg hn, e]; rfl
 ·
  simp only [if_neg hv]; rfl

def BC (s : Sender) (a : bx) : Sender := if a.Status = 0 then { s with Phase := 2, Size := a.Size } else { s with Phase := 0, Size := 0 }
theorem Aw {s : Sender} (h : Fit s) (a : bx) : Fit (BC s a) := by
 unfold BC; split <;> exact ⟨h.1, h.2⟩
theorem answer_e {s : Sender} (h : Fit s) (a : bx) : gp s a = some (if Valid s then (if s.Phase = 1 then (if a.Token = s.Token ∧ a.Tid = s.Tid then (if a.Status = 0 ∧ ¬ (1 ≤ a.Size ∧ a.Size ≤ s.Size) then (Sender.z, 2) else (BC s a, 0)) else (Sender.z, 21)) else (Sender.z, 20)) else (Sender.z, 8)) := by
 unfold gp
 rw [check_e s h.len, aE]
 by_cases hv : Valid s
 ·
  simp only [if_pos hv]
  by_cases hp : s.Phase = 1
  ·
   have e1 : (s.Phase != 1) = false := by simp [hp]
   simp only [if_pos hp, e1, cond_false]
   by_cases ht : a.Token = s.Token ∧ a.Tid = s.Tid
   ·
    have e2 : ((a.Token != s.Token) || (a.Tid != s.Tid)) = false := by simp [ht.1, ht.2]
    simp only [if_pos ht, e2, cond_false]
    by_cases hs : a.Status = 0
    ·
     have e3 : (a.Status != 0) = false := by simp [hs]
     simp only [e3, cond_false, bP, aE]
     by_cases hz : 1 ≤ a.Size ∧ a.Size ≤ s.Size
     ·
      have e4 : (!(decide (1 ≤ a.Size) && decide (a.Size ≤ s.Size))) = false := by simp [hz]
      have e5 : ¬ (a.Status = 0 ∧ ¬ (1 ≤ a.Size ∧ a.Size ≤ s.Size)) := fun h => h.2 hz
      have hf := Aw h a
      have e6 : BC s a = { s with Phase := 2, Size := a.Size } := by unfold BC; rw [if_pos hs]
      simp only [e4, cond_false, aE, Ex.k_go', if_neg e5]
      rw [show ((0 : Int) != 0) = false from rfl, cond_false, aE, Ex.k_go', ← e6, oD hf]; rfl
     ·
      have e4 : (!(decide (1 ≤ a.Size) && decide (a.Size ≤ s.Size))) = true := by
       simp only [Bool.not_eq_true', Bool.and_eq_false_iff, decide_eq_false_iff_not]; omega
      have e5 : (a.Status = 0 ∧ ¬ (1 ≤ a.Size ∧ a.Size ≤ s.Size)) := ⟨hs, hz⟩
      simp only [e4, cond_true, aE, Ex.k_ret', if_pos e5]; rfl
    ·
     have e3 : (a.Status != 0) = true := by simpa using hs
     have e5 : ¬ (a.Status = 0 ∧ ¬ (1 ≤ a.Size ∧ a.Size ≤ s.Size)) := fun h => hs h.1
     have hf := Aw h a
     have e6 : BC s a = { s with Phase := 0, Size := 0 } := by unfold BC; rw [if_neg hs]
     simp only [e3, cond_true, if_neg e5]
     rw [show ((0 : Int) != 0) = false from rfl, cond_false, aE, Ex.k_go', ← e6, oD hf]; rfl
   ·
    have e2 : ((a.Token != s.Token) || (a.Tid != s.Tid)) = true := by
     simp only [Bool.or_eq_true, bne_iff_ne]
     rcases Classical.em (a.Token = s.Token) with h1 | h1
     ·
      exact .inr fun h2 => ht ⟨h1, h2⟩
     ·
      exact .inl h1
    simp only [if_neg ht, e2]; rfl
  ·
   have e1 : (s.Phase != 1) = true := by simpa using hp
   simp only [if_neg hp, e1]; rfl
 ·
  simp only [if_neg hv]; rfl

def seqs (l : List ax) : List Int := l.map fun x => x.Frame.Head.Seq

theorem nd (s : Sender) (hs : s.Out.length ≤ 100000) : ∀ (l : List ax) (acc : List Int) (i n : Nat), s.Out.drop i = l → l.length < n → acc.length + l.length ≤ 100000 →
  dR s n (acc, (i : Int)) = some (acc ++ seqs l)
 | [], acc, i, n + 1, h, hn, ha => by
  rw [dR, iK (kv h)]; simp [seqs]
 | x :: l, acc, i, n + 1, h, hn, ha => by
  obtain ⟨h1, h2, h3⟩ := kA h
  simp only [List.length_cons] at ha hn
  rw [dR, iG h3]
  have ih := nd s hs l (acc ++ [x.Frame.Head.Seq]) (i + 1) n h2 (by omega) (by simp; omega)
  simp only [cond_true, l5, h1, aE]
  rw [fI (by omega)]
  simp only [aE, gw (show i < _ by omega), ih]
  simp [seqs]

def zc (s : Sender) : Sender := { s with Bar := false, Out := [], Phase := 0, Size := 0 }
theorem close_e {s : Sender} (h : Fit s) : fR s = some (if Valid s then (seqs s.Out, zc s, 0) else ([], Sender.z, 8)) := by
 unfold fR
 rw [check_e s h.len, aE]
 by_cases hv : Valid s
 ·
  simp only [if_pos hv]
  have := nd s h.1 s.Out [] 0 big rfl (fo h.len) (by simpa using h.1)
  simp only [Int.ofNat_zero, Int.natCast_zero, List.nil_append] at this
  rw [this]; rfl
 ·
  simp only [if_neg hv]; rfl

def lastAt (s : Sender) : Int := match s.Out.getLast? with | some x => x.At | none => 0
def offF (s : Sender) (f : Frame) : Frame := { f with Head := { f.Head with Retry := false, Seq := s.Next, Tid := s.Tid } }
def offS (s : Sender) (f : Frame) (n : Int) : Sender := { s with Next := (s.Next + 1) % 4096, Out := s.Out ++ [{ ax.z with At := n, Frame := offF s f }] }
theorem offer_e {s : Sender} (h : Fit s) (f : Frame) (hf : f.Body.length ≤ 2400) (n : Int) (hl : s.Out.length < 90000) : fM s f n =
  some (if Valid s then (if 0 ≤ n ∧ n ≤ 1099511627776 then (if s.Phase = 2 then (if s.Out ≠ [] ∧ n < lastAt s then (Frame.z, Sender.z, 20) else if s.Size ≤ aP (startOf s) s.Next then (Frame.z, Sender.z, 22) else (offF s f, offS s f n, 0)) else (Frame.z, Sender.z, 20)) else (Frame.z, Sender.z, 2)) else (Frame.z, Sender.z, 8)) := by
 unfold fM
 simp only [bP, aE]
 rw [s7 h]
 by_cases hv : Valid s
 ·
  simp only [if_pos hv]
  by_cases hn : 0 ≤ n ∧ n ≤ 1099511627776
  ·
   have e1 : (decide (0 ≤ n) && decide (n ≤ 1099511627776)) = true := by simp [hn]
   simp only [e1, if_true, if_pos hn]
   by_cases hp : s.Phase = 2
   ·
    simp only [if_pos hp, aE]
    rw [show ((0 : Int) != 0) = false from rfl, cond_false]
    have key : ((bif decide (0 < ((s.Out.length : Nat) : Int)) then ((idx s.Out (IntKind.wrap .i64 (((s.Out.length : Nat) : Int) - 1))).bind fun x16 => some (decide (n < x16.At))) else some false) : Option Bool) = some (decide (s.Out ≠ [] ∧ n < lastAt s)) := by
     cases ho : s.Out with
     | nil => simp
     | cons x l =>
      have hl' : (x :: l).length = l.length + 1 := rfl
      have hlen : s.Out.length = l.length + 1 := by rw [ho]; rfl
      rw [show decide (0 < (((x :: l).length : Nat) : Int)) = true by simp, cond_true, show IntKind.wrap .i64 ((((x :: l).length : Nat) : Int) - 1) = ((l.length : Nat) : Int) by rw [hl', jm (by omega) (by omega)]; omega, l5]
      have : (x :: l)[l.length]? = (x :: l).getLast? := by rw [List.getLast?_eq_getElem?]; rfl
      rw [this]
      have hne : (x :: l).getLast? = some ((x :: l).getLast (by simp)) := List.getLast?_eq_some_getLast (by simp)
      rw [hne, aE]
      simp [lastAt, ho, hne]
    rw [key, aE]
    by_cases hw : s.Out ≠ [] ∧ n < lastAt s
    ·
     rw [decide_eq_true hw, if_pos hw]; rfl
    ·
     rw [decide_eq_false hw, if_neg hw, cond_false, zn, aE, iL, aE]
     by_cases hz : s.Size ≤ aP (startOf s) s.Next
     ·
      rw [decide_eq_true hz, if_pos hz]; rfl
     ·
      rw [decide_eq_false hz, if_neg hz, cond_false, Cc hf, aE, fI (by omega), aE, z9, aE]
      rw [Cc (f := { f with Head := { f.Head with Retry := false, Seq := s.Next, Tid := s.Tid } }) hf]
      rfl
   ·
    simp only [if_neg hp]; rfl
  ·
   have e1 : (decide (0 ≤ n) && decide (n ≤ 1099511627776)) = false := by
    simp only [Bool.and_eq_false_iff, decide_eq_false_iff_not]; omega
   simp only [e1, if_neg hn]; rfl
 ·
  simp only [if_neg hv]; rfl

def pickR (lim k : Int) : Nat → List ax → List ax × List Frame
 | _, [] => ([], [])
 | c, x :: l => if (c : Int) = k then (x :: l, []) else
   if (x.Flying || (x.Tries == lim)) = true then (x :: (pickR lim k c l).1, (pickR lim k c l).2)
   else ({ x with Tries := IntKind.wrap .i64 (x.Tries + 1), Flying := true } :: (pickR lim k (c + 1) l).1, { x.Frame with Head := { x.Frame.Head with Retry := decide (0 < x.Tries) } } :: (pickR lim k (c + 1) l).2)

theorem uE {α : Type} (f : α → α) : ∀ (pre : List α) (x : α) (l : List α), (pre ++ x :: l).modify pre.length f = pre ++ f x :: l
 | [], x, l => by simp
 | p :: pre, x, l => by simp [uE f pre x l]

theorem tK (r : Sender × Int) (k : Int) : ∀ (l pre : List ax) (fr : List Frame) (n : Nat), pre.length + l.length = r.1.Out.length → r.1.Out.length ≤ 100000 → l.length < n → (∀ x ∈ l, x.Frame.Body.length ≤ 2400) → fr.length + l.length ≤ 100000 →
  dN r k n (pre ++ l, fr, (pre.length : Int)) = some (pre ++ (pickR r.1.Limit k fr.length l).1, fr ++ (pickR r.1.Limit k fr.length l).2)
 | [], pre, fr, n + 1, h, hL, hn, hb, ha => by
  rw [dN, iK (by simp at h; omega)]; simp [pickR]
 | x :: l, pre, fr, n + 1, h, hL, hn, hb, ha => by
  simp only [List.length_cons] at h ha hn
  rw [dN, iG (by omega)]
  have e : idx (pre ++ x :: l) (pre.length : Int) = some x := by rw [l5]; simp
  simp only [cond_true, e, aE, pickR]
  by_cases hk : (fr.length : Int) = k
  ·
   rw [show (((fr.length : Nat) : Int) == k) = true by simpa using hk, if_pos hk]; simp
  ·
   rw [show (((fr.length : Nat) : Int) == k) = false by simpa using hk, if_neg hk, cond_false]
   cases hx : (x.Flying || (x.Tries == r.1.Limit))
   ·
    simp only [cond_false, Bool.false_eq_true, if_false]
    rw [Cc (hb x (by simp)), aE, fI (by omega), aE, show (pre.length : Int).toNat = pre.length by omega, uE, uE, gw (by omega)]
    have ih := tK r k l (pre ++ [{ x with Tries := IntKind.wrap .i64 (x.Tries + 1), Flying := true }]) (fr ++ [{ x.Frame with Head := { x.Frame.Head with Retry := decide (0 < x.Tries) } }]) n (by simp; omega) hL (by omega) (fun y hy => hb y (by simp [hy])) (by simp; omega)
    simp only [List.append_assoc, List.cons_append, List.nil_append, List.length_append, List.length_cons, List.length_nil, Nat.zero_add] at ih
    exact ih
   ·
    simp only [cond_true, if_true]
    rw [gw (by omega)]
    have ih := tK r k l (pre ++ [x]) fr n (by simp; omega) hL (by omega) (fun y hy => hb y (by simp [hy])) (by omega)
    simp only [List.append_assoc, List.cons_append, List.nil_append, List.length_append, List.length_cons, List.length_nil, Nat.zero_add] at ih
    exact ih

theorem pick_e {s : Sender} (h : Fit s) (k : Int) : gE s k = some (if Valid s then (if 0 ≤ k then (if s.Phase = 2 then ((pickR s.Limit k 0 s.Out).2, { s with Out := (pickR s.Limit k 0 s.Out).1 }, 0) else ([], Sender.z, 20)) else ([], Sender.z, 2)) else ([], Sender.z, 8)) := by
 unfold gE
 rw [s7 h]
 by_cases hv : Valid s
 ·
  simp only [if_pos hv]
  by_cases hk : 0 ≤ k
  ·
   simp only [decide_eq_true hk, if_true, if_pos hk]
   by_cases hp : s.Phase = 2
   ·
    simp only [if_pos hp, aE]
    have := tK (s, 0) k s.Out [] [] big (by simp) h.1 (fo h.len) h.2 (by simpa using h.1)
    simp only [List.nil_append, List.length_nil, Int.ofNat_zero, Int.natCast_zero] at this
    rw [show ((0 : Int) != 0) = false from rfl, cond_false, this]; rfl
   ·
    simp only [if_neg hp]; rfl
  ·
   simp only [decide_eq_false hk, if_neg hk]; rfl
 ·
  simp only [if_neg hv]; rfl

def unfly (x : ax) : ax := { x with Flying := false }
theorem yq (s : Sender) : ∀ (l pre : List ax) (n : Nat), pre.length + l.length = s.Out.length → s.Out.length ≤ 100000 → l.length < n →
  ey s n (pre ++ l, (pre.length : Int)) = some (pre ++ l.map unfly)
 | [], pre, n + 1, h, hL, hn => by
  rw [ey, iK (by simp at h; omega)]; simp
 | x :: l, pre, n + 1, h, hL, hn => by
  simp only [List.length_cons] at h hn
  rw [ey, iG (by omega)]
  have e : idx (pre ++ x :: l) (pre.length : Int) = some x := by rw [l5]; simp
  simp only [cond_true, e, aE]
  rw [show (pre.length : Int).toNat = pre.length by omega, uE, gw (by omega)]
  have ih := yq s l (pre ++ [unfly x]) n (by simp; omega) hL (by omega)
  simp only [List.append_assoc, List.cons_append, List.nil_append, List.length_append, List.length_cons, List.length_nil, Nat.zero_add] at ih
  exact ih
theorem De {s : Sender} (h : s.Out.length ≤ 100000) : iP s = some (s.Out.map unfly) := by
 unfold iP
 have := yq s s.Out [] big (by simp) h (fo (by omega))
 simp only [List.nil_append, List.length_nil, Int.ofNat_zero, Int.natCast_zero] at this
 rw [this]; rfl

theorem lost_e {s : Sender} (h : Fit s) : gI s = some (if Valid s then (if s.Phase = 2 then ({ s with Out := s.Out.map unfly }, 0) else (Sender.z, 20)) else (Sender.z, 8)) := by
 unfold gI
 rw [s7 h]
 by_cases hv : Valid s
 ·
  simp only [if_pos hv, if_true]
  by_cases hp : s.Phase = 2
  ·
   simp only [if_pos hp, aE]
   rw [show ((0 : Int) != 0) = false from rfl, cond_false, De h.1]; rfl
  ·
   simp only [if_neg hp]; rfl
 ·
  simp only [if_neg hv]; rfl

theorem barred_e {s : Sender} (h : Fit s) : eP s = some (if Valid s then (if s.Phase = 2 then (if s.Bar = true then ({ s with Bar := false }, 0) else (Sender.z, 20)) else (Sender.z, 20)) else (Sender.z, 8)) := by
 unfold eP
 rw [s7 h]
 by_cases hv : Valid s
 ·
  simp only [if_pos hv, if_true]
  by_cases hp : s.Phase = 2
  ·
   simp only [if_pos hp, aE]
   cases hb : s.Bar <;> simp [hb]
  ·
   simp only [if_neg hp]; rfl
 ·
  simp only [if_neg hv]; rfl
end Go.AX.Z.TN.S

/-! (TNV) -/

set_option linter.unusedVariables false
set_option linter.unusedSimpArgs false
namespace Go.AX.Z.TN.S
open Go.AX

/-! ## Removing -/

def okW (w : aW) : Prop := 0 ≤ w.Start ∧ w.Start < 4096
instance (w : aW) : Decidable (okW w) := by unfold okW; infer_instance
theorem oG (w : aW) : eO w = some (if okW w then 0 else 8) := by
 unfold eO en
 by_cases h : okW w
 ·
  have e : (decide (0 ≤ w.Start) && decide (w.Start < 4096)) = true := by simpa using (show 0 ≤ w.Start ∧ w.Start < 4096 from h)
  rw [aE, e, if_pos h]; rfl
 ·
  have e : (decide (0 ≤ w.Start) && decide (w.Start < 4096)) = false := by
   simp only [Bool.and_eq_false_iff, decide_eq_false_iff_not]; unfold okW at h; omega
  rw [aE, e, if_neg h]; rfl

def hasB (w : aW) (n : Int) : Bool :=
 decide (okW w ∧ 0 ≤ n ∧ n < 4096 ∧ aP w.Start n < 64) && (vX .u64 (w.Bits.fdiv (2 ^ (min (aP w.Start n).toNat 64))) 1 == 1)
theorem Ie (w : aW) (n : Int) : lg w n = some (hasB w n) := by
 unfold lg fh
 rw [oG, aE]
 by_cases h : okW w
 ·
  rw [if_pos h]
  unfold en
  by_cases hn : 0 ≤ n ∧ n < 4096
  ·
   have e : (decide (0 ≤ n) && decide (n < 4096)) = true := by simpa using hn
   rw [show ((0 : Int) != 0) = false from rfl, cond_false, aE, e]
   simp only [Bool.not_true, cond_false, aE]
   rw [show ((0 : Int) != 0) = false from rfl, cond_false, iL, aE]
   unfold hasB
   by_cases hd : aP w.Start n < 64
   ·
    have := (fL w.Start n).1
    rw [decide_eq_true hd, cond_true, fI (by omega), aE, aE, decide_eq_true ⟨h, hn.1, hn.2, hd⟩, Bool.true_and]
   ·
    rw [decide_eq_false hd, cond_false, aE, decide_eq_false (fun q => hd q.2.2.2), Bool.false_and]
  ·
   have e : (decide (0 ≤ n) && decide (n < 4096)) = false := by
    simp only [Bool.and_eq_false_iff, decide_eq_false_iff_not]; omega
   rw [show ((0 : Int) != 0) = false from rfl, cond_false, aE, e]
   unfold hasB
   rw [decide_eq_false (fun q => hn ⟨q.2.1, q.2.2.1⟩)]; rfl
 ·
  rw [if_neg h]
  unfold hasB
  rw [decide_eq_false (fun q => h q.1)]; rfl

def pA (w : aW) (x : ax) : Bool := decide (0 < x.Tries) && hasB w x.Frame.Head.Seq
theorem Di (x : ax) (w : aW) : gK x w = some (pA w x) := by
 unfold gK pA
 cases h : decide (0 < x.Tries)
 ·
  rfl
 ·
  rw [cond_true, Ie]; rfl
theorem GY (x : ax) (w : aW) (l : List Int) (h : l.length ≤ 100000) : eH x w l = some (pA w x, if pA w x = true then l ++ [x.Frame.Head.Seq] else l) := by
 unfold eH
 rw [Di, aE]
 cases pA w x
 ·
  rfl
 ·
  rw [cond_true, fI (by omega), aE]; rfl

/-- Where the first element is that p holds of. -/
def ff (p : ax → Bool) : Nat → List ax → Option (Nat × ax)
 | _, [] => none
 | i, x :: l => if p x = true then some (i, x) else ff p (i + 1) l

theorem yT {p : ax → Bool} : ∀ {l : List ax} {i : Nat}, ff p i l = none → l.filter (fun x => !p x) = l ∧ l.filter p = []
 | [], _, _ => ⟨rfl, rfl⟩
 | x :: l, i, h => by
  unfold ff at h
  by_cases hx : p x = true
  ·
   rw [if_pos hx] at h; cases h
  ·
   rw [if_neg hx] at h
   obtain ⟨h1, h2⟩ := yT h
   rw [Bool.not_eq_true] at hx
   simp [hx, h1, h2]
theorem yL {p : ax → Bool} : ∀ {l : List ax} {i j : Nat} {x : ax}, ff p i l = some (j, x) → ∃ a b, l = a ++ x :: b ∧ j = i + a.length ∧ p x = true ∧ ∀ y ∈ a, p y = false
 | [], i, j, x, h => by simp [ff] at h
 | y :: l, i, j, x, h => by
  unfold ff at h
  by_cases hx : p y = true
  ·
   rw [if_pos hx] at h; cases h; exact ⟨[], l, rfl, rfl, hx, by simp⟩
  ·
   rw [if_neg hx] at h
   obtain ⟨a, b, rfl, rfl, h3, h4⟩ := yL h
   rw [Bool.not_eq_true] at hx
   exact ⟨y :: a, b, rfl, by simp; omega, h3, by intro z hz; rcases List.mem_cons.1 hz with rfl | hz; exact hx; exact h4 z hz⟩

theorem vZ (L : List ax) (w : aW) (hL : L.length ≤ 100000) : ∀ (l : List ax) (i n : Nat), L.drop i = l → l.length < n →
  bf L w n ([], (i : Int)) = some (match ff (pA w) i l with | some (j, x) => Ex.ret ((j : Int), [x.Frame.Head.Seq]) | none => Ex.go [])
 | [], i, n + 1, h, hn => by
  rw [bf, iK (kv h)]; rfl
 | x :: l, i, n + 1, h, hn => by
  obtain ⟨h1, h2, h3⟩ := kA h
  rw [bf, iG h3]
  have ih := vZ L w hL l (i + 1) n h2 (by simpa using hn)
  simp only [cond_true, l5, h1, aE]
  rw [GY x w [] (by simp), aE]
  unfold ff
  cases hx : pA w x
  ·
   simp only [cond_false, Bool.false_eq_true, if_false, gw (show i < _ by omega)]; exact ih
  ·
   simp only [cond_true, if_true, List.nil_append]

theorem uU (w : aW) : ∀ (l cur : List ax) (nums : List Int) (i j n : Nat), cur.drop j = l → i ≤ j → j ≤ cur.length → cur.length ≤ 50000 → nums.length ≤ j → l.length < n →
  ∃ cur' i', ba w n (cur, nums, (i : Int), (j : Int)) = some (cur', ((i' : Nat) : Int), nums ++ seqs (l.filter (pA w))) ∧ cur'.length = cur.length ∧ i' ≤ cur.length ∧ cur'.take i' = cur.take i ++ l.filter (fun x => !pA w x)
 | [], cur, nums, i, j, n + 1, h, hij, hj, hc, hm, hn => by
  refine ⟨cur, i, ?_, rfl, by omega, by simp⟩
  rw [ba, iK (kv h)]
  simp [seqs]
 | x :: l, cur, nums, i, j, n + 1, h, hij, hj, hc, hm, hn => by
  obtain ⟨h1, h2, h3⟩ := kA h
  simp only [List.length_cons] at hn
  have hi : i < cur.length := by omega
  rw [ba, iG h3]
  simp only [cond_true, l5, h1, aE]
  rw [GY x w nums (by omega), aE]
  cases hx : pA w x
  ·
   simp only [Bool.not_false, cond_true, Bool.false_eq_true, if_false]
   have hg : cur[i]? = some cur[i] := by simp [hi]
   rw [hg, aE, gw (by omega), gw (by omega), show (i : Int).toNat = i by omega]
   have hd : (cur.set i x).drop (j + 1) = l := by rw [tW x (by omega)]; exact h2
   obtain ⟨cur', i', e1, e2, e3, e4⟩ := uU w l (cur.set i x) nums (i + 1) (j + 1) n hd (by omega) (by simp; omega) (by simpa using hc) (by omega) (by omega)
   refine ⟨cur', i', ?_, by simpa using e2, by simpa using e3, ?_⟩
   ·
    rw [e1]; simp [hx]
   ·
    rw [e4, qt x hi]; simp [hx]
  ·
   simp only [Bool.not_true, cond_false, if_true]
   rw [gw (by omega)]
   obtain ⟨cur', i', e1, e2, e3, e4⟩ := uU w l cur (nums ++ [x.Frame.Head.Seq]) i (j + 1) n h2 (by omega) (by omega) hc (by simp; omega) (by omega)
   refine ⟨cur', i', ?_, e2, e3, ?_⟩
   ·
    rw [e1]; simp [hx, seqs]
   ·
    rw [e4]; simp [hx]

theorem uZ {p : ax → Bool} {a : List ax} (h : ∀ y ∈ a, p y = false) : a.filter p = [] ∧ a.filter (fun x => !p x) = a :=
 ⟨List.filter_eq_nil_iff.2 fun y hy => by simp [h y hy], List.filter_eq_self.2 fun y hy => by simp [h y hy]⟩

theorem Ep (w : aW) (L : List ax) (hL : L.length ≤ 50000) : bM w L = some (L.filter (fun x => !pA w x), seqs (L.filter (pA w))) := by
 unfold bM cf
 have := vZ L w (by omega) L 0 big rfl (fo (by omega))
 simp only [Int.ofNat_zero, Int.natCast_zero] at this
 rw [this, aE]
 cases hf : ff (pA w) 0 L with
 | none =>
  obtain ⟨h1, h2⟩ := yT hf
  rw [h1, h2]
  rfl
 | some q =>
  obtain ⟨j, x⟩ := q
  obtain ⟨a, b, h1, h2, h3, h4⟩ := yL hf
  rw [Nat.zero_add] at h2
  subst h2
  obtain ⟨f1, f2⟩ := uZ h4
  simp only [Ex.k_ret', aE]
  have hne : (((a.length : Nat) : Int) == -1) = false := by
   simp
  rw [hne, cond_false]
  have hlen : L.length = a.length + (b.length + 1) := by rw [h1]; simp
  rw [gw (by omega)]
  have hd : L.drop (a.length + 1) = b := by rw [h1]; simp
  obtain ⟨cur', i', e1, e2, e3, e4⟩ := uU w b L [x.Frame.Head.Seq] a.length (a.length + 1) big hd (by omega) (by omega) hL (by simp) (fo (by omega))
  rw [e1, aE]
  have hc : chk (decide (0 ≤ ((i' : Nat) : Int)) && decide (((i' : Nat) : Int) ≤ (cur'.length : Int))) = some () := wG (by simp; omega)
  simp only [hc, aE, show ((i' : Nat) : Int).toNat = i' by omega]
  rw [e4, h1]
  simp [f1, f2, h3, seqs]

theorem Es (s : Sender) (w : aW) (h : s.Out.length ≤ 50000) : fZ s w = some (seqs (s.Out.filter (pA w)), s.Out.filter (fun x => !pA w x)) := by
 unfold fZ
 rw [Ep w s.Out h]; rfl

def ackS (s : Sender) (w : aW) : Sender := { s with Out := (s.Out.filter (fun x => !pA w x)).map unfly }
theorem acked_e {s : Sender} (h : Fit s) (hl : s.Out.length ≤ 50000) (w : aW) : fK s w = some (if Valid s then (if okW w then (if s.Phase = 2 then (seqs (s.Out.filter (pA w)), ackS s w, 0) else ([], Sender.z, 20)) else ([], Sender.z, 2)) else ([], Sender.z, 8)) := by
 unfold fK
 rw [oG, aE, s7 h]
 by_cases hv : Valid s
 ·
  simp only [if_pos hv]
  by_cases hw : okW w
  ·
   simp only [if_pos hw]
   by_cases hp : s.Phase = 2
   ·
    rw [show ((0 : Int) == 0) = true from rfl]
    simp only [if_pos hp, if_true, aE]
    rw [show ((0 : Int) != 0) = false from rfl, cond_false, Es s w hl, aE, De (by have := List.length_filter_le (fun x => !pA w x) s.Out; simp only; omega)]
    rfl
   ·
    simp only [if_neg hp]; rfl
  ·
   simp only [if_neg hw]; rfl
 ·
  simp only [if_neg hv]; rfl

/-! Expire -/

def pX (lim life now : Int) (x : ax) : Bool := (!x.Flying) && ((x.Tries == lim) || (decide ((IntKind.wrap .i64 (x.At + life)) ≤ now)))
theorem Dd (x : ax) (s : Sender) (t : Int) (l : List Int) (h : l.length ≤ 100000) : eF x s t l = some (pX s.Limit s.Life t x, if pX s.Limit s.Life t x = true then l ++ [x.Frame.Head.Seq] else l) := by
 unfold eF iD
 rw [aE]
 show (bif pX s.Limit s.Life t x then _ else _) = _
 cases hx : pX s.Limit s.Life t x
 ·
  simp only [cond_false, Bool.false_eq_true, if_false]; rw [show ((!x.Flying) && ((x.Tries == s.Limit) || (decide ((IntKind.wrap .i64 (x.At + s.Life)) ≤ t)))) = false from hx]
 ·
  rw [cond_true, fI (by omega), aE]; rw [show ((!x.Flying) && ((x.Tries == s.Limit) || (decide ((IntKind.wrap .i64 (x.At + s.Life)) ≤ t)))) = true from hx]; rfl

theorem tV (s : Sender) (t : Int) (hL : s.Out.length ≤ 100000) : ∀ (l : List ax) (i n : Nat), s.Out.drop i = l → l.length < n →
  bh s t n ([], (i : Int)) = some (match ff (pX s.Limit s.Life t) i l with | some (j, x) => Ex.ret ((j : Int), [x.Frame.Head.Seq]) | none => Ex.go [])
 | [], i, n + 1, h, hn => by
  rw [bh, iK (kv h)]; rfl
 | x :: l, i, n + 1, h, hn => by
  obtain ⟨h1, h2, h3⟩ := kA h
  rw [bh, iG h3]
  have ih := tV s t hL l (i + 1) n h2 (by simpa using hn)
  simp only [cond_true, l5, h1, aE]
  rw [Dd x s t [] (by simp), aE]
  unfold ff
  cases hx : pX s.Limit s.Life t x
  ·
   simp only [cond_false, Bool.false_eq_true, if_false, gw (show i < _ by omega)]; exact ih
  ·
   simp only [cond_true, if_true, List.nil_append]

theorem sM (t lim life : Int) : ∀ (l cur : List ax) (S : Sender) (nums : List Int) (i j n : Nat), S.Limit = lim → S.Life = life → cur.drop j = l → i ≤ j → j ≤ cur.length → cur.length ≤ 50000 → nums.length ≤ j → l.length < n →
  ∃ cur' i' o, bc t n (cur, S, nums, (i : Int), (j : Int)) = some (cur', ((i' : Nat) : Int), { S with Out := o }, nums ++ seqs (l.filter (pX lim life t))) ∧ cur'.length = cur.length ∧ i' ≤ cur.length ∧ cur'.take i' = cur.take i ++ l.filter (fun x => !pX lim life t x)
 | [], cur, S, nums, i, j, n + 1, e1, e2, h, hij, hj, hc, hm, hn => by
  refine ⟨cur, i, S.Out, ?_, rfl, by omega, by simp⟩
  rw [bc, iK (kv h)]
  simp [seqs]
 | x :: l, cur, S, nums, i, j, n + 1, q1, q2, h, hij, hj, hc, hm, hn => by
  obtain ⟨h1, h2, h3⟩ := kA h
  simp only [List.length_cons] at hn
  have hi : i < cur.length := by omega
  rw [bc, iG h3]
  simp only [cond_true, l5, h1, aE]
  rw [Dd x { S with Out := cur } t nums (by omega), aE]
  subst q1; subst q2
  cases hx : pX S.Limit S.Life t x
  ·
   simp only [Bool.not_false, cond_true, Bool.false_eq_true, if_false]
   have hg : cur[i]? = some cur[i] := by simp [hi]
   rw [hg, aE, gw (by omega), gw (by omega), show (i : Int).toNat = i by omega]
   have hd : (cur.set i x).drop (j + 1) = l := by rw [tW x (by omega)]; exact h2
   obtain ⟨cur', i', o, e1, e2, e3, e4⟩ := sM t S.Limit S.Life l (cur.set i x) { S with Out := cur } nums (i + 1) (j + 1) n rfl rfl hd (by omega) (by simp; omega) (by simpa using hc) (by omega) (by omega)
   refine ⟨cur', i', o, ?_, by simpa using e2, by simpa using e3, ?_⟩
   ·
    rw [e1]; simp [hx]
   ·
    rw [e4, qt x hi]; simp [hx]
  ·
   simp only [Bool.not_true, cond_false, if_true]
   rw [gw (by omega)]
   obtain ⟨cur', i', o, e1, e2, e3, e4⟩ := sM t S.Limit S.Life l cur { S with Out := cur } (nums ++ [x.Frame.Head.Seq]) i (j + 1) n rfl rfl h2 (by omega) (by omega) hc (by simp; omega) (by omega)
   refine ⟨cur', i', o, ?_, e2, e3, ?_⟩
   ·
    rw [e1]; simp [hx, seqs]
   ·
    rw [e4]; simp [hx]

theorem CF (s : Sender) (t : Int) (hL : s.Out.length ≤ 50000) : ∃ o, bT s t = some (s.Out.filter (fun x => !pX s.Limit s.Life t x), { s with Out := o }, seqs (s.Out.filter (pX s.Limit s.Life t))) := by
 unfold bT cp
 have := tV s t (by omega) s.Out 0 big rfl (fo (by omega))
 simp only [Int.ofNat_zero, Int.natCast_zero] at this
 rw [this, aE]
 cases hf : ff (pX s.Limit s.Life t) 0 s.Out with
 | none =>
  obtain ⟨h1, h2⟩ := yT hf
  refine ⟨s.Out, ?_⟩
  rw [h1, h2]
  rfl
 | some q =>
  obtain ⟨j, x⟩ := q
  obtain ⟨a, b, h1, h2, h3, h4⟩ := yL hf
  rw [Nat.zero_add] at h2
  subst h2
  obtain ⟨f1, f2⟩ := uZ h4
  simp only [Ex.k_ret', aE]
  have hne : (((a.length : Nat) : Int) == -1) = false := by
   simp
  rw [hne, cond_false]
  have hlen : s.Out.length = a.length + (b.length + 1) := by rw [h1]; simp
  rw [gw (by omega)]
  have hd : s.Out.drop (a.length + 1) = b := by rw [h1]; simp
  obtain ⟨cur', i', o, e1, e2, e3, e4⟩ := sM t s.Limit s.Life b s.Out s [x.Frame.Head.Seq] a.length (a.length + 1) big rfl rfl hd (by omega) (by omega) hL (by simp) (fo (by omega))
  refine ⟨o, ?_⟩
  rw [e1, aE]
  have hc : chk (decide (0 ≤ ((i' : Nat) : Int)) && decide (((i' : Nat) : Int) ≤ (cur'.length : Int))) = some () := wG (by simp; omega)
  simp only [hc, aE, show ((i' : Nat) : Int).toNat = i' by omega]
  have hta : s.Out.take a.length = a := by rw [h1]; simp
  rw [e4, hta]
  have g1 : s.Out.filter (fun x => !pX s.Limit s.Life t x) = a ++ b.filter (fun x => !pX s.Limit s.Life t x) := by
   conv => lhs; rw [h1]
   simp [f2, h3]
  have g2 : seqs (s.Out.filter (pX s.Limit s.Life t)) = [x.Frame.Head.Seq] ++ seqs (b.filter (pX s.Limit s.Life t)) := by
   conv => lhs; rw [h1]
   simp [f1, h3, seqs]
  rw [g1, g2]

def expN (s : Sender) (t : Int) : List Int := seqs (s.Out.filter (pX s.Limit s.Life t))
def expS (s : Sender) (t : Int) : Sender := { s with Bar := (s.Bar || (decide (0 < (((expN s t).length : Nat) : Int)))), Out := s.Out.filter (fun x => !pX s.Limit s.Life t x) }
theorem expire_e {s : Sender} (h : Fit s) (hl : s.Out.length ≤ 50000) (t : Int) : fu s t = some (if Valid s then (if 0 ≤ t ∧ t ≤ 1099511627776 then (if s.Phase = 2 then (expN s t, expS s t, 0) else ([], Sender.z, 20)) else ([], Sender.z, 2)) else ([], Sender.z, 8)) := by
 unfold fu
 simp only [bP, aE]
 rw [s7 h]
 by_cases hv : Valid s
 ·
  simp only [if_pos hv]
  by_cases hn : 0 ≤ t ∧ t ≤ 1099511627776
  ·
   have e1 : (decide (0 ≤ t) && decide (t ≤ 1099511627776)) = true := by simp [hn]
   simp only [e1, if_true, if_pos hn]
   by_cases hp : s.Phase = 2
   ·
    simp only [if_pos hp, aE]
    obtain ⟨o, ho⟩ := CF s t hl
    unfold jV
    rw [show ((0 : Int) != 0) = false from rfl, cond_false, ho]; rfl
   ·
    simp only [if_neg hp]; rfl
  ·
   have e1 : (decide (0 ≤ t) && decide (t ≤ 1099511627776)) = false := by
    simp only [Bool.and_eq_false_iff, decide_eq_false_iff_not]; omega
   simp only [e1, if_neg hn]; rfl
 ·
  simp only [if_neg hv]; rfl
end Go.AX.Z.TN.S

/-! (TNA) -/

set_option linter.unusedVariables false
set_option linter.unusedSimpArgs false
namespace Go.AX.Z.TN.R
open Go.AX

def OkE (st sz last : Int) (h : az) : Prop := (0 ≤ h.n ∧ h.n < 4096) ∧ (0 ≤ h.At ∧ h.At ≤ 1099511627776) ∧ last < aP st h.n ∧ aP st h.n < sz
instance (st sz last : Int) (h : az) : Decidable (OkE st sz last h) := by unfold OkE; infer_instance
def OkL (st sz : Int) : Int → List az → Prop
 | _, [] => True
 | last, h :: l => OkE st sz last h ∧ OkL st sz (aP st h.n) l
def D6 (st sz : Int) : (last : Int) → (l : List az) → Decidable (OkL st sz last l)
 | _, [] => .isTrue trivial
 | last, h :: l => by
  have := D6 st sz (aP st h.n) l
  unfold OkL; infer_instance
instance (st sz last : Int) (l : List az) : Decidable (OkL st sz last l) := D6 st sz last l
def nm (b : Reorder) : Prop := (0 ≤ b.Start ∧ b.Start < 4096) ∧ 1 ≤ b.Size ∧ b.Size ≤ 64 ∧ 0 ≤ b.Hold ∧ b.Hold ≤ 16777216 ∧ (0 ≤ b.Seen.Start ∧ b.Seen.Start < 4096)
instance (b : Reorder) : Decidable (nm b) := by unfold nm; infer_instance
def VR (b : Reorder) : Prop := nm b ∧ OkL b.Start b.Size 0 b.Held
instance (b : Reorder) : Decidable (VR b) := by unfold VR; infer_instance

theorem lF (b : Reorder) (hs : b.Held.length < 4611686018427387904) : ∀ (l : List az) (i n : Nat) (last : Int), b.Held.drop i = l → l.length < n →
  cW b n (last, (i : Int)) = some (if OkL b.Start b.Size last l then Ex.go () else Ex.ret 8)
 | [], i, n + 1, last, h, hn => by
  rw [cW, iK (kv h)]
  simp [OkL]
 | x :: l, i, n + 1, last, h, hn => by
  obtain ⟨h1, h2, h3⟩ := kA h
  simp only [List.length_cons] at hn
  rw [cW, iG h3]
  simp only [cond_true, l5, h1, aE, iL, dp, ez]
  have key : ((bif !(decide (0 ≤ x.n) && decide (x.n < 4096)) then some true else some (!(decide (0 ≤ x.At) && decide (x.At ≤ 1099511627776)))).bind fun x25 =>
    bif ((x25 || decide (aP b.Start x.n ≤ last)) || decide (b.Size ≤ aP b.Start x.n)) then some (Ex.ret 8) else cW b n (aP b.Start x.n, IntKind.wrap .i64 ((i : Int) + 1))) =
    if OkE b.Start b.Size last x then cW b n (aP b.Start x.n, IntKind.wrap .i64 ((i : Int) + 1)) else some (Ex.ret 8) := by
   by_cases ho : OkE b.Start b.Size last x
   ·
    rw [if_pos ho]
    obtain ⟨⟨a1, a2⟩, ⟨a3, a4⟩, a5, a6⟩ := ho
    rw [decide_eq_true a1, decide_eq_true a2, decide_eq_true a3, decide_eq_true a4, decide_eq_false (by omega), decide_eq_false (by omega)]; rfl
   ·
    rw [if_neg ho]
    by_cases h1 : 0 ≤ x.n ∧ x.n < 4096
    ·
     rw [show (!(decide (0 ≤ x.n) && decide (x.n < 4096))) = false by simp; omega, cond_false, aE]
     have : ((!(decide (0 ≤ x.At) && decide (x.At ≤ 1099511627776)) || decide (aP b.Start x.n ≤ last)) || decide (b.Size ≤ aP b.Start x.n)) = true := by
      simp only [Bool.or_eq_true, Bool.not_eq_true', Bool.and_eq_false_iff, decide_eq_true_eq, decide_eq_false_iff_not]
      unfold OkE at ho
      omega
     rw [this, cond_true]
    ·
     rw [show (!(decide (0 ≤ x.n) && decide (x.n < 4096))) = true by simp; omega, cond_true, aE]; rfl
  refine key.trans ?_
  by_cases ho : OkE b.Start b.Size last x
  ·
   rw [if_pos ho, gw (by omega), lF b hs l (i + 1) n _ h2 (by omega)]
   congr 1
   simp only [OkL, ho, true_and]
  ·
   rw [if_neg ho, if_neg (fun q => ho q.1)]

theorem check_e (b : Reorder) (hs : b.Held.length < 4611686018427387904) : ei b = some (if VR b then 0 else 8) := by
 unfold ei eO en dp
 rw [aE, aE]
 have hl := lF b hs b.Held 0 big 0 rfl (fo hs)
 simp only [Int.natCast_zero] at hl
 by_cases h : nm b
 ·
  obtain ⟨⟨a1, a2⟩, a3, a4, a5, a6, a7, a8⟩ := h
  rw [decide_eq_true a1, decide_eq_true a2, decide_eq_false (by omega), decide_eq_false (by omega), decide_eq_false (by omega), decide_eq_false (by omega), decide_eq_true a7, decide_eq_true a8]
  simp only [Bool.and_self, Bool.not_true, Bool.or_self, cond_false, aE]
  rw [show ((0 : Int) != 0) = false from rfl, cond_false, hl, aE]
  by_cases ho : OkL b.Start b.Size 0 b.Held
  ·
   rw [if_pos ho, if_pos ⟨⟨⟨a1, a2⟩, a3, a4, a5, a6, a7, a8⟩, ho⟩]; rfl
  ·
   rw [if_neg ho, if_neg (fun q => ho q.2)]; rfl
 ·
  rw [if_neg (fun q => h q.1)]
  by_cases h1 : (((((!(decide (0 ≤ b.Start) && decide (b.Start < 4096))) || decide (b.Size < 1)) || decide (64 < b.Size)) || decide (b.Hold < 0)) || decide (16777216 < b.Hold)) = true
  ·
   rw [h1, cond_true, aE]; rfl
  ·
   rw [Bool.not_eq_true] at h1
   rw [h1, cond_false]
   simp only [Bool.or_eq_false_iff, Bool.not_eq_false', Bool.and_eq_true, decide_eq_true_eq, decide_eq_false_iff_not] at h1
   have : (decide (0 ≤ b.Seen.Start) && decide (b.Seen.Start < 4096)) = false := by
    simp only [Bool.and_eq_false_iff, decide_eq_false_iff_not]
    unfold nm at h
    omega
   rw [this]; rfl

/-! ## Copies, comparisons -/

def Fit (l : List az) : Prop := l.length ≤ 1000 ∧ ∀ x ∈ l, x.Frame.Body.length ≤ 2400

theorem mS (L : List az) (hs : L.length ≤ 1000) : ∀ (l acc : List az) (i n : Nat), L.drop i = l → l.length < n → (∀ x ∈ l, x.Frame.Body.length ≤ 2400) → acc.length + l.length ≤ 1000 →
  dU L n (acc, (i : Int)) = some (acc ++ l)
 | [], acc, i, n + 1, h, hn, hb, ha => by
  rw [dU, iK (kv h)]; simp
 | x :: l, acc, i, n + 1, h, hn, hb, ha => by
  obtain ⟨h1, h2, h3⟩ := kA h
  simp only [List.length_cons] at ha hn
  have hx := hb x (by simp)
  rw [dU, iG h3]
  simp only [cond_true, l5, h1, aE, dT]
  rw [fI (by omega), aE, aE, fI (by omega), aE, gw (by omega), mS L hs l _ (i + 1) n h2 (by omega) (fun y hy => hb y (by simp [hy])) (by simp; omega)]
  simp
theorem oD (l : List az) (h : Fit l) : eN l = some l := by
 unfold eN
 have := mS l h.1 l [] 0 big rfl (fo (by have := h.1; omega)) h.2 (by simpa using h.1)
 simp only [Int.natCast_zero, List.nil_append] at this
 rw [this, aE]
end Go.AX.Z.TN.R

/-! (TNB) -/

set_option linter.unusedVariables false
set_option linter.unusedSimpArgs false
namespace Go.AX.Z.TN.R
open Go.AX

def iX (S : Int) (l : List az) : Prop := l.Pairwise (fun x y => aP S x.n < aP S y.n) ∧ ∀ x ∈ l, 0 ≤ x.n ∧ x.n < 4096
theorem Eb {st sz : Int} : ∀ {l : List az} {last : Int}, OkL st sz last l → iX st l ∧ ∀ x ∈ l, last < aP st x.n ∧ aP st x.n < sz ∧ 0 ≤ x.At ∧ x.At ≤ 1099511627776
 | [], last, _ => ⟨⟨.nil, by simp⟩, by simp⟩
 | h :: l, last, ho => by
  obtain ⟨⟨a1, a2, a3, a4⟩, h2⟩ := ho
  obtain ⟨⟨i1, i2⟩, i3⟩ := Eb h2
  refine ⟨⟨List.pairwise_cons.2 ⟨fun y hy => (i3 y hy).1, i1⟩, fun x hx => ?_⟩, fun x hx => ?_⟩
  ·
   rcases List.mem_cons.1 hx with rfl | hx
   ·
    exact a1
   ·
    exact i2 x hx
  ·
   rcases List.mem_cons.1 hx with rfl | hx
   ·
    exact ⟨a3, a4, a2⟩
   ·
    have := i3 x hx; exact ⟨by omega, this.2⟩
theorem iX.tail {S : Int} {h : az} {l : List az} (hs : iX S (h :: l)) : iX S l := ⟨(List.pairwise_cons.1 hs.1).2, fun x hx => hs.2 x (by simp [hx])⟩
theorem iX.drop {S : Int} {l : List az} (hs : iX S l) (i : Nat) : iX S (l.drop i) := ⟨hs.1.sublist (List.drop_sublist _ _), fun x hx => hs.2 x (List.mem_of_mem_drop hx)⟩
theorem iX.idx {S : Int} {l : List az} (hs : iX S l) {i j : Nat} {x y : az} (hij : i < j) (hx : l[i]? = some x) (hy : l[j]? = some y) : aP S x.n < aP S y.n := by
 obtain ⟨h1, e1⟩ := List.getElem?_eq_some_iff.1 hx
 obtain ⟨h2, e2⟩ := List.getElem?_eq_some_iff.1 hy
 have := List.pairwise_iff_getElem.1 hs.1 i j h1 h2 hij
 rw [e1, e2] at this; exact this

theorem Gg {S n m : Int} (hn : 0 ≤ n ∧ n < 4096) (hm : 0 ≤ m ∧ m < 4096) : n = (S + m) % 4096 ↔ aP S n = m := by
 unfold aP; omega

def Cut (S t : Int) (l : List az) (i : Nat) : Prop := i ≤ l.length ∧ (∀ k x, k < i → l[k]? = some x → aP S x.n < t) ∧ (∀ k x, i ≤ k → l[k]? = some x → t ≤ aP S x.n)

theorem zh (b : Reorder) (L : List az) (hL : L.length ≤ 1000) (t : Int) (ht : 0 ≤ t ∧ t < 4096) (hs : iX b.Start L) : ∀ (m i j n : Nat), j - i ≤ m → i ≤ j → j ≤ L.length → m < n → (∀ k x, k < i → L[k]? = some x → aP b.Start x.n < t) → (∀ k x, j ≤ k → L[k]? = some x → t ≤ aP b.Start x.n) →
  ∃ r : Nat, aR L t b n ((i : Int), (j : Int)) = some (r : Int) ∧ Cut b.Start t L r
 | 0, i, j, n + 1, hm, hij, hj, hn, h1, h2 => by
  have e : i = j := by omega
  subst e
  rw [aR, decide_eq_false (by simp), cond_false]
  exact ⟨i, rfl, hj, h1, h2⟩
 | m + 1, i, j, n + 1, hm, hij, hj, hn, h1, h2 => by
  rw [aR]
  by_cases hlt : i < j
  ·
   have ehe : IntKind.wrap .i64 ((IntKind.wrap .u64 (IntKind.wrap .i64 ((i : Int) + (j : Int)))).fdiv (2 ^ (min 1 64))) = (((i + j) / 2 : Nat) : Int) := by
    rw [jm (i := (i : Int) + (j : Int)) (by omega) (by omega)]
    have : IntKind.wrap .u64 ((i : Int) + (j : Int)) = (i : Int) + (j : Int) := by
     rw [nX]; omega
    rw [this, show ((2 : Int) ^ (min 1 64)) = 2 from rfl, Int.fdiv_eq_ediv_of_nonneg _ (by decide), jm (by omega) (by omega)]; omega
   have hh : (i + j) / 2 < L.length := by omega
   obtain ⟨x, hx⟩ : ∃ x, L[(i + j) / 2]? = some x := ⟨_, List.getElem?_eq_getElem hh⟩
   have hd := fL b.Start x.Frame.Head.Seq
   rw [decide_eq_true (by simp; omega), cond_true]
   simp only [ehe]
   rw [l5, hx, aE]
   unfold fb
   rw [iL, aE, aE, jm (by omega) (by omega)]
   by_cases hxt : aP b.Start x.n < t
   ·
    rw [decide_eq_true (by show aP b.Start x.Frame.Head.Seq - t < 0; have : aP b.Start x.Frame.Head.Seq < t := hxt; omega), cond_true, gw (by omega)]
    refine zh b L hL t ht hs m ((i + j) / 2 + 1) j n (by omega) (by omega) hj (by omega) (fun k y hk hy => ?_) h2
    rcases Nat.lt_or_ge k ((i + j) / 2) with q | q
    ·
     have := hs.idx q hy hx; omega
    ·
     have : k = (i + j) / 2 := by omega
     subst this; rw [hx] at hy; cases hy; exact hxt
   ·
    rw [decide_eq_false (by show ¬ aP b.Start x.Frame.Head.Seq - t < 0; have : ¬ aP b.Start x.Frame.Head.Seq < t := hxt; omega), cond_false]
    refine zh b L hL t ht hs m i ((i + j) / 2) n (by omega) (by omega) (by omega) (by omega) h1 (fun k y hk hy => ?_)
    rcases Nat.lt_or_ge ((i + j) / 2) k with q | q
    ·
     have := hs.idx q hx hy; omega
    ·
     have : k = (i + j) / 2 := by omega
     subst this; rw [hx] at hy; cases hy; omega
  ·
   have e : i = j := by omega
   subst e
   rw [decide_eq_false (by simp), cond_false]
   exact ⟨i, rfl, hj, h1, h2⟩

theorem yC (b : Reorder) (hL : b.Held.length ≤ 1000) (hs : iX b.Start b.Held) (n : Int) : ∃ r : Nat, gl b n = some ((r : Int), decide (∃ x ∈ b.Held, aP b.Start x.n = aP b.Start n)) ∧ Cut b.Start (aP b.Start n) b.Held r := by
 unfold gl bN
 obtain ⟨r, e1, e2⟩ := zh b b.Held hL (aP b.Start n) (fL _ _) hs b.Held.length 0 b.Held.length big (by omega) (by omega) (Nat.le_refl _) (fo (by omega)) (fun k x hk => by omega) (fun k x hk hx => by have := (List.getElem?_eq_some_iff.1 hx).1; omega)
 simp only [Int.natCast_zero] at e1
 rw [iL, aE, e1, aE]
 refine ⟨r, ?_, e2⟩
 obtain ⟨c1, c2, c3⟩ := e2
 by_cases hr : r < b.Held.length
 ·
  obtain ⟨x, hx⟩ : ∃ x, b.Held[r]? = some x := ⟨_, List.getElem?_eq_getElem hr⟩
  have hd := fL b.Start x.Frame.Head.Seq
  have hd2 := fL b.Start n
  rw [iG hr, cond_true, l5, hx, aE]
  unfold fb
  rw [iL, aE, aE, jm (by omega) (by omega), aE]
  show some (_, _) = _
  congr 2
  rw [Bool.eq_iff_iff, decide_eq_true_eq, beq_iff_eq]
  constructor
  ·
   intro h
   exact ⟨x, List.mem_of_getElem? hx, by show aP b.Start x.Frame.Head.Seq = _; omega⟩
  ·
   rintro ⟨y, hy, h⟩
   obtain ⟨k, hk⟩ := List.mem_iff_getElem?.1 hy
   have hxr := c3 r x (Nat.le_refl _) hx
   rcases Nat.lt_trichotomy k r with q | q | q
   ·
    have := c2 k y q hk; omega
   ·
    subst q; rw [hx] at hk; cases hk
    show aP b.Start x.Frame.Head.Seq - _ = 0
    have : aP b.Start x.Frame.Head.Seq = aP b.Start n := h
    omega
   ·
    have := hs.idx q hx hk; omega
 ·
  rw [iK (by omega), cond_false, aE]
  show some (_, _) = _
  congr 2
  symm
  rw [decide_eq_false_iff_not]
  rintro ⟨y, hy, h⟩
  obtain ⟨k, hk⟩ := List.mem_iff_getElem?.1 hy
  have hkl := (List.getElem?_eq_some_iff.1 hk).1
  have := c2 k y (by omega) hk
  omega

def relF (S : Int) : Int → List az → Int × List Frame × List az
 | m, [] => (m, [], [])
 | m, h :: r => if aP S h.n = m then ((relF S (m + 1) r).1, h.Frame :: (relF S (m + 1) r).2.1, (relF S (m + 1) r).2.2) else (m, [], h :: r)

theorem Ab (S : Int) : ∀ (l : List az) (m : Int), (relF S m l).2.1.length + (relF S m l).2.2.length = l.length ∧ (relF S m l).1 = m + (relF S m l).2.1.length
 | [], m => by simp [relF]
 | h :: r, m => by
  unfold relF
  have := Ab S r (m + 1)
  split
  ·
   simp only [List.length_cons]; omega
  ·
   simp
theorem Kc (S : Int) : ∀ (l : List az) (m : Int) (n : Nat) (b : Reorder) (out : List Frame), iX S l → 0 ≤ m → (∀ x ∈ l, m ≤ aP S x.n) → b.Start = (S + m) % 4096 → l.length < n → out.length + l.length ≤ 1000 →
  dS n (b, l, out) = some ({ b with Start := (S + (relF S m l).1) % 4096 }, (relF S m l).2.2, out ++ (relF S m l).2.1)
 | [], m, n + 1, b, out, hs, h0, hm, hb, hn, ho => by
  rw [dS]
  simp only [List.length_nil, Int.natCast_zero, relF, List.append_nil]
  rw [decide_eq_false (by omega), cond_false, aE, cond_false, ← hb]
 | h :: r, m, n + 1, b, out, hs, h0, hm, hb, hn, ho => by
  have hd := fL S h.n
  have hh := hm h (by simp)
  have hr := hs.2 h (by simp)
  rw [dS]
  simp only [List.length_cons] at hn ho ⊢
  rw [decide_eq_true (by omega), cond_true, Kj, List.getElem?_cons_zero, aE, aE]
  have hiff : (h.Frame.Head.Seq == b.Start) = decide (aP S h.n = m) := by
   rw [Bool.eq_iff_iff, beq_iff_eq, decide_eq_true_eq, hb]
   exact Gg hr ⟨h0, by omega⟩
  rw [hiff]
  unfold relF
  by_cases he : aP S h.n = m
  ·
   rw [decide_eq_true he, cond_true, if_pos he, aE, fI (by omega), aE, z9, aE, fI (by omega), aE, List.drop_succ_cons, List.drop_zero]
   have hp := (List.pairwise_cons.1 hs.1).1
   rw [Kc S r (m + 1) n _ _ hs.tail (by omega) (fun y hy => by have := hp y hy; omega) (by simp only [hb]; omega) (by omega) (by simp; omega)]
   simp
  ·
   rw [decide_eq_false he, cond_false, if_neg he, ← hb]; simp

theorem KF (b : Reorder) (i : Nat) (hi : i ≤ b.Held.length) (hL : b.Held.length ≤ 1000) : ∀ (d k n : Nat) (out : List Frame), k + d = i → d < n → out.length ≤ k → dX b n (out, i, (i : Int), (k : Int)) = some (out ++ ((b.Held.take i).drop k).map (·.Frame))
 | 0, k, n + 1, out, hk, hn, ho => by
  rw [dX, decide_eq_false (by simp only; omega), cond_false, List.drop_of_length_le (by rw [List.length_take]; omega)]
  simp
 | d + 1, k, n + 1, out, hk, hn, ho => by
  obtain ⟨x, hx⟩ : ∃ x, b.Held[k]? = some x := ⟨_, List.getElem?_eq_getElem (by omega)⟩
  rw [dX, decide_eq_true (by simp only; omega), cond_true, wG (by simp only [decide_eq_true_eq] <;> omega), aE]
  simp only
  rw [l5, hx, aE, fI (by omega), aE, gw (by omega), KF b i hi hL d (k + 1) n _ (by omega) (by omega) (by simp; omega)]
  have : (b.Held.take i).drop k = x :: (b.Held.take i).drop (k + 1) := by
   have hlt : k < (b.Held.take i).length := by rw [List.length_take]; omega
   rw [List.drop_eq_getElem_cons hlt]
   congr 1
   have := (List.getElem?_eq_some_iff.1 hx).2
   rw [List.getElem_take, this]
  rw [this]; simp

def mv (S t : Int) (l : List az) (i : Nat) : Int × List Frame × List az := ((relF S t (l.drop i)).1, (l.take i).map (·.Frame) ++ (relF S t (l.drop i)).2.1, (relF S t (l.drop i)).2.2)

theorem wt {S t : Int} {l : List az} {i : Nat} (h : Cut S t l i) : ∀ x ∈ l.drop i, t ≤ aP S x.n := by
 intro x hx
 obtain ⟨k, hk⟩ := List.mem_iff_getElem?.1 hx
 rw [List.getElem?_drop] at hk
 exact h.2.2 (i + k) x (by omega) hk
theorem Ew {S t : Int} {l : List az} {i : Nat} (h : Cut S t l i) : ∀ x ∈ l.take i, aP S x.n < t := by
 intro x hx
 obtain ⟨k, hk⟩ := List.mem_iff_getElem?.1 hx
 rw [List.getElem?_take] at hk
 split at hk
 ·
  rename_i hki; exact h.2.1 k x hki hk
 ·
  cases hk

theorem y5 (b : Reorder) (hL : b.Held.length ≤ 1000) (hs : iX b.Start b.Held) (to : Int) (ht : 0 ≤ to ∧ to < 4096) : ∃ i : Nat, Cut b.Start (aP b.Start to) b.Held i ∧
  eK b to = some ((mv b.Start (aP b.Start to) b.Held i).2.1, { b with Start := (b.Start + (mv b.Start (aP b.Start to) b.Held i).1) % 4096 }, (mv b.Start (aP b.Start to) b.Held i).2.2) := by
 obtain ⟨i, e1, e2⟩ := yC b hL hs to
 refine ⟨i, e2, ?_⟩
 have hi := e2.1
 have hd := fL b.Start to
 unfold eK
 have h2 := KF b i hi hL i 0 big [] (by omega) (fo (by omega)) (by simp)
 simp only [Int.natCast_zero, List.nil_append, List.drop_zero] at h2
 simp only [e1, aE, Int.toNat_natCast]
 rw [wG (by simp; omega), aE, h2, aE, aE]
 have h5 := Kc b.Start (b.Held.drop i) (aP b.Start to) big { b with Start := to } ((b.Held.take i).map (·.Frame)) (hs.drop i) hd.1 (wt e2) (by simp only; unfold aP; omega) (fo (by simp; omega)) (by simp; omega)
 rw [h5, aE]; rfl


end Go.AX.Z.TN.R

/-! (TNC) -/

set_option linter.unusedVariables false
set_option linter.unusedSimpArgs false
namespace Go.AX.Z.TN.R
open Go.AX

theorem vG (n : Int) : dp n = some (decide (0 ≤ n ∧ n < 4096)) := by
 unfold dp; congr 1
 rw [Bool.eq_iff_iff]; simp
theorem AK (n : Int) : ez n = some (decide (0 ≤ n ∧ n ≤ 1099511627776)) := by
 unfold ez; congr 1
 rw [Bool.eq_iff_iff]; simp
theorem VR.sortd {b : Reorder} (h : VR b) : iX b.Start b.Held := (Eb h.2).1
theorem VR.held {b : Reorder} (h : VR b) : ∀ x ∈ b.Held, 0 < aP b.Start x.n ∧ aP b.Start x.n < b.Size ∧ 0 ≤ x.At ∧ x.At ≤ 1099511627776 := (Eb h.2).2

def due (hold now : Int) (x : az) : Bool := decide (x.At + hold ≤ now)
/-- The last one that is due. -/
def ld (hold now : Int) (l : List az) : Option az := (l.filter (due hold now)).getLast?
theorem LY {hold now : Int} {l : List az} {x : az} (h : ld hold now l = some x) : x ∈ l ∧ due hold now x = true := by
 have := List.mem_of_getLast? h
 exact List.mem_filter.1 this
theorem FI (hold now : Int) (l : List az) (x : az) : ld hold now (l ++ [x]) = if due hold now x = true then some x else ld hold now l := by
 unfold ld
 rw [List.filter_append, List.filter_cons, List.filter_nil]
 split
 ·
  simp
 ·
  simp
theorem KW (hold now : Int) (x : az) (l : List az) : ld hold now (x :: l) = match ld hold now l with | some y => some y | none => if due hold now x = true then some x else none := by
 unfold ld
 rw [List.filter_cons]
 split
 ·
  rename_i h
  cases hl : (l.filter (due hold now)).getLast? with
  | none =>
   have : l.filter (due hold now) = [] := List.getLast?_eq_none_iff.1 hl
   rw [this]; rfl
  | some y =>
   rw [List.getLast?_cons, hl]; rfl
 ·
  cases hl : (l.filter (due hold now)).getLast? with
  | none => rfl
  | some y => rfl

theorem Dy (b : Reorder) (now : Int) (hv : VR b) : ∀ c, c ≤ b.Held.length → cY b now b.Held c = match ld b.Hold now (b.Held.take c) with
  | some x => ((eU x.Frame.Head.Seq 1).bind fun y => ((eK { b with Held := b.Held } y).bind fun z => some (Ex.ret (z.1, { z.2.1 with Held := z.2.2 }, 0))))
  | none => some (Ex.go ())
 | 0, _ => by rw [cY, List.take_zero]; rfl
 | c + 1, hc => by
  have hlt : c < b.Held.length := by omega
  obtain ⟨x, hx⟩ : ∃ x, b.Held[c]? = some x := ⟨_, List.getElem?_eq_getElem hlt⟩
  have e : b.Held.take (c + 1) = b.Held.take c ++ [x] := by
   rw [List.take_add_one, hx]; rfl
  have hb := hv.held x (List.mem_of_getElem? hx)
  have hh := hv.1
  rw [cY, hx, aE, e, FI, jm (i := x.At + b.Hold) (by unfold nm at hh; omega) (by unfold nm at hh; omega)]
  unfold due
  by_cases hd : x.At + b.Hold ≤ now
  ·
   rw [decide_eq_true hd, cond_true, if_pos rfl]
  ·
   rw [decide_eq_false hd, cond_false, if_neg (by decide), Dy b now hv c (by omega)]

theorem report_e (b : Reorder) (hL : b.Held.length ≤ 1000) : fy b = some (if VR b then (b.Seen, 0) else (aW.z, 8)) := by
 unfold fy
 rw [check_e b (by omega), aE]
 by_cases hv : VR b
 ·
  rw [if_pos hv, if_pos hv]; rfl
 ·
  rw [if_neg hv, if_neg hv]; rfl

def okN (n : Int) : Prop := 0 ≤ n ∧ n < 4096
instance (n : Int) : Decidable (okN n) := by unfold okN; infer_instance
theorem yg (n : Int) : en n = some (decide (0 ≤ n ∧ n < 4096)) := by
 unfold en; congr 1
 rw [Bool.eq_iff_iff]; simp
theorem oG {w : aW} {n : Int} (hw : okN w.Start) (hn : okN n) : fh w n = some 0 := by
 unfold fh eO
 rw [yg, aE, decide_eq_true (show 0 ≤ w.Start ∧ w.Start < 4096 from hw), Bool.not_true, cond_false, aE, yg, bne_self_eq_false, cond_false, aE, decide_eq_true (show 0 ≤ n ∧ n < 4096 from hn)]; rfl
/-- Marked. -/
def mrk (B d : Int) : Int := bor .u64 B (IntKind.wrap .u64 (1 * 2 ^ (min (d).toNat 64)))
theorem Dp {w : aW} {n : Int} (hw : okN w.Start) (hn : okN n) (hd : aP w.Start n < 64) : kg w n = some ({ w with Bits := mrk w.Bits (aP w.Start n) }, 0) := by
 unfold kg
 have := fL w.Start n
 rw [oG hw hn, aE, bne_self_eq_false, cond_false, iL, aE, decide_eq_false (by omega), cond_false, fI (by omega), aE]; rfl
theorem vp {S : Int} : ∀ {l : List az} {lo hi : Int}, iX S l → (∀ x ∈ l, lo < aP S x.n ∧ aP S x.n < hi) → lo < hi → (l.length : Int) < hi - lo
 | [], lo, hi, _, _, h => by simp; omega
 | x :: l, lo, hi, hs, hb, h => by
  have hp := (List.pairwise_cons.1 hs.1).1
  have hx := hb x (by simp)
  have := vp (lo := aP S x.n) (hi := hi) hs.tail (fun y hy => ⟨hp y hy, (hb y (by simp [hy])).2⟩) hx.2
  simp only [List.length_cons]; omega
theorem z5 {b : Reorder} (hv : VR b) : b.Held.length ≤ 70 := by
 have ho := hv.1
 unfold nm at ho
 have := vp (lo := 0) (hi := b.Size) hv.sortd (fun x hx => by have := hv.held x hx; omega) (by omega)
 omega


theorem KG (l : List az) (i : Nat) (hi : i ≤ l.length) (hL : l.length ≤ 1000) (x : az) : bY (i : Int) l [x] = some (l.take i ++ [x] ++ l.drop i) := by
 unfold bY
 rw [wG (by simp; omega), aE, show (((([x] : List az).length : Nat) : Int) == 0) = false from rfl, cond_false]
 by_cases h : i = l.length
 ·
  subst h
  rw [beq_self_eq_true, cond_true, fI (by simp; omega), aE, List.take_length, List.drop_length, List.append_nil]
 ·
  rw [show (((i : Int)) == ((l.length : Nat) : Int)) = false by rw [beq_eq_false_iff_ne]; omega, cond_false, wG (by simp; omega), aE, Int.toNat_natCast]

theorem Bp {S d : Int} {l : List az} {i : Nat} (hs : iX S l) (hc : Cut S d l i) {x : az} (hx : aP S x.n = d) (hn : okN x.n) (hf : ¬ ∃ y ∈ l, aP S y.n = d) : iX S (l.take i ++ [x] ++ l.drop i) := by
 refine ⟨?_, fun y hy => ?_⟩
 ·
  rw [List.append_assoc, List.pairwise_append]
  refine ⟨hs.1.sublist (List.take_sublist _ _), ?_, fun y hy z hz => ?_⟩
  ·
   rw [List.singleton_append, List.pairwise_cons]
   refine ⟨fun y hy => ?_, hs.1.sublist (List.drop_sublist _ _)⟩
   have h1 := wt hc y hy
   have h2 : aP S y.n ≠ d := fun e => hf ⟨y, List.mem_of_mem_drop hy, e⟩
   omega
  ·
   have h1 := Ew hc y hy
   rcases List.mem_cons.1 hz with rfl | hz
   ·
    omega
   ·
    have := wt hc z hz; omega
 ·
  simp only [List.mem_append, List.mem_singleton] at hy
  rcases hy with (hy | rfl) | hy
  ·
   exact hs.2 y (List.mem_of_mem_take hy)
  ·
   exact hn
  ·
   exact hs.2 y (List.mem_of_mem_drop hy)


/-! ## Moving, as a function -/

theorem m9 {S t : Int} : ∀ {l : List az} {i : Nat}, Cut S t l i → l.take i = l.filter (fun x => decide (aP S x.n < t)) ∧ l.drop i = l.filter (fun x => !decide (aP S x.n < t))
 | [], i, h => by simp
 | x :: l, 0, h => by
  have h1 : ∀ y ∈ x :: l, ¬ aP S y.n < t := fun y hy => by
   obtain ⟨k, hk⟩ := List.mem_iff_getElem?.1 hy
   have := h.2.2 k y (Nat.zero_le _) hk
   omega
  refine ⟨?_, ?_⟩
  ·
   rw [List.take_zero]; exact (List.filter_eq_nil_iff.2 fun y hy => by simpa using h1 y hy).symm
  ·
   rw [List.drop_zero]; exact (List.filter_eq_self.2 fun y hy => by simpa using h1 y hy).symm
 | x :: l, i + 1, h => by
  have hx : aP S x.n < t := h.2.1 0 x (by omega) rfl
  have h' : Cut S t l i := ⟨by have := h.1; simp at this; omega, fun k y hk hy => h.2.1 (k + 1) y (by omega) (by simpa using hy), fun k y hk hy => h.2.2 (k + 1) y (by omega) (by simpa using hy)⟩
  obtain ⟨e1, e2⟩ := m9 h'
  simp [hx, e1, e2]

def pre (b : Reorder) (t : Int) : List az := b.Held.filter fun x => decide (aP b.Start x.n < t)
def post (b : Reorder) (t : Int) : List az := b.Held.filter fun x => !decide (aP b.Start x.n < t)
/-- What moving gives. -/
def mvF (b : Reorder) (t : Int) : List Frame × Reorder :=
 ((pre b t).map (·.Frame) ++ (relF b.Start t (post b t)).2.1, { b with Start := (b.Start + (relF b.Start t (post b t)).1) % 4096, Held := (relF b.Start t (post b t)).2.2 })
theorem Dz (b : Reorder) (hL : b.Held.length ≤ 1000) (hs : iX b.Start b.Held) (to : Int) (ht : 0 ≤ to ∧ to < 4096) :
  ∃ z, eK b to = some z ∧ z.1 = (mvF b (aP b.Start to)).1 ∧ { z.2.1 with Held := z.2.2 } = (mvF b (aP b.Start to)).2 := by
 obtain ⟨i, hc, e⟩ := y5 b hL hs to ht
 obtain ⟨e1, e2⟩ := m9 hc
 refine ⟨_, e, ?_, ?_⟩
 ·
  simp only [mvF, mv, pre, post, e1, e2]
 ·
  simp only [mvF, mv, pre, post, e1, e2]
theorem Cn (S : Int) (l : List az) (m : Int) : (relF S m l).2.1.length ≤ l.length ∧ (relF S m l).2.2.length ≤ l.length := by
 have := Ab S l m
 omega
theorem F2 (b : Reorder) (t : Int) : (mvF b t).1.length ≤ b.Held.length + b.Held.length ∧ (mvF b t).2.Held.length ≤ b.Held.length := by
 have h1 : (pre b t).length ≤ b.Held.length := List.length_filter_le _ _
 have h2 : (post b t).length ≤ b.Held.length := List.length_filter_le _ _
 have h3 := Cn b.Start (post b t) t
 simp only [mvF, List.length_append, List.length_map]
 omega
theorem zK (S : Int) : ∀ (l : List az) (m : Int), (∀ f ∈ (relF S m l).2.1, ∃ x ∈ l, f = x.Frame) ∧ ∀ x ∈ (relF S m l).2.2, x ∈ l
 | [], m => by simp [relF]
 | h :: r, m => by
  unfold relF
  obtain ⟨a, b⟩ := zK S r (m + 1)
  split
  ·
   refine ⟨fun f hf => ?_, fun x hx => List.mem_cons_of_mem _ (b x hx)⟩
   rcases List.mem_cons.1 hf with rfl | hf
   ·
    exact ⟨h, by simp, rfl⟩
   ·
    obtain ⟨x, hx, e⟩ := a f hf; exact ⟨x, List.mem_cons_of_mem _ hx, e⟩
  ·
   simp
theorem mvF_mem (b : Reorder) (t : Int) : (∀ f ∈ (mvF b t).1, ∃ x ∈ b.Held, f = x.Frame) ∧ ∀ x ∈ (mvF b t).2.Held, x ∈ b.Held := by
 have hp : ∀ x ∈ post b t, x ∈ b.Held := fun x hx => (List.mem_filter.1 hx).1
 obtain ⟨a, c⟩ := zK b.Start (post b t) t
 refine ⟨fun f hf => ?_, fun x hx => hp x (c x hx)⟩
 simp only [mvF, List.mem_append, List.mem_map] at hf
 rcases hf with ⟨x, hx, rfl⟩ | hf
 ·
  exact ⟨x, (List.mem_filter.1 hx).1, rfl⟩
 ·
  obtain ⟨x, hx, e⟩ := a f hf; exact ⟨x, hp x hx, e⟩

/-! ## Bar, Expire -/

abbrev Res := List Frame × Reorder × Int
def barF (b : Reorder) (n : Int) : Res :=
 if VR b then (if okN n then (if 2048 ≤ aP b.Start n then ([], b, 0) else ((mvF b (aP b.Start n)).1, (mvF b (aP b.Start n)).2, 0)) else ([], Reorder.z, 2)) else ([], Reorder.z, 8)
theorem bar_e (b : Reorder) (hf : Fit b.Held) (n : Int) : iZ b n = some (barF b n) := by
 unfold iZ barF
 have hL := hf.1
 rw [check_e b (by omega), aE]
 by_cases hv : VR b
 ·
  rw [if_pos hv, if_pos hv, bne_self_eq_false, cond_false, vG, aE]
  by_cases hn : okN n
  ·
   rw [if_pos hn, decide_eq_true (show 0 ≤ n ∧ n < 4096 from hn), Bool.not_true, cond_false, oD _ hf, aE, iL, aE]
   by_cases hd : 2048 ≤ aP b.Start n
   ·
    rw [decide_eq_true hd, cond_true, if_pos hd]
   ·
    obtain ⟨z, z1, z2, z3⟩ := Dz b hL hv.sortd n hn
    rw [decide_eq_false hd, cond_false, if_neg hd, show ({ b with Held := b.Held } : Reorder) = b from rfl, z1, aE, z2, ← z3]
  ·
   rw [if_neg hn, decide_eq_false (show ¬ (0 ≤ n ∧ n < 4096) from hn)]; rfl
 ·
  rw [if_neg hv, if_neg hv]; rfl

def expF (b : Reorder) (now : Int) : Res :=
 if VR b then (if 0 ≤ now ∧ now ≤ 1099511627776 then (match ld b.Hold now b.Held with | some x => ((mvF b (aP b.Start ((x.n + 1) % 4096))).1, (mvF b (aP b.Start ((x.n + 1) % 4096))).2, 0) | none => ([], b, 0)) else ([], Reorder.z, 2)) else ([], Reorder.z, 8)
theorem expire_e (b : Reorder) (hf : Fit b.Held) (now : Int) : dO b now = some (expF b now) := by
 unfold dO expF
 have hL := hf.1
 rw [check_e b (by omega), aE]
 by_cases hv : VR b
 ·
  rw [if_pos hv, if_pos hv, bne_self_eq_false, cond_false, AK, aE]
  by_cases hn : 0 ≤ now ∧ now ≤ 1099511627776
  ·
   rw [if_pos hn, decide_eq_true hn, Bool.not_true, cond_false, oD _ hf, aE, fI (by omega), aE, Dy b now hv _ (Nat.le_refl _), List.take_length]
   cases hld : ld b.Hold now b.Held with
   | none => rfl
   | some x =>
    obtain ⟨z, z1, z2, z3⟩ := Dz b hL hv.sortd ((x.n + 1) % 4096) (by omega)
    simp only
    rw [z9, aE, show ({ b with Held := b.Held } : Reorder) = b from rfl, show (x.Frame.Head.Seq + 1) % 4096 = (x.n + 1) % 4096 from rfl, z1, aE, aE, Ex.k_ret', z2, ← z3]
  ·
   rw [if_neg hn, decide_eq_false hn]; rfl
 ·
  rw [if_neg hv, if_neg hv]; rfl

/-! ## Put -/

def noteF (w : aW) (n : Int) : aW :=
 if 2048 ≤ aP w.Start n then w else
 if 64 ≤ aP w.Start n then { Bits := mrk (w.Bits.fdiv (2 ^ (min (aP w.Start n - 63).toNat 64))) 63, Start := (n + (-63)) % 4096 }
 else { w with Bits := mrk w.Bits (aP w.Start n) }
theorem HU {w : aW} {n : Int} (hw : okN w.Start) (hn : okN n) : jl w n = some (noteF w n) := by
 unfold jl noteF
 have hd := fL w.Start n
 rw [iL, aE]
 by_cases h : 2048 ≤ aP w.Start n
 ·
  rw [decide_eq_true h, cond_true, if_pos h]
 ·
  rw [decide_eq_false h, cond_false, if_neg h]
  by_cases h2 : 64 ≤ aP w.Start n
  ·
   have hx : okN ((n + (-63)) % 4096) := by unfold okN; omega
   have e1 : aP w.Start ((n + (-63)) % 4096) = aP w.Start n - 63 := by unfold aP at h h2 ⊢; omega
   have e2 : aP ((n + (-63)) % 4096) n = 63 := by unfold okN at hn; unfold aP; omega
   have hm : kf w ((n + (-63)) % 4096) = some ({ aW.z with Bits := (w.Bits).fdiv (2 ^ (min (aP w.Start n - 63).toNat 64)), Start := (n + (-63)) % 4096 }, 0) := by
    unfold kf
    rw [oG hw hx, aE, bne_self_eq_false, cond_false, iL, e1, aE, decide_eq_true (by omega), cond_true, fI (by omega), aE]
   rw [decide_eq_true h2, cond_true, if_pos h2, z9, aE, hm, aE, aE, Dp (w := { aW.z with Bits := (w.Bits).fdiv (2 ^ (min (aP w.Start n - 63).toNat 64)), Start := (n + (-63)) % 4096 }) hx hn (by simp only [e2]; omega), aE]
   simp only [e2]
  ·
   rw [decide_eq_false h2, cond_false, if_neg h2, aE, Dp hw hn (by omega), aE]

def insF (b : Reorder) (x : az) : List az := pre b (aP b.Start x.n) ++ [x] ++ post b (aP b.Start x.n)
def toF (b : Reorder) (n : Int) : Int := if b.Size ≤ aP b.Start n then (n + (1 - b.Size)) % 4096 else b.Start
def putB (b : Reorder) (x : az) : Reorder := { b with Held := insF b x, Seen := noteF b.Seen x.n }
def putF (b : Reorder) (f : Frame) (now : Int) : Res :=
 if VR b then (if (0 ≤ now ∧ now ≤ 1099511627776) ∧ okN f.Head.Seq then
  (if 2048 ≤ aP b.Start f.Head.Seq ∨ ∃ x ∈ b.Held, aP b.Start x.n = aP b.Start f.Head.Seq then ([], Reorder.z, 21) else
   ((mvF (putB b ⟨now, f⟩) (aP b.Start (toF b f.Head.Seq))).1, (mvF (putB b ⟨now, f⟩) (aP b.Start (toF b f.Head.Seq))).2, 0))
  else ([], Reorder.z, 2)) else ([], Reorder.z, 8)
theorem Ap {b : Reorder} {x : az} (hs : iX b.Start b.Held) (hL : b.Held.length ≤ 1000) (hn : okN x.n) (hf : ¬ ∃ y ∈ b.Held, aP b.Start y.n = aP b.Start x.n) : iX b.Start (insF b x) := by
 obtain ⟨i, e, hc⟩ := yC b hL hs x.n
 obtain ⟨e1, e2⟩ := m9 hc
 have := Bp hs hc rfl hn hf
 unfold insF pre post
 rw [← e1, ← e2]; exact this
theorem zR (b : Reorder) (x : az) : (insF b x).length ≤ b.Held.length + b.Held.length + 1 := by
 have h1 : (pre b (aP b.Start x.n)).length ≤ b.Held.length := List.length_filter_le _ _
 have h2 : (post b (aP b.Start x.n)).length ≤ b.Held.length := List.length_filter_le _ _
 simp only [insF, List.length_append, List.length_cons, List.length_nil]; omega
theorem put_e (b : Reorder) (hf : Fit b.Held) (f : Frame) (hfb : f.Body.length ≤ 2400) (now : Int) : iT b f now = some (putF b f now) := by
 unfold iT putF
 have hL := hf.1
 rw [check_e b (by omega), aE]
 by_cases hv : VR b
 ·
  have h70 := z5 hv
  have ho := hv.1
  unfold nm at ho
  rw [if_pos hv, if_pos hv, bne_self_eq_false, cond_false, AK, aE]
  by_cases hn : 0 ≤ now ∧ now ≤ 1099511627776
  ·
   rw [decide_eq_true hn, Bool.not_true, cond_false, vG, aE, aE]
   by_cases hq : okN f.Head.Seq
   ·
    obtain ⟨i, pe, hc⟩ := yC b hL hv.sortd f.Head.Seq
    obtain ⟨c1, c2⟩ := m9 hc
    rw [decide_eq_true (show 0 ≤ f.Head.Seq ∧ f.Head.Seq < 4096 from hq), Bool.not_true, cond_false, if_pos ⟨hn, hq⟩, iL, aE, pe, aE]
    by_cases hd : 2048 ≤ aP b.Start f.Head.Seq ∨ ∃ x ∈ b.Held, aP b.Start x.n = aP b.Start f.Head.Seq
    ·
     have : ((decide (2048 ≤ aP b.Start f.Head.Seq)) || (decide (∃ x ∈ b.Held, aP b.Start x.n = aP b.Start f.Head.Seq))) = true := by simpa using hd
     simp only [this, cond_true, if_pos hd]
    ·
     have : ((decide (2048 ≤ aP b.Start f.Head.Seq)) || (decide (∃ x ∈ b.Held, aP b.Start x.n = aP b.Start f.Head.Seq))) = false := by
      rw [Bool.eq_false_iff]; simpa using hd
     simp only [this, cond_false, if_neg hd]
     have hi := hc.1
     have hw : okN b.Seen.Start := ho.2.2.2.2.2
     rw [HU hw hq, aE, oD _ hf, aE]
     unfold dT
     rw [fI (by omega), aE, aE, KG _ _ hi hL, aE]
     have hil : b.Held.take i ++ [({ az.z with At := now, Frame := f } : az)] ++ b.Held.drop i = insF b ⟨now, f⟩ := by
      unfold insF pre post; rw [c1, c2]
     have hto : (bif decide (b.Size ≤ aP b.Start f.Head.Seq) then ((eU f.Head.Seq (IntKind.wrap .i64 (1 - b.Size))).bind fun x78 => some x78) else some b.Start) = some (toF b f.Head.Seq) := by
      unfold toF
      by_cases hz : b.Size ≤ aP b.Start f.Head.Seq
      ·
       rw [decide_eq_true hz, cond_true, if_pos hz, jm (by omega) (by omega), z9, aE]
      ·
       rw [decide_eq_false hz, cond_false, if_neg hz]
     have hti : 0 ≤ toF b f.Head.Seq ∧ toF b f.Head.Seq < 4096 := by unfold toF; split <;> omega
     have hnf : ¬ ∃ y ∈ b.Held, aP b.Start y.n = aP b.Start (⟨now, f⟩ : az).n := fun h => hd (.inr h)
     have hsr := Ap (x := ⟨now, f⟩) hv.sortd hL hq hnf
     have hil2 := zR b ⟨now, f⟩
     rw [hto, aE, hil]
     obtain ⟨z, z1, z2, z3⟩ := Dz (putB b ⟨now, f⟩) (by simp only [putB]; omega) hsr (toF b f.Head.Seq) hti
     rw [show ({ b with Held := insF b ⟨now, f⟩, Seen := noteF b.Seen f.Head.Seq } : Reorder) = putB b ⟨now, f⟩ from rfl, z1, aE, z2]
     show some (_, ({ z.2.1 with Held := z.2.2 } : Reorder), (0 : Int)) = _
     rw [z3]; rfl
   ·
    rw [decide_eq_false (show ¬ (0 ≤ f.Head.Seq ∧ f.Head.Seq < 4096) from hq), if_neg (fun h => hq h.2)]; rfl
  ·
   rw [decide_eq_false hn, if_neg (fun h => hn h.1)]; rfl
 ·
  rw [if_neg hv, if_neg hv]; rfl
end Go.AX.Z.TN.R

/-! (TNE) -/

set_option linter.unusedVariables false
set_option linter.unusedSimpArgs false
namespace Go.AX.Z.TN
open Go.AX

namespace S
abbrev RI := List Int × Sender × Int
def expR (s : Sender) (t : Int) : RI := if Valid s then (if 0 ≤ t ∧ t ≤ 1099511627776 then (if s.Phase = 2 then (expN s t, expS s t, 0) else ([], Sender.z, 20)) else ([], Sender.z, 2)) else ([], Sender.z, 8)
def closeR (s : Sender) : RI := if Valid s then (seqs s.Out, zc s, 0) else ([], Sender.z, 8)
def offR (s : Sender) (n : Int) : Frame × Sender × Int := if Valid s then (if 0 ≤ n ∧ n ≤ 1099511627776 then (if s.Phase = 2 then (if s.Out ≠ [] ∧ n < lastAt s then (Frame.z, Sender.z, 20) else if s.Size ≤ aP (startOf s) s.Next then (Frame.z, Sender.z, 22) else (offF s Frame.z, offS s Frame.z n, 0)) else (Frame.z, Sender.z, 20)) else (Frame.z, Sender.z, 2)) else (Frame.z, Sender.z, 8)
def pickS (s : Sender) (k : Int) : Sender := { s with Out := (pickR s.Limit k 0 s.Out).1 }
def pikR (s : Sender) (k : Int) : List Frame × Sender × Int := if Valid s then (if 0 ≤ k then (if s.Phase = 2 then ((pickR s.Limit k 0 s.Out).2, pickS s k, 0) else ([], Sender.z, 20)) else ([], Sender.z, 2)) else ([], Sender.z, 8)
def lostS (s : Sender) : Sender := { s with Out := s.Out.map unfly }
def lostR (s : Sender) : Sender × Int := if Valid s then (if s.Phase = 2 then (lostS s, 0) else (Sender.z, 20)) else (Sender.z, 8)
def barS (s : Sender) : Sender := { s with Bar := false }
def barR (s : Sender) : Sender × Int := if Valid s then (if s.Phase = 2 then (if s.Bar = true then (barS s, 0) else (Sender.z, 20)) else (Sender.z, 20)) else (Sender.z, 8)
def ackR (s : Sender) (w : aW) : RI := if Valid s then (if okW w then (if s.Phase = 2 then (seqs (s.Out.filter (pA w)), ackS s w, 0) else ([], Sender.z, 20)) else ([], Sender.z, 2)) else ([], Sender.z, 8)
def startR (s : Sender) : Int := if Valid s then startOf s else 0
def PA (s : Sender) (n : Int) : Prop := (s.Out.length : Int) ≤ n ∧ n ≤ 1000 ∧ ∀ x ∈ s.Out, x.Frame.Body = []
theorem PA.fit {s : Sender} {n : Int} (h : PA s n) : Fit s := ⟨by have := h.1; have := h.2.1; omega, fun x hx => by rw [h.2.2 x hx]; simp⟩
theorem PA.len {s : Sender} {n : Int} (h : PA s n) : s.Out.length ≤ 50000 := by have := h.1; have := h.2.1; omega
theorem PA.z {n : Int} (h0 : 0 ≤ n) (h : n ≤ 1000) : PA Sender.z n := ⟨by simpa [Sender.z] using h0, h, by simp [Sender.z]⟩
theorem PA.nn {s : Sender} {n : Int} (h : PA s n) : 0 ≤ n := by have := h.1; omega
theorem start_r {s : Sender} {n : Int} (h : PA s n) : gN s = some (startR s) := by
 unfold gN startR
 rw [check_e s h.fit.len, aE]
 by_cases hv : Valid s
 ·
  rw [if_pos hv, if_pos hv, zn]; rfl
 ·
  rw [if_neg hv, if_neg hv]; rfl
theorem exp_p {s : Sender} {n : Int} (h : PA s n) (t : Int) : PA (expR s t).2.1 n ∧ ((expR s t).1.length : Int) ≤ n := by
 have hl : ∀ p : ax → Bool, ((s.Out.filter p).length : Int) ≤ n := fun p => by have := List.length_filter_le p s.Out; have := h.1; omega
 unfold expR
 split
 ·
  split
  ·
   split
   ·
    refine ⟨⟨hl _, h.2.1, fun x hx => h.2.2 x (List.mem_filter.1 hx).1⟩, by simpa [expN, seqs] using hl _⟩
   ·
    exact ⟨.z h.nn h.2.1, by simpa using h.nn⟩
  ·
   exact ⟨.z h.nn h.2.1, by simpa using h.nn⟩
 ·
  exact ⟨.z h.nn h.2.1, by simpa using h.nn⟩
theorem close_p {s : Sender} {n : Int} (h : PA s n) : PA (closeR s).2.1 n ∧ ((closeR s).1.length : Int) ≤ n := by
 unfold closeR
 split
 ·
  exact ⟨⟨by simpa [zc] using h.nn, h.2.1, by simp [zc]⟩, by simpa [seqs] using h.1⟩
 ·
  exact ⟨.z h.nn h.2.1, by simpa using h.nn⟩
theorem off_p {s : Sender} {n : Int} (h : PA s n) (hn : n < 1000) (t : Int) : PA (offR s t).2.1 (n + 1) := by
 have z : PA Sender.z (n + 1) := .z (by have := h.nn; omega) (by omega)
 unfold offR
 split
 ·
  split
  ·
   split
   ·
    split
    ·
     exact z
    ·
     split
     ·
      exact z
     ·
      refine ⟨by have := h.1; simp [offS]; omega, by omega, fun x hx => ?_⟩
      simp only [offS, List.mem_append, List.mem_singleton] at hx
      rcases hx with hx | rfl
      ·
       exact h.2.2 x hx
      ·
       rfl
   ·
    exact z
  ·
   exact z
 ·
  exact z
theorem pn (lim k : Int) : ∀ (c : Nat) (l : List ax), (∀ y ∈ l, y.Frame.Body = []) → (∀ y ∈ (pickR lim k c l).1, y.Frame.Body = []) ∧ (∀ f ∈ (pickR lim k c l).2, f.Body = []) ∧ (pickR lim k c l).1.length = l.length ∧ (pickR lim k c l).2.length ≤ l.length
 | _, [], _ => by simp [pickR]
 | c, x :: l, h => by
  have hx := h x (by simp)
  have hl : ∀ y ∈ l, y.Frame.Body = [] := fun y hy => h y (by simp [hy])
  unfold pickR
  split
  ·
   exact ⟨h, by simp, rfl, by simp⟩
  ·
   split
   ·
    obtain ⟨a, b, c1, d⟩ := pn lim k c l hl
    exact ⟨fun y hy => by rcases List.mem_cons.1 hy with rfl | hy; exact hx; exact a y hy, b, by simp [c1], by simp; omega⟩
   ·
    obtain ⟨a, b, c1, d⟩ := pn lim k (c + 1) l hl
    refine ⟨fun y hy => by rcases List.mem_cons.1 hy with rfl | hy; exact hx; exact a y hy, fun f hf => by rcases List.mem_cons.1 hf with rfl | hf; exact hx; exact b f hf, by simp [c1], by simp; omega⟩
theorem pick_p {s : Sender} {n : Int} (h : PA s n) (k : Int) : PA (pikR s k).2.1 n ∧ ((pikR s k).1.length : Int) ≤ n ∧ ∀ f ∈ (pikR s k).1, f.Body = [] := by
 have z : PA Sender.z n := .z h.nn h.2.1
 have hb := pn s.Limit k 0 s.Out h.2.2
 unfold pikR
 split
 ·
  split
  ·
   split
   ·
    exact ⟨⟨by have := h.1; simp only [pickS]; omega, h.2.1, hb.1⟩, by have := h.1; simp only; omega, hb.2.1⟩
   ·
    exact ⟨z, by simpa using h.nn, by simp⟩
  ·
   exact ⟨z, by simpa using h.nn, by simp⟩
 ·
  exact ⟨z, by simpa using h.nn, by simp⟩
theorem lost_p {s : Sender} {n : Int} (h : PA s n) : PA (lostR s).1 n := by
 have z : PA Sender.z n := .z h.nn h.2.1
 unfold lostR
 split
 ·
  split
  ·
   refine ⟨by simpa [lostS] using h.1, h.2.1, fun x hx => ?_⟩
   simp only [lostS, List.mem_map] at hx
   obtain ⟨y, hy, rfl⟩ := hx; exact h.2.2 y hy
  ·
   exact z
 ·
  exact z
theorem bar_p {s : Sender} {n : Int} (h : PA s n) : PA (barR s).1 n := by
 have z : PA Sender.z n := .z h.nn h.2.1
 unfold barR
 split
 ·
  split
  ·
   split
   ·
    exact h
   ·
    exact z
  ·
   exact z
 ·
  exact z
theorem ack_p {s : Sender} {n : Int} (h : PA s n) (w : aW) : PA (ackR s w).2.1 n ∧ ((ackR s w).1.length : Int) ≤ n := by
 have z : PA Sender.z n := .z h.nn h.2.1
 have hl : ∀ p : ax → Bool, ((s.Out.filter p).length : Int) ≤ n := fun p => by have := List.length_filter_le p s.Out; have := h.1; omega
 unfold ackR
 split
 ·
  split
  ·
   split
   ·
    refine ⟨⟨by simpa [ackS] using hl _, h.2.1, fun x hx => ?_⟩, by simpa [seqs] using hl _⟩
    simp only [ackS, List.mem_map] at hx
    obtain ⟨y, hy, rfl⟩ := hx; exact h.2.2 y (List.mem_filter.1 hy).1
   ·
    exact ⟨z, by simpa using h.nn⟩
  ·
   exact ⟨z, by simpa using h.nn⟩
 ·
  exact ⟨z, by simpa using h.nn⟩
end S

namespace R
def repR (b : Reorder) : aW × Int := if VR b then (b.Seen, 0) else (aW.z, 8)
def PB (b : Reorder) : Prop := b.Held.length ≤ 200 ∧ ∀ x ∈ b.Held, x.Frame.Body = []
theorem PB.fit {b : Reorder} (h : PB b) : Fit b.Held := ⟨by have := h.1; omega, fun x hx => by rw [h.2 x hx]; simp⟩
theorem PB.z : PB Reorder.z := ⟨by simp [Reorder.z], by simp [Reorder.z]⟩
theorem xZ {b : Reorder} (h : b.Held.length ≤ 200 ∧ ∀ x ∈ b.Held, x.Frame.Body = []) (t : Int) : PB (mvF b t).2 ∧ (mvF b t).1.length ≤ 400 ∧ ∀ f ∈ (mvF b t).1, f.Body = [] := by
 obtain ⟨a, c⟩ := F2 b t
 obtain ⟨d, e⟩ := mvF_mem b t
 exact ⟨⟨by omega, fun x hx => h.2 x (e x hx)⟩, by omega, fun f hf => by obtain ⟨x, hx, rfl⟩ := d f hf; exact h.2 x hx⟩
theorem bar_p {b : Reorder} (h : PB b) (n : Int) : PB (barF b n).2.1 ∧ (barF b n).1.length ≤ 400 := by
 unfold barF
 split
 ·
  split
  ·
   split
   ·
    exact ⟨h, by simp⟩
   ·
    exact ⟨(xZ h _).1, (xZ h _).2.1⟩
  ·
   exact ⟨.z, by simp⟩
 ·
  exact ⟨.z, by simp⟩
theorem exp_p {b : Reorder} (h : PB b) (n : Int) : PB (expF b n).2.1 ∧ (expF b n).1.length ≤ 400 := by
 unfold expF
 split
 ·
  split
  ·
   split
   ·
    exact ⟨(xZ h _).1, (xZ h _).2.1⟩
   ·
    exact ⟨h, by simp⟩
  ·
   exact ⟨.z, by simp⟩
 ·
  exact ⟨.z, by simp⟩
theorem put_p {b : Reorder} (h : PB b) (f : Frame) (hf : f.Body = []) (n : Int) : PB (putF b f n).2.1 ∧ (putF b f n).1.length ≤ 400 := by
 unfold putF
 split
 ·
  rename_i hv
  have h70 := z5 hv
  split
  ·
   split
   ·
    exact ⟨.z, by simp⟩
   ·
    have hl := zR b ⟨n, f⟩
    have hp : (putB b ⟨n, f⟩).Held.length ≤ 200 ∧ ∀ x ∈ (putB b ⟨n, f⟩).Held, x.Frame.Body = [] := by
     refine ⟨by simp only [putB]; omega, fun x hx => ?_⟩
     simp only [putB, insF, List.mem_append, List.mem_singleton] at hx
     rcases hx with (hx | rfl) | hx
     ·
      exact h.2 x (List.mem_filter.1 hx).1
     ·
      exact hf
     ·
      exact h.2 x (List.mem_filter.1 hx).1
    exact ⟨(xZ hp _).1, (xZ hp _).2.1⟩
  ·
   exact ⟨.z, by simp⟩
 ·
  exact ⟨.z, by simp⟩
end R
end Go.AX.Z.TN

/-! (TNG) -/

set_option linter.unusedVariables false
set_option linter.unusedSimpArgs false
set_option maxRecDepth 20000
namespace Go.AX.Z.TN
open Go.AX

abbrev SS := aa
def dL (e : Int) (s : SS) : SS := { s with err := if s.err = 0 then e else s.err }
theorem jp (e : Int) (s : SS) (d : List Bool) : be e s d = some (dL e s) := by
 unfold be dL
 by_cases h : s.err = 0
 ·
  rw [h, if_pos rfl]; rfl
 ·
  rw [show (s.err == 0) = false by simpa using h, if_neg h]; rfl

def my (p : al) (l : List Int) : List Int := l.map fun n => aP p.Start n
theorem rS (s : SS) (L : List Int) (hL : L.length ≤ 100000) : ∀ (l acc : List Int) (i n : Nat), L.drop i = l → l.length < n → acc.length + l.length ≤ 100000 →
  bX L s n (acc, (i : Int)) = some (acc ++ my s.plan l)
 | [], acc, i, n + 1, h, hn, ha => by
  rw [bX, iK (kv h)]; simp [my]
 | x :: l, acc, i, n + 1, h, hn, ha => by
  obtain ⟨h1, h2, h3⟩ := kA h
  simp only [List.length_cons] at ha hn
  rw [bX, iG h3]
  simp only [cond_true, l5, h1, aE, iL]
  rw [fI (by omega), aE, gw (by omega), rS s L hL l _ (i + 1) n h2 (by omega) (by simp; omega)]
  simp [my]
theorem ti (s : SS) (d : List Bool) (l : List Int) (h : l.length ≤ 100000) : cr s d l = some (my s.plan l) := by
 unfold cr
 have := rS s l h l [] 0 big rfl (fo (by omega)) (by simpa using h)
 simp only [Int.natCast_zero, List.nil_append] at this
 rw [this]; rfl

def rel (p : al) (l : List Frame) : List Int := l.map fun f => aP p.Start f.Head.Seq
theorem qH (s : SS) (L : List Frame) (hL : L.length ≤ 100000) : ∀ (l : List Frame) (acc : List Int) (i n : Nat), L.drop i = l → l.length < n → acc.length + l.length ≤ 2000000000 →
  bV L s n (acc, (i : Int)) = some (acc ++ rel s.plan l)
 | [], acc, i, n + 1, h, hn, ha => by
  rw [bV, iK (kv h)]; simp [rel]
 | x :: l, acc, i, n + 1, h, hn, ha => by
  obtain ⟨h1, h2, h3⟩ := kA h
  simp only [List.length_cons] at ha hn
  rw [bV, iG h3]
  simp only [cond_true, l5, h1, aE, iL]
  rw [fI (by omega), aE, gw (by omega), qH s L hL l _ (i + 1) n h2 (by omega) (by simp; omega)]
  simp [rel]
theorem rC (l : List Frame) (s : SS) (d : List Bool) (h : l.length ≤ 100000) (hd : s.out.Delivered.length ≤ 1000000000) : bO l s d = some (s.out.Delivered ++ rel s.plan l) := by
 unfold bO
 have := qH s l h l s.out.Delivered 0 big rfl (fo (by omega)) (by omega)
 simp only [Int.natCast_zero] at this
 rw [this]; rfl

def eY : List Bool → Bool × List Bool
 | [] => (false, [])
 | b :: l => (b, l)
theorem BF (d : List Bool) : fm d = some (eY d) := by
 unfold fm eY
 cases d with
 | nil => rfl
 | cons b l =>
  have : (((b :: l).length : Int) == 0) = false := by rw [beq_eq_false_iff_ne]; simp; omega
  rw [this, cond_false, Kj, List.getElem?_cons_zero, aE, fI (by simp; omega), aE]; rfl

structure Wt (N : Nat) (s : SS) : Prop where
 A : S.PA s.sides.Sender s.accepted
 B : R.PB s.sides.Reorder
 D : s.out.Delivered.length ≤ N
 K : s.out.Acked.length ≤ N
 X : s.out.Dropped.length ≤ N
 N : N ≤ 900000000
 acc : s.accepted ≤ 200
 many : s.many ≤ 200
theorem Wt.keep {N : Nat} {s : SS} (h : Wt N s) (e : Int) : Wt N (dL e s) := ⟨h.A, h.B, h.D, h.K, h.X, h.N, h.acc, h.many⟩
theorem Wt.mono {N M : Nat} {s : SS} (h : Wt N s) (hm : N ≤ M) (hM : M ≤ 900000000) : Wt M s := ⟨h.A, h.B, Nat.le_trans h.D hm, Nat.le_trans h.K hm, Nat.le_trans h.X hm, hM, h.acc, h.many⟩
theorem Wt.upA {N : Nat} {s : SS} (h : Wt N s) {A : Sender} (hA : S.PA A s.accepted) : Wt N { s with sides.Sender := A } := ⟨hA, h.B, h.D, h.K, h.X, h.N, h.acc, h.many⟩
theorem zf (p : al) (l : List Frame) : (rel p l).length = l.length := by simp [rel]
theorem lE (p : al) (l : List Int) : (my p l).length = l.length := by simp [my]

def iQ (to : Int) (s : SS) : SS :=
 { dL (R.barF s.sides.Reorder to).2.2 s with sides.Reorder := (R.barF s.sides.Reorder to).2.1, out.Delivered := s.out.Delivered ++ rel s.plan (R.barF s.sides.Reorder to).1 }
theorem y5 {N : Nat} {s : SS} (h : Wt N s) (hN : N ≤ 899000000) (to : Int) (d : List Bool) : (∃ r, cB to s d = some r ∧ { r.1 with out.Delivered := r.2 } = iQ to s ∧ r.2 = (iQ to s).out.Delivered) ∧ Wt (N + 1000) (iQ to s) := by
 obtain ⟨b1, b2⟩ := R.bar_p h.B to
 have hD := h.D
 constructor
 ·
  unfold cB
  rw [R.bar_e _ h.B.fit, aE, jp, aE, rC _ _ _ (by omega) (by simp only; omega), aE]
  exact ⟨_, rfl, rfl, rfl⟩
 ·
  refine ⟨h.A, b1, ?_, by have := h.K; simp only [iQ]; show s.out.Acked.length ≤ _; omega, by have := h.X; show s.out.Dropped.length ≤ _; omega, by omega, h.acc, h.many⟩
  simp only [iQ, List.length_append, zf]; omega

def du (now : Int) : Nat → SS → SS
 | 0, s => s
 | n + 1, s => if s.accepted < s.many ∧ s.err = 0 then
   (if (S.offR s.sides.Sender now).2.2 = 22 then s else
    du now n { dL (S.offR s.sides.Sender now).2.2 s with accepted := s.accepted + 1, sides.Sender := (S.offR s.sides.Sender now).2.1 }) else s
theorem Ig {s : Sender} {n : Int} (h : S.PA s n) (hn : n < 1000) (t : Int) : fM s Frame.z t = some (S.offR s t) :=
 S.offer_e h.fit Frame.z (by simp [Frame.z]) t (by have := h.1; omega)
theorem BJ (now : Int) (s0 : SS) (d : List Bool) : ∀ (m n k : Nat) (N : Nat) (s : SS), Wt N s → s.many - s.accepted ≤ m → m < n → m ≤ k → s.out = s0.out →
  (∃ o, cg now s0 d n s = some o ∧ (o = Ex.ret (du now k s) ∨ o = Ex.go (du now k s))) ∧ Wt N (du now k s)  := by
 intro m n k
 induction k generalizing m n with
 | zero =>
  intro N s h hm hn hk ho
  obtain ⟨n, rfl⟩ : ∃ q, n = q + 1 := ⟨n - 1, by omega⟩
  refine ⟨?_, h⟩
  rw [cg, decide_eq_false (by omega), Bool.false_and, cond_false]
  exact ⟨_, rfl, .inr rfl⟩
 | succ k ih =>
  intro N s h hm hn hk ho
  obtain ⟨n, rfl⟩ : ∃ q, n = q + 1 := ⟨n - 1, by omega⟩
  rw [cg]
  unfold du
  by_cases hc : s.accepted < s.many ∧ s.err = 0
  ·
   have hcb : (decide (s.accepted < s.many) && (s.err == 0)) = true := by simpa using hc
   have ha := h.acc
   have hma := h.many
   rw [hcb, cond_true, if_pos hc, Ig h.A (by omega), aE]
   by_cases h22 : (S.offR s.sides.Sender now).2.2 = 22
   ·
    rw [show ((S.offR s.sides.Sender now).2.2 == 22) = true by simpa using h22, cond_true, if_pos h22]
    exact ⟨⟨_, rfl, .inl rfl⟩, h⟩
   ·
    rw [show ((S.offR s.sides.Sender now).2.2 == 22) = false by simpa using h22, cond_false, if_neg h22, jp, aE]
    have e : ({ s with out.Acked := s0.out.Acked, out.Delivered := s0.out.Delivered, out.Dropped := s0.out.Dropped } : SS) = s := by rw [← ho]
    rw [e]
    obtain ⟨m, rfl⟩ : ∃ q, m = q + 1 := ⟨m - 1, by omega⟩
    have hA := S.off_p h.A (by omega) now
    have hnn := h.A.nn
    have hw : Wt N { dL (S.offR s.sides.Sender now).2.2 s with accepted := s.accepted + 1, sides.Sender := (S.offR s.sides.Sender now).2.1 } := ⟨hA, h.B, h.D, h.K, h.X, h.N, by simp only; omega, h.many⟩
    have ew : IntKind.wrap .i64 ((dL (S.offR s.sides.Sender now).2.2 s).accepted + 1) = s.accepted + 1 := jm (by simp only [dL]; omega) (by simp only [dL]; omega)
    rw [ew]
    exact ih m n N _ hw (by simp only [dL]; omega) (by omega) (by omega) ho
  ·
   have hcb : (decide (s.accepted < s.many) && (s.err == 0)) = false := by rw [Bool.eq_false_iff]; simpa using hc
   rw [hcb, cond_false, if_neg hc]
   exact ⟨⟨_, rfl, .inr rfl⟩, h⟩
theorem offer_e {N : Nat} {s : SS} (h : Wt N s) (h0 : 0 ≤ s.accepted) (now : Int) (d : List Bool) : cX now s d = some (du now 200 s) ∧ Wt N (du now 200 s) := by
 have hma := h.many
 obtain ⟨⟨o, e, ho⟩, hw⟩ := BJ now s d 200 big 200 N s h (by omega) (fo (by omega)) (Nat.le_refl _) rfl
 refine ⟨?_, hw⟩
 unfold cX
 rw [e, aE]
 rcases ho with rfl | rfl <;> rfl

def fJ (now : Int) : List Frame → SS → List Bool → SS × List Bool
 | [], s, d => (s, d)
 | f :: l, s, d => if (eY d).1 = true then fJ now l s (eY d).2 else
   if (R.putF s.sides.Reorder f now).2.2 = 0 then fJ now l { s with sides.Reorder := (R.putF s.sides.Reorder f now).2.1, out.Delivered := s.out.Delivered ++ rel s.plan (R.putF s.sides.Reorder f now).1 } (eY d).2
   else fJ now l s (eY d).2
theorem CI (x : List Frame × Sender × Int) (now : Int) (s0 : SS) (hx : x.1.length ≤ 1000) : ∀ (l : List Frame) (i n : Nat) (N : Nat) (s : SS) (d : List Bool) (D : List Int), x.1.drop i = l → l.length < n → (∀ f ∈ l, f.Body = []) → Wt N { s with out.Delivered := D } → N + 1000 * l.length ≤ 899000000 → s.out.Acked = s0.out.Acked → s.out.Dropped = s0.out.Dropped →
  (∃ r, bU x now s0 n (s, d, D, (i : Int)) = some r ∧ { r.1 with out.Delivered := r.2.2 } = (fJ now l { s with out.Delivered := D } d).1 ∧ r.2.1 = (fJ now l { s with out.Delivered := D } d).2 ∧ r.2.2 = (fJ now l { s with out.Delivered := D } d).1.out.Delivered) ∧ Wt (N + 1000 * l.length) (fJ now l { s with out.Delivered := D } d).1 := by
 intro l
 induction l with
 | nil =>
  intro i n N s d D h hn hb hw hN h1 h2
  obtain ⟨n, rfl⟩ : ∃ q, n = q + 1 := ⟨n - 1, by simp at hn; omega⟩
  refine ⟨?_, by simpa [fJ] using hw⟩
  rw [bU, iK (kv h), cond_false]
  exact ⟨_, rfl, rfl, rfl, rfl⟩
 | cons f l ih =>
  intro i n N s d D h hn hb hw hN h1 h2
  obtain ⟨n, rfl⟩ : ∃ q, n = q + 1 := ⟨n - 1, by simp at hn; omega⟩
  obtain ⟨q1, q2, q3⟩ := kA h
  simp only [List.length_cons] at hn hN
  have hbl : ∀ g ∈ l, g.Body = [] := fun g hg => hb g (by simp [hg])
  have hf := hb f (by simp)
  have hN' : N + 1000 ≤ 900000000 := by omega
  have hN3 : N ≤ N + 1000 := by omega
  rw [bU, iG q3]
  simp only [cond_true, l5, q1, aE, BF, fJ]
  rw [gw (by omega)]
  by_cases hd : (eY d).1 = true
  ·
   rw [hd, cond_true, if_pos rfl]
   obtain ⟨a, b⟩ := ih (i + 1) n N s (eY d).2 D q2 (by omega) hbl hw (by omega) h1 h2
   exact ⟨a, b.mono (by simp; omega) (by simp; omega)⟩
  ·
   rw [Bool.not_eq_true] at hd
   have hp := R.put_e s.sides.Reorder hw.B.fit f (by rw [hf]; simp) now
   rw [hd, cond_false, if_neg (by decide), hp, aE]
   by_cases he : (R.putF s.sides.Reorder f now).2.2 = 0
   ·
    obtain ⟨p1, p2⟩ := R.put_p hw.B f hf now
    have hD := hw.D
    simp only at p1 p2 hD
    rw [show ((R.putF s.sides.Reorder f now).2.2 == 0) = true by simpa using he, cond_true, if_pos he]
    rw [← h1, ← h2, rC _ _ _ (by omega) (by simp only; omega), aE]
    have hw' : Wt (N + 1000) { ({ s with sides.Reorder := (R.putF s.sides.Reorder f now).2.1 } : SS) with out.Delivered := D ++ rel s.plan (R.putF s.sides.Reorder f now).1 } := by
     refine ⟨hw.A, p1, ?_, Nat.le_trans hw.K hN3, Nat.le_trans hw.X hN3, hN', hw.acc, hw.many⟩
     simp only [List.length_append, zf]; omega
    have := ih (i + 1) n (N + 1000) { s with out.Delivered := D, sides.Reorder := (R.putF s.sides.Reorder f now).2.1 } (eY d).2 (D ++ rel s.plan (R.putF s.sides.Reorder f now).1) q2 (by omega) hbl hw' (by omega) h1 h2
    obtain ⟨a, b⟩ := this
    exact ⟨a, b.mono (by simp; omega) (by simp; omega)⟩
   ·
    rw [show ((R.putF s.sides.Reorder f now).2.2 == 0) = false by simpa using he, cond_false, if_neg he]
    obtain ⟨a, b⟩ := ih (i + 1) n N s (eY d).2 D q2 (by omega) hbl hw (by omega) h1 h2
    exact ⟨a, b.mono (by simp; omega) (by simp; omega)⟩

def d7 (now : Int) (s : SS) (d : List Bool) : SS × List Bool :=
 fJ now (S.pikR s.sides.Sender s.plan.Burst).1 { dL (S.pikR s.sides.Sender s.plan.Burst).2.2 s with sides.Sender := (S.pikR s.sides.Sender s.plan.Burst).2.1 } d
theorem IE {N : Nat} {s : SS} (h : Wt N s) (hN : N ≤ 898000000) (now : Int) (d : List Bool) :
  (∃ r, da now s d = some r ∧ r.1 = ((S.pikR s.sides.Sender s.plan.Burst).1.length : Int) ∧ { r.2.1 with out.Delivered := r.2.2.2 } = (d7 now s d).1 ∧ r.2.2.1 = (d7 now s d).2 ∧ r.2.2.2 = (d7 now s d).1.out.Delivered) ∧ Wt (N + 250000) (d7 now s d).1 := by
 obtain ⟨a1, a2, a3⟩ := S.pick_p h.A s.plan.Burst
 have hl := h.acc
 have hw : Wt N { dL (S.pikR s.sides.Sender s.plan.Burst).2.2 s with sides.Sender := (S.pikR s.sides.Sender s.plan.Burst).2.1 } := (h.keep _).upA a1
 obtain ⟨⟨r, e1, e2, e3, e4⟩, e5⟩ := CI (S.pikR s.sides.Sender s.plan.Burst) now s (by omega) (S.pikR s.sides.Sender s.plan.Burst).1 0 big N { dL (S.pikR s.sides.Sender s.plan.Burst).2.2 s with sides.Sender := (S.pikR s.sides.Sender s.plan.Burst).2.1 } d s.out.Delivered List.drop_zero (fo (by clear hw; omega)) a3 hw (by clear hw; omega) rfl rfl
 refine ⟨?_, e5.mono (by omega) (by omega)⟩
 unfold da
 rw [show gE s.sides.Sender s.plan.Burst = some (S.pikR s.sides.Sender s.plan.Burst) from S.pick_e h.A.fit _, aE, jp, aE]
 simp only [Int.natCast_zero] at e1
 rw [e1, aE]
 exact ⟨_, rfl, rfl, e2, e3, e4⟩

def kZ (s : SS) (d : List Bool) : SS × List Bool :=
 if (eY d).1 = true then ({ dL (S.lostR s.sides.Sender).2 s with sides.Sender := (S.lostR s.sides.Sender).1 }, (eY d).2)
 else ({ dL (S.ackR s.sides.Sender (R.repR s.sides.Reorder).1).2.2 (dL (R.repR s.sides.Reorder).2 s) with sides.Sender := (S.ackR s.sides.Sender (R.repR s.sides.Reorder).1).2.1, out.Acked := s.out.Acked ++ my s.plan (S.ackR s.sides.Sender (R.repR s.sides.Reorder).1).1 }, (eY d).2)
theorem report_e {N : Nat} {s : SS} (h : Wt N s) (hN : N ≤ 899000000) (d : List Bool) :
  (∃ r, cP s d = some r ∧ { r.1 with out.Acked := r.2.2 } = (kZ s d).1 ∧ r.2.1 = (kZ s d).2 ∧ r.2.2 = (kZ s d).1.out.Acked) ∧ Wt (N + 1000) (kZ s d).1 := by
 have hK := h.K
 have ha := h.acc
 unfold cP kZ
 rw [BF, aE]
 by_cases hd : (eY d).1 = true
 ·
  rw [hd, cond_true, if_pos rfl, show gI s.sides.Sender = some (S.lostR s.sides.Sender) from S.lost_e h.A.fit, aE, jp, aE]
  exact ⟨⟨_, rfl, rfl, rfl, rfl⟩, ((h.keep _).upA (S.lost_p h.A)).mono (by omega) (by omega)⟩
 ·
  rw [Bool.not_eq_true] at hd
  obtain ⟨a1, a2⟩ := S.ack_p h.A (R.repR s.sides.Reorder).1
  rw [hd, cond_false, if_neg (by decide), show fy s.sides.Reorder = some (R.repR s.sides.Reorder) from R.report_e _ h.B.fit.1, aE, jp, aE]
  rw [show fK (dL (R.repR s.sides.Reorder).2 s).sides.Sender (R.repR s.sides.Reorder).1 = some (S.ackR s.sides.Sender (R.repR s.sides.Reorder).1) from S.acked_e h.A.fit h.A.len _, aE, jp, aE, ti _ _ _ (by omega), aE, fI (by rw [lE]; omega), aE]
  refine ⟨⟨_, rfl, rfl, rfl, rfl⟩, ?_⟩
  refine ⟨a1, h.B, by have := h.D; exact Nat.le_trans this (by omega), ?_, by have := h.X; exact Nat.le_trans this (by omega), by omega, ha, h.many⟩
  simp only [List.length_append, lE]; omega
end Go.AX.Z.TN

/-! (TNH) -/

set_option linter.unusedVariables false
set_option linter.unusedSimpArgs false
set_option maxRecDepth 20000
namespace Go.AX.Z.TN
open Go.AX

structure Sm (s t : SS) : Prop where
 plan : t.plan = s.plan
 many : t.many = s.many
 rounds : t.out.Rounds = s.out.Rounds
theorem Sm.refl (s : SS) : Sm s s := ⟨rfl, rfl, rfl⟩
theorem Sm.trans {s t u : SS} (h : Sm s t) (g : Sm t u) : Sm s u := ⟨g.plan.trans h.plan, g.many.trans h.many, g.rounds.trans h.rounds⟩
theorem yQ (now : Int) : ∀ (n : Nat) (s : SS), Sm s (du now n s) ∧ (du now n s).out = s.out ∧ (0 ≤ s.accepted → 0 ≤ (du now n s).accepted)
 | 0, s => ⟨.refl s, rfl, id⟩
 | n + 1, s => by
  unfold du
  split
  ·
   split
   ·
    exact ⟨.refl s, rfl, id⟩
   ·
    obtain ⟨a, b, c⟩ := yQ now n { dL (S.offR s.sides.Sender now).2.2 s with accepted := s.accepted + 1, sides.Sender := (S.offR s.sides.Sender now).2.1 }
    exact ⟨⟨a.plan, a.many, a.rounds⟩, b, fun h => c (by simp only; omega)⟩
  ·
   exact ⟨.refl s, rfl, id⟩
theorem rU (now : Int) : ∀ (l : List Frame) (s : SS) (d : List Bool), Sm s (fJ now l s d).1 ∧ (fJ now l s d).1.out.Acked = s.out.Acked ∧ (fJ now l s d).1.out.Dropped = s.out.Dropped ∧ (fJ now l s d).1.accepted = s.accepted
 | [], s, d => ⟨.refl s, rfl, rfl, rfl⟩
 | f :: l, s, d => by
  unfold fJ
  split
  ·
   exact rU now l s _
  ·
   split
   ·
    obtain ⟨a, b, c, e⟩ := rU now l { s with sides.Reorder := (R.putF s.sides.Reorder f now).2.1, out.Delivered := s.out.Delivered ++ rel s.plan (R.putF s.sides.Reorder f now).1 } (eY d).2
    exact ⟨⟨a.plan, a.many, a.rounds⟩, b, c, e⟩
   ·
    exact rU now l s _
theorem AJ (now : Int) (s : SS) (d : List Bool) : Sm s (d7 now s d).1 ∧ (d7 now s d).1.out.Acked = s.out.Acked ∧ (d7 now s d).1.out.Dropped = s.out.Dropped ∧ (d7 now s d).1.accepted = s.accepted := by
 obtain ⟨a, b, c, e⟩ := rU now (S.pikR s.sides.Sender s.plan.Burst).1 { dL (S.pikR s.sides.Sender s.plan.Burst).2.2 s with sides.Sender := (S.pikR s.sides.Sender s.plan.Burst).2.1 } d
 exact ⟨⟨a.plan, a.many, a.rounds⟩, b, c, e⟩
theorem B8 (s : SS) (d : List Bool) : Sm s (kZ s d).1 ∧ (kZ s d).1.out.Delivered = s.out.Delivered ∧ (kZ s d).1.out.Dropped = s.out.Dropped ∧ (kZ s d).1.accepted = s.accepted := by
 unfold kZ
 split
 ·
  exact ⟨⟨rfl, rfl, rfl⟩, rfl, rfl, rfl⟩
 ·
  exact ⟨⟨rfl, rfl, rfl⟩, rfl, rfl, rfl⟩

def rxF (now : Int) (s : SS) : SS :=
 { dL (R.expF s.sides.Reorder now).2.2 s with sides.Reorder := (R.expF s.sides.Reorder now).2.1, out.Delivered := s.out.Delivered ++ rel s.plan (R.expF s.sides.Reorder now).1, out.Rounds := s.out.Rounds + 1 }
def rpF (n : Nat) (q : SS × List Bool) : SS × List Bool := if 0 < n then kZ q.1 q.2 else q
def jZ (now : Int) (s : SS) (d : List Bool) : SS × List Bool :=
 let t := du now 200 s
 let q := rpF (S.pikR t.sides.Sender t.plan.Burst).1.length (d7 now t d)
 (rxF now q.1, q.2)

def rA (now : Int) (s : SS) (d : List Bool) (K0 D0 X0 : List Int) : Option (aa × List Bool × List Int × List Int × List Int) :=
  ((cX now s d).bind fun x45 =>
  ((da now { x45 with out.Acked := K0, out.Delivered := D0, out.Dropped := X0 } d).bind fun x46 =>
  ((
   bif decide (0 < x46.1) then
    ((cP { x46.2.1 with out.Acked := K0, out.Delivered := x46.2.2.2, out.Dropped := X0 } x46.2.2.1).bind fun x48 =>
    some (x48.1, x48.2.1, x48.2.2))
   else
    some (x46.2.1, x46.2.2.1, K0)).bind fun d47 =>
  ((dO d47.1.sides.Reorder now).bind fun x49 =>
  ((be x49.2.2 { d47.1 with out.Acked := d47.2.2, out.Delivered := x46.2.2.2, out.Dropped := X0 } d47.2.1).bind fun x50 =>
  ((bO x49.1 { x50 with out.Acked := d47.2.2, out.Delivered := x46.2.2.2, out.Dropped := X0, sides.Reorder := x49.2.1 } d47.2.1).bind fun x51 =>
  some ({ x50 with out.Acked := d47.2.2, out.Delivered := x46.2.2.2, out.Dropped := X0, out.Rounds := IntKind.wrap .i64 (x50.out.Rounds + 1), sides.Reorder := x49.2.1 }, d47.2.1, x51, d47.2.2, X0)))))))

abbrev Kd (r : aa × List Bool × List Int × List Int × List Int) : SS := { r.1 with out.Delivered := r.2.2.1, out.Acked := r.2.2.2.1, out.Dropped := r.2.2.2.2 }
def Gv (c : Option (aa × List Bool × List Int × List Int × List Int)) (q : SS × List Bool) : Prop := ∃ r, c = some r ∧ Kd r = q.1 ∧ r.2.1 = q.2

theorem Do {N : Nat} {now : Int} {s : SS} (h : Wt N s) (hN : N ≤ 899000000) (hr : 0 ≤ s.out.Rounds ∧ s.out.Rounds ≤ 2000) (y : SS) (d : List Bool) (K0 D0 X0 : List Int) (hy : { y with out.Acked := K0, out.Delivered := D0, out.Dropped := X0 } = s) :
  Gv ((dO y.sides.Reorder now).bind fun x49 =>
  ((be x49.2.2 { y with out.Acked := K0, out.Delivered := D0, out.Dropped := X0 } d).bind fun x50 =>
  ((bO x49.1 { x50 with out.Acked := K0, out.Delivered := D0, out.Dropped := X0, sides.Reorder := x49.2.1 } d).bind fun x51 =>
  some ({ x50 with out.Acked := K0, out.Delivered := D0, out.Dropped := X0, out.Rounds := IntKind.wrap .i64 (x50.out.Rounds + 1), sides.Reorder := x49.2.1 }, d, x51, K0, X0)))) (rxF now s, d) ∧ Wt (N + 1000) (rxF now s) := by
 subst hy
 obtain ⟨p1, p2⟩ := R.exp_p h.B now
 have hD := h.D
 simp only at p1 p2 hD hr
 constructor
 ·
  rw [R.expire_e y.sides.Reorder h.B.fit, aE, jp, aE, rC _ _ _ (by omega) (by simp only; omega), aE]
  refine ⟨_, rfl, ?_, rfl⟩
  have : IntKind.wrap .i64 (y.out.Rounds + 1) = y.out.Rounds + 1 := jm (by omega) (by omega)
  simp only [Kd, dL, rxF]
  rw [this]
 ·
  refine ⟨h.A, p1, ?_, Nat.le_trans h.K (Nat.le_add_right _ _), Nat.le_trans h.X (Nat.le_add_right _ _), by omega, h.acc, h.many⟩
  simp only [rxF, List.length_append, zf]; omega

theorem A6 {N : Nat} {now : Int} {s : SS} (h : Wt N s) (h0 : 0 ≤ s.accepted) (hN : N ≤ 898000000) (hr : 0 ≤ s.out.Rounds ∧ s.out.Rounds ≤ 2000) (d : List Bool) :
  Gv (rA now s d s.out.Acked s.out.Delivered s.out.Dropped) (jZ now s d) ∧ Wt (N + 252000) (jZ now s d).1 := by
 obtain ⟨o1, o2⟩ := offer_e h h0 now d
 obtain ⟨m1, m2, m3⟩ := yQ now 200 s
 unfold rA
 rw [o1, aE]
 have e : ({ du now 200 s with out.Acked := s.out.Acked, out.Delivered := s.out.Delivered, out.Dropped := s.out.Dropped } : SS) = du now 200 s := by rw [← m2]
 rw [e]
 obtain ⟨⟨r, r1, r2, r3, r4, r5⟩, w⟩ := IE o2 hN now d
 obtain ⟨k1, k2, k3, k4⟩ := AJ now (du now 200 s) d
 rw [r1, aE]
 have hD : (d7 now (du now 200 s) d).1.out.Delivered = r.2.2.2 := r5.symm
 have hK : r.2.1.out.Acked = s.out.Acked := by
  have : ({ r.2.1 with out.Delivered := r.2.2.2 } : SS).out.Acked = _ := (congrArg (fun z : SS => z.out.Acked) r3).trans (k2.trans (by rw [m2]))
  exact this
 have hX : r.2.1.out.Dropped = s.out.Dropped := by
  have : ({ r.2.1 with out.Delivered := r.2.2.2 } : SS).out.Dropped = _ := (congrArg (fun z : SS => z.out.Dropped) r3).trans (k3.trans (by rw [m2]))
  exact this
 have e2 : ({ r.2.1 with out.Acked := s.out.Acked, out.Delivered := r.2.2.2, out.Dropped := s.out.Dropped } : SS) = (d7 now (du now 200 s) d).1 := by
  rw [← r3, ← hK, ← hX]
 have hrr : (d7 now (du now 200 s) d).1.out.Rounds = s.out.Rounds := k1.rounds.trans m1.rounds
 rw [r2]
 unfold jZ rpF
 by_cases hn : 0 < (S.pikR (du now 200 s).sides.Sender (du now 200 s).plan.Burst).1.length
 ·
  rw [decide_eq_true (by omega), cond_true]
  simp only [if_pos hn]
  rw [e2, r4]
  obtain ⟨⟨q, q1, q2, q3, q4⟩, w2⟩ := report_e w (by omega) (d7 now (du now 200 s) d).2
  obtain ⟨j1, j2, j3, j4⟩ := B8 (d7 now (du now 200 s) d).1 (d7 now (du now 200 s) d).2
  rw [q1, aE, aE]
  have hD2 : q.1.out.Delivered = r.2.2.2 := by
   have : ({ q.1 with out.Acked := q.2.2 } : SS).out.Delivered = _ := (congrArg (fun z : SS => z.out.Delivered) q2).trans (j2.trans hD)
   exact this
  have hX2 : q.1.out.Dropped = s.out.Dropped := by
   have : ({ q.1 with out.Acked := q.2.2 } : SS).out.Dropped = _ := (congrArg (fun z : SS => z.out.Dropped) q2).trans (j3.trans (k3.trans (by rw [m2])))
   exact this
  have e3 : ({ q.1 with out.Acked := q.2.2, out.Delivered := r.2.2.2, out.Dropped := s.out.Dropped } : SS) = (kZ (d7 now (du now 200 s) d).1 (d7 now (du now 200 s) d).2).1 := by
   rw [← q2, ← hD2, ← hX2]
  have := Do (now := now) w2 (by omega) (by rw [j1.rounds, hrr]; exact hr) q.1 q.2.1 q.2.2 r.2.2.2 s.out.Dropped e3
  rw [← q3]
  exact ⟨this.1, this.2.mono (by omega) (by omega)⟩
 ·
  rw [decide_eq_false (by omega), cond_false]
  simp only [if_neg hn]
  rw [aE]
  have := Do (now := now) w (by omega) (by rw [hrr]; exact hr) r.2.1 r.2.2.1 s.out.Acked r.2.2.2 s.out.Dropped e2
  rw [r4] at this ⊢
  exact ⟨this.1, this.2.mono (by omega) (by omega)⟩

def exF (now : Int) (s : SS) : SS :=
 { dL (S.expR s.sides.Sender now).2.2 s with sides.Sender := (S.expR s.sides.Sender now).2.1, out.Dropped := s.out.Dropped ++ my s.plan (S.expR s.sides.Sender now).1 }
def bdF (s : SS) : SS := { dL (S.barR s.sides.Sender).2 s with sides.Sender := (S.barR s.sides.Sender).1 }
def fX (s : SS) (d : List Bool) : SS × List Bool :=
 if s.sides.Sender.Bar = true then (if (eY d).1 = true then (s, (eY d).2) else (bdF (iQ (S.startR s.sides.Sender) s), (eY d).2)) else (s, d)
def di (s : SS) : Int := s.out.Rounds * s.plan.Round
def fC (s : SS) (d : List Bool) : SS × List Bool := jZ (di s) (fX (exF (di s) s) d).1 (fX (exF (di s) s) d).2

theorem Kw {N : Nat} {s : SS} (h : Wt N s) (hN : N ≤ 899000000) (now : Int) : Wt (N + 1000) (exF now s) := by
 obtain ⟨a1, a2⟩ := S.exp_p h.A now
 have ha := h.acc
 have hX := h.X
 refine ⟨a1, h.B, Nat.le_trans h.D (Nat.le_add_right _ _), Nat.le_trans h.K (Nat.le_add_right _ _), ?_, by omega, h.acc, h.many⟩
 simp only [exF, List.length_append, lE]; omega

theorem Hp {A : Option (aa × List Int)} {K : aa × List Int → Option (aa × List Bool × List Int × List Int × List Int)} {Q : SS × List Bool} {v : aa × List Int} (h : A = some v) (g : Gv (K v) Q) : Gv (A.bind K) Q := by
 subst h; exact g

theorem FN {N : Nat} {s : SS} (h : Wt N s) (h0 : 0 ≤ s.accepted) (hN : N ≤ 897000000) (hr : 0 ≤ s.out.Rounds ∧ s.out.Rounds ≤ 2000) (hp : 0 ≤ s.plan.Round ∧ s.plan.Round ≤ 1000000) (d : List Bool) :
  Gv (dl s d) (fC s d) ∧ Wt (N + 256000) (fC s d).1 := by
 have hw1 := Kw h (by omega) (di s)
 obtain ⟨a1, a2⟩ := S.exp_p h.A (di s)
 have hX := h.X
 have ha := h.acc
 have hnow : IntKind.wrap .i64 (s.out.Rounds * s.plan.Round) = di s := by
  have h1 : 0 ≤ s.out.Rounds * s.plan.Round := Int.mul_nonneg hr.1 hp.1
  have h2 : s.out.Rounds * s.plan.Round ≤ 2000 * 1000000 := Int.mul_le_mul hr.2 hp.2 hp.1 (by omega)
  exact jm (by omega) (by omega)
 unfold dl
 rw [hnow, show fu s.sides.Sender (di s) = some (S.expR s.sides.Sender (di s)) from S.expire_e h.A.fit h.A.len _, aE, jp, aE, ti _ _ _ (by omega), aE, fI (by rw [lE]; omega), aE]
 unfold fC fX
 show Gv (bif (exF (di s) s).sides.Sender.Bar then _ else _) _ ∧ _
 cases hb : (exF (di s) s).sides.Sender.Bar with
 | false =>
  rw [cond_false, if_neg (by decide)]
  have := A6 (now := di s) (s := exF (di s) s) hw1 h0 (by omega) hr d
  exact ⟨this.1, this.2.mono (by omega) (by omega)⟩
 | true =>
  rw [cond_true, if_pos rfl, BF, aE]
  cases hd : (eY d).1 with
  | true =>
   rw [if_pos rfl, Bool.not_true, cond_false, aE]
   have := A6 (now := di s) (s := exF (di s) s) hw1 h0 (by omega) hr (eY d).2
   exact ⟨this.1, this.2.mono (by omega) (by omega)⟩
  | false =>
   rw [if_neg (by decide), Bool.not_false, cond_true]
   obtain ⟨⟨m, m1, m2, m3⟩, w2⟩ := y5 hw1 (by omega) (S.startR (exF (di s) s).sides.Sender) (eY d).2
   have w3 : Wt (N + 1000 + 1000) (bdF (iQ (S.startR (exF (di s) s).sides.Sender) (exF (di s) s))) := (w2.keep _).upA (S.bar_p w2.A)
   have hS : m.1.sides.Sender = (iQ (S.startR (exF (di s) s).sides.Sender) (exF (di s) s)).sides.Sender := by
    have := congrArg (fun z : SS => z.sides.Sender) m2; exact this
   have hfix : ({ m.1 with out.Acked := s.out.Acked, out.Delivered := m.2, out.Dropped := s.out.Dropped ++ my s.plan (S.expR s.sides.Sender (di s)).1 } : SS) = iQ (S.startR (exF (di s) s).sides.Sender) (exF (di s) s) := by
    have q1 : m.1.out.Acked = s.out.Acked := by
     have := congrArg (fun z : SS => z.out.Acked) m2; exact this
    have q2 : m.1.out.Dropped = s.out.Dropped ++ my s.plan (S.expR s.sides.Sender (di s)).1 := by
     have := congrArg (fun z : SS => z.out.Dropped) m2; exact this
    rw [← m2, ← q1, ← q2]
   have key : ((((gN (S.expR s.sides.Sender (di s)).2.1).bind fun x41 =>
    ((cB x41 { dL (S.expR s.sides.Sender (di s)).2.2 s with out.Acked := s.out.Acked, out.Delivered := s.out.Delivered, out.Dropped := (s.out.Dropped ++ my s.plan (S.expR s.sides.Sender (di s)).1), sides.Sender := (S.expR s.sides.Sender (di s)).2.1 } (eY d).2).bind fun x42 =>
    ((eP x42.1.sides.Sender).bind fun x43 =>
    ((be x43.2 { x42.1 with out.Acked := s.out.Acked, out.Delivered := x42.2, out.Dropped := (s.out.Dropped ++ my s.plan (S.expR s.sides.Sender (di s)).1), sides.Sender := x43.1 } (eY d).2).bind fun x44 =>
    some (x44, x42.2)))))) : Option (aa × List Int)) = some (bdF (iQ (S.startR (exF (di s) s).sides.Sender) (exF (di s) s)), m.2) := by
    rw [S.start_r a1, aE]
    show ((cB (S.startR (exF (di s) s).sides.Sender) (exF (di s) s) (eY d).2).bind _) = _
    rw [m1, aE, hS, show eP (iQ (S.startR (exF (di s) s).sides.Sender) (exF (di s) s)).sides.Sender = some (S.barR (iQ (S.startR (exF (di s) s).sides.Sender) (exF (di s) s)).sides.Sender) from S.barred_e w2.A.fit, aE, jp, aE]
    unfold bdF
    rw [← hfix]; rfl
   have := A6 (now := di s) (s := bdF (iQ (S.startR (exF (di s) s).sides.Sender) (exF (di s) s))) w3 h0 (by omega) hr (eY d).2
   refine ⟨Hp key ?_, this.2.mono (by omega) (by omega)⟩
   have g := this.1
   unfold rA at g
   rw [m3]
   exact g
end Go.AX.Z.TN

/-! (TNJ) -/

set_option linter.unusedVariables false
set_option linter.unusedSimpArgs false
set_option maxRecDepth 20000
namespace Go.AX.Z.TN
open Go.AX

/-! ## The end, the beginning, a run -/

def rng (a m : Int) : List Int := (List.range (m - a).toNat).map fun (i : Nat) => a + (i : Int)
theorem lr {a m : Int} (h : a < m) : rng a m = a :: rng (a + 1) m := by
 unfold rng
 have : (m - a).toNat = (m - (a + 1)).toNat + 1 := by omega
 rw [this, List.range_succ_eq_map, List.map_cons, List.map_map]
 congr 1
 ·
  simp
 ·
  apply List.map_congr_left
  intro i _
  simp only [Function.comp]; omega
theorem ji {a m : Int} (h : m ≤ a) : rng a m = [] := by
 unfold rng
 have : (m - a).toNat = 0 := by omega
 rw [this]; rfl
theorem rY (a m : Int) : (rng a m).length = (m - a).toNat := by simp [rng]
theorem nd (s : SS) (hm : s.many ≤ 200) : ∀ (k n : Nat) (a : Int) (acc : List Int), (s.many - a).toNat = k → k < n → 0 ≤ a → acc.length + k ≤ 1000000000 → cm s n (acc, a) = some (acc ++ rng a s.many) := by
 intro k
 induction k with
 | zero =>
  intro n a acc hk hn ha hc
  obtain ⟨n, rfl⟩ : ∃ q, n = q + 1 := ⟨n - 1, by omega⟩
  rw [cm, decide_eq_false (by simp only; omega), cond_false, ji (by omega), List.append_nil]
 | succ k ih =>
  intro n a acc hk hn ha hc
  obtain ⟨n, rfl⟩ : ∃ q, n = q + 1 := ⟨n - 1, by omega⟩
  rw [cm, decide_eq_true (by simp only; omega), cond_true]
  simp only
  rw [fI (by omega), aE, jm (by omega) (by omega), ih n (a + 1) _ (by omega) (by omega) (by omega) (by simp; omega), lr (a := a) (by omega)]
  simp

def clF (s : SS) : SS := { dL (S.closeR s.sides.Sender).2.2 s with sides.Sender := (S.closeR s.sides.Sender).2.1, out.Dropped := s.out.Dropped ++ my s.plan (S.closeR s.sides.Sender).1 ++ rng s.accepted s.many }
def lC (s : SS) : SS := iQ (S.closeR s.sides.Sender).2.1.Next (clF s)
theorem close_e {N : Nat} {s : SS} (h : Wt N s) (h0 : 0 ≤ s.accepted) (hN : N ≤ 898000000) (d : List Bool) :
  (∃ r, d9 s d = some r ∧ { r.1 with out.Delivered := r.2.1, out.Dropped := r.2.2 } = lC s ∧ r.2.1 = (lC s).out.Delivered ∧ r.2.2 = (lC s).out.Dropped) ∧ Wt (N + 2000) (lC s) := by
 obtain ⟨a1, a2⟩ := S.close_p h.A
 have ha := h.acc
 have hm := h.many
 have hX := h.X
 have hw : Wt (N + 1000) (clF s) := by
  refine ⟨a1, h.B, Nat.le_trans h.D (Nat.le_add_right _ _), Nat.le_trans h.K (Nat.le_add_right _ _), ?_, by omega, h.acc, h.many⟩
  simp only [clF, List.length_append, lE, rY]; omega
 obtain ⟨⟨m, m1, m2, m3⟩, w2⟩ := y5 hw (by omega) (S.closeR s.sides.Sender).2.1.Next d
 refine ⟨?_, w2.mono (by omega) (by omega)⟩
 unfold d9
 rw [show fR s.sides.Sender = some (S.closeR s.sides.Sender) from S.close_e h.A.fit, aE, jp, aE, ti _ _ _ (by omega), aE, fI (by rw [lE]; omega), aE, nd (dL (S.closeR s.sides.Sender).2.2 s) hm _ big (dL (S.closeR s.sides.Sender).2.2 s).accepted _ rfl (fo (by simp only [dL]; omega)) h0 (by simp only [List.length_append, lE, dL]; omega), aE]
 show ∃ r, ((cB (S.closeR s.sides.Sender).2.1.Next (clF s) d).bind _) = _ ∧ _
 rw [m1, aE]
 have hX2 : m.1.out.Dropped = (clF s).out.Dropped := by
  have := congrArg (fun z : SS => z.out.Dropped) m2; exact this
 refine ⟨_, rfl, ?_, m3, rfl⟩
 show ({ m.1 with out.Delivered := m.2, out.Dropped := (clF s).out.Dropped } : SS) = lC s
 unfold lC
 rw [← m2, ← hX2]

def dt (p : al) : Prop := (0 ≤ p.Start ∧ p.Start ≤ 4095) ∧ (1 ≤ p.Size ∧ p.Size ≤ 64) ∧ (1 ≤ p.Limit ∧ p.Limit ≤ 16) ∧ (1 ≤ p.Burst ∧ p.Burst ≤ 64) ∧ (1 ≤ p.Life ∧ p.Life ≤ 1073741824) ∧ (0 ≤ p.Hold ∧ p.Hold ≤ 16777216) ∧ (1 ≤ p.Round ∧ p.Round ≤ 1000000)
instance (p : al) : Decidable (dt p) := by unfold dt; infer_instance
theorem HD (p : al) : gq p = some (if dt p then 0 else 8) := by
 unfold gq
 simp only [cR, aE]
 have b1 : ∀ (a b : Bool), (bif a then some b else some false) = some (a && b) := by intro a b; cases a <;> rfl
 simp only [b1, aE]
 by_cases h : dt p
 ·
  obtain ⟨⟨a1, a2⟩, ⟨a3, a4⟩, ⟨a5, a6⟩, ⟨a7, a8⟩, ⟨a9, a10⟩, ⟨a11, a12⟩, a13, a14⟩ := h
  rw [if_pos ⟨⟨a1, a2⟩, ⟨a3, a4⟩, ⟨a5, a6⟩, ⟨a7, a8⟩, ⟨a9, a10⟩, ⟨a11, a12⟩, a13, a14⟩]
  simp only [a1, a2, a3, a4, a5, a6, a7, a8, a9, a10, a11, a12, a13, a14, decide_true, Bool.and_self, Bool.not_true, Bool.or_self, cond_false]
 ·
  rw [if_neg h]
  cases hc : (!((((decide (0 ≤ p.Start) && decide (p.Start ≤ 4095)) && (decide (1 ≤ p.Size) && decide (p.Size ≤ 64))) && (decide (1 ≤ p.Limit) && decide (p.Limit ≤ 16))) && (decide (1 ≤ p.Burst) && decide (p.Burst ≤ 64))) || !(((decide (1 ≤ p.Life) && decide (p.Life ≤ 1073741824)) && (decide (0 ≤ p.Hold) && decide (p.Hold ≤ 16777216))) && (decide (1 ≤ p.Round) && decide (p.Round ≤ 1000000))))
  ·
   exfalso
   apply h
   simp only [Bool.or_eq_false_iff, Bool.not_eq_false', Bool.and_eq_true, decide_eq_true_eq] at hc
   unfold dt; omega
  ·
   rfl

def A0 (p : al) : Sender := { Sender.z with Life := p.Life, Limit := p.Limit, Next := p.Start, Phase := 2, Size := p.Size, Token := 1 }
def B0 (p : al) : Reorder := { Reorder.z with Hold := p.Hold, Seen := { aW.z with Start := p.Start }, Size := p.Size, Start := p.Start }
def ju (p : al) (many : Int) : SS := { aa.z with many := many, plan := p }
theorem AF {p : al} (hp : dt p) (t ph sz : Int) (ht : 0 ≤ t ∧ t ≤ 255) (hph : 0 ≤ ph ∧ ph ≤ 2) (hsz : if ph = 0 then sz = 0 else 1 ≤ sz ∧ sz ≤ 64) : S.Valid { A0 p with Token := t, Phase := ph, Size := sz } := by
 obtain ⟨h1, h2, h3, h4, h5, h6, h7⟩ := hp
 have e : S.startOf { A0 p with Token := t, Phase := ph, Size := sz } = p.Start := rfl
 refine ⟨by simp [A0, Sender.z], hph.2, ht, h1, h3, h5, hsz, fun _ => ⟨rfl, rfl⟩, ?_, trivial⟩
 rw [e]
 show aP p.Start p.Start ≤ sz
 have : aP p.Start p.Start = 0 := by unfold aP; simp
 rw [this]
 split at hsz <;> omega
theorem Fz {p : al} (hp : dt p) (many : Int) (d : List Bool) : d4 (ju p many) d = some { ju p many with sides := ⟨A0 p, B0 p⟩ } := by
 have v0 : S.Valid (S.newS 0 p.Start p.Limit p.Life) := AF hp 0 0 0 (by omega) (by omega) rfl
 have f0 := S.newS_fit 0 p.Start p.Limit p.Life
 have k1 : S.tok (S.newS 0 p.Start p.Limit p.Life) = 1 := by
  show IntKind.wrap .i64 ((0 : Int).tmod 255 + 1) = 1; decide
 obtain ⟨h1, h2, h3, h4, h5, h6, h7⟩ := hp
 have hp : dt p := ⟨h1, h2, h3, h4, h5, h6, h7⟩
 have e1 : S.askS (S.newS 0 p.Start p.Limit p.Life) p.Size = { A0 p with Token := 1, Phase := 1 } := by
  unfold S.askS; rw [k1]; rfl
 have v1 : S.Valid ({ A0 p with Token := 1, Phase := 1 } : Sender) := AF hp 1 1 p.Size (by omega) (by omega) h2
 have hb : R.VR (B0 p) := ⟨⟨⟨h1.1, by show p.Start < 4096; omega⟩, h2.1, h2.2, h6.1, h6.2, h1.1, by show p.Start < 4096; omega⟩, trivial⟩
 unfold d4
 rw [show (ju p many).plan = p from rfl, S.new_e, if_pos v0, aE, jp, aE]
 simp only
 rw [S.ask_e f0, if_pos v0, if_pos h2, if_neg (show ¬ (S.newS 0 p.Start p.Limit p.Life).Phase = 2 from (by decide : ¬ (0 : Int) = 2)), aE, jp, aE]
 simp only
 rw [e1, S.answer_e ⟨by simp [A0, Sender.z], by simp [A0, Sender.z]⟩, if_pos v1, if_pos rfl, if_pos ⟨k1, rfl⟩, if_neg (by rintro ⟨_, q⟩; exact q ⟨h2.1, Int.le_refl _⟩), aE, jp, aE]
 unfold lN
 rw [show ({ Reorder.z with Hold := p.Hold, Seen := { aW.z with Start := p.Start }, Size := p.Size, Start := p.Start } : Reorder) = B0 p from rfl, R.check_e _ (by simp [B0, Reorder.z]), if_pos hb, aE, bne_self_eq_false, cond_false, aE, jp, aE]
 rfl

def iJ : Nat → SS → List Bool → SS × List Bool
 | 0, s, d => (s, d)
 | n + 1, s, d => if s.err = 0 ∧ (s.accepted < s.many ∨ s.sides.Sender.Out ≠ [] ∨ s.sides.Sender.Bar = true) then
   (if s.out.Rounds = 2000 then (lC s, d) else iJ n (fC s d).1 (fC s d).2) else (s, d)

theorem En (now : Int) (s : SS) (d : List Bool) : (jZ now s d).1.plan = s.plan ∧ (jZ now s d).1.many = s.many ∧ (jZ now s d).1.out.Rounds = s.out.Rounds + 1 ∧ (0 ≤ s.accepted → 0 ≤ (jZ now s d).1.accepted) := by
 obtain ⟨m1, m2, m3⟩ := yQ now 200 s
 obtain ⟨k1, k2, k3, k4⟩ := AJ now (du now 200 s) d
 have hs := m1.trans k1
 have q : Sm s (rpF (S.pikR (du now 200 s).sides.Sender (du now 200 s).plan.Burst).1.length (d7 now (du now 200 s) d)).1 ∧ (rpF (S.pikR (du now 200 s).sides.Sender (du now 200 s).plan.Burst).1.length (d7 now (du now 200 s) d)).1.accepted = (d7 now (du now 200 s) d).1.accepted := by
  unfold rpF
  split
  ·
   obtain ⟨j1, j2, j3, j4⟩ := B8 (d7 now (du now 200 s) d).1 (d7 now (du now 200 s) d).2
   exact ⟨hs.trans j1, j4⟩
  ·
   exact ⟨hs, rfl⟩
 refine ⟨q.1.plan, q.1.many, ?_, fun h => ?_⟩
 ·
  show (rpF _ _).1.out.Rounds + 1 = _
  rw [q.1.rounds]
 ·
  show 0 ≤ (rpF _ _).1.accepted
  rw [q.2, k4]; exact m3 h
theorem CV (s : SS) (d : List Bool) : (fC s d).1.plan = s.plan ∧ (fC s d).1.many = s.many ∧ (fC s d).1.out.Rounds = s.out.Rounds + 1 ∧ (0 ≤ s.accepted → 0 ≤ (fC s d).1.accepted) := by
 have hb : (fX (exF (di s) s) d).1.plan = s.plan ∧ (fX (exF (di s) s) d).1.many = s.many ∧ (fX (exF (di s) s) d).1.out.Rounds = s.out.Rounds ∧ (fX (exF (di s) s) d).1.accepted = s.accepted := by
  unfold fX
  split
  ·
   split
   ·
    exact ⟨rfl, rfl, rfl, rfl⟩
   ·
    exact ⟨rfl, rfl, rfl, rfl⟩
  ·
   exact ⟨rfl, rfl, rfl, rfl⟩
 obtain ⟨a, b, c, e⟩ := En (di s) (fX (exF (di s) s) d).1 (fX (exF (di s) s) d).2
 exact ⟨a.trans hb.1, b.trans hb.2.1, c.trans (by rw [hb.2.2.1]), fun h => e (by rw [hb.2.2.2]; exact h)⟩

theorem EC (many : Int) (hm : 0 ≤ many ∧ many ≤ 200) : ∀ (k n N : Nat) (s : SS) (d : List Bool) (x : SS) (D K X : List Int), { x with out.Delivered := D, out.Acked := K, out.Dropped := X } = s → Wt N s → 0 ≤ s.accepted → s.many = many → 0 ≤ s.out.Rounds → s.out.Rounds + k = 2000 → (0 ≤ s.plan.Round ∧ s.plan.Round ≤ 1000000) → N + 256000 * k ≤ 800000000 → k < n →
  ∃ r, eo many n (x, d, D, K, X) = some r ∧ { r.1 with out.Delivered := r.2.2.1, out.Acked := r.2.2.2.1, out.Dropped := r.2.2.2.2 } = (iJ (k + 1) s d).1 := by
 intro k
 induction k with
 | zero =>
  intro n N s d x D K X hx hw ha hmy hr hk hp hN hn
  obtain ⟨n, rfl⟩ : ∃ q, n = q + 1 := ⟨n - 1, by omega⟩
  rw [eo]
  subst hx
  unfold iJ
  by_cases hc : x.err = 0 ∧ (x.accepted < many ∨ x.sides.Sender.Out ≠ [] ∨ x.sides.Sender.Bar = true)
  ·
   have hcb : ((x.err == 0) && (((decide (x.accepted < many)) || (decide (0 < ((x.sides.Sender.Out.length : Nat) : Int)))) || x.sides.Sender.Bar)) = true := by
    obtain ⟨h1, h2⟩ := hc
    rw [h1]
    rcases h2 with h2 | h2 | h2
    ·
     simp [h2]
    ·
     have : 0 < x.sides.Sender.Out.length := List.length_pos_iff.2 h2
     simp [this]
    ·
     simp [h2]
   have hcs : ({ x with out.Delivered := D, out.Acked := K, out.Dropped := X } : SS).err = 0 ∧ (({ x with out.Delivered := D, out.Acked := K, out.Dropped := X } : SS).accepted < ({ x with out.Delivered := D, out.Acked := K, out.Dropped := X } : SS).many ∨ ({ x with out.Delivered := D, out.Acked := K, out.Dropped := X } : SS).sides.Sender.Out ≠ [] ∨ ({ x with out.Delivered := D, out.Acked := K, out.Dropped := X } : SS).sides.Sender.Bar = true) := by
    rw [hmy]; exact hc
   have hR : x.out.Rounds = 2000 := by simp only at hk; omega
   rw [if_pos hcs, if_pos hR]
   simp only [hcb, cond_true]
   rw [show (x.out.Rounds == 2000) = true by simpa using hR, cond_true]
   obtain ⟨⟨r, r1, r2, r3, r4⟩, w⟩ := close_e hw ha (by omega) d
   rw [r1, aE]
   refine ⟨_, rfl, ?_⟩
   have hK : r.1.out.Acked = K := by
    have := congrArg (fun z : SS => z.out.Acked) r2; exact this
   simp only
   rw [← r2, ← hK]
  ·
   have hcb : ((x.err == 0) && (((decide (x.accepted < many)) || (decide (0 < ((x.sides.Sender.Out.length : Nat) : Int)))) || x.sides.Sender.Bar)) = false := by
    rw [Bool.eq_false_iff]
    intro q
    apply hc
    simp only [Bool.and_eq_true, beq_iff_eq, Bool.or_eq_true, decide_eq_true_eq] at q
    refine ⟨q.1, ?_⟩
    rcases q.2 with (q | q) | q
    ·
     exact .inl q
    ·
     exact .inr (.inl (List.length_pos_iff.1 (by omega)))
    ·
     exact .inr (.inr q)
   have hcs : ¬ (({ x with out.Delivered := D, out.Acked := K, out.Dropped := X } : SS).err = 0 ∧ (({ x with out.Delivered := D, out.Acked := K, out.Dropped := X } : SS).accepted < ({ x with out.Delivered := D, out.Acked := K, out.Dropped := X } : SS).many ∨ ({ x with out.Delivered := D, out.Acked := K, out.Dropped := X } : SS).sides.Sender.Out ≠ [] ∨ ({ x with out.Delivered := D, out.Acked := K, out.Dropped := X } : SS).sides.Sender.Bar = true)) := by
    rw [hmy]; exact hc
   rw [if_neg hcs]
   simp only [hcb, cond_false]
   exact ⟨_, rfl, rfl⟩
 | succ k ih =>
  intro n N s d x D K X hx hw ha hmy hr hk hp hN hn
  obtain ⟨n, rfl⟩ : ∃ q, n = q + 1 := ⟨n - 1, by omega⟩
  rw [eo]
  subst hx
  unfold iJ
  by_cases hc : x.err = 0 ∧ (x.accepted < many ∨ x.sides.Sender.Out ≠ [] ∨ x.sides.Sender.Bar = true)
  ·
   have hcb : ((x.err == 0) && (((decide (x.accepted < many)) || (decide (0 < ((x.sides.Sender.Out.length : Nat) : Int)))) || x.sides.Sender.Bar)) = true := by
    obtain ⟨h1, h2⟩ := hc
    rw [h1]
    rcases h2 with h2 | h2 | h2
    ·
     simp [h2]
    ·
     have : 0 < x.sides.Sender.Out.length := List.length_pos_iff.2 h2
     simp [this]
    ·
     simp [h2]
   have hcs : ({ x with out.Delivered := D, out.Acked := K, out.Dropped := X } : SS).err = 0 ∧ (({ x with out.Delivered := D, out.Acked := K, out.Dropped := X } : SS).accepted < ({ x with out.Delivered := D, out.Acked := K, out.Dropped := X } : SS).many ∨ ({ x with out.Delivered := D, out.Acked := K, out.Dropped := X } : SS).sides.Sender.Out ≠ [] ∨ ({ x with out.Delivered := D, out.Acked := K, out.Dropped := X } : SS).sides.Sender.Bar = true) := by
    rw [hmy]; exact hc
   have hR : x.out.Rounds ≠ 2000 := by simp only at hk; omega
   rw [if_pos hcs, if_neg hR]
   simp only [hcb, cond_true]
   rw [show (x.out.Rounds == 2000) = false by simpa using hR, cond_false]
   obtain ⟨⟨r, r1, r2, r3⟩, w⟩ := FN hw ha (by omega) ⟨hr, by simp only at hk ⊢; omega⟩ hp d
   obtain ⟨z1, z2, z3, z4⟩ := CV ({ x with out.Delivered := D, out.Acked := K, out.Dropped := X } : SS) d
   have r1' : dl { x with out.Acked := K, out.Delivered := D, out.Dropped := X } d = some r := r1
   rw [r1', aE]
   have := ih n (N + 256000) (fC ({ x with out.Delivered := D, out.Acked := K, out.Dropped := X } : SS) d).1 r.2.1 r.1 r.2.2.1 r.2.2.2.1 r.2.2.2.2 r2 w (z4 ha) (z2.trans hmy) (by rw [z3]; simp only at hr ⊢; omega) (by rw [z3]; simp only at hk ⊢; omega) (by rw [z1]; exact hp) (by omega) (by omega)
   rw [r3] at this
   rw [r3]
   exact this
  ·
   have hcb : ((x.err == 0) && (((decide (x.accepted < many)) || (decide (0 < ((x.sides.Sender.Out.length : Nat) : Int)))) || x.sides.Sender.Bar)) = false := by
    rw [Bool.eq_false_iff]
    intro q
    apply hc
    simp only [Bool.and_eq_true, beq_iff_eq, Bool.or_eq_true, decide_eq_true_eq] at q
    refine ⟨q.1, ?_⟩
    rcases q.2 with (q | q) | q
    ·
     exact .inl q
    ·
     exact .inr (.inl (List.length_pos_iff.1 (by omega)))
    ·
     exact .inr (.inr q)
   have hcs : ¬ (({ x with out.Delivered := D, out.Acked := K, out.Dropped := X } : SS).err = 0 ∧ (({ x with out.Delivered := D, out.Acked := K, out.Dropped := X } : SS).accepted < ({ x with out.Delivered := D, out.Acked := K, out.Dropped := X } : SS).many ∨ ({ x with out.Delivered := D, out.Acked := K, out.Dropped := X } : SS).sides.Sender.Out ≠ [] ∨ ({ x with out.Delivered := D, out.Acked := K, out.Dropped := X } : SS).sides.Sender.Bar = true)) := by
    rw [hmy]; exact hc
   rw [if_neg hcs]
   simp only [hcb, cond_false]
   exact ⟨_, rfl, rfl⟩

def start (p : al) (many : Int) : SS := { ju p many with sides := ⟨A0 p, B0 p⟩ }
def rb (p : al) (many : Int) (d : List Bool) : aD × Int :=
 if dt p then (if 0 ≤ many ∧ many ≤ 200 then
  (if (iJ 2001 (start p many) d).1.err = 0 then ((iJ 2001 (start p many) d).1.out, 0) else (aD.z, (iJ 2001 (start p many) d).1.err))
  else (aD.z, 4)) else (aD.z, 8)
theorem GM (p : al) (many : Int) (d : List Bool) : dV p many d = some (rb p many d) := by
 unfold dV rb
 rw [HD, aE]
 by_cases hp : dt p
 ·
  rw [if_pos hp, if_pos hp, bne_self_eq_false, cond_false]
  simp only [cR, aE]
  by_cases hm : 0 ≤ many ∧ many ≤ 200
  ·
   rw [if_pos hm, show (!(decide (0 ≤ many) && decide (many ≤ 200))) = false by simp [hm], cond_false]
   rw [show ({ aa.z with many := many, out.Acked := ([] : List Int), out.Delivered := ([] : List Int), out.Dropped := ([] : List Int), plan := p } : SS) = ju p many from rfl, Fz hp, aE]
   have hw : Wt 0 (start p many) := ⟨⟨by simp [start, ju, A0, Sender.z, aa.z], by simp [start, ju, aa.z], by simp [start, A0, Sender.z]⟩, ⟨by simp [start, B0, Reorder.z], by simp [start, B0, Reorder.z]⟩, by simp [start, ju, aa.z, aD.z], by simp [start, ju, aa.z, aD.z], by simp [start, ju, aa.z, aD.z], by omega, by simp [start, ju, aa.z], hm.2⟩
   obtain ⟨r, r1, r2⟩ := EC many hm 2000 big 0 (start p many) d (start p many) [] [] [] rfl hw (Int.le_refl _) rfl (Int.le_refl _) rfl (by have := hp.2.2.2.2.2.2; show 0 ≤ p.Round ∧ p.Round ≤ 1000000; omega) (by omega) (fo (by omega))
   rw [show ({ ju p many with sides := ⟨A0 p, B0 p⟩ } : SS) = start p many from rfl, r1, aE]
   have he : r.1.err = (iJ 2001 (start p many) d).1.err := by
    have := congrArg (fun z : SS => z.err) r2; exact this
   rw [he]
   by_cases h0 : (iJ 2001 (start p many) d).1.err = 0
   ·
    rw [if_pos h0, h0, bne_self_eq_false, cond_false]
    have := congrArg (fun z : SS => z.out) r2
    simp only at this
    rw [← this]
   ·
    rw [if_neg h0, show ((iJ 2001 (start p many) d).1.err != 0) = true by simpa using h0]; rfl
  ·
   rw [if_neg hm, show (!(decide (0 ≤ many) && decide (many ≤ 200))) = true by simp; omega]; rfl
 ·
  rw [if_neg hp, if_neg hp]; rfl
end Go.AX.Z.TN

/-! (TNL) -/

set_option linter.unusedVariables false
set_option linter.unusedSimpArgs false
set_option maxRecDepth 20000
namespace Go.AX.Z.TN
open Go.AX

theorem EN : fN = some true := by decide +kernel

end Go.AX.Z.TN

/-! (TNM) -/

set_option linter.unusedVariables false
set_option linter.unusedSimpArgs false
set_option maxRecDepth 20000
namespace Go.AX.Z.TN
open Go.AX

theorem uJ {a b : Int} (h : a ≤ b) (h2 : b - a < 4096) : aP a b = b - a := by unfold aP; omega
theorem GR {n : Int} (h : 0 ≤ n) (h2 : n < 4096) : aP 0 n = n := by unfold aP; omega
theorem Gu {p : al} (hp : p.Start = 0) {l : List Int} (h : ∀ x ∈ l, 0 ≤ x ∧ x < 4096) : my p l = l := by
 unfold my
 rw [hp]
 conv => rhs; rw [← List.map_id l]
 exact List.map_congr_left fun x hx => GR (h x hx).1 (h x hx).2
abbrev fq (f : Frame) : Int := f.Head.Seq
def hn (b : Reorder) : List Int := b.Held.map (·.n)
theorem AO {b : Reorder} {i : Int} : i ∈ hn b ↔ ∃ h ∈ b.Held, h.n = i := by unfold hn; rw [List.mem_map]

namespace R
end R

end Go.AX.Z.TN

/-! (TNN) -/

set_option linter.unusedVariables false
set_option linter.unusedSimpArgs false
set_option maxRecDepth 20000
namespace Go.AX.Z.TN
open Go.AX

def U64 (B : Int) : Prop := 0 ≤ B ∧ B < 18446744073709551616
theorem qw : (2 : Nat) ^ 64 = 18446744073709551616 := rfl
theorem GN (X e : Nat) : (X : Int).fdiv (2 ^ e) = ((X / 2 ^ e : Nat) : Int) := by
 rw [Int.fdiv_eq_ediv_of_nonneg _ (by exact Int.pow_nonneg (by decide))]
 simp
theorem KI (Y : Nat) (hY : Y < 18446744073709551616) : vX .u64 (Y : Int) 1 = ((Y % 2 : Nat) : Int) := by
 have hb : (IntKind.bits .u64) = 64 := rfl
 unfold vX
 rw [hb, show (1 : Int) = ((1 : Nat) : Int) from rfl, BitVec.ofInt_natCast, BitVec.ofInt_natCast, BitVec.toNat_and, BitVec.toNat_ofNat, BitVec.toNat_ofNat, Nat.mod_eq_of_lt (by rw [qw]; exact hY), Nat.mod_eq_of_lt (by decide), Nat.and_one_is_mod, nX]
 omega
theorem Ka (X Y : Nat) (hX : X < 18446744073709551616) (hY : Y < 18446744073709551616) : bor .u64 (X : Int) (Y : Int) = ((X ||| Y : Nat) : Int) := by
 have hb : (IntKind.bits .u64) = 64 := rfl
 have h : X ||| Y < 2 ^ 64 := Nat.or_lt_two_pow (by rw [qw]; exact hX) (by rw [qw]; exact hY)
 unfold bor
 rw [hb, BitVec.ofInt_natCast, BitVec.ofInt_natCast, BitVec.toNat_or, BitVec.toNat_ofNat, BitVec.toNat_ofNat, Nat.mod_eq_of_lt (by rw [qw]; exact hX), Nat.mod_eq_of_lt (by rw [qw]; exact hY), nX]
 rw [qw] at h
 omega
theorem GW (X d : Nat) (hX : X < 18446744073709551616) (hd : d < 64) : (vX .u64 ((X : Int).fdiv (2 ^ (min d 64))) 1 == 1) = X.testBit d := by
 rw [Nat.min_eq_left (by omega), GN, KI _ (Nat.lt_of_le_of_lt (Nat.div_le_self _ _) hX), Nat.testBit_eq_decide_div_mod_eq]
 rw [Bool.eq_iff_iff, beq_iff_eq, decide_eq_true_eq]
 omega
theorem GH (X d : Nat) (hX : X < 18446744073709551616) (hd : d < 64) : R.mrk (X : Int) (d : Int) = ((X ||| 2 ^ d : Nat) : Int) := by
 have h2 : 2 ^ d < 2 ^ 64 := Nat.pow_lt_pow_right (by decide) hd
 rw [qw] at h2
 unfold R.mrk
 rw [Int.toNat_natCast, Nat.min_eq_left (by omega), Int.one_mul, show ((2 : Int) ^ d) = ((2 ^ d : Nat) : Int) by simp, nX, Int.emod_eq_of_lt (Int.natCast_nonneg _) (by exact Int.ofNat_lt.2 h2), Ka _ _ hX h2]
theorem GE {X d : Nat} (hX : X < 18446744073709551616) (hd : d < 64) : X ||| 2 ^ d < 18446744073709551616 := by
 have := Nat.or_lt_two_pow (n := 64) (x := X) (y := 2 ^ d) (by rw [qw]; exact hX) (Nat.pow_lt_pow_right (by decide) hd)
 rwa [qw] at this
theorem qy {w : aW} {X : Nat} (hB : w.Bits = X) (hX : X < 18446744073709551616) (n : Int) : S.hasB w n = true ↔ (S.okW w ∧ 0 ≤ n ∧ n < 4096 ∧ aP w.Start n < 64) ∧ X.testBit (aP w.Start n).toNat = true := by
 unfold S.hasB
 rw [Bool.and_eq_true, decide_eq_true_eq, hB]
 constructor
 ·
  rintro ⟨h1, h2⟩
  rw [GW X _ hX (by have := fL w.Start n; omega)] at h2
  exact ⟨h1, h2⟩
 ·
  rintro ⟨h1, h2⟩
  refine ⟨h1, ?_⟩
  rw [GW X _ hX (by have := fL w.Start n; omega)]
  exact h2
theorem Mw {X i : Nat} (hX : X < 18446744073709551616) (h : X.testBit i = true) : i < 64 := by
 apply Nat.lt_of_not_le
 intro h64
 have : X < 2 ^ i := Nat.lt_of_lt_of_le (by rw [← qw] at hX; exact hX) (Nat.pow_le_pow_right (by decide) h64)
 rw [Nat.testBit_lt_two_pow this] at h; cases h

structure Note (w : aW) (n : Int) : Prop where
 u : U64 (R.noteF w n).Bits
 ok : S.okW (R.noteF w n)
 back : ∀ i, S.hasB (R.noteF w n) i = true → S.hasB w i = true ∨ i = n
 self : aP w.Start n < 2048 → S.hasB (R.noteF w n) n = true
 keep : ∀ i, S.hasB w i = true → aP (R.noteF w n).Start i < 64 → S.hasB (R.noteF w n) i = true
theorem E4 {w : aW} {n : Int} (hu : U64 w.Bits) (hw : S.okW w) (hn : R.okN n) : Note w n := by
 obtain ⟨X, hB, hX⟩ : ∃ X : Nat, w.Bits = X ∧ X < 18446744073709551616 := ⟨w.Bits.toNat, by unfold U64 at hu; omega, by unfold U64 at hu; omega⟩
 have hd := fL w.Start n
 unfold S.okW at hw
 unfold R.okN at hn
 by_cases h : 2048 ≤ aP w.Start n
 ·
  have e : R.noteF w n = w := by unfold R.noteF; rw [if_pos h]
  refine ⟨by rw [e]; exact hu, by rw [e]; exact hw, fun i hi => by rw [e] at hi; exact .inl hi, fun q => by omega, fun i hi _ => by rw [e]; exact hi⟩
 ·
  by_cases h2 : 64 ≤ aP w.Start n
  ·
   -- the window moves
   have he : (min (aP w.Start n - 63).toNat 64) ≤ 64 := Nat.min_le_right _ _
   have e : R.noteF w n = { Bits := R.mrk (w.Bits.fdiv (2 ^ (min (aP w.Start n - 63).toNat 64))) 63, Start := (n + (-63)) % 4096 } := by unfold R.noteF; rw [if_neg h, if_pos h2]
   have hY : X / 2 ^ (min (aP w.Start n - 63).toNat 64) < 18446744073709551616 := Nat.lt_of_le_of_lt (Nat.div_le_self _ _) hX
   have eB : (R.noteF w n).Bits = ((X / 2 ^ (min (aP w.Start n - 63).toNat 64) ||| 2 ^ 63 : Nat) : Int) := by
    rw [e]
    show R.mrk (w.Bits.fdiv _) 63 = _
    rw [hB, GN]
    exact GH _ 63 hY (by decide)
   have eS : (R.noteF w n).Start = (n + (-63)) % 4096 := by rw [e]
   have hL : (X / 2 ^ (min (aP w.Start n - 63).toNat 64) ||| 2 ^ 63) < 18446744073709551616 := GE hY (by decide)
   have hok : S.okW (R.noteF w n) := by unfold S.okW; rw [eS]; omega
   have tb : ∀ j : Nat, (X / 2 ^ (min (aP w.Start n - 63).toNat 64) ||| 2 ^ 63).testBit j = (X.testBit (j + min (aP w.Start n - 63).toNat 64) || decide (63 = j)) := by
    intro j
    rw [Nat.testBit_or, Nat.testBit_div_two_pow, Nat.testBit_two_pow]
   refine ⟨by rw [eB]; unfold U64; omega, hok, ?_, ?_, ?_⟩
   ·
    intro i hi
    obtain ⟨⟨_, i1, i2, i3⟩, hb⟩ := (qy eB hL i).1 hi
    rw [tb, Bool.or_eq_true, decide_eq_true_eq] at hb
    rw [eS] at i3 hb
    have hdi := fL ((n + (-63)) % 4096) i
    rcases hb with hb | hb
    ·
     left
     have h64 := Mw hX hb
     have hm : min (aP w.Start n - 63).toNat 64 = (aP w.Start n - 63).toNat := by omega
     have e2 : aP w.Start i = aP ((n + (-63)) % 4096) i + (aP w.Start n - 63) := by
      rw [hm] at h64
      unfold aP at *; omega
     refine (qy hB hX i).2 ⟨⟨hw, i1, i2, by rw [hm] at h64; omega⟩, ?_⟩
     rw [hm] at hb
     rw [show (aP w.Start i).toNat = (aP ((n + (-63)) % 4096) i).toNat + (aP w.Start n - 63).toNat by omega]
     exact hb
    ·
     right
     unfold aP at *; omega
   ·
    intro _
    refine (qy eB hL n).2 ⟨⟨hok, hn.1, hn.2, ?_⟩, ?_⟩
    ·
     rw [eS]; unfold aP; omega
    ·
     rw [tb, Bool.or_eq_true, decide_eq_true_eq, eS]
     right; unfold aP; omega
   ·
    intro i hi h3
    obtain ⟨⟨_, i1, i2, i3⟩, hb⟩ := (qy hB hX i).1 hi
    rw [eS] at h3
    refine (qy eB hL i).2 ⟨⟨hok, i1, i2, by rw [eS]; exact h3⟩, ?_⟩
    rw [tb, Bool.or_eq_true, eS]
    left
    have hm : min (aP w.Start n - 63).toNat 64 = (aP w.Start n - 63).toNat := by
     unfold aP at *; omega
    have e2 : aP w.Start i = aP ((n + (-63)) % 4096) i + (aP w.Start n - 63) := by
     unfold aP at *; omega
    have hdi := fL ((n + (-63)) % 4096) i
    rw [hm, ← show (aP w.Start i).toNat = (aP ((n + (-63)) % 4096) i).toNat + (aP w.Start n - 63).toNat by omega]
    exact hb
  ·
   have e : R.noteF w n = { w with Bits := R.mrk w.Bits (aP w.Start n) } := by unfold R.noteF; rw [if_neg h, if_neg h2]
   obtain ⟨D, hD⟩ : ∃ D : Nat, aP w.Start n = D := ⟨(aP w.Start n).toNat, by omega⟩
   have hD64 : D < 64 := by omega
   have eB : (R.noteF w n).Bits = ((X ||| 2 ^ D : Nat) : Int) := by
    rw [e]
    show R.mrk w.Bits (aP w.Start n) = _
    rw [hB, hD, GH _ D hX hD64]
   have eS : (R.noteF w n).Start = w.Start := by rw [e]
   have hL : (X ||| 2 ^ D) < 18446744073709551616 := GE hX hD64
   have hok : S.okW (R.noteF w n) := by unfold S.okW; rw [eS]; exact hw
   have tb : ∀ j : Nat, (X ||| 2 ^ D).testBit j = (X.testBit j || decide (D = j)) := by
    intro j
    rw [Nat.testBit_or, Nat.testBit_two_pow]
   refine ⟨by rw [eB]; unfold U64; omega, hok, ?_, ?_, ?_⟩
   ·
    intro i hi
    obtain ⟨⟨_, i1, i2, i3⟩, hb⟩ := (qy eB hL i).1 hi
    rw [tb, Bool.or_eq_true, decide_eq_true_eq] at hb
    rw [eS] at i3 hb
    rcases hb with hb | hb
    ·
     exact .inl ((qy hB hX i).2 ⟨⟨hw, i1, i2, i3⟩, hb⟩)
    ·
     right
     have hdi := fL w.Start i
     have : aP w.Start i = aP w.Start n := by omega
     unfold aP at this; omega
   ·
    intro _
    refine (qy eB hL n).2 ⟨⟨hok, hn.1, hn.2, by rw [eS]; omega⟩, ?_⟩
    rw [tb, Bool.or_eq_true, decide_eq_true_eq, eS]
    right; omega
   ·
    intro i hi h3
    obtain ⟨⟨_, i1, i2, i3⟩, hb⟩ := (qy hB hX i).1 hi
    refine (qy eB hL i).2 ⟨⟨hok, i1, i2, by rw [eS]; exact i3⟩, ?_⟩
    rw [tb, Bool.or_eq_true, eS]
    exact .inl hb

def bump (x : ax) : ax := { x with Tries := x.Tries + 1, Flying := true }
def frm (x : ax) : Frame := { x.Frame with Head := { x.Frame.Head with Retry := decide (0 < x.Tries) } }
theorem zX (lim k : Int) : ∀ (l : List ax) (c : Nat), (∀ x ∈ l, x.Flying = false ∧ x.Tries ≠ lim ∧ 0 ≤ x.Tries ∧ x.Tries ≤ 100) → (c : Int) ≤ k →
  S.pickR lim k c l = ((l.take (k - c).toNat).map bump ++ l.drop (k - c).toNat, (l.take (k - c).toNat).map frm)
 | [], c, _, _ => by simp [S.pickR]
 | x :: l, c, h, hc => by
  have hx := h x (by simp)
  have hl : ∀ y ∈ l, y.Flying = false ∧ y.Tries ≠ lim ∧ 0 ≤ y.Tries ∧ y.Tries ≤ 100 := fun y hy => h y (by simp [hy])
  unfold S.pickR
  by_cases he : (c : Int) = k
  ·
   rw [if_pos he, show (k - (c : Int)).toNat = 0 by omega]; simp
  ·
   have hf : (x.Flying || (x.Tries == lim)) = false := by
    rw [hx.1, Bool.false_or, beq_eq_false_iff_ne]; exact hx.2.1
   have ih := zX lim k l (c + 1) hl (by omega)
   rw [if_neg he, hf, if_neg (by decide), ih, show (k - (c : Int)).toNat = (k - ((c + 1 : Nat) : Int)).toNat + 1 by omega, jm (by omega) (by omega)]
   simp [bump, frm]
end Go.AX.Z.TN

/-! (TNXa) -/

set_option linter.unusedVariables false
set_option linter.unusedSimpArgs false
namespace Go.AX.Z.TN.S
open Go.AX

def LM (lim : Int) (x : ax) : Prop := 0 ≤ x.Frame.Head.Seq ∧ x.Frame.Head.Seq ≤ 4095 ∧ 0 ≤ x.At ∧ x.At ≤ 1099511627776 ∧ 0 ≤ x.Tries ∧ x.Tries ≤ lim ∧ (x.Flying = true → x.Tries ≠ 0)
abbrev dq (st : Int) (x : ax) : Int := aP st x.Frame.Head.Seq
structure OkP (st dd lim : Int) (l : List ax) : Prop where
 good : ∀ x ∈ l, LM lim x
 dd : ∀ x ∈ l, dq st x < dd
 pw : l.Pairwise fun x y => dq st x < dq st y ∧ x.At ≤ y.At

theorem OkL.toP {st dd lim : Int} : ∀ {l : List ax} {last at' : Int}, 0 ≤ at' → OkL st dd lim last at' l → OkP st dd lim l ∧ ∀ x ∈ l, last < dq st x ∧ at' ≤ x.At
 | [], _, _, _, _ => ⟨⟨by simp, by simp, .nil⟩, by simp⟩
 | x :: l, last, at', h0, h => by
  obtain ⟨⟨a, b, c, d, e, f, g, k, m⟩, h2⟩ := h
  obtain ⟨h3, h4⟩ := OkL.toP (l := l) (show 0 ≤ x.At by omega) h2
  refine ⟨⟨?_, ?_, ?_⟩, ?_⟩
  ·
   intro y hy
   rcases List.mem_cons.1 hy with rfl | hy
   ·
    exact ⟨a, b, by omega, f, g, k, m⟩
   ·
    exact h3.good y hy
  ·
   intro y hy
   rcases List.mem_cons.1 hy with rfl | hy
   ·
    exact d
   ·
    exact h3.dd y hy
  ·
   exact List.pairwise_cons.2 ⟨fun y hy => h4 y hy, h3.pw⟩
  ·
   intro y hy
   rcases List.mem_cons.1 hy with rfl | hy
   ·
    exact ⟨c, e⟩
   ·
    have := h4 y hy; unfold dq at this ⊢; omega

theorem Valid.P {s : Sender} (h : Valid s) : OkP (startOf s) (aP (startOf s) s.Next) s.Limit s.Out := by
 obtain ⟨_, _, _, _, _, _, _, _, _, q⟩ := h
 exact (OkL.toP (by omega) q).1

end Go.AX.Z.TN.S

/-! (TNX) -/

set_option linter.unusedVariables false
set_option linter.unusedSimpArgs false
set_option maxRecDepth 20000
namespace Go.AX.Z.TN
open Go.AX

abbrev un (x : ax) : Int := x.Frame.Head.Seq
theorem BY {a m i : Int} : i ∈ rng a m ↔ a ≤ i ∧ i < m := by
 unfold rng
 rw [List.mem_map]
 constructor
 ·
  rintro ⟨k, hk, rfl⟩
  rw [List.mem_range] at hk; omega
 ·
  intro h
  exact ⟨(i - a).toNat, List.mem_range.2 (by omega), by omega⟩
theorem wA {a m : Int} (h : a ≤ m) : rng a (m + 1) = rng a m ++ [m] := by
 unfold rng
 rw [show (m + 1 - a).toNat = (m - a).toNat + 1 by omega, List.range_succ, List.map_append]
 congr 1
 simp; omega
theorem zj {a b c : Int} (h : a ≤ b) (h2 : b ≤ c) : rng a c = rng a b ++ rng b c := by
 obtain ⟨k, hk⟩ : ∃ k : Nat, c = b + k := ⟨(c - b).toNat, by omega⟩
 subst hk
 clear h2
 induction k with
 | zero => rw [show b + ((0 : Nat) : Int) = b by omega, ji (a := b) (Int.le_refl _), List.append_nil]
 | succ k ih => rw [show b + ((k + 1 : Nat) : Int) = (b + k) + 1 by omega, wA (by omega), wA (by omega), ih, List.append_assoc]
end Go.AX.Z.TN

/-! (TNXb) -/

set_option linter.unusedVariables false
set_option linter.unusedSimpArgs false
set_option maxRecDepth 20000
namespace Go.AX.Z.TN
open Go.AX

theorem CR (B : Sender) : S.startOf B = match S.seqs B.Out with | [] => B.Next | x :: _ => x := by
 unfold S.startOf S.seqs; cases B.Out <;> rfl
end Go.AX.Z.TN

/-! (TNXc) -/

set_option linter.unusedVariables false
set_option linter.unusedSimpArgs false
set_option maxRecDepth 20000
namespace Go.AX.Z.TN
open Go.AX

theorem Hc {b : Reorder} {n : Int} (h : (R.barF b n).2.2 = 0) : R.VR b ∧ R.okN n ∧ R.barF b n = if 2048 ≤ aP b.Start n then ([], b, 0) else ((R.mvF b (aP b.Start n)).1, (R.mvF b (aP b.Start n)).2, 0) := by
 unfold R.barF at h ⊢
 by_cases hv : R.VR b
 ·
  rw [if_pos hv] at h ⊢
  by_cases hn : R.okN n
  ·
   rw [if_pos hn] at h ⊢; exact ⟨hv, hn, rfl⟩
  ·
   rw [if_neg hn] at h; cases h
 ·
  rw [if_neg hv] at h; cases h
theorem I3 {b : Reorder} {n : Int} (h : (R.expF b n).2.2 = 0) : R.VR b ∧ R.expF b n = match R.ld b.Hold n b.Held with | some x => ((R.mvF b (aP b.Start ((x.n + 1) % 4096))).1, (R.mvF b (aP b.Start ((x.n + 1) % 4096))).2, 0) | none => ([], b, 0) := by
 unfold R.expF at h ⊢
 by_cases hv : R.VR b
 ·
  rw [if_pos hv] at h ⊢
  by_cases hn : 0 ≤ n ∧ n ≤ 1099511627776
  ·
   rw [if_pos hn] at h ⊢; exact ⟨hv, rfl⟩
  ·
   rw [if_neg hn] at h; cases h
 ·
  rw [if_neg hv] at h; cases h
theorem Im (b : Reorder) (x : az) (i : Int) : i ∈ hn (R.putB b x) ↔ i ∈ hn b ∨ i = x.n := by
 simp only [AO, R.putB, R.insF, List.mem_append, List.mem_singleton]
 constructor
 ·
  rintro ⟨h, (h1 | h1) | h1, rfl⟩
  ·
   exact .inl ⟨h, (List.mem_filter.1 h1).1, rfl⟩
  ·
   exact .inr (by rw [h1])
  ·
   exact .inl ⟨h, (List.mem_filter.1 h1).1, rfl⟩
 ·
  rintro (⟨h, h1, rfl⟩ | rfl)
  ·
   refine ⟨h, ?_, rfl⟩
   by_cases hd : aP b.Start h.n < aP b.Start x.n
   ·
    exact .inl (.inl (List.mem_filter.2 ⟨h1, by simpa using hd⟩))
   ·
    exact .inr (List.mem_filter.2 ⟨h1, by simpa using hd⟩)
  ·
   exact ⟨x, .inl (.inr rfl), rfl⟩
theorem jC {e : Int} {s : SS} (h : (dL e s).err = 0) : s.err = 0 ∧ e = 0 := by
 unfold dL at h
 simp only at h
 by_cases hs : s.err = 0
 ·
  rw [if_pos hs] at h; exact ⟨hs, h⟩
 ·
  rw [if_neg hs] at h; exact absurd h hs

theorem p9 (now : Int) : ∀ (l : List Frame) (s : SS) (d : List Bool), (fJ now l s d).1.err = s.err ∧ (fJ now l s d).1.sides.Sender = s.sides.Sender
 | [], s, d => ⟨rfl, rfl⟩
 | f :: l, s, d => by
  unfold fJ
  split
  ·
   exact p9 now l s _
  ·
   split
   ·
    exact p9 now l _ _
   ·
    exact p9 now l s _
theorem HZ {A : Sender} {k : Int} (h : (S.pikR A k).2.2 = 0) : S.Valid A ∧ 0 ≤ k ∧ S.pikR A k = ((S.pickR A.Limit k 0 A.Out).2, S.pickS A k, 0) := by
 unfold S.pikR at h ⊢
 by_cases hv : S.Valid A
 ·
  rw [if_pos hv] at h ⊢
  by_cases hk : 0 ≤ k
  ·
   rw [if_pos hk] at h ⊢
   by_cases hp : A.Phase = 2
   ·
    rw [if_pos hp]; exact ⟨hv, hk, rfl⟩
   ·
    rw [if_neg hp] at h; cases h
  ·
   rw [if_neg hk] at h; cases h
 ·
  rw [if_neg hv] at h; cases h
theorem Jw {b : Reorder} (h : (R.repR b).2 = 0) : R.VR b ∧ R.repR b = (b.Seen, 0) := by
 unfold R.repR at h ⊢
 by_cases hv : R.VR b
 ·
  rw [if_pos hv]; exact ⟨hv, rfl⟩
 ·
  rw [if_neg hv] at h; cases h
theorem vv (now : Int) (n : Nat) {s : SS} (h : s.err ≠ 0) : du now n s = s := by
 cases n with
 | zero => rfl
 | succ n => unfold du; rw [if_neg (fun q => h q.2)]
end Go.AX.Z.TN

/-! (TNXd) -/

set_option linter.unusedVariables false
set_option linter.unusedSimpArgs false
set_option maxRecDepth 20000
namespace Go.AX.Z.TN
open Go.AX

theorem Fp {A : Sender} (h : (S.barR A).2 = 0) : S.Valid A ∧ S.barR A = (S.barS A, 0) := by
 unfold S.barR at h ⊢
 by_cases hv : S.Valid A
 ·
  rw [if_pos hv] at h ⊢
  by_cases hp : A.Phase = 2
  ·
   rw [if_pos hp] at h ⊢
   by_cases hb : A.Bar = true
   ·
    rw [if_pos hb]; exact ⟨hv, rfl⟩
   ·
    rw [if_neg hb] at h; cases h
  ·
   rw [if_neg hp] at h; cases h
 ·
  rw [if_neg hv] at h; cases h
end Go.AX.Z.TN

/-! (TNXe) -/

set_option linter.unusedVariables false
set_option linter.unusedSimpArgs false
set_option maxRecDepth 20000
namespace Go.AX.Z.TN
open Go.AX

def sh (k n : Int) : Int := (n + k) % 4096
theorem eG (k a b : Int) : aP (sh k a) (sh k b) = aP a b := by unfold aP sh; omega
theorem pT (k n : Int) : 0 ≤ sh k n ∧ sh k n < 4096 := by unfold sh; omega
theorem wx (k a b : Int) : (sh k a + b) % 4096 = sh k ((a + b) % 4096) := by unfold sh; omega
def shF (k : Int) (f : Frame) : Frame := { f with Head := { f.Head with Seq := sh k f.Head.Seq } }
def shU (k : Int) (x : ax) : ax := { x with Frame := shF k x.Frame }
def shA (k : Int) (A : Sender) : Sender := { A with Next := sh k A.Next, Out := A.Out.map (shU k) }
theorem kj {α : Type} {f : α → α} {p q : α → Bool} : ∀ {l : List α}, (∀ x ∈ l, p (f x) = q x) → (l.map f).filter p = (l.filter q).map f
 | [], _ => rfl
 | x :: l, h => by
  have ih := kj (f := f) (p := p) (q := q) (l := l) fun y hy => h y (by simp [hy])
  have hx := h x (by simp)
  rw [List.map_cons]
  cases hq : q x with
  | true => rw [List.filter_cons_of_pos (by rw [hx, hq]), List.filter_cons_of_pos hq, List.map_cons, ih]
  | false => rw [List.filter_cons_of_neg (by rw [hx, hq]; decide), List.filter_cons_of_neg (by rw [hq]; decide), ih]
theorem k8 (k : Int) (A : Sender) : S.startOf (shA k A) = sh k (S.startOf A) := by
 unfold S.startOf
 show (match A.Out.map (shU k) with | [] => sh k A.Next | x :: _ => x.Frame.Head.Seq) = _
 cases A.Out <;> rfl
theorem BS (k : Int) {st dd lim : Int} : ∀ {l : List ax} {last at' : Int}, S.OkL st dd lim last at' l → S.OkL (sh k st) dd lim last at' (l.map (shU k))
 | [], _, _, _ => trivial
 | x :: l, last, at', h => by
  obtain ⟨⟨a, b, c, d, e, f, g, i, j⟩, h2⟩ := h
  have ih := BS k h2
  have e1 : aP (sh k st) (shU k x).Frame.Head.Seq = aP st x.Frame.Head.Seq := eG k _ _
  have hs : 0 ≤ (shU k x).Frame.Head.Seq ∧ (shU k x).Frame.Head.Seq < 4096 := pT k _
  refine ⟨⟨hs.1, by omega, by rw [e1]; exact c, by rw [e1]; exact d, e, f, g, i, j⟩, ?_⟩
  rw [e1]; exact ih
theorem jh (k : Int) {A : Sender} (h : S.Valid A) : S.Valid (shA k A) := by
 obtain ⟨a, b, c, d, e, f, g, h, i, j⟩ := h
 have hs := pT k A.Next
 have e1 : aP (S.startOf (shA k A)) (shA k A).Next = aP (S.startOf A) A.Next := by rw [k8]; exact eG k _ _
 refine ⟨a, b, c, ⟨hs.1, by show sh k A.Next ≤ 4095; omega⟩, e, f, g, fun q => ?_, ?_, ?_⟩
 ·
  obtain ⟨h1, h2⟩ := h q
  exact ⟨by show A.Out.map _ = []; rw [h1]; rfl, h2⟩
 ·
  rw [e1]; exact i
 ·
  rw [e1, k8]; exact BS k j
theorem zl (k : Int) (l : List ax) : S.seqs (l.map (shU k)) = (S.seqs l).map (sh k) := by
 unfold S.seqs; rw [List.map_map, List.map_map]; rfl

theorem BV (k : Int) (A : Sender) (t : Int) : S.expN (shA k A) t = (S.expN A t).map (sh k) := by
 unfold S.expN
 show S.seqs ((A.Out.map (shU k)).filter (S.pX A.Limit A.Life t)) = _
 rw [kj (f := shU k) (q := S.pX A.Limit A.Life t) (fun x _ => rfl), zl]
theorem FR (k : Int) (A : Sender) (t : Int) : S.expS (shA k A) t = shA k (S.expS A t) := by
 unfold S.expS
 rw [BV, List.length_map]
 have : (shA k A).Out.filter (fun x => !S.pX (shA k A).Limit (shA k A).Life t x) = (A.Out.filter (fun x => !S.pX A.Limit A.Life t x)).map (shU k) := kj (fun x _ => rfl)
 rw [this]; rfl
theorem FM (k : Int) {A : Sender} {t : Int} (h : (S.expR A t).2.2 = 0) : S.expR (shA k A) t = ((S.expR A t).1.map (sh k), shA k (S.expR A t).2.1, 0) := by
 unfold S.expR at h ⊢
 by_cases hv : S.Valid A
 ·
  rw [if_pos hv] at h
  rw [if_pos (jh k hv), if_pos hv]
  by_cases ht : 0 ≤ t ∧ t ≤ 1099511627776
  ·
   rw [if_pos ht] at h
   rw [if_pos ht, if_pos ht]
   by_cases hp : A.Phase = 2
   ·
    rw [if_pos (show (shA k A).Phase = 2 from hp), if_pos hp, BV, FR]
   ·
    rw [if_neg hp] at h; cases h
  ·
   rw [if_neg ht] at h; cases h
 ·
  rw [if_neg hv] at h; cases h
theorem Cl (k : Int) {A : Sender} (h : (S.closeR A).2.2 = 0) : S.closeR (shA k A) = ((S.closeR A).1.map (sh k), shA k (S.closeR A).2.1, 0) := by
 unfold S.closeR at h ⊢
 by_cases hv : S.Valid A
 ·
  rw [if_pos (jh k hv), if_pos hv]
  have : S.seqs (shA k A).Out = (S.seqs A.Out).map (sh k) := zl k _
  rw [this]; rfl
 ·
  rw [if_neg hv] at h; cases h
theorem FH (k : Int) (A : Sender) (t : Int) : S.offS (shA k A) Frame.z t = shA k (S.offS A Frame.z t) := by
 unfold S.offS
 have e1 : ((shA k A).Next + 1) % 4096 = sh k ((A.Next + 1) % 4096) := wx k _ _
 rw [e1]
 show ({ shA k A with Next := _, Out := A.Out.map (shU k) ++ _ } : Sender) = _
 simp only [shA, List.map_append, List.map_cons, List.map_nil]
 rfl
theorem xO (k : Int) (A : Sender) : S.lastAt (shA k A) = S.lastAt A := by
 unfold S.lastAt
 show (match (A.Out.map (shU k)).getLast? with | some x => x.At | none => 0) = _
 rw [List.getLast?_map]
 cases A.Out.getLast? <;> rfl
theorem A8 (k : Int) (A : Sender) : (shA k A).Out ≠ [] ↔ A.Out ≠ [] := by
 show A.Out.map (shU k) ≠ [] ↔ _
 cases A.Out <;> simp
theorem FB (k : Int) {A : Sender} {t : Int} (h : (S.offR A t).2.2 = 0) : (S.offR (shA k A) t).2 = (shA k (S.offR A t).2.1, 0) := by
 unfold S.offR at h ⊢
 by_cases hv : S.Valid A
 ·
  rw [if_pos hv] at h
  rw [if_pos (jh k hv), if_pos hv]
  by_cases ht : 0 ≤ t ∧ t ≤ 1099511627776
  ·
   rw [if_pos ht] at h
   rw [if_pos ht, if_pos ht]
   by_cases hp : A.Phase = 2
   ·
    rw [if_pos hp] at h
    rw [if_pos (show (shA k A).Phase = 2 from hp), if_pos hp]
    by_cases h1 : A.Out ≠ [] ∧ t < S.lastAt A
    ·
     rw [if_pos h1] at h; cases h
    ·
     rw [if_neg h1] at h
     rw [if_neg (show ¬ ((shA k A).Out ≠ [] ∧ t < S.lastAt (shA k A)) by rw [A8, xO]; exact h1), if_neg h1]
     by_cases h2 : A.Size ≤ aP (S.startOf A) A.Next
     ·
      rw [if_pos h2] at h; cases h
     ·
      rw [if_neg (show ¬ ((shA k A).Size ≤ aP (S.startOf (shA k A)) (shA k A).Next) by rw [k8]; show ¬ (A.Size ≤ aP _ (sh k A.Next)); rw [eG]; exact h2), if_neg h2]
      rw [FH]
   ·
    rw [if_neg hp] at h; cases h
  ·
   rw [if_neg ht] at h; cases h
 ·
  rw [if_neg hv] at h; cases h
theorem Ck (k : Int) {A : Sender} {t : Int} (h : (S.offR A t).2.2 = 22) : (S.offR (shA k A) t).2.2 = 22 := by
 unfold S.offR at h ⊢
 by_cases hv : S.Valid A
 ·
  rw [if_pos hv] at h
  rw [if_pos (jh k hv)]
  by_cases ht : 0 ≤ t ∧ t ≤ 1099511627776
  ·
   rw [if_pos ht] at h
   rw [if_pos ht]
   by_cases hp : A.Phase = 2
   ·
    rw [if_pos hp] at h
    rw [if_pos (show (shA k A).Phase = 2 from hp)]
    by_cases h1 : A.Out ≠ [] ∧ t < S.lastAt A
    ·
     rw [if_pos h1] at h; cases h
    ·
     rw [if_neg h1] at h
     rw [if_neg (show ¬ ((shA k A).Out ≠ [] ∧ t < S.lastAt (shA k A)) by rw [A8, xO]; exact h1)]
     by_cases h2 : A.Size ≤ aP (S.startOf A) A.Next
     ·
      rw [if_pos (show (shA k A).Size ≤ aP (S.startOf (shA k A)) (shA k A).Next by rw [k8]; show A.Size ≤ aP _ (sh k A.Next); rw [eG]; exact h2)]
     ·
      rw [if_neg h2] at h; cases h
   ·
    rw [if_neg hp] at h; cases h
  ·
   rw [if_neg ht] at h; cases h
 ·
  rw [if_neg hv] at h; cases h
theorem wH (k lim n : Int) : ∀ (l : List ax) (c : Nat), S.pickR lim n c (l.map (shU k)) = ((S.pickR lim n c l).1.map (shU k), (S.pickR lim n c l).2.map (shF k))
 | [], c => rfl
 | x :: l, c => by
  rw [List.map_cons]
  unfold S.pickR
  by_cases h1 : (c : Int) = n
  ·
   rw [if_pos h1, if_pos h1]; rfl
  ·
   rw [if_neg h1, if_neg h1]
   by_cases h2 : (x.Flying || (x.Tries == lim)) = true
   ·
    rw [if_pos (show ((shU k x).Flying || ((shU k x).Tries == lim)) = true from h2), if_pos h2, wH k lim n l c]; rfl
   ·
    rw [if_neg (show ¬ ((shU k x).Flying || ((shU k x).Tries == lim)) = true from h2), if_neg h2, wH k lim n l (c + 1)]; rfl
theorem BU (k : Int) {A : Sender} {n : Int} (h : (S.pikR A n).2.2 = 0) : S.pikR (shA k A) n = ((S.pikR A n).1.map (shF k), shA k (S.pikR A n).2.1, 0) := by
 unfold S.pikR at h ⊢
 by_cases hv : S.Valid A
 ·
  rw [if_pos hv] at h
  rw [if_pos (jh k hv), if_pos hv]
  by_cases ht : 0 ≤ n
  ·
   rw [if_pos ht] at h
   rw [if_pos ht, if_pos ht]
   by_cases hp : A.Phase = 2
   ·
    rw [if_pos (show (shA k A).Phase = 2 from hp), if_pos hp]
    have e := wH k A.Limit n A.Out 0
    have e' : S.pickR (shA k A).Limit n 0 (shA k A).Out = _ := e
    unfold S.pickS
    rw [e']; rfl
   ·
    rw [if_neg hp] at h; cases h
  ·
   rw [if_neg ht] at h; cases h
 ·
  rw [if_neg hv] at h; cases h
theorem Av (k : Int) (l : List ax) : (l.map (shU k)).map S.unfly = (l.map S.unfly).map (shU k) := by
 rw [List.map_map, List.map_map]; rfl
theorem DV (k : Int) {A : Sender} (h : (S.lostR A).2 = 0) : S.lostR (shA k A) = (shA k (S.lostR A).1, 0) := by
 unfold S.lostR at h ⊢
 by_cases hv : S.Valid A
 ·
  rw [if_pos hv] at h
  rw [if_pos (jh k hv), if_pos hv]
  by_cases hp : A.Phase = 2
  ·
   rw [if_pos (show (shA k A).Phase = 2 from hp), if_pos hp]
   have e : (shA k A).Out.map S.unfly = (A.Out.map S.unfly).map (shU k) := Av k _
   unfold S.lostS
   rw [e]; rfl
  ·
   rw [if_neg hp] at h; cases h
 ·
  rw [if_neg hv] at h; cases h
theorem EG (k : Int) {A : Sender} (h : (S.barR A).2 = 0) : S.barR (shA k A) = (shA k (S.barR A).1, 0) := by
 unfold S.barR at h ⊢
 by_cases hv : S.Valid A
 ·
  rw [if_pos hv] at h
  rw [if_pos (jh k hv), if_pos hv]
  by_cases hp : A.Phase = 2
  ·
   rw [if_pos hp] at h
   rw [if_pos (show (shA k A).Phase = 2 from hp), if_pos hp]
   by_cases hb : A.Bar = true
   ·
    rw [if_pos (show (shA k A).Bar = true from hb), if_pos hb]; rfl
   ·
    rw [if_neg hb] at h; cases h
  ·
   rw [if_neg hp] at h; cases h
 ·
  rw [if_neg hv] at h; cases h
def shW (k : Int) (w : aW) : aW := { w with Start := sh k w.Start }
theorem Fe (k : Int) {w : aW} {n : Int} (hw : S.okW w) (hn : 0 ≤ n ∧ n < 4096) : S.hasB (shW k w) (sh k n) = S.hasB w n := by
 unfold S.hasB
 have e : aP (shW k w).Start (sh k n) = aP w.Start n := eG k _ _
 have e2 : (S.okW (shW k w) ∧ 0 ≤ sh k n ∧ sh k n < 4096 ∧ aP (shW k w).Start (sh k n) < 64) ↔ (S.okW w ∧ 0 ≤ n ∧ n < 4096 ∧ aP w.Start n < 64) := by
  rw [e]
  exact ⟨fun q => ⟨hw, hn.1, hn.2, q.2.2.2⟩, fun q => ⟨pT k _, (pT k n).1, (pT k n).2, q.2.2.2⟩⟩
 rw [decide_eq_decide.2 e2, e]; rfl
theorem F1 (k : Int) {A : Sender} {w : aW} (h : (S.ackR A w).2.2 = 0) : S.ackR (shA k A) (shW k w) = ((S.ackR A w).1.map (sh k), shA k (S.ackR A w).2.1, 0) := by
 unfold S.ackR at h ⊢
 by_cases hv : S.Valid A
 ·
  rw [if_pos hv] at h
  rw [if_pos (jh k hv), if_pos hv]
  by_cases ht : S.okW w
  ·
   rw [if_pos ht] at h
   rw [if_pos (show S.okW (shW k w) from pT k _), if_pos ht]
   by_cases hp : A.Phase = 2
   ·
    rw [if_pos (show (shA k A).Phase = 2 from hp), if_pos hp]
    have hg := hv.P.good
    have hpa : ∀ x ∈ A.Out, S.pA (shW k w) (shU k x) = S.pA w x := fun x hx => by
     unfold S.pA
     have := hg x hx
     have e : S.hasB (shW k w) (shU k x).Frame.Head.Seq = S.hasB w x.Frame.Head.Seq := Fe k ht ⟨this.1, by have := this.2.1; omega⟩
     rw [e]; rfl
    have e1 : (shA k A).Out.filter (S.pA (shW k w)) = (A.Out.filter (S.pA w)).map (shU k) := kj hpa
    have e2 : (shA k A).Out.filter (fun x => !S.pA (shW k w) x) = (A.Out.filter (fun x => !S.pA w x)).map (shU k) := kj (fun x hx => by rw [hpa x hx])
    unfold S.ackS
    rw [e1, e2, zl, Av]; rfl
   ·
    rw [if_neg hp] at h; cases h
  ·
   rw [if_neg ht] at h; cases h
 ·
  rw [if_neg hv] at h; cases h
end Go.AX.Z.TN

/-! (TNXf) -/

set_option linter.unusedVariables false
set_option linter.unusedSimpArgs false
set_option maxRecDepth 20000
namespace Go.AX.Z.TN
open Go.AX

def shH (k : Int) (h : az) : az := { h with Frame := shF k h.Frame }
def shB (k : Int) (b : Reorder) : Reorder := { b with Start := sh k b.Start, Held := b.Held.map (shH k), Seen := shW k b.Seen }
def InB (b : Reorder) : Prop := R.okN b.Start ∧ R.okN b.Seen.Start ∧ ∀ h ∈ b.Held, R.okN h.n
theorem InB.z : InB Reorder.z := ⟨⟨Int.le_refl _, by decide⟩, ⟨Int.le_refl _, by decide⟩, by simp [Reorder.z]⟩
theorem JA (k : Int) (h : az) : (shH k h).n = sh k h.n := rfl
theorem BP (k : Int) {st sz : Int} : ∀ {l : List az} {last : Int}, R.OkL st sz last l → R.OkL (sh k st) sz last (l.map (shH k))
 | [], _, _ => trivial
 | x :: l, last, h => by
  obtain ⟨⟨a, b, c, d⟩, h2⟩ := h
  have ih := BP k h2
  have e1 : aP (sh k st) (shH k x).n = aP st x.n := eG k _ _
  refine ⟨⟨pT k _, b, by rw [e1]; exact c, by rw [e1]; exact d⟩, ?_⟩
  rw [e1]; exact ih
theorem z0 (k : Int) {st sz : Int} : ∀ {l : List az} {last : Int}, (∀ h ∈ l, R.okN h.n) → R.OkL (sh k st) sz last (l.map (shH k)) → R.OkL st sz last l
 | [], _, _, _ => trivial
 | x :: l, last, hl, h => by
  obtain ⟨⟨a, b, c, d⟩, h2⟩ := h
  have e1 : aP (sh k st) (shH k x).n = aP st x.n := eG k _ _
  rw [e1] at c d h2
  exact ⟨⟨hl x (by simp), b, c, d⟩, z0 k (fun y hy => hl y (by simp [hy])) h2⟩
theorem B7 (k : Int) {b : Reorder} (h : R.VR b) : R.VR (shB k b) := by
 obtain ⟨⟨a, b', c, d, e, f⟩, g⟩ := h
 exact ⟨⟨pT k _, b', c, d, e, pT k _⟩, BP k g⟩
theorem I4 (k : Int) {b : Reorder} (hi : InB b) (h : R.VR (shB k b)) : R.VR b := by
 obtain ⟨⟨a, b', c, d, e, f⟩, g⟩ := h
 exact ⟨⟨hi.1, b', c, d, e, hi.2.1⟩, z0 k hi.2.2 g⟩
theorem B3 (k S : Int) : ∀ (l : List az) (m : Int), R.relF (sh k S) m (l.map (shH k)) = ((R.relF S m l).1, (R.relF S m l).2.1.map (shF k), (R.relF S m l).2.2.map (shH k))
 | [], m => rfl
 | x :: l, m => by
  rw [List.map_cons]
  unfold R.relF
  have e1 : aP (sh k S) (shH k x).n = aP S x.n := eG k _ _
  rw [e1]
  by_cases h : aP S x.n = m
  ·
   rw [if_pos h, if_pos h, B3 k S l (m + 1)]; rfl
  ·
   rw [if_neg h, if_neg h]; rfl
theorem Dt (k : Int) (b : Reorder) (t : Int) : R.pre (shB k b) t = (R.pre b t).map (shH k) :=
 kj (f := shH k) fun x _ => by
  have e1 : aP (shB k b).Start (shH k x).n = aP b.Start x.n := eG k _ _
  rw [e1]
theorem BO (k : Int) (b : Reorder) (t : Int) : R.post (shB k b) t = (R.post b t).map (shH k) :=
 kj (f := shH k) fun x _ => by
  have e1 : aP (shB k b).Start (shH k x).n = aP b.Start x.n := eG k _ _
  rw [e1]
theorem CC (k : Int) (l : List az) : (l.map (shH k)).map (·.Frame) = (l.map (·.Frame)).map (shF k) := by
 rw [List.map_map, List.map_map]; rfl
theorem A5 (k : Int) (b : Reorder) (t : Int) : R.mvF (shB k b) t = ((R.mvF b t).1.map (shF k), shB k (R.mvF b t).2) := by
 unfold R.mvF
 rw [Dt, BO]
 have e := B3 k b.Start (R.post b t) t
 have e' : R.relF (shB k b).Start t ((R.post b t).map (shH k)) = _ := e
 rw [e', CC, ← List.map_append]
 have e2 : ((shB k b).Start + (R.relF b.Start t (R.post b t)).1) % 4096 = sh k ((b.Start + (R.relF b.Start t (R.post b t)).1) % 4096) := wx k _ _
 simp only [e2]
 rfl
theorem AR {b : Reorder} (h : InB b) (t : Int) : InB (R.mvF b t).2 := by
 refine ⟨?_, h.2.1, fun x hx => h.2.2 x ((R.mvF_mem b t).2 x hx)⟩
 show 0 ≤ (_ : Int) % 4096 ∧ (_ : Int) % 4096 < 4096
 omega
theorem Gs (k : Int) {b : Reorder} {n : Int} (h : (R.barF b n).2.2 = 0) : R.barF (shB k b) (sh k n) = ((R.barF b n).1.map (shF k), shB k (R.barF b n).2.1, 0) := by
 obtain ⟨hv, hn, e⟩ := Hc h
 have e1 : aP (shB k b).Start (sh k n) = aP b.Start n := eG k _ _
 rw [e]
 unfold R.barF
 rw [if_pos (B7 k hv), if_pos (show R.okN (sh k n) from pT k n), e1, A5]
 by_cases hd : 2048 ≤ aP b.Start n
 ·
  rw [if_pos hd, if_pos hd]; rfl
 ·
  rw [if_neg hd, if_neg hd]
theorem Fg {b : Reorder} {n : Int} (hi : InB b) : InB (R.barF b n).2.1 := by
 unfold R.barF
 split
 ·
  split
  ·
   split
   ·
    exact hi
   ·
    exact AR hi _
  ·
   exact .z
 ·
  exact .z
theorem KO (k hold now : Int) (l : List az) : R.ld hold now (l.map (shH k)) = (R.ld hold now l).map (shH k) := by
 unfold R.ld
 rw [kj (f := shH k) (q := R.due hold now) (fun x _ => rfl), List.getLast?_map]
theorem FU (k : Int) {b : Reorder} {n : Int} (h : (R.expF b n).2.2 = 0) : R.expF (shB k b) n = ((R.expF b n).1.map (shF k), shB k (R.expF b n).2.1, 0) := by
 have hn : 0 ≤ n ∧ n ≤ 1099511627776 := by
  apply Classical.byContradiction; intro hn
  unfold R.expF at h
  by_cases hv : R.VR b
  ·
   rw [if_pos hv, if_neg hn] at h; cases h
  ·
   rw [if_neg hv] at h; cases h
 obtain ⟨hv, e⟩ := I3 h
 rw [e]
 unfold R.expF
 have e0 : R.ld (shB k b).Hold n (shB k b).Held = (R.ld b.Hold n b.Held).map (shH k) := KO k _ _ _
 rw [if_pos (B7 k hv), if_pos hn, e0]
 cases R.ld b.Hold n b.Held with
 | none => rfl
 | some x =>
  have e1 : aP (shB k b).Start (((shH k x).n + 1) % 4096) = aP b.Start ((x.n + 1) % 4096) := by
   rw [JA, wx]; exact eG k _ _
  simp only [Option.map_some, e1, A5]
theorem Gt {b : Reorder} {n : Int} (hi : InB b) : InB (R.expF b n).2.1 := by
 unfold R.expF
 split
 ·
  split
  ·
   split
   ·
    exact AR hi _
   ·
    exact hi
  ·
   exact .z
 ·
  exact .z
theorem D8 (k : Int) (w : aW) (n : Int) : R.noteF (shW k w) (sh k n) = shW k (R.noteF w n) := by
 unfold R.noteF
 have e1 : aP (shW k w).Start (sh k n) = aP w.Start n := eG k _ _
 rw [e1, wx]
 split
 ·
  rfl
 ·
  split <;> rfl
theorem D5 {w : aW} {n : Int} (h : R.okN w.Start) : R.okN (R.noteF w n).Start := by
 unfold R.noteF
 split
 ·
  exact h
 ·
  split
  ·
   show 0 ≤ (_ : Int) % 4096 ∧ (_ : Int) % 4096 < 4096
   omega
  ·
   exact h
theorem ES (k : Int) (b : Reorder) (x : az) : R.putB (shB k b) (shH k x) = shB k (R.putB b x) := by
 unfold R.putB R.insF
 have e1 : aP (shB k b).Start (shH k x).n = aP b.Start x.n := eG k _ _
 have e2 : R.noteF (shB k b).Seen (shH k x).n = shW k (R.noteF b.Seen x.n) := D8 k _ _
 rw [e1, e2, Dt, BO]
 simp only [shB, List.map_append, List.map_cons, List.map_nil]
theorem Hv (k : Int) (b : Reorder) (n : Int) : R.toF (shB k b) (sh k n) = sh k (R.toF b n) := by
 unfold R.toF
 have e1 : aP (shB k b).Start (sh k n) = aP b.Start n := eG k _ _
 rw [e1, wx]
 by_cases h : b.Size ≤ aP b.Start n
 ·
  rw [if_pos (show (shB k b).Size ≤ _ from h), if_pos h]; rfl
 ·
  rw [if_neg (show ¬ (shB k b).Size ≤ _ from h), if_neg h]; rfl
theorem Ji (k : Int) (b : Reorder) (n : Int) : (∃ x ∈ (shB k b).Held, aP (shB k b).Start x.n = aP (shB k b).Start (sh k n)) ↔ ∃ x ∈ b.Held, aP b.Start x.n = aP b.Start n := by
 have e1 : ∀ m, aP (shB k b).Start (sh k m) = aP b.Start m := fun m => eG k _ _
 constructor
 ·
  rintro ⟨y, hy, e⟩
  obtain ⟨x, hx, rfl⟩ := List.mem_map.1 hy
  rw [JA, e1, e1] at e
  exact ⟨x, hx, e⟩
 ·
  rintro ⟨x, hx, e⟩
  exact ⟨shH k x, List.mem_map.2 ⟨x, hx, rfl⟩, by rw [JA, e1, e1]; exact e⟩
theorem Gh (k : Int) {b : Reorder} {f : Frame} {now : Int} (hi : InB b) (hf : R.okN (fq f)) :
  (R.putF (shB k b) (shF k f) now).2.2 = (R.putF b f now).2.2 ∧ ((R.putF b f now).2.2 = 0 → R.putF (shB k b) (shF k f) now = ((R.putF b f now).1.map (shF k), shB k (R.putF b f now).2.1, 0)) := by
 have hf' : R.okN f.Head.Seq := hf
 have hs : R.okN (shF k f).Head.Seq := pT k _
 have e1 : aP (shB k b).Start (shF k f).Head.Seq = aP b.Start f.Head.Seq := eG k _ _
 have e2 := Ji k b f.Head.Seq
 have e3 : R.toF (shB k b) (shF k f).Head.Seq = sh k (R.toF b f.Head.Seq) := Hv k b _
 have e4 : aP (shB k b).Start (sh k (R.toF b f.Head.Seq)) = aP b.Start (R.toF b f.Head.Seq) := eG k _ _
 have e5 : R.putB (shB k b) ⟨now, shF k f⟩ = shB k (R.putB b ⟨now, f⟩) := ES k b ⟨now, f⟩
 unfold R.putF
 by_cases hv : R.VR b
 ·
  rw [if_pos hv, if_pos (B7 k hv)]
  by_cases hn : 0 ≤ now ∧ now ≤ 1099511627776
  ·
   rw [if_pos (And.intro hn hf'), if_pos (And.intro hn hs)]
   have e6 : (2048 ≤ aP (shB k b).Start (shF k f).Head.Seq ∨ ∃ x ∈ (shB k b).Held, aP (shB k b).Start x.n = aP (shB k b).Start (shF k f).Head.Seq) ↔ (2048 ≤ aP b.Start f.Head.Seq ∨ ∃ x ∈ b.Held, aP b.Start x.n = aP b.Start f.Head.Seq) := by
    exact or_congr (by rw [e1]) e2
   by_cases hd : 2048 ≤ aP b.Start f.Head.Seq ∨ ∃ x ∈ b.Held, aP b.Start x.n = aP b.Start f.Head.Seq
   ·
    rw [if_pos hd, if_pos (e6.2 hd)]
    exact ⟨rfl, fun h => (by cases h)⟩
   ·
    rw [if_neg hd, if_neg (fun q => hd (e6.1 q)), e3, e4, e5, A5]
    exact ⟨rfl, fun _ => rfl⟩
  ·
   rw [if_neg (fun q => hn q.1), if_neg (fun q => hn q.1)]
   exact ⟨rfl, fun h => (by cases h)⟩
 ·
  rw [if_neg hv, if_neg (fun q => hv (I4 k hi q))]
  exact ⟨rfl, fun h => (by cases h)⟩
theorem FX {b : Reorder} {f : Frame} {now : Int} (hi : InB b) : InB (R.putF b f now).2.1 := by
 unfold R.putF
 split
 ·
  split
  ·
   rename_i hok
   split
   ·
    exact .z
   ·
    refine AR (b := R.putB b ⟨now, f⟩) ⟨hi.1, D5 hi.2.1, fun x hx => ?_⟩ _
    have : x.n ∈ hn (R.putB b ⟨now, f⟩) := AO.2 ⟨x, hx, rfl⟩
    rcases (Im b ⟨now, f⟩ x.n).1 this with q | q
    ·
     obtain ⟨y, hy, e⟩ := AO.1 q
     rw [← e]; exact hi.2.2 y hy
    ·
     rw [q]; exact hok.2
  ·
   exact .z
 ·
  exact .z
end Go.AX.Z.TN

/-! (TNXg) -/

set_option linter.unusedVariables false
set_option linter.unusedSimpArgs false
set_option maxRecDepth 20000
namespace Go.AX.Z.TN
open Go.AX

def shS (k : Int) (s : SS) : SS := { s with plan.Start := sh k s.plan.Start, sides := ⟨shA k s.sides.Sender, shB k s.sides.Reorder⟩ }
theorem zb (k : Int) (s : SS) (l : List Int) : my (shS k s).plan (l.map (sh k)) = my s.plan l := by
 unfold my
 rw [List.map_map]
 exact List.map_congr_left fun x _ => eG k _ _
theorem Bt (k : Int) (s : SS) (l : List Frame) : rel (shS k s).plan (l.map (shF k)) = rel s.plan l := by
 unfold rel
 rw [List.map_map]
 exact List.map_congr_left fun x _ => eG k _ _
theorem Ii (k : Int) {s : SS} {t : Int} (he : (exF t s).err = 0) : exF t (shS k s) = shS k (exF t s) := by
 have e0 := (jC (s := s) he).2
 have e := FM k e0
 unfold exF
 rw [show S.expR (shS k s).sides.Sender t = S.expR (shA k s.sides.Sender) t from rfl, e, zb, e0]
 rfl
theorem Am (k : Int) {s : SS} {to : Int} (he : (iQ to s).err = 0) : iQ (sh k to) (shS k s) = shS k (iQ to s) := by
 have e0 := (jC (s := s) he).2
 have e := Gs k e0
 unfold iQ
 rw [show R.barF (shS k s).sides.Reorder (sh k to) = R.barF (shB k s.sides.Reorder) (sh k to) from rfl, e, Bt, e0]
 rfl
theorem He (k : Int) {s : SS} (he : (bdF s).err = 0) : bdF (shS k s) = shS k (bdF s) := by
 have e0 := (jC (s := s) he).2
 have e := EG k e0
 unfold bdF
 rw [show S.barR (shS k s).sides.Sender = S.barR (shA k s.sides.Sender) from rfl, e, e0]
 rfl
theorem DB (k : Int) {s : SS} {d : List Bool} (he : (fX s d).1.err = 0) : fX (shS k s) d = (shS k (fX s d).1, (fX s d).2) := by
 unfold fX at he ⊢
 by_cases hb : s.sides.Sender.Bar = true
 ·
  rw [if_pos hb] at he ⊢
  rw [if_pos (show (shS k s).sides.Sender.Bar = true from hb)]
  by_cases hd : (eY d).1 = true
  ·
   rw [if_pos hd, if_pos hd]
  ·
   rw [if_neg hd] at he
   rw [if_neg hd, if_neg hd]
   obtain ⟨k1, k2⟩ := jC (s := iQ (S.startR s.sides.Sender) s) he
   obtain ⟨hv, _⟩ := Fp k2
   have hv : S.Valid s.sides.Sender := hv
   have e1 : S.startR (shS k s).sides.Sender = sh k (S.startR s.sides.Sender) := by
    unfold S.startR
    rw [if_pos (show S.Valid (shS k s).sides.Sender from jh k hv), if_pos hv]
    exact k8 k _
   rw [e1, Am k k1, He k he]
 ·
  rw [if_neg hb]
  rw [if_neg (show ¬ (shS k s).sides.Sender.Bar = true from hb)]
theorem BT (k now : Int) : ∀ (n : Nat) (s : SS), (du now n s).err = 0 → du now n (shS k s) = shS k (du now n s)
 | 0, s, _ => rfl
 | n + 1, s, he => by
  unfold du at he ⊢
  by_cases hc : s.accepted < s.many ∧ s.err = 0
  ·
   rw [if_pos hc] at he ⊢
   rw [if_pos (show (shS k s).accepted < (shS k s).many ∧ (shS k s).err = 0 from hc)]
   by_cases h22 : (S.offR s.sides.Sender now).2.2 = 22
   ·
    rw [if_pos h22, if_pos (show (S.offR (shS k s).sides.Sender now).2.2 = 22 from Ck k h22)]
   ·
    rw [if_neg h22] at he ⊢
    have e0 : (S.offR s.sides.Sender now).2.2 = 0 := by
     apply Classical.byContradiction
     intro hne
     have hs : ({ dL (S.offR s.sides.Sender now).2.2 s with accepted := s.accepted + 1, sides.Sender := (S.offR s.sides.Sender now).2.1 } : SS).err ≠ 0 := by
      simp only [dL, if_pos hc.2]; exact hne
     rw [vv now n hs] at he
     exact hs he
    have e : (S.offR (shS k s).sides.Sender now).2 = (shA k (S.offR s.sides.Sender now).2.1, 0) := FB k e0
    have ih := BT k now n _ he
    rw [e, if_neg (show ¬ ((0 : Int) = 22) by decide), ← ih, e0]
    rfl
  ·
   rw [if_neg hc, if_neg (show ¬ ((shS k s).accepted < (shS k s).many ∧ (shS k s).err = 0) from hc)]
theorem Ds (now : Int) : ∀ (n : Nat) (s : SS), (du now n s).sides.Reorder = s.sides.Reorder
 | 0, s => rfl
 | n + 1, s => by
  unfold du
  split
  ·
   split
   ·
    rfl
   ·
    rw [Ds now n]; rfl
  ·
   rfl
theorem sg (k now : Int) : ∀ (l : List Frame) (s : SS) (d : List Bool), InB s.sides.Reorder → (∀ f ∈ l, R.okN (fq f)) →
  fJ now (l.map (shF k)) (shS k s) d = (shS k (fJ now l s d).1, (fJ now l s d).2) ∧ InB (fJ now l s d).1.sides.Reorder
 | [], s, d, h, _ => ⟨rfl, h⟩
 | f :: l, s, d, h, hl => by
  have hl' : ∀ g ∈ l, R.okN (fq g) := fun g hg => hl g (by simp [hg])
  obtain ⟨p1, p2⟩ := Gh k (now := now) h (hl f (by simp))
  have p1 : (R.putF (shS k s).sides.Reorder (shF k f) now).2.2 = (R.putF s.sides.Reorder f now).2.2 := p1
  rw [List.map_cons]
  unfold fJ
  by_cases hd : (eY d).1 = true
  ·
   rw [if_pos hd, if_pos hd]; exact sg k now l s _ h hl'
  ·
   rw [if_neg hd, if_neg hd, p1]
   by_cases h0 : (R.putF s.sides.Reorder f now).2.2 = 0
   ·
    rw [if_pos h0, if_pos h0]
    have p2' : R.putF (shS k s).sides.Reorder (shF k f) now = _ := p2 h0
    have ih := sg k now l { s with sides.Reorder := (R.putF s.sides.Reorder f now).2.1, out.Delivered := s.out.Delivered ++ rel s.plan (R.putF s.sides.Reorder f now).1 } (eY d).2 (FX h) hl'
    refine ⟨?_, ih.2⟩
    rw [← ih.1, p2', Bt]
    rfl
   ·
    rw [if_neg h0, if_neg h0]; exact sg k now l s _ h hl'
theorem ER {A : Sender} {n : Int} (h : (S.pikR A n).2.2 = 0) : ∀ f ∈ (S.pikR A n).1, R.okN (fq f) := by
 obtain ⟨hv, _, e⟩ := HZ h
 rw [e]
 have key : ∀ (l : List ax) (c : Nat), (∀ x ∈ l, R.okN (un x)) → ∀ f ∈ (S.pickR A.Limit n c l).2, R.okN (fq f) := by
  intro l
  induction l with
  | nil => intro c _ f hf; simp [S.pickR] at hf
  | cons x l ih =>
   intro c hl f hf
   unfold S.pickR at hf
   by_cases h1 : (c : Int) = n
   ·
    rw [if_pos h1] at hf; simp at hf
   ·
    rw [if_neg h1] at hf
    by_cases h2 : (x.Flying || (x.Tries == A.Limit)) = true
    ·
     rw [if_pos h2] at hf
     exact ih c (fun y hy => hl y (by simp [hy])) f hf
    ·
     rw [if_neg h2] at hf
     rcases List.mem_cons.1 hf with rfl | hf
     ·
      exact hl x (by simp)
     ·
      exact ih (c + 1) (fun y hy => hl y (by simp [hy])) f hf
 refine key A.Out 0 fun x hx => ?_
 have := hv.P.good x hx
 exact ⟨this.1, by have := this.2.1; show un x < 4096; unfold un; omega⟩
theorem v7 {now : Int} {s : SS} {d : List Bool} (he : (d7 now s d).1.err = 0) : s.err = 0 ∧ (S.pikR s.sides.Sender s.plan.Burst).2.2 = 0 := by
 have := (p9 now (S.pikR s.sides.Sender s.plan.Burst).1 { dL (S.pikR s.sides.Sender s.plan.Burst).2.2 s with sides.Sender := (S.pikR s.sides.Sender s.plan.Burst).2.1 } d).1
 exact jC (s := s) (this.symm.trans he)
theorem D9 (k now : Int) {s : SS} {d : List Bool} (hi : InB s.sides.Reorder) (he : (d7 now s d).1.err = 0) :
  d7 now (shS k s) d = (shS k (d7 now s d).1, (d7 now s d).2) ∧ InB (d7 now s d).1.sides.Reorder := by
 obtain ⟨_, e0⟩ := v7 he
 have e := BU k e0
 have e' : S.pikR (shS k s).sides.Sender (shS k s).plan.Burst = _ := e
 have ih := sg k now (S.pikR s.sides.Sender s.plan.Burst).1 { dL (S.pikR s.sides.Sender s.plan.Burst).2.2 s with sides.Sender := (S.pikR s.sides.Sender s.plan.Burst).2.1 } d hi (ER e0)
 refine ⟨?_, ih.2⟩
 unfold d7
 rw [← ih.1, e', e0]
 rfl
theorem ET (k : Int) {s : SS} {d : List Bool} (he : (kZ s d).1.err = 0) : kZ (shS k s) d = (shS k (kZ s d).1, (kZ s d).2) := by
 unfold kZ at he ⊢
 by_cases hd : (eY d).1 = true
 ·
  rw [if_pos hd] at he
  rw [if_pos hd, if_pos hd]
  have e0 := (jC (s := s) he).2
  have e := DV k e0
  rw [show S.lostR (shS k s).sides.Sender = S.lostR (shA k s.sides.Sender) from rfl, e, e0]
  rfl
 ·
  rw [if_neg hd] at he
  rw [if_neg hd, if_neg hd]
  obtain ⟨k1, k2⟩ := jC (s := dL (R.repR s.sides.Reorder).2 s) he
  obtain ⟨k3, k4⟩ := jC k1
  obtain ⟨hvb, eb⟩ := Jw k4
  have eb' : R.repR (shS k s).sides.Reorder = (shW k s.sides.Reorder.Seen, 0) := by
   unfold R.repR
   rw [if_pos (show R.VR (shS k s).sides.Reorder from B7 k hvb)]; rfl
  rw [eb] at k2
  have e := F1 k k2
  have e' : S.ackR (shS k s).sides.Sender (shW k s.sides.Reorder.Seen) = _ := e
  rw [eb', eb, e', zb, k2]
  rfl
theorem Fu {s : SS} {d : List Bool} (he : (kZ s d).1.err = 0) : s.err = 0 := by
 unfold kZ at he
 split at he
 ·
  exact (jC (s := s) he).1
 ·
  exact (jC (s := s) (jC (s := dL _ s) he).1).1
theorem KH (s : SS) (d : List Bool) : (kZ s d).1.sides.Reorder = s.sides.Reorder := by
 unfold kZ; split <;> rfl
theorem In {n : Nat} {q : SS × List Bool} (he : (rpF n q).1.err = 0) : q.1.err = 0 := by
 unfold rpF at he
 split at he
 ·
  exact Fu he
 ·
  exact he
theorem HP (k : Int) {n : Nat} {q : SS × List Bool} (he : (rpF n q).1.err = 0) : rpF n (shS k q.1, q.2) = (shS k (rpF n q).1, (rpF n q).2) := by
 unfold rpF at he ⊢
 by_cases h : 0 < n
 ·
  rw [if_pos h] at he
  rw [if_pos h, if_pos h]; exact ET k he
 ·
  rw [if_neg h, if_neg h]
theorem Mm (n : Nat) (q : SS × List Bool) : (rpF n q).1.sides.Reorder = q.1.sides.Reorder := by
 unfold rpF; split
 ·
  exact KH _ _
 ·
  rfl
theorem Jj (k now : Int) {s : SS} (he : (rxF now s).err = 0) : rxF now (shS k s) = shS k (rxF now s) := by
 have e0 := (jC (s := s) he).2
 have e := FU k e0
 unfold rxF
 rw [show R.expF (shS k s).sides.Reorder now = R.expF (shB k s.sides.Reorder) now from rfl, e, Bt, e0]
 rfl
theorem Gl {now : Int} {n : Nat} {s : SS} (he : (du now n s).err = 0) : s.err = 0 := by
 apply Classical.byContradiction; intro h
 rw [vv now n h] at he; exact h he
theorem Aj {now : Int} {s : SS} {d : List Bool} (he : (jZ now s d).1.err = 0) :
  (rpF (S.pikR (du now 200 s).sides.Sender (du now 200 s).plan.Burst).1.length (d7 now (du now 200 s) d)).1.err = 0 ∧ (d7 now (du now 200 s) d).1.err = 0 ∧ (du now 200 s).err = 0 ∧ s.err = 0 := by
 have h1 := (jC (s := (rpF (S.pikR (du now 200 s).sides.Sender (du now 200 s).plan.Burst).1.length (d7 now (du now 200 s) d)).1) he).1
 have h2 := In h1
 have h3 := (v7 h2).1
 exact ⟨h1, h2, h3, Gl h3⟩
theorem Dk (k now : Int) {s : SS} {d : List Bool} (hi : InB s.sides.Reorder) (he : (jZ now s d).1.err = 0) :
  jZ now (shS k s) d = (shS k (jZ now s d).1, (jZ now s d).2) ∧ InB (jZ now s d).1.sides.Reorder := by
 obtain ⟨h1, h2, h3, h4⟩ := Aj he
 have hiO : InB (du now 200 s).sides.Reorder := by rw [Ds]; exact hi
 obtain ⟨s1, s2⟩ := D9 k now hiO h2
 have e1 := BT k now 200 s h3
 have e2 := (v7 h2).2
 have e3 : (S.pikR (shS k (du now 200 s)).sides.Sender (shS k (du now 200 s)).plan.Burst).1.length = (S.pikR (du now 200 s).sides.Sender (du now 200 s).plan.Burst).1.length := by
  have : S.pikR (shS k (du now 200 s)).sides.Sender (shS k (du now 200 s)).plan.Burst = _ := BU k e2
  rw [this, List.length_map]; rfl
 have e4 := HP k h1
 have e5 : rxF now (shS k (rpF (S.pikR (du now 200 s).sides.Sender (du now 200 s).plan.Burst).1.length (d7 now (du now 200 s) d)).1) = _ := Jj k now he
 refine ⟨?_, ?_⟩
 ·
  unfold jZ
  simp only
  rw [e1, s1, e3, e4, e5]
 ·
  show InB (R.expF _ now).2.1
  apply Gt
  rw [Mm]; exact s2
theorem Ea {s : SS} {d : List Bool} (he : (fX s d).1.err = 0) : s.err = 0 := by
 unfold fX at he
 split at he
 ·
  split at he
  ·
   exact he
  ·
   exact (jC (s := s) (jC (s := iQ _ s) he).1).1
 ·
  exact he
theorem FA {s : SS} {d : List Bool} (hi : InB s.sides.Reorder) : InB (fX s d).1.sides.Reorder := by
 unfold fX
 split
 ·
  split
  ·
   exact hi
  ·
   exact Fg hi
 ·
  exact hi
theorem CW {s : SS} {d : List Bool} (he : (fC s d).1.err = 0) : (fX (exF (di s) s) d).1.err = 0 ∧ (exF (di s) s).err = 0 ∧ s.err = 0 := by
 have h1 := (Aj he).2.2.2
 have h2 := Ea h1
 exact ⟨h1, h2, (jC (s := s) h2).1⟩
theorem Cs (k : Int) {s : SS} {d : List Bool} (hi : InB s.sides.Reorder) (he : (fC s d).1.err = 0) :
  fC (shS k s) d = (shS k (fC s d).1, (fC s d).2) ∧ InB (fC s d).1.sides.Reorder := by
 obtain ⟨h1, h2, h3⟩ := CW he
 have e1 := Ii k h2
 have e2 := DB k h1
 have hb : InB (fX (exF (di s) s) d).1.sides.Reorder := FA (s := exF (di s) s) (show InB s.sides.Reorder from hi)
 obtain ⟨r1, r2⟩ := Dk k (di s) (s := (fX (exF (di s) s) d).1) (d := (fX (exF (di s) s) d).2) hb he
 refine ⟨?_, r2⟩
 unfold fC
 rw [show di (shS k s) = di s from rfl, e1, e2, r1]
theorem Cq (k : Int) {s : SS} (he : (lC s).err = 0) : lC (shS k s) = shS k (lC s) := by
 obtain ⟨k1, k2⟩ := jC (s := clF s) he
 have e0 := (jC (s := s) k1).2
 have e := Cl k e0
 have e' : S.closeR (shS k s).sides.Sender = _ := e
 have e1 : clF (shS k s) = shS k (clF s) := by
  unfold clF
  rw [e', zb, e0]; rfl
 unfold lC
 rw [e', e1]
 exact Am k he
theorem Bu {n : Nat} {s : SS} {d : List Bool} (h : s.err ≠ 0) : iJ n s d = (s, d) := by
 cases n with
 | zero => rfl
 | succ n => unfold iJ; rw [if_neg (fun q => h q.1)]
theorem B6 (k : Int) : ∀ (n : Nat) (s : SS) (d : List Bool), InB s.sides.Reorder → (iJ n s d).1.err = 0 → iJ n (shS k s) d = (shS k (iJ n s d).1, (iJ n s d).2)
 | 0, s, d, _, _ => rfl
 | n + 1, s, d, hi, he => by
  unfold iJ at he ⊢
  have ec : ((shS k s).err = 0 ∧ ((shS k s).accepted < (shS k s).many ∨ (shS k s).sides.Sender.Out ≠ [] ∨ (shS k s).sides.Sender.Bar = true)) ↔ (s.err = 0 ∧ (s.accepted < s.many ∨ s.sides.Sender.Out ≠ [] ∨ s.sides.Sender.Bar = true)) :=
   and_congr Iff.rfl (or_congr Iff.rfl (or_congr (A8 k _) Iff.rfl))
  by_cases hc : s.err = 0 ∧ (s.accepted < s.many ∨ s.sides.Sender.Out ≠ [] ∨ s.sides.Sender.Bar = true)
  ·
   rw [if_pos hc] at he
   rw [if_pos hc, if_pos (ec.2 hc)]
   by_cases hr : s.out.Rounds = 2000
   ·
    rw [if_pos hr] at he
    rw [if_pos hr, if_pos (show (shS k s).out.Rounds = 2000 from hr), Cq k he]
   ·
    rw [if_neg hr] at he
    rw [if_neg hr, if_neg (show ¬ (shS k s).out.Rounds = 2000 from hr)]
    have her : (fC s d).1.err = 0 := by
     apply Classical.byContradiction; intro hne
     rw [Bu hne] at he
     exact hne he
    obtain ⟨r1, r2⟩ := Cs k hi her
    rw [r1]
    exact B6 k n _ _ r2 he
  ·
   rw [if_neg hc, if_neg (fun q => hc (ec.1 q))]

theorem EJ {p : al} {many : Int} {d : List Bool} (he : (rb p many d).2 = 0) {T : Int} (hT : 0 ≤ T ∧ T < 4096) : rb { p with Start := T } many d = rb p many d := by
 unfold rb at he ⊢
 by_cases hp : dt p
 ·
  rw [if_pos hp] at he
  rw [if_pos hp, if_pos (show dt { p with Start := T } from ⟨⟨hT.1, by show T ≤ 4095; omega⟩, hp.2⟩)]
  by_cases hm : 0 ≤ many ∧ many ≤ 200
  ·
   rw [if_pos hm] at he
   rw [if_pos hm, if_pos hm]
   by_cases h : (iJ 2001 (start p many) d).1.err = 0
   ·
    have hs := hp.1
    have hi : InB (start p many).sides.Reorder := ⟨⟨hs.1, by show p.Start < 4096; omega⟩, ⟨hs.1, by show p.Start < 4096; omega⟩, by simp [start, B0, Reorder.z]⟩
    have e := B6 (T - p.Start) 2001 (start p many) d hi h
    have es : shS (T - p.Start) (start p many) = start { p with Start := T } many := by
     have : sh (T - p.Start) p.Start = T := by unfold sh; omega
     unfold shS start shA shB shW
     simp only [A0, B0, ju, this]
     rfl
    rw [es] at e
    rw [e, if_pos h, if_pos (show (shS (T - p.Start) (iJ 2001 (start p many) d).1).err = 0 from h)]
    rfl
   ·
    rw [if_neg h] at he; exact absurd he h
  ·
   rw [if_neg hm] at he; cases he
 ·
  rw [if_neg hp] at he; cases he
end Go.AX.Z.TN

/-! (TNXh) -/

set_option linter.unusedVariables false
set_option linter.unusedSimpArgs false
set_option maxRecDepth 20000
namespace Go.AX.Z.TN
open Go.AX

theorem Dl {p : al} {many : Int} {d : List Bool} (he : (rb p many d).2 = 0) : 0 ≤ many ∧ many ≤ 200 := by
 apply Classical.byContradiction; intro hm
 unfold rb at he
 by_cases hp : dt p
 ·
  rw [if_pos hp, if_neg hm] at he; cases he
 ·
  rw [if_neg hp] at he; cases he

theorem vG (n : Int) : kF n = some (decide (0 ≤ n ∧ n < 4096)) := by
 unfold kF
 rw [← Bool.decide_and]
 congr 1
 exact decide_eq_decide.2 ⟨fun q => ⟨q.1, by omega⟩, fun q => ⟨q.1, by omega⟩⟩
end Go.AX.Z.TN

/-! (TNXk) -/

set_option linter.unusedVariables false
set_option linter.unusedSimpArgs false
set_option maxRecDepth 20000
namespace Go.AX.Z.TN
open Go.AX

structure VA (p : al) (A : Sender) (m a t : Int) : Prop where
 tid : A.Tid = 0
 ph : A.Phase = 2
 tok : A.Token = 1
 next : A.Next = a
 lim : A.Limit = p.Limit
 life : A.Life = p.Life
 size : A.Size = p.Size
 bar : A.Bar = false
 seqs : S.seqs A.Out = rng m a
 each : ∀ x ∈ A.Out, 0 ≤ x.At ∧ x.At ≤ t ∧ 0 ≤ x.Tries ∧ x.Tries ≤ p.Limit ∧ (x.Flying = true → x.Tries ≠ 0)
 srt : A.Out.Pairwise fun x y => x.At ≤ y.At
structure Bd (p : al) (m a t : Int) : Prop where
 m0 : 0 ≤ m
 ma : m ≤ a
 a2 : a ≤ 200
 sz : a - m ≤ p.Size
 t : t ≤ 1099511627776

theorem BN {m a lim t : Int} (hm : 0 ≤ m) (ha : a ≤ 200) (ht : t ≤ 1099511627776) : ∀ (l : List ax) (b at' : Int), m ≤ b → S.seqs l = rng b a → (∀ x ∈ l, at' ≤ x.At ∧ x.At ≤ t ∧ 0 ≤ x.Tries ∧ x.Tries ≤ lim ∧ (x.Flying = true → x.Tries ≠ 0)) →
  (l.Pairwise fun x y => x.At ≤ y.At) → S.OkL m (a - m) lim (b - m - 1) at' l
 | [], _, _, _, _, _, _ => trivial
 | x :: l, b, at', hb, hs, he, hp => by
  have hba : b < a := by
   apply Int.not_le.1; intro q
   rw [ji q] at hs
   simp [S.seqs] at hs
  rw [lr hba] at hs
  have h1 : un x = b := (List.cons.inj hs).1
  have h2 : S.seqs l = rng (b + 1) a := (List.cons.inj hs).2
  obtain ⟨p1, p2⟩ := List.pairwise_cons.1 hp
  obtain ⟨e1, e2, e3, e4, e5⟩ := he x (by simp)
  have ed : aP m x.Frame.Head.Seq = b - m := by
   have : x.Frame.Head.Seq = b := h1
   rw [this]; exact uJ hb (by omega)
  have h1' : x.Frame.Head.Seq = b := h1
  refine ⟨⟨by omega, by omega, by rw [ed]; omega, by rw [ed]; omega, e1, by omega, e3, e4, e5⟩, ?_⟩
  rw [ed]
  have := BN hm ha ht l (b + 1) x.At (by omega) h2 (fun y hy => by
   have q1 := he y (by simp [hy])
   have q2 := p1 y hy
   exact ⟨q2, q1.2.1, q1.2.2.1, q1.2.2.2.1, q1.2.2.2.2⟩) p2
  rw [show b + 1 - m - 1 = b - m by omega] at this
  exact this
theorem VA.start {p : al} {A : Sender} {m a t : Int} (h : VA p A m a t) (hm : m ≤ a) : S.startOf A = m := by
 rw [CR, h.seqs, h.next]
 by_cases q : m < a
 ·
  rw [lr q]
 ·
  rw [ji (by omega)]; simp only; omega
theorem VA.valid {p : al} {A : Sender} {m a t : Int} (h : VA p A m a t) (hp : dt p) (hb : Bd p m a t) : S.Valid A := by
 obtain ⟨q1, q2, q3, q4, q5, q6, q7⟩ := hp
 obtain ⟨b1, b2, b3, b4, b5⟩ := hb
 have e1 := h.start b2
 have e2 : aP m a = a - m := uJ b2 (by omega)
 refine ⟨by rw [h.tid]; decide, by rw [h.ph]; decide, by rw [h.tok]; decide, by rw [h.next]; omega, by rw [h.lim]; exact q3, by rw [h.life]; exact q5, ?_, fun q => absurd h.ph q, ?_, ?_⟩
 ·
  rw [if_neg (by rw [h.ph]; decide), h.size]; exact q2
 ·
  rw [e1, h.next, e2, h.size]; exact b4
 ·
  rw [e1, h.next, e2, h.lim]
  have := BN b1 b3 b5 A.Out m 0 (Int.le_refl _) h.seqs h.each h.srt
  rw [show m - m - 1 = (-1 : Int) by omega] at this
  exact this
def yd (A : Sender) : Prop := ∀ x ∈ A.Out, x.Tries = 0 ∧ x.Flying = false
theorem VA.exp {p : al} {A : Sender} {m a t : Int} (h : VA p A m a t) (hp : dt p) (hb : Bd p m a t) (hf : yd A) {now : Int} (hn : 0 ≤ now ∧ now < p.Life) : S.expR A now = ([], A, 0) := by
 have hl := hp.2.2.2.2.1
 have hk := hp.2.2.1
 have hpx : ∀ x ∈ A.Out, S.pX A.Limit A.Life now x = false := by
  intro x hx
  obtain ⟨e1, e2, _⟩ := h.each x hx
  have := hb.t
  unfold S.pX
  rw [h.lim, h.life, (hf x hx).1, (hf x hx).2, jm (by omega) (by omega), decide_eq_false (by omega), show ((0 : Int) == p.Limit) = false by simp; omega]
  rfl
 have e1 : A.Out.filter (S.pX A.Limit A.Life now) = [] := List.filter_eq_nil_iff.2 fun x hx => by rw [hpx x hx]; decide
 have e2 : A.Out.filter (fun x => !S.pX A.Limit A.Life now x) = A.Out := List.filter_eq_self.2 fun x hx => by rw [hpx x hx]; rfl
 unfold S.expR
 rw [if_pos (h.valid hp hb), if_pos (show 0 ≤ now ∧ now ≤ 1099511627776 from ⟨hn.1, by omega⟩), if_pos h.ph]
 unfold S.expS S.expN
 rw [e1, e2]
 have e3 : (A.Bar || decide (0 < (((S.seqs []).length : Nat) : Int))) = A.Bar := by rw [h.bar]; rfl
 rw [e3]; rfl
theorem VA.off {p : al} {A : Sender} {m a t : Int} (h : VA p A m a t) (hp : dt p) (hb : Bd p m a t) {now : Int} (ht : t ≤ now ∧ 0 ≤ now ∧ now ≤ 1099511627776) :
  (if p.Size ≤ a - m then (S.offR A now).2.2 = 22 else (S.offR A now).2 = (S.offS A Frame.z now, 0)) ∧ (a < 200 → VA p (S.offS A Frame.z now) m (a + 1) now) := by
 obtain ⟨b1, b2, b3, b4, b5⟩ := hb
 have e2 : aP m a = a - m := uJ b2 (by omega)
 have hl : ¬ (A.Out ≠ [] ∧ now < S.lastAt A) := by
  rintro ⟨_, q⟩
  unfold S.lastAt at q
  cases hg : A.Out.getLast? with
  | none => rw [hg] at q; simp only at q; omega
  | some x =>
   rw [hg] at q
   simp only at q
   have := h.each x (List.mem_of_getLast? hg)
   omega
 constructor
 ·
  unfold S.offR
  rw [if_pos (h.valid hp ⟨b1, b2, b3, b4, b5⟩), if_pos (show 0 ≤ now ∧ now ≤ 1099511627776 from ⟨ht.2.1, ht.2.2⟩), if_pos h.ph, if_neg hl, h.start b2, h.next, e2, h.size]
  by_cases hz : p.Size ≤ a - m
  ·
   rw [if_pos hz, if_pos hz]
  ·
   rw [if_neg hz, if_neg hz]
 ·
  intro ha
  refine ⟨h.tid, h.ph, h.tok, ?_, h.lim, h.life, h.size, h.bar, ?_, ?_, ?_⟩
  ·
   show (A.Next + 1) % 4096 = a + 1
   rw [h.next]; omega
  ·
   rw [wA b2, ← h.seqs]
   simp only [S.offS, S.seqs, List.map_append, List.map_cons, List.map_nil, S.offF, h.next]
  ·
   intro x hx
   have hx' : x ∈ A.Out ++ [({ ax.z with At := now, Frame := S.offF A Frame.z } : ax)] := hx
   rcases List.mem_append.1 hx' with q | q
   ·
    have := h.each x q
    exact ⟨this.1, by omega, this.2.2⟩
   ·
    simp only [List.mem_singleton] at q
    subst q
    have := hp.2.2.1
    refine ⟨ht.2.1, Int.le_refl _, Int.le_refl _, by show (0 : Int) ≤ p.Limit; omega, fun q => (by cases q)⟩
  ·
   show (A.Out ++ [_]).Pairwise _
   rw [List.pairwise_append]
   refine ⟨h.srt, List.pairwise_singleton _ _, fun x hx y hy => ?_⟩
   simp only [List.mem_singleton] at hy
   subst hy
   have := h.each x hx
   show x.At ≤ now; omega
theorem Ad (m a : Int) (k : Nat) : (rng m a).take k = rng m (if m + k < a then m + k else a) := by
 unfold rng
 rw [← List.map_take, List.take_range]
 congr 2
 split <;> omega
theorem Ek (m a : Int) (k : Nat) (hk : m + k ≤ a) : (rng m a).drop k = rng (m + k) a := by
 have h := zj (a := m) (b := m + k) (c := a) (by omega) hk
 rw [h]
 exact List.drop_left' (by rw [rY]; omega)
def pkd (p : al) (A : Sender) : Sender := { A with Out := (A.Out.take p.Burst.toNat).map bump ++ A.Out.drop p.Burst.toNat }
theorem VA.pick {p : al} {A : Sender} {m a t : Int} (h : VA p A m a t) (hp : dt p) (hb : Bd p m a t) (hf : yd A) :
  S.pikR A p.Burst = ((A.Out.take p.Burst.toNat).map frm, (pkd p A), 0) ∧
  VA p (pkd p A) m a t := by
 have hB := hp.2.2.2.1
 have hl := hp.2.2.1
 have hpk := zX A.Limit p.Burst A.Out 0 (fun x hx => by
  have := hf x hx
  rw [h.lim]
  exact ⟨this.2, by omega, by omega, by omega⟩) (by simp; omega)
 simp only [Int.natCast_zero, Int.sub_zero] at hpk
 constructor
 ·
  unfold S.pikR S.pickS
  rw [if_pos (h.valid hp hb), if_pos (by omega), if_pos h.ph, hpk]
  rfl
 ·
  refine ⟨h.tid, h.ph, h.tok, h.next, h.lim, h.life, h.size, h.bar, ?_, ?_, ?_⟩
  ·
   rw [← h.seqs]
   unfold S.seqs pkd
   simp only
   rw [List.map_append, List.map_map]
   conv => rhs; rw [← List.take_append_drop p.Burst.toNat A.Out, List.map_append]
   rfl
  ·
   intro x hx
   rcases List.mem_append.1 hx with q | q
   ·
    obtain ⟨y, hy, rfl⟩ := List.mem_map.1 q
    have hy := List.mem_of_mem_take hy
    have := h.each y hy
    have := hf y hy
    simp only [bump]
    exact ⟨by omega, by omega, by omega, by omega, fun _ => by omega⟩
   ·
    exact h.each x (List.mem_of_mem_drop q)
  ·
   show ((A.Out.take p.Burst.toNat).map bump ++ A.Out.drop p.Burst.toNat).Pairwise _
   have ht := h.srt
   rw [← List.take_append_drop p.Burst.toNat A.Out, List.pairwise_append] at ht
   rw [List.pairwise_append, List.pairwise_map]
   refine ⟨ht.1, ht.2.1, fun x hx y hy => ?_⟩
   obtain ⟨z, hz, rfl⟩ := List.mem_map.1 hx
   exact ht.2.2 z hz y hy
theorem VA.ack {p : al} {A : Sender} {m m' a t : Int} (h : VA p A m a t) (hp : dt p) (hb : Bd p m a t) (hf : yd A) (hm : m' = if m + p.Burst < a then m + p.Burst else a) {w : aW} (hw : S.okW w) (hh : ∀ i, m ≤ i ∧ i < m' → S.hasB w i = true) :
  ∃ A', S.ackR (pkd p A) w = (rng m m', A', 0) ∧ VA p A' m' a t ∧ yd A' ∧ Bd p m' a t ∧ m ≤ m' := by
 obtain ⟨_, v⟩ := h.pick hp hb hf
 have hB := hp.2.2.2.1
 have hv := v.valid hp hb
 have hmm : m ≤ m' ∧ m' ≤ a := by have := hb.ma; rw [hm]; split <;> omega
 have e0 : S.seqs (A.Out.take p.Burst.toNat) = rng m m' := by
  have := Ad m a p.Burst.toNat
  rw [show m + ((p.Burst.toNat : Nat) : Int) = m + p.Burst by omega, ← hm] at this
  rw [← this, ← h.seqs]
  unfold S.seqs; rw [List.map_take]
 have e1 : ((A.Out.take p.Burst.toNat).map bump).filter (S.pA w) = (A.Out.take p.Burst.toNat).map bump := List.filter_eq_self.2 fun x hx => by
  obtain ⟨y, hy, rfl⟩ := List.mem_map.1 hx
  have : un y ∈ rng m m' := by rw [← e0]; exact List.mem_map.2 ⟨y, hy, rfl⟩
  have hb' := hh (un y) (BY.1 this)
  have hy := hf y (List.mem_of_mem_take hy)
  unfold S.pA
  rw [Bool.and_eq_true]
  refine ⟨?_, hb'⟩
  have hy1 := hy.1
  rw [decide_eq_true_eq]
  show 0 < y.Tries + 1
  omega
 have n1 : ((A.Out.take p.Burst.toNat).map bump).filter (fun x => !S.pA w x) = [] := List.filter_eq_nil_iff.2 fun x hx => by
  have : x ∈ ((A.Out.take p.Burst.toNat).map bump).filter (S.pA w) := by rw [e1]; exact hx
  rw [(List.mem_filter.1 this).2]; decide
 have hd : ∀ x ∈ A.Out.drop p.Burst.toNat, S.pA w x = false := fun x hx => by
  unfold S.pA
  rw [(hf x (List.mem_of_mem_drop hx)).1]; rfl
 have e2 : (A.Out.drop p.Burst.toNat).filter (S.pA w) = [] := List.filter_eq_nil_iff.2 fun x hx => by rw [hd x hx]; decide
 have n2 : (A.Out.drop p.Burst.toNat).filter (fun x => !S.pA w x) = A.Out.drop p.Burst.toNat := List.filter_eq_self.2 fun x hx => by rw [hd x hx]; rfl
 have n3 : (A.Out.drop p.Burst.toNat).map S.unfly = A.Out.drop p.Burst.toNat := by
  conv => rhs; rw [← List.map_id (A.Out.drop p.Burst.toNat)]
  refine List.map_congr_left fun x hx => ?_
  have := (hf x (List.mem_of_mem_drop hx)).2
  unfold S.unfly
  rw [← this]; rfl
 have e3 : S.seqs ((A.Out.take p.Burst.toNat).map bump) = rng m m' := by
  rw [← e0]; unfold S.seqs; rw [List.map_map]; rfl
 refine ⟨{ A with Out := A.Out.drop p.Burst.toNat }, ?_, ?_, fun x hx => hf x (List.mem_of_mem_drop hx), ⟨by have := hb.m0; omega, hmm.2, hb.a2, by have := hb.sz; omega, hb.t⟩, hmm.1⟩
 ·
  unfold S.ackR S.ackS
  rw [if_pos hv, if_pos hw, if_pos (show (pkd p A).Phase = 2 from h.ph)]
  simp only [pkd, List.filter_append, e1, e2, n1, n2, List.append_nil, List.nil_append, e3, n3]
 ·
  refine ⟨h.tid, h.ph, h.tok, h.next, h.lim, h.life, h.size, h.bar, ?_, fun x hx => h.each x (List.mem_of_mem_drop hx), h.srt.sublist (List.drop_sublist _ _)⟩
  show S.seqs (A.Out.drop p.Burst.toNat) = _
  have : S.seqs (A.Out.drop p.Burst.toNat) = (rng m a).drop p.Burst.toNat := by
   rw [← h.seqs]; unfold S.seqs; rw [List.map_drop]
  rw [this, hm]
  by_cases hlt : m + p.Burst < a
  ·
   rw [if_pos hlt, Ek m a _ (by omega)]
   congr 1; omega
  ·
   rw [if_neg hlt, ji (Int.le_refl a)]
   exact List.drop_eq_nil_of_le (by rw [rY]; omega)
end Go.AX.Z.TN

/-! (TNXl) -/

set_option linter.unusedVariables false
set_option linter.unusedSimpArgs false
set_option maxRecDepth 20000
namespace Go.AX.Z.TN
open Go.AX

structure WB (p : al) (b : Reorder) (m : Int) : Prop where
 start : b.Start = m
 size : b.Size = p.Size
 hold : b.Hold = p.Hold
 held : b.Held = []
 seen : 0 ≤ b.Seen.Start ∧ b.Seen.Start ≤ m
 u : U64 b.Seen.Bits
theorem WB.vr {p : al} {b : Reorder} {m : Int} (h : WB p b m) (hp : dt p) (hm : 0 ≤ m ∧ m ≤ 200) : R.VR b := by
 obtain ⟨q1, q2, q3, q4, q5, q6, q7⟩ := hp
 refine ⟨⟨by rw [h.start]; omega, by rw [h.size]; omega, by rw [h.size]; omega, by rw [h.hold]; omega, by rw [h.hold]; omega, by have := h.seen; omega⟩, ?_⟩
 rw [h.held]; exact trivial
theorem WB.exp {p : al} {b : Reorder} {m : Int} (h : WB p b m) (hp : dt p) (hm : 0 ≤ m ∧ m ≤ 200) {now : Int} (hn : 0 ≤ now ∧ now ≤ 1099511627776) : R.expF b now = ([], b, 0) := by
 unfold R.expF
 rw [if_pos (h.vr hp hm), if_pos hn, h.held]; rfl
theorem WB.put {p : al} {b : Reorder} {m : Int} (h : WB p b m) (hp : dt p) (hm : 0 ≤ m ∧ m < 200) {f : Frame} (hf : fq f = m) {now : Int} (hn : 0 ≤ now ∧ now ≤ 1099511627776) :
  ∃ b', R.putF b f now = ([f], b', 0) ∧ WB p b' (m + 1) ∧ ∀ i, m - 63 ≤ i → (S.hasB b.Seen i = true ∨ i = m) → S.hasB b'.Seen i = true := by
 have hq : f.Head.Seq = m := hf
 have hsz := hp.2.1
 have hse := h.seen
 have hd : aP b.Start f.Head.Seq = 0 := by rw [h.start, hq]; unfold aP; simp
 have hds : aP b.Seen.Start m = m - b.Seen.Start := uJ hse.2 (by omega)
 have nt := E4 (w := b.Seen) (n := m) h.u (show 0 ≤ b.Seen.Start ∧ b.Seen.Start < 4096 by omega) (show 0 ≤ m ∧ m < 4096 by omega)
 have hto : R.toF b f.Head.Seq = b.Start := by unfold R.toF; rw [hd, h.size, if_neg (by omega)]
 have hds0 : aP b.Start b.Start = 0 := by unfold aP; simp
 have hpb : (R.putB b ⟨now, f⟩).Held = [⟨now, f⟩] := by unfold R.putB R.insF R.pre R.post; rw [h.held]; rfl
 have hx : aP b.Start (⟨now, f⟩ : az).n = 0 := hd
 have hmv : R.mvF (R.putB b ⟨now, f⟩) 0 = ([f], { R.putB b ⟨now, f⟩ with Start := m + 1, Held := [] }) := by
  unfold R.mvF R.pre R.post
  rw [hpb]
  have hxx : aP (R.putB b ⟨now, f⟩).Start (⟨now, f⟩ : az).n = 0 := hd
  have e1 : [(⟨now, f⟩ : az)].filter (fun x => decide (aP (R.putB b ⟨now, f⟩).Start x.n < 0)) = [] := by
   rw [List.filter_cons_of_neg (by rw [hxx]; decide)]; rfl
  have e2 : [(⟨now, f⟩ : az)].filter (fun x => !decide (aP (R.putB b ⟨now, f⟩).Start x.n < 0)) = [⟨now, f⟩] := by
   rw [List.filter_cons_of_pos (by rw [hxx]; decide)]; rfl
  have e3 : R.relF (R.putB b ⟨now, f⟩).Start 0 [⟨now, f⟩] = (1, [f], []) := by
   unfold R.relF
   rw [if_pos hxx]; rfl
  rw [e1, e2, e3]
  have e4 : ((R.putB b ⟨now, f⟩).Start + 1) % 4096 = m + 1 := by
   show (b.Start + 1) % 4096 = _
   rw [h.start]; omega
  simp only [List.map_nil, List.nil_append, e4]
 have hsn : (R.noteF b.Seen m).Start = b.Seen.Start ∨ (64 ≤ m - b.Seen.Start ∧ (R.noteF b.Seen m).Start = m - 63) := by
  unfold R.noteF
  rw [hds, if_neg (by omega)]
  by_cases q : 64 ≤ m - b.Seen.Start
  ·
   rw [if_pos q]
   right
   refine ⟨q, ?_⟩
   show (m + (-63)) % 4096 = _
   omega
  ·
   rw [if_neg q]; exact .inl rfl
 have hpbs : (R.putB b ⟨now, f⟩).Seen = R.noteF b.Seen m := by unfold R.putB; simp only; rw [show (⟨now, f⟩ : az).n = m from hq]
 refine ⟨{ R.putB b ⟨now, f⟩ with Start := m + 1, Held := [] }, ?_, ⟨rfl, h.size, h.hold, rfl, ?_, ?_⟩, ?_⟩
 ·
  unfold R.putF
  rw [if_pos (h.vr hp (by omega)), if_pos (show (0 ≤ now ∧ now ≤ 1099511627776) ∧ R.okN f.Head.Seq from ⟨hn, by rw [hq]; exact ⟨hm.1, by omega⟩⟩), hto, hd, hds0, if_neg (by rw [h.held]; simp), hmv]
 ·
  show 0 ≤ (R.putB b ⟨now, f⟩).Seen.Start ∧ (R.putB b ⟨now, f⟩).Seen.Start ≤ m + 1
  rw [hpbs]
  rcases hsn with q | q <;> omega
 ·
  show U64 (R.putB b ⟨now, f⟩).Seen.Bits
  rw [hpbs]; exact nt.u
 ·
  intro i hi hb
  show S.hasB (R.putB b ⟨now, f⟩).Seen i = true
  rw [hpbs]
  rcases hb with hb | rfl
  ·
   refine nt.keep i hb ?_
   have hb2 := hb
   unfold S.hasB at hb2
   rw [Bool.and_eq_true, decide_eq_true_eq] at hb2
   obtain ⟨⟨_, i0, i1, i2⟩, _⟩ := hb2
   rcases hsn with q | ⟨q, q2⟩
   ·
    rw [q]; exact i2
   ·
    rw [q2]
    have : i < b.Seen.Start + 64 := by
     apply Int.not_le.1; intro hge
     unfold aP at i2; omega
    unfold aP; omega
  ·
   exact nt.self (by rw [hds]; omega)

theorem Ik {p : al} (hp : dt p) (h0 : p.Start = 0) {now : Int} (hn : 0 ≤ now ∧ now ≤ 1099511627776) : ∀ (l : List Frame) (s : SS) (m m' : Int), s.plan = p → WB p s.sides.Reorder m → 0 ≤ m → m ≤ m' → m' ≤ 200 → l.map fq = rng m m' →
  ∃ b', fJ now l s [] = ({ s with sides.Reorder := b', out.Delivered := s.out.Delivered ++ rng m m' }, []) ∧ WB p b' m' ∧ ∀ i, m' - 64 ≤ i → (S.hasB s.sides.Reorder.Seen i = true ∨ (m ≤ i ∧ i < m')) → S.hasB b'.Seen i = true := by
 intro l
 induction l with
 | nil =>
  intro s m m' hpl hb hm hmm h200 hl
  have : m' ≤ m := by
   apply Int.not_lt.1; intro q
   rw [lr q] at hl; cases hl
  have e : m' = m := by omega
  subst e
  refine ⟨s.sides.Reorder, ?_, hb, fun i _ hi => ?_⟩
  ·
   rw [ji (Int.le_refl _), List.append_nil]; rfl
  ·
   rcases hi with q | q
   ·
    exact q
   ·
    omega
 | cons f l ih =>
  intro s m m' hpl hb hm hmm h200 hl
  have hlt : m < m' := by
   apply Int.not_le.1; intro q
   rw [ji q] at hl; cases hl
  rw [lr hlt, List.map_cons] at hl
  have h1 : fq f = m := (List.cons.inj hl).1
  have h2 : l.map fq = rng (m + 1) m' := (List.cons.inj hl).2
  obtain ⟨b1, e1, w1, k1⟩ := hb.put hp ⟨hm, by omega⟩ h1 hn
  obtain ⟨b2, e2, w2, k2⟩ := ih { s with sides.Reorder := b1, out.Delivered := s.out.Delivered ++ [m] } (m + 1) m' hpl w1 (by omega) (by omega) h200 h2
  have hrel : rel s.plan [f] = [m] := by
   unfold rel
   rw [List.map_cons, List.map_nil, hpl, h0, show f.Head.Seq = m from h1, GR hm (by omega)]
  refine ⟨b2, ?_, w2, fun i hi hh => k2 i hi ?_⟩
  ·
   unfold fJ
   rw [if_neg (by decide), e1, if_pos rfl, hrel]
   show fJ now l _ [] = _
   rw [e2, lr hlt]
   simp only [List.append_assoc, List.singleton_append]
  ·
   by_cases hin : m + 1 ≤ i ∧ i < m'
   ·
    exact .inr hin
   ·
    left
    refine k1 i (by omega) ?_
    rcases hh with q | q
    ·
     exact .inl q
    ·
     right; omega

structure W (p : al) (many : Int) (s : SS) (m a t : Int) : Prop where
 plan : s.plan = p
 mny : s.many = many
 err : s.err = 0
 acc : s.accepted = a
 A : VA p s.sides.Sender m a t
 fresh : yd s.sides.Sender
 B : WB p s.sides.Reorder m
 D : s.out.Delivered = rng 0 m
 K : s.out.Acked = rng 0 m
 X : s.out.Dropped = []
 bd : Bd p m a t
 am : a ≤ many
theorem td {s : SS} (h : s.err = 0) : dL 0 s = s := by
 unfold dL
 rw [if_pos h]
 conv => lhs; rw [← h]
theorem W.ex {p : al} {many : Int} {s : SS} {m a t : Int} (h : W p many s m a t) (hp : dt p) {now : Int} (hn : 0 ≤ now ∧ now < p.Life) : exF now s = s := by
 have e := h.A.exp hp h.bd h.fresh hn
 unfold exF
 rw [e]
 simp only
 rw [td h.err]
 unfold my
 rw [List.map_nil, List.append_nil]
theorem W.off {p : al} {many : Int} (hp : dt p) (h200 : many ≤ 200) {now : Int} (hn : 0 ≤ now ∧ now ≤ 1099511627776) : ∀ (n : Nat) (s : SS) (m a t : Int), W p many s m a t → t ≤ now → many - a ≤ n →
  W p many (du now n s) m (if m + p.Size < many then m + p.Size else many) now ∧ (du now n s).out.Rounds = s.out.Rounds := by
 intro n
 induction n with
 | zero =>
  intro s m a t h ht hk
  have ha : a = many := by have := h.am; omega
  have hs := h.bd.sz
  have e : (if m + p.Size < many then m + p.Size else many) = a := by split <;> omega
  rw [e]
  exact ⟨⟨h.plan, h.mny, h.err, h.acc, ⟨h.A.tid, h.A.ph, h.A.tok, h.A.next, h.A.lim, h.A.life, h.A.size, h.A.bar, h.A.seqs, fun x hx => by have := h.A.each x hx; exact ⟨this.1, by omega, this.2.2⟩, h.A.srt⟩, h.fresh, h.B, h.D, h.K, h.X, ⟨h.bd.m0, h.bd.ma, h.bd.a2, h.bd.sz, hn.2⟩, h.am⟩, rfl⟩
 | succ n ih =>
  intro s m a t h ht hk
  obtain ⟨o1, o2⟩ := h.A.off hp h.bd ⟨ht, hn.1, hn.2⟩
  have hmono : W p many s m a now := ⟨h.plan, h.mny, h.err, h.acc, ⟨h.A.tid, h.A.ph, h.A.tok, h.A.next, h.A.lim, h.A.life, h.A.size, h.A.bar, h.A.seqs, fun x hx => by have := h.A.each x hx; exact ⟨this.1, by omega, this.2.2⟩, h.A.srt⟩, h.fresh, h.B, h.D, h.K, h.X, ⟨h.bd.m0, h.bd.ma, h.bd.a2, h.bd.sz, hn.2⟩, h.am⟩
  have hs := h.bd.sz
  have ham := h.am
  unfold du
  by_cases hc : a < many
  ·
   rw [if_pos (show s.accepted < s.many ∧ s.err = 0 by rw [h.acc, h.mny]; exact ⟨hc, h.err⟩)]
   by_cases hz : p.Size ≤ a - m
   ·
    rw [if_pos hz] at o1
    rw [if_pos o1]
    have e : (if m + p.Size < many then m + p.Size else many) = a := by rw [if_pos (by omega)]; omega
    rw [e]; exact ⟨hmono, rfl⟩
   ·
    rw [if_neg hz] at o1
    rw [o1]
    rw [if_neg (show ¬ ((0 : Int) = 22) by decide)]
    rw [td h.err]
    have hw : W p many { s with accepted := s.accepted + 1, sides.Sender := S.offS s.sides.Sender Frame.z now } m (a + 1) now := by
     refine ⟨h.plan, h.mny, h.err, by show s.accepted + 1 = a + 1; rw [h.acc], o2 (by omega), fun x hx => ?_, h.B, h.D, h.K, h.X, ⟨h.bd.m0, by have := h.bd.ma; omega, by omega, by omega, hn.2⟩, by omega⟩
     have hx' : x ∈ s.sides.Sender.Out ++ [({ ax.z with At := now, Frame := S.offF s.sides.Sender Frame.z } : ax)] := hx
     rcases List.mem_append.1 hx' with q | q
     ·
      exact h.fresh x q
     ·
      simp only [List.mem_singleton] at q
      subst q; exact ⟨rfl, rfl⟩
    exact ih _ m (a + 1) now hw (Int.le_refl _) (by omega)
  ·
   rw [if_neg (show ¬ (s.accepted < s.many ∧ s.err = 0) by rw [h.acc, h.mny]; exact fun q => hc q.1)]
   have e : (if m + p.Size < many then m + p.Size else many) = a := by split <;> omega
   rw [e]; exact ⟨hmono, rfl⟩
end Go.AX.Z.TN

/-! (TNXm) -/

set_option linter.unusedVariables false
set_option linter.unusedSimpArgs false
set_option maxRecDepth 20000
namespace Go.AX.Z.TN
open Go.AX

theorem W.tail {p : al} {many : Int} {u : SS} {m a2 now : Int} (w : W p many u m a2 now) (hp : dt p) (h0 : p.Start = 0) (hn : 0 ≤ now ∧ now ≤ 1099511627776) (hma2 : m < a2) {m2 : Int} (em : m2 = if m + p.Burst < a2 then m + p.Burst else a2) :
  ∃ s', rxF now (rpF (S.pikR u.sides.Sender u.plan.Burst).1.length (d7 now u [])).1 = s' ∧ (rpF (S.pikR u.sides.Sender u.plan.Burst).1.length (d7 now u [])).2 = [] ∧ W p many s' m2 a2 now ∧ s'.out.Rounds = u.out.Rounds + 1 := by
 have hB := hp.2.2.2.1
 have hS := hp.2.1
 have bd := w.bd
 have hb1 := bd.m0
 have hb3 := bd.a2
 have ham := w.am
 have hmm : m < m2 ∧ m2 ≤ a2 ∧ m2 ≤ m + p.Burst := by rw [em]; split <;> omega
 obtain ⟨pk, _⟩ := w.A.pick hp bd w.fresh
 have hpl : u.plan = p := w.plan
 obtain ⟨fr, hfr0⟩ : ∃ fr, fr = (u.sides.Sender.Out.take p.Burst.toNat).map frm := ⟨_, rfl⟩
 have hfr : fr.map fq = rng m m2 := by
  have e := Ad m a2 p.Burst.toNat
  rw [show m + ((p.Burst.toNat : Nat) : Int) = m + p.Burst by omega, ← em, ← w.A.seqs] at e
  rw [← e, hfr0]
  unfold S.seqs
  rw [List.map_map, ← List.map_take]; rfl
 have hlen : 0 < fr.length := by
  have := congrArg List.length hfr
  rw [List.length_map, rY] at this
  rw [this]; omega
 rw [← hfr0] at pk
 have pk' : S.pikR u.sides.Sender u.plan.Burst = (fr, pkd p u.sides.Sender, 0) := by rw [hpl]; exact pk
 obtain ⟨b', e1, wb, hk⟩ := Ik hp h0 hn fr { u with sides.Sender := pkd p u.sides.Sender } m m2 hpl w.B hb1 (by omega) (by omega) hfr
 have hsd : d7 now u [] = ({ u with sides := ⟨pkd p u.sides.Sender, b'⟩, out.Delivered := u.out.Delivered ++ rng m m2 }, []) := by
  unfold d7
  rw [pk']
  simp only
  rw [td w.err]
  exact e1
 have hvb := wb.vr hp ⟨by omega, by omega⟩
 obtain ⟨A', ea', va, fr', bd', _⟩ := w.A.ack hp bd w.fresh em (w := b'.Seen) (show 0 ≤ b'.Seen.Start ∧ b'.Seen.Start < 4096 by have := wb.seen; omega) (fun i hi => hk i (by omega) (.inr hi))
 have hrp : R.repR b' = (b'.Seen, 0) := by unfold R.repR; rw [if_pos hvb]
 have hex := wb.exp hp ⟨by omega, by omega⟩ hn
 have hidx : my u.plan (rng m m2) = rng m m2 := Gu (by rw [hpl]; exact h0) fun x hx => by have := BY.1 hx; omega
 have hD : u.out.Delivered ++ rng m m2 = rng 0 m2 := by rw [w.D]; exact (zj hb1 (by omega)).symm
 have hK : u.out.Acked ++ rng m m2 = rng 0 m2 := by rw [w.K]; exact (zj hb1 (by omega)).symm
 rw [hD] at hsd
 have hre : kZ { u with sides := ⟨pkd p u.sides.Sender, b'⟩, out.Delivered := rng 0 m2 } [] = ({ u with sides := ⟨A', b'⟩, out.Delivered := rng 0 m2, out.Acked := rng 0 m2 }, []) := by
  unfold kZ
  rw [if_neg (show ¬ (eY []).1 = true by decide)]
  simp only [hrp, ea', hidx, hK]
  rw [td (s := { u with sides := ⟨pkd p u.sides.Sender, b'⟩, out.Delivered := rng 0 m2 }) w.err, td (s := { u with sides := ⟨pkd p u.sides.Sender, b'⟩, out.Delivered := rng 0 m2 }) w.err]
  rfl
 have hrx : rxF now { u with sides := ⟨A', b'⟩, out.Delivered := rng 0 m2, out.Acked := rng 0 m2 } = { u with sides := ⟨A', b'⟩, out.Delivered := rng 0 m2, out.Acked := rng 0 m2, out.Rounds := u.out.Rounds + 1 } := by
  unfold rxF
  simp only [hex]
  rw [td (s := { u with sides := ⟨A', b'⟩, out.Delivered := rng 0 m2, out.Acked := rng 0 m2 }) w.err]
  unfold rel
  rw [List.map_nil, List.append_nil]
 rw [hsd, pk']
 unfold rpF
 rw [if_pos hlen, hre]
 exact ⟨_, rfl, rfl, by rw [hrx]; exact ⟨w.plan, w.mny, w.err, w.acc, va, fr', wb, rfl, rfl, w.X, bd', ham⟩, by rw [hrx]⟩
theorem W.rest {p : al} {many : Int} {s : SS} {m a t now : Int} (h : W p many s m a t) (hp : dt p) (h0 : p.Start = 0) (h200 : many ≤ 200) (hn : 0 ≤ now ∧ now ≤ 1099511627776) (ht : t ≤ now) (hgo : m < many) {a2 m2 : Int} (ea : a2 = if m + p.Size < many then m + p.Size else many) (em : m2 = if m + p.Burst < a2 then m + p.Burst else a2) :
  ∃ s', jZ now s [] = (s', []) ∧ W p many s' m2 a2 now ∧ s'.out.Rounds = s.out.Rounds + 1 := by
 have hS := hp.2.1
 obtain ⟨w, hr⟩ := W.off hp h200 hn 200 s m a t h ht (by have := h.bd.m0; have := h.bd.ma; omega)
 rw [← ea] at w
 obtain ⟨s', t1, t2, t3, t4⟩ := w.tail hp h0 hn (by rw [ea]; split <;> omega) em
 refine ⟨s', ?_, t3, by rw [t4, hr]⟩
 unfold jZ
 simp only
 rw [t1, t2]
theorem W.round {p : al} {many : Int} {s : SS} {m a t : Int} (h : W p many s m a t) (hp : dt p) (h0 : p.Start = 0) (h200 : many ≤ 200) (hl : 2000 * p.Round < p.Life) (hr : 0 ≤ s.out.Rounds ∧ s.out.Rounds ≤ 2000) (ht : t ≤ di s) (hgo : m < many) {a2 m2 : Int} (ea : a2 = if m + p.Size < many then m + p.Size else many) (em : m2 = if m + p.Burst < a2 then m + p.Burst else a2) :
  ∃ s', fC s [] = (s', []) ∧ W p many s' m2 a2 (di s) ∧ s'.out.Rounds = s.out.Rounds + 1 := by
 have hR := hp.2.2.2.2.2.2
 have hL := hp.2.2.2.2.1
 have n1 : 0 ≤ di s := by unfold di; rw [h.plan]; exact Int.mul_nonneg hr.1 (by omega)
 have n2 : di s ≤ 2000 * p.Round := by unfold di; rw [h.plan]; exact Int.mul_le_mul_of_nonneg_right hr.2 (by omega)
 have e1 := h.ex hp (now := di s) ⟨n1, by omega⟩
 have e2 : fX s [] = (s, []) := by
  unfold fX
  rw [if_neg (by rw [h.A.bar]; decide)]
 obtain ⟨s', r1, r2, r3⟩ := h.rest hp h0 h200 (now := di s) ⟨n1, by omega⟩ ht hgo ea em
 refine ⟨s', ?_, r2, r3⟩
 unfold fC
 rw [e1, e2]
 exact r1

def gd (p : al) : Int := if p.Burst < p.Size then p.Burst else p.Size
theorem Co {x e : Int} (he : 1 ≤ e) (hx : 1 ≤ x) : (x + e - 1) / e = 1 + ((x - (if e < x then e else x)) + e - 1) / e := by
 have h1 : x + e - 1 = (x - 1) + e * 1 := by omega
 rw [h1, Int.add_mul_ediv_left _ _ (by omega)]
 by_cases h : e < x
 ·
  rw [if_pos h, show x - e + e - 1 = x - 1 by omega]; omega
 ·
  rw [if_neg h, show x - x + e - 1 = e - 1 by omega, Int.ediv_eq_zero_of_lt (by omega) (by omega), Int.ediv_eq_zero_of_lt (by omega) (by omega)]; omega
theorem FW {x e : Int} (he : 1 ≤ e) (hx : 0 ≤ x) : 0 ≤ (x + e - 1) / e ∧ (x + e - 1) / e ≤ x := by
 refine ⟨Int.ediv_nonneg (by omega) (by omega), ?_⟩
 have := Int.ediv_le_self (b := e) (a := 0) (by omega)
 rcases Int.lt_or_eq_of_le hx with q | q
 ·
  apply Int.le_of_lt_add_one
  apply Int.ediv_lt_of_lt_mul (by omega)
  have : x * 1 ≤ x * e := Int.mul_le_mul_of_nonneg_left he hx
  rw [Int.add_mul]
  omega
 ·
  rw [← q, Int.ediv_eq_zero_of_lt (by omega) (by omega)]; exact Int.le_refl _
def jq (p : al) (many : Int) : aD := ⟨rng 0 many, rng 0 many, [], (many + gd p - 1) / gd p⟩
theorem J6 {p : al} {many : Int} (hp : dt p) (h0 : p.Start = 0) (h200 : many ≤ 200) (hl : 2000 * p.Round < p.Life) : ∀ (k n : Nat) (s : SS) (m a t : Int), W p many s m a t → many - m ≤ k → k < n → 0 ≤ s.out.Rounds → s.out.Rounds + k < 2000 → t ≤ di s →
  (iJ n s []).1.err = 0 ∧ (iJ n s []).1.out.Delivered = rng 0 many ∧ (iJ n s []).1.out.Acked = rng 0 many ∧ (iJ n s []).1.out.Dropped = [] ∧ (iJ n s []).1.out.Rounds = s.out.Rounds + ((many - m) + gd p - 1) / gd p := by
 have hB := hp.2.2.2.1
 have hS := hp.2.1
 have he : 1 ≤ gd p := by unfold gd; split <;> omega
 intro k
 induction k with
 | zero =>
  intro n s m a t h hk hn hr hr2 ht
  obtain ⟨n, rfl⟩ : ∃ q, n = q + 1 := ⟨n - 1, by omega⟩
  have h1 := h.am
  have h2 := h.bd.ma
  have ea : a = many := by omega
  have em : m = many := by omega
  have hO : s.sides.Sender.Out = [] := by
   have := h.A.seqs
   rw [ea, em, ji (Int.le_refl _)] at this
   exact List.map_eq_nil_iff.1 this
  have : iJ (n + 1) s [] = (s, []) := by
   unfold iJ
   rw [if_neg]
   rw [h.acc, h.mny, ea, hO, h.A.bar]
   simp
  rw [this]
  refine ⟨h.err, by rw [h.D, em], by rw [h.K, em], h.X, ?_⟩
  show s.out.Rounds = _
  rw [em, show many - many + gd p - 1 = gd p - 1 by omega, Int.ediv_eq_zero_of_lt (by omega) (by omega)]; omega
 | succ k ih =>
  intro n s m a t h hk hn hr hr2 ht
  obtain ⟨n, rfl⟩ : ∃ q, n = q + 1 := ⟨n - 1, by omega⟩
  have h1 := h.am
  have h2 := h.bd.ma
  by_cases hgo : m < many
  ·
   obtain ⟨s', r1, r2, r3⟩ := h.round hp h0 h200 hl ⟨hr, by omega⟩ ht hgo rfl rfl
   have hc : s.err = 0 ∧ (s.accepted < s.many ∨ s.sides.Sender.Out ≠ [] ∨ s.sides.Sender.Bar = true) := by
    refine ⟨h.err, ?_⟩
    rw [h.acc, h.mny]
    by_cases q : a < many
    ·
     exact .inl q
    ·
     right; left
     intro hO
     have := h.A.seqs
     rw [hO, lr (by omega)] at this
     cases this
   have e : iJ (n + 1) s [] = iJ n s' [] := by
    rw [iJ, if_pos hc, if_neg (by omega), r1]
   have hm2 : (if m + p.Burst < (if m + p.Size < many then m + p.Size else many) then m + p.Burst else (if m + p.Size < many then m + p.Size else many)) = m + (if gd p < many - m then gd p else many - m) := by
    unfold gd
    by_cases c1 : p.Burst < p.Size <;> by_cases c2 : m + p.Size < many <;> by_cases c3 : m + p.Burst < many <;> simp only [c1, c2, if_true, if_false] <;> (repeat' split) <;> omega
   have hx : 1 ≤ (if gd p < many - m then gd p else many - m) := by split <;> omega
   have hnow : di s ≤ di s' := by
    have hR := hp.2.2.2.2.2.2
    unfold di
    rw [h.plan, r2.plan, r3]
    exact Int.mul_le_mul_of_nonneg_right (by omega) (by omega)
   obtain ⟨i1, i2, i3, i4, i5⟩ := ih n s' _ _ _ r2 (by rw [hm2]; omega) (by omega) (by rw [r3]; omega) (by rw [r3]; omega) hnow
   rw [e]
   refine ⟨i1, i2, i3, i4, ?_⟩
   rw [i5, r3, hm2, Co he (show 1 ≤ many - m by omega), show many - (m + (if gd p < many - m then gd p else many - m)) = many - m - (if gd p < many - m then gd p else many - m) by omega]
   omega
  ·
   exact ih (n + 1) s m a t h (by omega) (by omega) hr (by omega) ht
theorem E9 {p : al} (hp : dt p) (h0 : p.Start = 0) {many : Int} (hm : 0 ≤ many ∧ many ≤ 200) : W p many (start p many) 0 0 0 := by
 have hS := hp.2.1
 refine ⟨rfl, rfl, rfl, rfl, ⟨rfl, rfl, rfl, h0, rfl, rfl, rfl, rfl, ?_, by simp [start, A0, Sender.z], by simp [start, A0, Sender.z]⟩, by simp [start, A0, Sender.z, yd], ⟨h0, rfl, rfl, rfl, ?_, ⟨Int.le_refl _, (by decide : (0 : Int) < 18446744073709551616)⟩⟩, ?_, ?_, rfl, ⟨Int.le_refl _, Int.le_refl _, by decide, by omega, by decide⟩, hm.1⟩
 ·
  rw [ji (Int.le_refl _)]; rfl
 ·
  show 0 ≤ p.Start ∧ p.Start ≤ 0
  omega
 ·
  rw [ji (Int.le_refl _)]; rfl
 ·
  rw [ji (Int.le_refl _)]; rfl
theorem Jy {p : al} (hp : dt p) (h0 : p.Start = 0) {many : Int} (hm : 0 ≤ many ∧ many ≤ 200) (hl : 2000 * p.Round < p.Life) : rb p many [] = (jq p many, 0) := by
 obtain ⟨i1, i2, i3, i4, i5⟩ := J6 hp h0 hm.2 hl 200 2001 (start p many) 0 0 0 (E9 hp h0 hm) (by omega) (by decide) (Int.le_refl _) (by show (0 : Int) + ((200 : Nat) : Int) < 2000; omega) (by unfold di; show (0 : Int) ≤ 0 * _; rw [Int.zero_mul]; exact Int.le_refl _)
 unfold rb
 rw [if_pos hp, if_pos hm, if_pos i1]
 have e : (iJ 2001 (start p many) []).1.out = jq p many := by
  have ee : ∀ o : aD, o = ⟨o.Delivered, o.Acked, o.Dropped, o.Rounds⟩ := fun o => rfl
  rw [ee (iJ 2001 (start p many) []).1.out, i2, i3, i4, i5]
  unfold jq
  rw [show (start p many).out.Rounds = 0 from rfl, Int.zero_add, Int.sub_zero]
 rw [e]
theorem Ce {p : al} (hp : dt p) {many : Int} (hm : 0 ≤ many ∧ many ≤ 200) (hl : 2000 * p.Round < p.Life) : rb p many [] = (jq p many, 0) := by
 have h := Jy (p := { p with Start := 0 }) ⟨⟨Int.le_refl _, (by decide : (0 : Int) ≤ 4095)⟩, hp.2⟩ rfl hm hl
 have hs := hp.1
 have e := EJ (p := { p with Start := 0 }) (many := many) (d := []) (by rw [h]) (T := p.Start) ⟨hs.1, by omega⟩
 rw [h] at e
 exact e
end Go.AX.Z.TN

/-! (TNXn) -/

set_option linter.unusedVariables false
set_option linter.unusedSimpArgs false
set_option maxRecDepth 20000
namespace Go.AX.Z.TN
open Go.AX

theorem D3 {p : al} {many : Int} {d : List Bool} (he : (rb p many d).2 = 0) : dt p := by
 apply Classical.byContradiction; intro hp
 unfold rb at he
 rw [if_neg hp] at he; cases he
theorem B4 {many : Int} {i : Nat} (h : (i : Int) < many) : (rng 0 many)[i]? = some (i : Int) := by
 unfold rng
 rw [List.getElem?_map, List.getElem?_range (by omega)]
 simp
theorem Bl (p : al) (many : Int) (h200 : many ≤ 200) : ∀ (k i n : Nat), many - i ≤ k → k < n → bS many (jq p many, 0) n (i : Int) = some (Ex.go ()) := by
 intro k
 induction k with
 | zero =>
  intro i n h hn
  obtain ⟨n, rfl⟩ : ∃ q, n = q + 1 := ⟨n - 1, by omega⟩
  rw [bS, decide_eq_false (by omega)]; rfl
 | succ k ih =>
  intro i n h hn
  obtain ⟨n, rfl⟩ : ∃ q, n = q + 1 := ⟨n - 1, by omega⟩
  rw [bS]
  by_cases hi : (i : Int) < many
  ·
   have e1 : idx (jq p many).Delivered (i : Int) = some (i : Int) := by rw [l5]; exact B4 hi
   have e2 : idx (jq p many).Acked (i : Int) = some (i : Int) := by rw [l5]; exact B4 hi
   rw [decide_eq_true hi, cond_true, e1, aE, bne_self_eq_false, cond_false, e2, aE, aE, bne_self_eq_false, cond_false, gw (by omega)]
   exact ih (i + 1) n (by omega) (by omega)
  ·
   rw [decide_eq_false hi]; rfl
theorem Dg (p : al) (many : Int) : d3 p many = some true := by
 unfold d3
 rw [EN, aE, GM, aE]
 by_cases he : (rb p many []).2 = 0
 ·
  have hp := D3 he
  have hm := Dl he
  have hR := hp.2.2.2.2.2.2
  rw [jm (show -4611686018427387904 ≤ 2000 * p.Round by omega) (by omega)]
  by_cases hl : p.Life ≤ 2000 * p.Round
  ·
   rw [decide_eq_true hl, Bool.or_true, cond_true]
  ·
   have e := Ce hp hm (by omega)
   have hB := hp.2.2.2.1
   have hS := hp.2.1
   have heach : (if p.Burst < p.Size then p.Burst else p.Size) = gd p := rfl
   have he1 : 1 ≤ gd p ∧ gd p ≤ 64 := by unfold gd; split <;> omega
   have hlen : ((rng 0 many).length : Int) = many := by rw [rY]; omega
   have hloop := Bl p many hm.2 200 0 big (by omega) (fo (by omega))
   simp only [Int.natCast_zero] at hloop
   have e1 : (((jq p many).Delivered.length : Int) != many) = false := by
    show (((rng 0 many).length : Int) != many) = false
    rw [hlen, bne_self_eq_false]
   have e2 : (((jq p many).Acked.length : Int) != many) = false := e1
   have e3 : (((jq p many).Dropped.length : Int) != 0) = false := rfl
   have e4 : ((jq p many).Rounds != IntKind.wrap .i64 ((IntKind.wrap .i64 (IntKind.wrap .i64 (many + gd p) - 1)).tdiv (gd p))) = false := by
    have c := FW (x := many) he1.1 hm.1
    rw [jm (show -4611686018427387904 ≤ many + gd p by omega) (by omega), jm (show -4611686018427387904 ≤ many + gd p - 1 by omega) (by omega), Int.tdiv_eq_ediv_of_nonneg (by omega), jm (by omega) (by omega)]
    exact bne_self_eq_false _
   rw [e, decide_eq_false hl, Bool.not_true, Bool.or_false, Bool.or_false, bne_self_eq_false, cond_false, heach, e1, e2, e3, Bool.or_false, Bool.or_false, cond_false, fI (by omega), aE, e4, aE, cond_false, hloop, aE]
   rfl
 ·
  rw [show ((rb p many []).2 != 0) = true by simpa using he, Bool.true_or, Bool.true_or, cond_true]

def EX : al := { al.z with Burst := 2, Hold := 16777216, Life := 1073741824, Limit := 2, Round := 10, Size := 2, Start := 4095 }
theorem n2 : dV EX 0 [true, true] = some (aD.z, 0) := by decide +kernel
theorem n3 : dV EX 201 [] = some (aD.z, 4) := by decide +kernel
theorem n4 : dV EX (-1) [] = some (aD.z, 4) := by decide +kernel
theorem n5 : dV al.z (-1) [] = some (aD.z, 8) := by decide +kernel
theorem n6 : gh big 0 = some (Ex.go ()) := by kernel_rfl
theorem n14 : dV { EX with Burst := 1, Limit := 1, Size := 64 } 200 [] = some (jq { EX with Burst := 1, Limit := 1, Size := 64 } 200, 0) := by
 rw [GM, Ce (by decide) (by decide) (by decide)]
theorem s0 : je aD.z aD.z = some true := by decide +kernel
theorem s1 : je { aD.z with Dropped := [0], Rounds := 3 } { aD.z with Dropped := [0], Rounds := 3 } = some true := by decide +kernel
theorem s2 : je { aD.z with Acked := [0], Delivered := [0], Rounds := 2 } { aD.z with Acked := [0], Delivered := [0], Rounds := 2 } = some true := by decide +kernel
theorem w1 : (((jq { EX with Burst := 1, Limit := 1, Size := 64 } 200).Delivered.length : Int) == 200) = true := by decide +kernel
theorem w2 : ((jq { EX with Burst := 1, Limit := 1, Size := 64 } 200).Rounds == 200) = true := by decide +kernel
end Go.AX.Z.TN

/-! (TNY) -/

set_option linter.unusedVariables false
namespace Go.AX.Z.TN
open Go.AX Go.Proofs

/-! ## Arguments, read -/

theorem ud3 : K.P.underlying 3 = some (.int .i64) := by kernel_rfl

def xk (B : Nat) (x : al) : Prop := ((Lit.int .i64 x.Start).wf = true) ∧ ((Lit.int .i64 x.Size).wf = true) ∧ ((Lit.int .i64 x.Limit).wf = true) ∧ ((Lit.int .i64 x.Life).wf = true) ∧ ((Lit.int .i64 x.Hold).wf = true) ∧ ((Lit.int .i64 x.Burst).wf = true) ∧ ((Lit.int .i64 x.Round).wf = true)

theorem Ml {B n : Nat} {l : List AV} (h : Ty K.P B n 23 l) : ∃ x : al, l = ar x ∧ xk B x := by
 obtain ⟨m, h⟩ := CX Try.underlying23 h
 have h' : AC (Ty K.P B m) [3, 3, 3, 3, 3, 3, 3] l := h
 obtain ⟨_, _, rfl, h0, _, _, rfl, h1, _, _, rfl, h2, _, _, rfl, h3, _, _, rfl, h4, _, _, rfl, h5, _, _, rfl, h6, rfl⟩ := h'
 obtain ⟨v0, rfl, w0⟩ := rG ud3 h0
 obtain ⟨v1, rfl, w1⟩ := rG ud3 h1
 obtain ⟨v2, rfl, w2⟩ := rG ud3 h2
 obtain ⟨v3, rfl, w3⟩ := rG ud3 h3
 obtain ⟨v4, rfl, w4⟩ := rG ud3 h4
 obtain ⟨v5, rfl, w5⟩ := rG ud3 h5
 obtain ⟨v6, rfl, w6⟩ := rG ud3 h6
 exact ⟨⟨v0, v1, v2, v3, v4, v5, v6⟩, rfl, ⟨w0, w1, w2, w3, w4, w5, w6⟩⟩

theorem ud4 : K.P.underlying 4 = some (.bool) := by kernel_rfl

theorem Li : K.P.underlying 31 = some (.slice 4) := by kernel_rfl

theorem M7 {B n : Nat} {x : AV} (h : Ty K.P B n 31 [x]) : ∃ l : (List Bool), x = yy l ∧ l.length ≤ B := by
 obtain ⟨l, rfl, h1⟩ := wh Li ud4 h
 exact ⟨l, rfl, h1⟩

end Go.AX.Z.TN

/-! (TNU) -/

/- How bulks bound what a reading holds. -/
namespace Go.Proofs.Ytpjogfcpmcbafaa.bulks
open Go.AX

theorem II {H : Type} (d : DataW H) : 1 ≤ Rows.uptoBulk d := by
 cases d with
 | lit l => cases l <;> simp [Rows.uptoBulk]
 | nil => simp [Rows.uptoBulk]
 | ptr d => simp [Rows.uptoBulk]
 | slice elems spare => simp [Rows.uptoBulk]
 | agg parts => simp [Rows.uptoBulk]
 | iface t d => simp [Rows.uptoBulk]
 | map entries => simp [Rows.uptoBulk]
 | held h => simp [Rows.uptoBulk]

theorem part_le {H : Type} {d : DataW H} {l : List (DataW H)} (h : d ∈ l) : Rows.uptoBulk d ≤ Rows.uptoBulkAll l := by
 induction l with
 | nil => cases h
 | cons x r ih =>
  simp only [Rows.uptoBulkAll]
  cases List.mem_cons.1 h with
  | inl e => subst e; omega
  | inr e => have := ih e; omega

theorem Ct {H : Type} (l : List (DataW H)) : l.length ≤ Rows.uptoBulkAll l := by
 induction l with
 | nil => simp [Rows.uptoBulkAll]
 | cons x r ih => have := II x; simp only [Rows.uptoBulkAll, List.length_cons]; omega

theorem bulk {H : Type} : Bulk (H := H) Rows.uptoBulk where
 ptr d := by simp [Rows.uptoBulk]
 elems es sp d h := by have := part_le h; simp only [Rows.uptoBulk]; omega
 len es sp := by have := Ct es; simp only [Rows.uptoBulk]; omega
 agg ds d h := by have := part_le h; simp only [Rows.uptoBulk]; omega
 str bs := by simp [Rows.uptoBulk]

theorem Kt {H : Type} {l : List (DataW H)} (hk : Rows.uptoSmall H l = true) : Rows.uptoBulkAll l ≤ 1048576 := by
 have := of_decide_eq_true hk
 exact this

end Go.Proofs.Ytpjogfcpmcbafaa.bulks

/-! (TNTSessionWhole) -/

/- SessionWhole: the law returns true whatever its arguments. -/
namespace Go.Proofs.Ytpjogfcpmcbafaa.sessionWhole
open Go.ChangeShapes Go.WideShapes Go.ChangeAt Go.RowKit Go.AX Go.AX.Z Go.AX.Z.TN

theorem own : ownKnob Try.prog.godebug = none := by kernel_rfl
theorem laid : laidOutB K.P = true := by kernel_rfl
theorem par : Kz K.P Try.f6.params.toList = true := by kernel_rfl

theorem law (B : Nat) (xs : List AV) (h : wc K.P B Try.f6.params.toList xs) : SndP K 6 xs (.v (.bool true)) := by
 have h' : wc K.P B [23, 3] xs := h
 obtain ⟨_, _, rfl, h0, _, _, rfl, h1, rfl⟩ := h'
 obtain ⟨_, _, rfl, qp0⟩ := JT Try.underlying23 h0
 obtain ⟨p0, rfl, wp0⟩ := Ml qp0
 obtain ⟨p1, rfl, wp1⟩ := Fb ud3 h1
 exact kI p0 p1 (Dg p0 p1)

set_option maxRecDepth 100000 in
theorem lifted (os : Os) (started : os.Started) (H : Type) (enc : TypeId × Value → H) :
  ReturnsInHanded {} Try.checked os 6 .any (Rows.sessionWholeSpec.pre6 enc Try.prog Try.f6 Rows.sessionWholeRow.domain false) (Rows.sessionWholeSpec.post enc Try.prog Try.f6 false true false false) := by
 refine returnsInHanded_of_change (C := Try.checked) own started (by kernel_rfl) Try.func6
  (ChangeSpec.witness6 (enc := enc) (C := Try.checked) false ⟨#[], #[.agg #[.int .i64 0, .int .i64 0, .int .i64 0, .int .i64 0, .int .i64 0, .int .i64 0, .int .i64 0], .int .i64 0], []⟩ 8 (by kernel_rfl) (by kernel_rfl) (by kernel_rfl) (by kernel_rfl)) ?_
 intro W base args ds gs before hval hW hcnd _
 exact yw (C := K) (f := 6) ⟨Try.f6, Try.func6, rfl, by decide +kernel⟩ (fn := Try.f6) (tb := 4) (B := Rows.uptoBulkAll ds) (bk := Rows.uptoBulk) rfl laid par rfl Try.underlying4 (law _) rfl
  (fun ds hds => by match ds, hds with | [d1, d2], _ => rfl) bulks.bulk hval hW (fun d hd => bulks.part_le hd)

theorem over : Rows.SessionWholeSaid :=
 OpenClaim.holds_of_wide 6 Try.f6 rfl rfl rfl rfl rfl rfl rfl ⟨rfl, rfl, rfl, rfl, rfl⟩ rfl rfl rfl rfl rfl (by kernel_rfl) Try.func6 (by kernel_rfl)
  (of_decide_eq_true (by kernel_rfl)) (by unfold Func.isWrapper; first | (rw [if_pos (by decide +kernel)]; kernel_rfl) | (rw [if_neg (by decide +kernel)]; exact ⟨rfl, rfl⟩))
  (fun os started H enc _ => lifted os started H enc)

end Go.Proofs.Ytpjogfcpmcbafaa.sessionWhole
