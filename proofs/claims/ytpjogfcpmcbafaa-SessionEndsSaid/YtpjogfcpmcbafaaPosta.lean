/- SessionEnds: the law returns true whatever its arguments. -/
import Derived.Test.YtpjogfcpmcbafaaWalkb
import Derived.Test.YtpjogfcpmcbafaaRows
import Derived.WalkKit
import Derived.ProofKit
import Derived.OpenShut
import Derived.JoinedCond
set_option linter.unusedVariables false
set_option linter.unusedSimpArgs false

/-! (TNP) -/

set_option linter.unusedVariables false
set_option linter.unusedSimpArgs false
namespace Go.AX.Z.TN
open Go.AX

theorem iE (a b : Int) : cy a b = some (aE a b) := by
 have := CI a b
 unfold cy uP
 rw [show IntKind.bits .u64 = 64 from rfl, this]
theorem Ah (a b : Int) : eL a b = some ((a + b) % 4096) := by
 have := DQ a b
 unfold eL uP
 rw [show IntKind.bits .u64 = 64 from rfl, this]
theorem fN (a b : Int) : 0 ≤ aE a b ∧ aE a b < 4096 := by unfold aE; omega
abbrev HeldSeq.n (h : HeldSeq) : Int := h.Frame.Head.Seq
end Go.AX.Z.TN

/-! (TNQ) -/

set_option linter.unusedVariables false
set_option linter.unusedSimpArgs false
namespace Go.AX.Z.TN.S
open Go.AX

def OkE (st dd lim last at' : Int) (x : Unacked) : Prop :=
 0 ≤ x.Frame.Head.Seq ∧ x.Frame.Head.Seq ≤ 4095 ∧ last < aE st x.Frame.Head.Seq ∧ aE st x.Frame.Head.Seq < dd ∧ at' ≤ x.At ∧ x.At ≤ 1099511627776 ∧ 0 ≤ x.Tries ∧ x.Tries ≤ lim ∧ (x.Flying = true → x.Tries ≠ 0)
instance (st dd lim last at' : Int) (x : Unacked) : Decidable (OkE st dd lim last at' x) := by unfold OkE; infer_instance

def OkL (st dd lim : Int) : Int → Int → List Unacked → Prop
 | _, _, [] => True
 | last, at', x :: l => OkE st dd lim last at' x ∧ OkL st dd lim (aE st x.Frame.Head.Seq) x.At l
def Dd (st dd lim : Int) : (last at' : Int) → (l : List Unacked) → Decidable (OkL st dd lim last at' l)
 | _, _, [] => .isTrue trivial
 | last, at', x :: l => by
  have := Dd st dd lim (aE st x.Frame.Head.Seq) x.At l
  unfold OkL; infer_instance
instance (st dd lim last at' : Int) (l : List Unacked) : Decidable (OkL st dd lim last at' l) := Dd st dd lim last at' l

theorem kQ (s : Sender) (st dd : Int) (hs : s.Out.length < 4611686018427387904) : ∀ (l : List Unacked) (i n : Nat) (last at' : Int), s.Out.drop i = l → l.length < n →
  dK s st dd n (last, at', (i : Int)) = some (if OkL st dd s.Limit last at' l then Ex.go () else Ex.ret 8)
 | [], i, n + 1, last, at', h, hn => by
  have := jM h
  rw [dK, gS this]
  simp [OkL]
 | x :: l, i, n + 1, last, at', h, hn => by
  obtain ⟨h1, h2, h3⟩ := ju h
  have ih := kQ s st dd hs l (i + 1) n (aE st x.Frame.Head.Seq) x.At h2 (by simpa using hn)
  rw [dK, gX h3]
  simp only [cond_true, mq, h1, ay, iE, bH, fo (show i < _ by omega), ih, OkL]
  by_cases hx : OkE st dd s.Limit last at' x
  ·
   have hx' := hx
   obtain ⟨a, b, c, d, e, f, g, k, m⟩ := hx
   have e1 : ((!(decide (0 ≤ x.Frame.Head.Seq) && decide (x.Frame.Head.Seq ≤ 4095)) || decide (aE st x.Frame.Head.Seq ≤ last)) || decide (dd ≤ aE st x.Frame.Head.Seq)) = false := by
    simp [a, b]; omega
   have e2 : (!(decide (at' ≤ x.At) && decide (x.At ≤ 1099511627776))) = false := by simp [e, f]
   have e3 : (!(decide (0 ≤ x.Tries) && decide (x.Tries ≤ s.Limit))) = false := by simp [g, k]
   have e4 : (x.Flying && x.Tries == 0) = false := by
    cases hf : x.Flying
    ·
     rfl
    ·
     simpa using m hf
   simp only [e1, e2, e3, e4, cond_false, cond_true, ay, Bool.or_false, hx', true_and]
  ·
   simp only [hx, false_and, if_false]
   cases e1 : ((!(decide (0 ≤ x.Frame.Head.Seq) && decide (x.Frame.Head.Seq ≤ 4095)) || decide (aE st x.Frame.Head.Seq ≤ last)) || decide (dd ≤ aE st x.Frame.Head.Seq))
   ·
    cases e2 : (!(decide (at' ≤ x.At) && decide (x.At ≤ 1099511627776)))
    ·
     cases e3 : (!(decide (0 ≤ x.Tries) && decide (x.Tries ≤ s.Limit)))
     ·
      cases e4 : (x.Flying && x.Tries == 0)
      ·
       exfalso
       apply hx
       simp at e1 e2 e3 e4
       refine ⟨by omega, by omega, by omega, by omega, by omega, by omega, by omega, by omega, fun hf => ?_⟩
       exact e4 hf
      ·
       simp only [e4, cond_false, cond_true, ay, Bool.or_true, Bool.or_false]
     ·
      simp only [e3, cond_false, cond_true, ay, Bool.or_true, Bool.true_or, Bool.or_false]
    ·
     simp only [e2, cond_false, cond_true, ay, Bool.or_true, Bool.true_or, Bool.or_false]
   ·
    simp only [e1, cond_false, cond_true, ay, Bool.or_true, Bool.true_or, Bool.or_false]

def startOf (s : Sender) : Int := match s.Out with | [] => s.Next | x :: _ => x.Frame.Head.Seq
theorem yt (s : Sender) : fL s = some (startOf s) := by
 unfold fL startOf
 cases h : s.Out with
 | nil => simp
 | cons x l => simp [idx]

def Valid (s : Sender) : Prop :=
 (0 ≤ s.Tid ∧ s.Tid ≤ 7) ∧ s.Phase ≤ 2 ∧ (0 ≤ s.Token ∧ s.Token ≤ 255) ∧ (0 ≤ s.Next ∧ s.Next ≤ 4095) ∧ (1 ≤ s.Limit ∧ s.Limit ≤ 16) ∧ (1 ≤ s.Life ∧ s.Life ≤ 1073741824) ∧
  (if s.Phase = 0 then s.Size = 0 else 1 ≤ s.Size ∧ s.Size ≤ 64) ∧ (s.Phase ≠ 2 → s.Out = [] ∧ s.Bar = false) ∧ aE (startOf s) s.Next ≤ s.Size ∧
  OkL (startOf s) (aE (startOf s) s.Next) s.Limit (-1) 0 s.Out
instance (s : Sender) : Decidable (Valid s) := by unfold Valid; infer_instance

theorem check_e (s : Sender) (hs : s.Out.length < 4611686018427387904) : d7 s = some (if Valid s then 0 else 8) := by
 have hL := kQ s (startOf s) (aE (startOf s) s.Next) hs s.Out 0 big (-1) 0 rfl (eQ hs)
 simp only [Int.ofNat_zero, Int.natCast_zero] at hL
 unfold d7
 simp only [bH, ay, yt, iE, hL]
 have b1 : ∀ (a b : Bool), (bif a then some b else some false) = some (a && b) := by intro a b; cases a <;> rfl
 have b2 : ∀ (a b c : Bool), (bif a then some b else some c) = some (bif a then b else c) := by intro a b c; cases a <;> rfl
 simp only [b1, b2, ay]
 by_cases h1 : (((!((((((decide (0 ≤ s.Tid) && decide (s.Tid ≤ 7)) && decide (s.Phase ≤ 2)) && (decide (0 ≤ s.Token) && decide (s.Token ≤ 255))) && (decide (0 ≤ s.Next) && decide (s.Next ≤ 4095))) && (decide (1 ≤ s.Limit) && decide (s.Limit ≤ 16))) && (decide (1 ≤ s.Life) && decide (s.Life ≤ 1073741824)))) || (!(bif s.Phase == 0 then s.Size == 0 else (decide (1 ≤ s.Size) && decide (s.Size ≤ 64))))) || ((s.Phase != 2) && ((decide (0 < (s.Out.length : Int))) || s.Bar))) = true
 ·
  rw [h1]
  have : ¬ Valid s := by
   rintro ⟨a, b, c, d, e, f, g, k, _⟩
   simp only [Bool.or_eq_true, Bool.and_eq_true, Bool.not_eq_true', Bool.and_eq_false_iff, decide_eq_true_eq, decide_eq_false_iff_not] at h1
   rcases h1 with (h1 | h1) | h1
   ·
    omega
   ·
    by_cases hp : s.Phase = 0
    ·
     rw [if_pos hp] at g; simp [hp, g] at h1
    ·
     rw [if_neg hp] at g
     have : (s.Phase == 0) = false := by simpa using hp
     rw [this] at h1
     simp at h1; omega
   ·
    obtain ⟨h2, h3⟩ := h1
    have := k (by simpa using h2)
    simp [this.1, this.2] at h3
  rw [if_neg this]; rfl
 ·
  rw [Bool.not_eq_true] at h1
  rw [h1, cond_false]
  simp only [Bool.or_eq_false_iff, Bool.and_eq_false_iff, Bool.not_eq_false', Bool.and_eq_true, decide_eq_true_eq, decide_eq_false_iff_not] at h1
  obtain ⟨⟨⟨⟨⟨⟨⟨a, b⟩, c⟩, d⟩, e⟩, f⟩, g⟩, k⟩ := h1
  have a := a
  have g' : (if s.Phase = 0 then s.Size = 0 else 1 ≤ s.Size ∧ s.Size ≤ 64) := by
   by_cases hp : s.Phase = 0
   ·
    rw [if_pos hp]; simpa [hp] using g
   ·
    rw [if_neg hp]
    have : (s.Phase == 0) = false := by simpa using hp
    rw [this] at g
    simpa using g
  have k' : s.Phase ≠ 2 → s.Out = [] ∧ s.Bar = false := by
   intro hp
   rcases k with k | k
   ·
    exact absurd (by simpa using k) hp
   ·
    refine ⟨?_, k.2⟩
    have := k.1
    rw [← List.length_eq_zero_iff]; omega
  by_cases h2 : s.Size < aE (startOf s) s.Next
  ·
   rw [decide_eq_true h2, cond_true, if_neg (by rintro ⟨_, _, _, _, _, _, _, _, q, _⟩; omega)]
  ·
   rw [decide_eq_false h2, cond_false]
   by_cases h3 : OkL (startOf s) (aE (startOf s) s.Next) s.Limit (-1) 0 s.Out
   ·
    rw [if_pos h3, if_pos ⟨a, b, c, d, e, f, g', k', by omega, h3⟩]; rfl
   ·
    rw [if_neg h3, if_neg (by rintro ⟨_, _, _, _, _, _, _, _, _, q⟩; exact h3 q)]; rfl

/-! A state of moderate size -/

def Fit (s : Sender) : Prop := s.Out.length ≤ 100000 ∧ ∀ x ∈ s.Out, x.Frame.Body.length ≤ 2400
theorem Fit.len {s : Sender} (h : Fit s) : s.Out.length < 4611686018427387904 := by have := h.1; omega

theorem BP {f : Frame} (h : f.Body.length ≤ 2400) : dO f = some f := by
 unfold dO
 rw [fS (by omega)]; rfl

theorem mf (s : Sender) (hs : s.Out.length ≤ 100000) : ∀ (l acc : List Unacked) (i n : Nat), s.Out.drop i = l → l.length < n → (∀ x ∈ l, x.Frame.Body.length ≤ 2400) → acc.length + l.length ≤ 100000 →
  ek s n (acc, (i : Int)) = some (acc ++ l)
 | [], acc, i, n + 1, h, hn, hb, ha => by
  rw [ek, gS (jM h)]; simp
 | x :: l, acc, i, n + 1, h, hn, hb, ha => by
  obtain ⟨h1, h2, h3⟩ := ju h
  simp only [List.length_cons] at ha hn
  rw [ek, gX h3]
  have ih := mf s hs l (acc ++ [x]) (i + 1) n h2 (by omega) (fun y hy => hb y (by simp [hy])) (by simp; omega)
  simp only [cond_true, mq, h1, ay, BP (hb x (by simp))]
  rw [fS (by omega)]
  simp only [ay, fo (show i < _ by omega)]
  rw [show ({ x with Frame := { x.Frame with Body := x.Frame.Body } } : Unacked) = x from rfl, ih]
  simp

theorem o8 {s : Sender} (h : Fit s) : eX s = some s := by
 unfold eX
 have := mf s h.1 s.Out [] 0 big rfl (eQ h.len) h.2 (by simpa using h.1)
 simp only [Int.ofNat_zero, Int.natCast_zero] at this
 rw [this]; rfl

theorem tg {s : Sender} (h : Fit s) (b : Bool) : dN s b = some (if Valid s then (if b = true then (if s.Phase = 2 then (s, 0) else (Sender.z, 20)) else (Sender.z, 2)) else (Sender.z, 8)) := by
 unfold dN
 rw [check_e s h.len, ay]
 by_cases hv : Valid s
 ·
  simp only [if_pos hv]
  cases b
  ·
   rfl
  ·
   by_cases hp : s.Phase = 2
   ·
    simp [hp, o8 h]
   ·
    have e : (s.Phase != 2) = true := by simpa using hp
    simp [hp, e]
 ·
  simp only [if_neg hv]; rfl
end Go.AX.Z.TN.S

/-! (TNR) -/

set_option linter.unusedVariables false
set_option linter.unusedSimpArgs false
namespace Go.AX.Z.TN.S
open Go.AX

def newS (a b c d : Int) : Sender := { Sender.z with Life := d, Limit := c, Next := b, Tid := a }
theorem newS_fit (a b c d : Int) : Fit (newS a b c d) := ⟨by simp [newS, Sender.z], by simp [newS, Sender.z]⟩
theorem new_e (a b c d : Int) : lq a b c d = some (if Valid (newS a b c d) then (newS a b c d, 0) else (Sender.z, 2)) := by
 unfold lq
 rw [show ({ Sender.z with Life := d, Limit := c, Next := b, Tid := a } : Sender) = newS a b c d from rfl, check_e _ (newS_fit a b c d).len, ay]
 by_cases hv : Valid (newS a b c d)
 ·
  simp only [if_pos hv]; rfl
 ·
  simp only [if_neg hv]; rfl

def tok (s : Sender) : Int := IntKind.wrap .i64 (s.Token.tmod 255 + 1)
def MC (s : Sender) (n : Int) : BlockAsk := { BlockAsk.z with Size := n, Start := s.Next, Tid := s.Tid, Token := tok s }
def askS (s : Sender) (n : Int) : Sender := { s with Phase := 1, Size := n, Token := tok s }
theorem ask_e {s : Sender} (h : Fit s) (n : Int) : jz s n = some (if Valid s then (if 1 ≤ n ∧ n ≤ 64 then (if s.Phase = 2 then (BlockAsk.z, Sender.z, 20) else (MC s n, askS s n, 0)) else (BlockAsk.z, Sender.z, 2)) else (BlockAsk.z, Sender.z, 8)) := by
 unfold jz
 rw [check_e s h.len, ay]
 by_cases hv : Valid s
 ·
  simp only [if_pos hv, bH, ay]
  by_cases hn : 1 ≤ n ∧ n ≤ 64
  ·
   have e : (!(decide (1 ≤ n) && decide (n ≤ 64))) = false := by simp [hn]
   simp only [if_pos hn, e]
   by_cases hp : s.Phase = 2
   ·
    simp [hp]
   ·
    have hf : Fit (askS s n) := ⟨h.1, h.2⟩
    have e2 : (s.Phase == 2) = false := by simpa using hp
    simp only [if_neg hp, e2, cond_false]
    rw [show ({ s with Phase := 1, Size := n, Token := IntKind.wrap .i64 (s.Token.tmod 255 + 1) } : Sender) = askS s n from rfl, o8 hf, ay]
    rfl
  ·
   have e : (!(decide (1 ≤ n) && decide (n ≤ 64))) = true := by
    simp only [Bool.not_eq_true', Bool.and_eq_false_iff, decide_eq_false_iff_not]; omega
   simp only [if_neg hn, e]; rfl
 ·
  simp only [if_neg hv]; rfl

def AU (s : Sender) (a : BlockAnswer) : Sender := if a.Status = 0 then { s with Phase := 2, Size := a.Size } else { s with Phase := 0, Size := 0 }
theorem zB {s : Sender} (h : Fit s) (a : BlockAnswer) : Fit (AU s a) := by
 unfold AU; split <;> exact ⟨h.1, h.2⟩
theorem answer_e {s : Sender} (h : Fit s) (a : BlockAnswer) : fW s a = some (if Valid s then (if s.Phase = 1 then (if a.Token = s.Token ∧ a.Tid = s.Tid then (if a.Status = 0 ∧ ¬ (1 ≤ a.Size ∧ a.Size ≤ s.Size) then (Sender.z, 2) else (AU s a, 0)) else (Sender.z, 21)) else (Sender.z, 20)) else (Sender.z, 8)) := by
 unfold fW
 rw [check_e s h.len, ay]
 by_cases hv : Valid s
 ·
  simp only [if_pos hv]
  by_cases hp : s.Phase = 1
  ·
   have e1 : (s.Phase != 1) = false := by simp [hp]
   simp only [if_pos hp, e1, cond_false]
   by_cases ht : a.Token = s.Token ∧ a.Tid = s.Tid
   ·
    have e2 : ((a.Token != s.Token) || (a.Tid != s.Tid)) = false := by simp [ht.1, ht.2]
    simp only [if_pos ht, e2, cond_false]
    by_cases hs : a.Status = 0
    ·
     have e3 : (a.Status != 0) = false := by simp [hs]
     simp only [e3, cond_false, bH, ay]
     by_cases hz : 1 ≤ a.Size ∧ a.Size ≤ s.Size
     ·
      have e4 : (!(decide (1 ≤ a.Size) && decide (a.Size ≤ s.Size))) = false := by simp [hz]
      have e5 : ¬ (a.Status = 0 ∧ ¬ (1 ≤ a.Size ∧ a.Size ≤ s.Size)) := fun h => h.2 hz
      have hf := zB h a
      have e6 : AU s a = { s with Phase := 2, Size := a.Size } := by unfold AU; rw [if_pos hs]
      simp only [e4, cond_false, ay, Ex.k_go', if_neg e5]
      rw [show ((0 : Int) != 0) = false from rfl, cond_false, ay, Ex.k_go', ← e6, o8 hf]; rfl
     ·
      have e4 : (!(decide (1 ≤ a.Size) && decide (a.Size ≤ s.Size))) = true := by
       simp only [Bool.not_eq_true', Bool.and_eq_false_iff, decide_eq_false_iff_not]; omega
      have e5 : (a.Status = 0 ∧ ¬ (1 ≤ a.Size ∧ a.Size ≤ s.Size)) := ⟨hs, hz⟩
      simp only [e4, cond_true, ay, Ex.k_ret', if_pos e5]; rfl
    ·
     have e3 : (a.Status != 0) = true := by simpa using hs
     have e5 : ¬ (a.Status = 0 ∧ ¬ (1 ≤ a.Size ∧ a.Size ≤ s.Size)) := fun h => hs h.1
     have hf := zB h a
     have e6 : AU s a = { s with Phase := 0, Size := 0 } := by unfold AU; rw [if_neg hs]
     simp only [e3, cond_true, if_neg e5]
     rw [show ((0 : Int) != 0) = false from rfl, cond_false, ay, Ex.k_go', ← e6, o8 hf]; rfl
   ·
    have e2 : ((a.Token != s.Token) || (a.Tid != s.Tid)) = true := by
     simp only [Bool.or_eq_true, bne_iff_ne]
     rcases Classical.em (a.Token = s.Token) with h1 | h1
     ·
      exact .inr fun h2 => ht ⟨h1, h2⟩
     ·
      exact .inl h1
    simp only [if_neg ht, e2]; rfl
  ·
   have e1 : (s.Phase != 1) = true := by simpa using hp
   simp only [if_neg hp, e1]; rfl
 ·
  simp only [if_neg hv]; rfl

def seqs (l : List Unacked) : List Int := l.map fun x => x.Frame.Head.Seq

theorem mI (s : Sender) (hs : s.Out.length ≤ 100000) : ∀ (l : List Unacked) (acc : List Int) (i n : Nat), s.Out.drop i = l → l.length < n → acc.length + l.length ≤ 100000 →
  dQ s n (acc, (i : Int)) = some (acc ++ seqs l)
 | [], acc, i, n + 1, h, hn, ha => by
  rw [dQ, gS (jM h)]; simp [seqs]
 | x :: l, acc, i, n + 1, h, hn, ha => by
  obtain ⟨h1, h2, h3⟩ := ju h
  simp only [List.length_cons] at ha hn
  rw [dQ, gX h3]
  have ih := mI s hs l (acc ++ [x.Frame.Head.Seq]) (i + 1) n h2 (by omega) (by simp; omega)
  simp only [cond_true, mq, h1, ay]
  rw [fS (by omega)]
  simp only [ay, fo (show i < _ by omega), ih]
  simp [seqs]

def closeS (s : Sender) : Sender := { s with Bar := false, Out := [], Phase := 0, Size := 0 }
theorem close_e {s : Sender} (h : Fit s) : fD s = some (if Valid s then (seqs s.Out, closeS s, 0) else ([], Sender.z, 8)) := by
 unfold fD
 rw [check_e s h.len, ay]
 by_cases hv : Valid s
 ·
  simp only [if_pos hv]
  have := mI s h.1 s.Out [] 0 big rfl (eQ h.len) (by simpa using h.1)
  simp only [Int.ofNat_zero, Int.natCast_zero, List.nil_append] at this
  rw [this]; rfl
 ·
  simp only [if_neg hv]; rfl

def lastAt (s : Sender) : Int := match s.Out.getLast? with | some x => x.At | none => 0
def offF (s : Sender) (f : Frame) : Frame := { f with Head := { f.Head with Retry := false, Seq := s.Next, Tid := s.Tid } }
def offS (s : Sender) (f : Frame) (n : Int) : Sender := { s with Next := (s.Next + 1) % 4096, Out := s.Out ++ [{ Unacked.z with At := n, Frame := offF s f }] }
theorem offer_e {s : Sender} (h : Fit s) (f : Frame) (hf : f.Body.length ≤ 2400) (n : Int) (hl : s.Out.length < 90000) : fE s f n =
  some (if Valid s then (if 0 ≤ n ∧ n ≤ 1099511627776 then (if s.Phase = 2 then (if s.Out ≠ [] ∧ n < lastAt s then (Frame.z, Sender.z, 20) else if s.Size ≤ aE (startOf s) s.Next then (Frame.z, Sender.z, 22) else (offF s f, offS s f n, 0)) else (Frame.z, Sender.z, 20)) else (Frame.z, Sender.z, 2)) else (Frame.z, Sender.z, 8)) := by
 unfold fE
 simp only [bH, ay]
 rw [tg h]
 by_cases hv : Valid s
 ·
  simp only [if_pos hv]
  by_cases hn : 0 ≤ n ∧ n ≤ 1099511627776
  ·
   have e1 : (decide (0 ≤ n) && decide (n ≤ 1099511627776)) = true := by simp [hn]
   simp only [e1, if_true, if_pos hn]
   by_cases hp : s.Phase = 2
   ·
    simp only [if_pos hp, ay]
    rw [show ((0 : Int) != 0) = false from rfl, cond_false]
    have key : ((bif decide (0 < ((s.Out.length : Nat) : Int)) then ((idx s.Out (IntKind.wrap .i64 (((s.Out.length : Nat) : Int) - 1))).bind fun x16 => some (decide (n < x16.At))) else some false) : Option Bool) = some (decide (s.Out ≠ [] ∧ n < lastAt s)) := by
     cases ho : s.Out with
     | nil => simp
     | cons x l =>
      have hl' : (x :: l).length = l.length + 1 := rfl
      have hlen : s.Out.length = l.length + 1 := by rw [ho]; rfl
      rw [show decide (0 < (((x :: l).length : Nat) : Int)) = true by simp, cond_true, show IntKind.wrap .i64 ((((x :: l).length : Nat) : Int) - 1) = ((l.length : Nat) : Int) by rw [hl', kw (by omega) (by omega)]; omega, mq]
      have : (x :: l)[l.length]? = (x :: l).getLast? := by rw [List.getLast?_eq_getElem?]; rfl
      rw [this]
      have hne : (x :: l).getLast? = some ((x :: l).getLast (by simp)) := List.getLast?_eq_some_getLast (by simp)
      rw [hne, ay]
      simp [lastAt, ho, hne]
    rw [key, ay]
    by_cases hw : s.Out ≠ [] ∧ n < lastAt s
    ·
     rw [decide_eq_true hw, if_pos hw]; rfl
    ·
     rw [decide_eq_false hw, if_neg hw, cond_false, yt, ay, iE, ay]
     by_cases hz : s.Size ≤ aE (startOf s) s.Next
     ·
      rw [decide_eq_true hz, if_pos hz]; rfl
     ·
      rw [decide_eq_false hz, if_neg hz, cond_false, BP hf, ay, fS (by omega), ay, Ah, ay]
      rw [BP (f := { f with Head := { f.Head with Retry := false, Seq := s.Next, Tid := s.Tid } }) hf]
      rfl
   ·
    simp only [if_neg hp]; rfl
  ·
   have e1 : (decide (0 ≤ n) && decide (n ≤ 1099511627776)) = false := by
    simp only [Bool.and_eq_false_iff, decide_eq_false_iff_not]; omega
   simp only [e1, if_neg hn]; rfl
 ·
  simp only [if_neg hv]; rfl

def pickR (lim k : Int) : Nat → List Unacked → List Unacked × List Frame
 | _, [] => ([], [])
 | c, x :: l => if (c : Int) = k then (x :: l, []) else
   if (x.Flying || (x.Tries == lim)) = true then (x :: (pickR lim k c l).1, (pickR lim k c l).2)
   else ({ x with Tries := IntKind.wrap .i64 (x.Tries + 1), Flying := true } :: (pickR lim k (c + 1) l).1, { x.Frame with Head := { x.Frame.Head with Retry := decide (0 < x.Tries) } } :: (pickR lim k (c + 1) l).2)

theorem uv {α : Type} (f : α → α) : ∀ (pre : List α) (x : α) (l : List α), (pre ++ x :: l).modify pre.length f = pre ++ f x :: l
 | [], x, l => by simp
 | p :: pre, x, l => by simp [uv f pre x l]

theorem sR (r : Sender × Int) (k : Int) : ∀ (l pre : List Unacked) (fr : List Frame) (n : Nat), pre.length + l.length = r.1.Out.length → r.1.Out.length ≤ 100000 → l.length < n → (∀ x ∈ l, x.Frame.Body.length ≤ 2400) → fr.length + l.length ≤ 100000 →
  dH r k n (pre ++ l, fr, (pre.length : Int)) = some (pre ++ (pickR r.1.Limit k fr.length l).1, fr ++ (pickR r.1.Limit k fr.length l).2)
 | [], pre, fr, n + 1, h, hL, hn, hb, ha => by
  rw [dH, gS (by simp at h; omega)]; simp [pickR]
 | x :: l, pre, fr, n + 1, h, hL, hn, hb, ha => by
  simp only [List.length_cons] at h ha hn
  rw [dH, gX (by omega)]
  have e : idx (pre ++ x :: l) (pre.length : Int) = some x := by rw [mq]; simp
  simp only [cond_true, e, ay, pickR]
  by_cases hk : (fr.length : Int) = k
  ·
   rw [show (((fr.length : Nat) : Int) == k) = true by simpa using hk, if_pos hk]; simp
  ·
   rw [show (((fr.length : Nat) : Int) == k) = false by simpa using hk, if_neg hk, cond_false]
   cases hx : (x.Flying || (x.Tries == r.1.Limit))
   ·
    simp only [cond_false, Bool.false_eq_true, if_false]
    rw [BP (hb x (by simp)), ay, fS (by omega), ay, show (pre.length : Int).toNat = pre.length by omega, uv, uv, fo (by omega)]
    have ih := sR r k l (pre ++ [{ x with Tries := IntKind.wrap .i64 (x.Tries + 1), Flying := true }]) (fr ++ [{ x.Frame with Head := { x.Frame.Head with Retry := decide (0 < x.Tries) } }]) n (by simp; omega) hL (by omega) (fun y hy => hb y (by simp [hy])) (by simp; omega)
    simp only [List.append_assoc, List.cons_append, List.nil_append, List.length_append, List.length_cons, List.length_nil, Nat.zero_add] at ih
    exact ih
   ·
    simp only [cond_true, if_true]
    rw [fo (by omega)]
    have ih := sR r k l (pre ++ [x]) fr n (by simp; omega) hL (by omega) (fun y hy => hb y (by simp [hy])) (by omega)
    simp only [List.append_assoc, List.cons_append, List.nil_append, List.length_append, List.length_cons, List.length_nil, Nat.zero_add] at ih
    exact ih

theorem pick_e {s : Sender} (h : Fit s) (k : Int) : gA s k = some (if Valid s then (if 0 ≤ k then (if s.Phase = 2 then ((pickR s.Limit k 0 s.Out).2, { s with Out := (pickR s.Limit k 0 s.Out).1 }, 0) else ([], Sender.z, 20)) else ([], Sender.z, 2)) else ([], Sender.z, 8)) := by
 unfold gA
 rw [tg h]
 by_cases hv : Valid s
 ·
  simp only [if_pos hv]
  by_cases hk : 0 ≤ k
  ·
   simp only [decide_eq_true hk, if_true, if_pos hk]
   by_cases hp : s.Phase = 2
   ·
    simp only [if_pos hp, ay]
    have := sR (s, 0) k s.Out [] [] big (by simp) h.1 (eQ h.len) h.2 (by simpa using h.1)
    simp only [List.nil_append, List.length_nil, Int.ofNat_zero, Int.natCast_zero] at this
    rw [show ((0 : Int) != 0) = false from rfl, cond_false, this]; rfl
   ·
    simp only [if_neg hp]; rfl
  ·
   simp only [decide_eq_false hk, if_neg hk]; rfl
 ·
  simp only [if_neg hv]; rfl

def unfly (x : Unacked) : Unacked := { x with Flying := false }
theorem xK (s : Sender) : ∀ (l pre : List Unacked) (n : Nat), pre.length + l.length = s.Out.length → s.Out.length ≤ 100000 → l.length < n →
  ei s n (pre ++ l, (pre.length : Int)) = some (pre ++ l.map unfly)
 | [], pre, n + 1, h, hL, hn => by
  rw [ei, gS (by simp at h; omega)]; simp
 | x :: l, pre, n + 1, h, hL, hn => by
  simp only [List.length_cons] at h hn
  rw [ei, gX (by omega)]
  have e : idx (pre ++ x :: l) (pre.length : Int) = some x := by rw [mq]; simp
  simp only [cond_true, e, ay]
  rw [show (pre.length : Int).toNat = pre.length by omega, uv, fo (by omega)]
  have ih := xK s l (pre ++ [unfly x]) n (by simp; omega) hL (by omega)
  simp only [List.append_assoc, List.cons_append, List.nil_append, List.length_append, List.length_cons, List.length_nil, Nat.zero_add] at ih
  exact ih
theorem D1 {s : Sender} (h : s.Out.length ≤ 100000) : iS s = some (s.Out.map unfly) := by
 unfold iS
 have := xK s s.Out [] big (by simp) h (eQ (by omega))
 simp only [List.nil_append, List.length_nil, Int.ofNat_zero, Int.natCast_zero] at this
 rw [this]; rfl

theorem lost_e {s : Sender} (h : Fit s) : gr s = some (if Valid s then (if s.Phase = 2 then ({ s with Out := s.Out.map unfly }, 0) else (Sender.z, 20)) else (Sender.z, 8)) := by
 unfold gr
 rw [tg h]
 by_cases hv : Valid s
 ·
  simp only [if_pos hv, if_true]
  by_cases hp : s.Phase = 2
  ·
   simp only [if_pos hp, ay]
   rw [show ((0 : Int) != 0) = false from rfl, cond_false, D1 h.1]; rfl
  ·
   simp only [if_neg hp]; rfl
 ·
  simp only [if_neg hv]; rfl

theorem barred_e {s : Sender} (h : Fit s) : eG s = some (if Valid s then (if s.Phase = 2 then (if s.Bar = true then ({ s with Bar := false }, 0) else (Sender.z, 20)) else (Sender.z, 20)) else (Sender.z, 8)) := by
 unfold eG
 rw [tg h]
 by_cases hv : Valid s
 ·
  simp only [if_pos hv, if_true]
  by_cases hp : s.Phase = 2
  ·
   simp only [if_pos hp, ay]
   cases hb : s.Bar <;> simp [hb]
  ·
   simp only [if_neg hp]; rfl
 ·
  simp only [if_neg hv]; rfl
end Go.AX.Z.TN.S

/-! (TNV) -/

set_option linter.unusedVariables false
set_option linter.unusedSimpArgs false
namespace Go.AX.Z.TN.S
open Go.AX

/-! ## Removing -/

def okW (w : Window) : Prop := 0 ≤ w.Start ∧ w.Start < 4096
instance (w : Window) : Decidable (okW w) := by unfold okW; infer_instance
theorem pv (w : Window) : eD w = some (if okW w then 0 else 8) := by
 unfold eD ea
 by_cases h : okW w
 ·
  have e : (decide (0 ≤ w.Start) && decide (w.Start < 4096)) = true := by simpa using (show 0 ≤ w.Start ∧ w.Start < 4096 from h)
  rw [ay, e, if_pos h]; rfl
 ·
  have e : (decide (0 ≤ w.Start) && decide (w.Start < 4096)) = false := by
   simp only [Bool.and_eq_false_iff, decide_eq_false_iff_not]; unfold okW at h; omega
  rw [ay, e, if_neg h]; rfl

def hasB (w : Window) (n : Int) : Bool :=
 decide (okW w ∧ 0 ≤ n ∧ n < 4096 ∧ aE w.Start n < 64) && (uP .u64 (w.Bits.fdiv (2 ^ (min (aE w.Start n).toNat 64))) 1 == 1)
theorem Is (w : Window) (n : Int) : kS w n = some (hasB w n) := by
 unfold kS eV
 rw [pv, ay]
 by_cases h : okW w
 ·
  rw [if_pos h]
  unfold ea
  by_cases hn : 0 ≤ n ∧ n < 4096
  ·
   have e : (decide (0 ≤ n) && decide (n < 4096)) = true := by simpa using hn
   rw [show ((0 : Int) != 0) = false from rfl, cond_false, ay, e]
   simp only [Bool.not_true, cond_false, ay]
   rw [show ((0 : Int) != 0) = false from rfl, cond_false, iE, ay]
   unfold hasB
   by_cases hd : aE w.Start n < 64
   ·
    have := (fN w.Start n).1
    rw [decide_eq_true hd, cond_true, fS (by omega), ay, ay, decide_eq_true ⟨h, hn.1, hn.2, hd⟩, Bool.true_and]
   ·
    rw [decide_eq_false hd, cond_false, ay, decide_eq_false (fun q => hd q.2.2.2), Bool.false_and]
  ·
   have e : (decide (0 ≤ n) && decide (n < 4096)) = false := by
    simp only [Bool.and_eq_false_iff, decide_eq_false_iff_not]; omega
   rw [show ((0 : Int) != 0) = false from rfl, cond_false, ay, e]
   unfold hasB
   rw [decide_eq_false (fun q => hn ⟨q.2.1, q.2.2.1⟩)]; rfl
 ·
  rw [if_neg h]
  unfold hasB
  rw [decide_eq_false (fun q => h q.1)]; rfl

def pA (w : Window) (x : Unacked) : Bool := decide (0 < x.Tries) && hasB w x.Frame.Head.Seq
theorem Ek (x : Unacked) (w : Window) : gv x w = some (pA w x) := by
 unfold gv pA
 cases h : decide (0 < x.Tries)
 ·
  rfl
 ·
  rw [cond_true, Is]; rfl
theorem GP (x : Unacked) (w : Window) (l : List Int) (h : l.length ≤ 100000) : et x w l = some (pA w x, if pA w x = true then l ++ [x.Frame.Head.Seq] else l) := by
 unfold et
 rw [Ek, ay]
 cases pA w x
 ·
  rfl
 ·
  rw [cond_true, fS (by omega), ay]; rfl

/-- Where the first element is that p holds of. -/
def ff (p : Unacked → Bool) : Nat → List Unacked → Option (Nat × Unacked)
 | _, [] => none
 | i, x :: l => if p x = true then some (i, x) else ff p (i + 1) l

theorem yK {p : Unacked → Bool} : ∀ {l : List Unacked} {i : Nat}, ff p i l = none → l.filter (fun x => !p x) = l ∧ l.filter p = []
 | [], _, _ => ⟨rfl, rfl⟩
 | x :: l, i, h => by
  unfold ff at h
  by_cases hx : p x = true
  ·
   rw [if_pos hx] at h; cases h
  ·
   rw [if_neg hx] at h
   obtain ⟨h1, h2⟩ := yK h
   rw [Bool.not_eq_true] at hx
   simp [hx, h1, h2]
theorem yA {p : Unacked → Bool} : ∀ {l : List Unacked} {i j : Nat} {x : Unacked}, ff p i l = some (j, x) → ∃ a b, l = a ++ x :: b ∧ j = i + a.length ∧ p x = true ∧ ∀ y ∈ a, p y = false
 | [], i, j, x, h => by simp [ff] at h
 | y :: l, i, j, x, h => by
  unfold ff at h
  by_cases hx : p y = true
  ·
   rw [if_pos hx] at h; cases h; exact ⟨[], l, rfl, rfl, hx, by simp⟩
  ·
   rw [if_neg hx] at h
   obtain ⟨a, b, rfl, rfl, h3, h4⟩ := yA h
   rw [Bool.not_eq_true] at hx
   exact ⟨y :: a, b, rfl, by simp; omega, h3, by intro z hz; rcases List.mem_cons.1 hz with rfl | hz; exact hx; exact h4 z hz⟩

theorem uI (L : List Unacked) (w : Window) (hL : L.length ≤ 100000) : ∀ (l : List Unacked) (i n : Nat), L.drop i = l → l.length < n →
  aX L w n ([], (i : Int)) = some (match ff (pA w) i l with | some (j, x) => Ex.ret ((j : Int), [x.Frame.Head.Seq]) | none => Ex.go [])
 | [], i, n + 1, h, hn => by
  rw [aX, gS (jM h)]; rfl
 | x :: l, i, n + 1, h, hn => by
  obtain ⟨h1, h2, h3⟩ := ju h
  rw [aX, gX h3]
  have ih := uI L w hL l (i + 1) n h2 (by simpa using hn)
  simp only [cond_true, mq, h1, ay]
  rw [GP x w [] (by simp), ay]
  unfold ff
  cases hx : pA w x
  ·
   simp only [cond_false, Bool.false_eq_true, if_false, fo (show i < _ by omega)]; exact ih
  ·
   simp only [cond_true, if_true, List.nil_append]

theorem wk (w : Window) : ∀ (l cur : List Unacked) (nums : List Int) (i j n : Nat), cur.drop j = l → i ≤ j → j ≤ cur.length → cur.length ≤ 50000 → nums.length ≤ j → l.length < n →
  ∃ cur' i', aT w n (cur, nums, (i : Int), (j : Int)) = some (cur', ((i' : Nat) : Int), nums ++ seqs (l.filter (pA w))) ∧ cur'.length = cur.length ∧ i' ≤ cur.length ∧ cur'.take i' = cur.take i ++ l.filter (fun x => !pA w x)
 | [], cur, nums, i, j, n + 1, h, hij, hj, hc, hm, hn => by
  refine ⟨cur, i, ?_, rfl, by omega, by simp⟩
  rw [aT, gS (jM h)]
  simp [seqs]
 | x :: l, cur, nums, i, j, n + 1, h, hij, hj, hc, hm, hn => by
  obtain ⟨h1, h2, h3⟩ := ju h
  simp only [List.length_cons] at hn
  have hi : i < cur.length := by omega
  rw [aT, gX h3]
  simp only [cond_true, mq, h1, ay]
  rw [GP x w nums (by omega), ay]
  cases hx : pA w x
  ·
   simp only [Bool.not_false, cond_true, Bool.false_eq_true, if_false]
   have hg : cur[i]? = some cur[i] := by simp [hi]
   rw [hg, ay, fo (by omega), fo (by omega), show (i : Int).toNat = i by omega]
   have hd : (cur.set i x).drop (j + 1) = l := by rw [tN x (by omega)]; exact h2
   obtain ⟨cur', i', e1, e2, e3, e4⟩ := wk w l (cur.set i x) nums (i + 1) (j + 1) n hd (by omega) (by simp; omega) (by simpa using hc) (by omega) (by omega)
   refine ⟨cur', i', ?_, by simpa using e2, by simpa using e3, ?_⟩
   ·
    rw [e1]; simp [hx]
   ·
    rw [e4, qd x hi]; simp [hx]
  ·
   simp only [Bool.not_true, cond_false, if_true]
   rw [fo (by omega)]
   obtain ⟨cur', i', e1, e2, e3, e4⟩ := wk w l cur (nums ++ [x.Frame.Head.Seq]) i (j + 1) n h2 (by omega) (by omega) hc (by simp; omega) (by omega)
   refine ⟨cur', i', ?_, e2, e3, ?_⟩
   ·
    rw [e1]; simp [hx, seqs]
   ·
    rw [e4]; simp [hx]

theorem wd {p : Unacked → Bool} {a : List Unacked} (h : ∀ y ∈ a, p y = false) : a.filter p = [] ∧ a.filter (fun x => !p x) = a :=
 ⟨List.filter_eq_nil_iff.2 fun y hy => by simp [h y hy], List.filter_eq_self.2 fun y hy => by simp [h y hy]⟩

theorem Dz (w : Window) (L : List Unacked) (hL : L.length ≤ 50000) : bD w L = some (L.filter (fun x => !pA w x), seqs (L.filter (pA w))) := by
 unfold bD bT
 have := uI L w (by omega) L 0 big rfl (eQ (by omega))
 simp only [Int.ofNat_zero, Int.natCast_zero] at this
 rw [this, ay]
 cases hf : ff (pA w) 0 L with
 | none =>
  obtain ⟨h1, h2⟩ := yK hf
  rw [h1, h2]
  rfl
 | some q =>
  obtain ⟨j, x⟩ := q
  obtain ⟨a, b, h1, h2, h3, h4⟩ := yA hf
  rw [Nat.zero_add] at h2
  subst h2
  obtain ⟨f1, f2⟩ := wd h4
  simp only [Ex.k_ret', ay]
  have hne : (((a.length : Nat) : Int) == -1) = false := by
   simp
  rw [hne, cond_false]
  have hlen : L.length = a.length + (b.length + 1) := by rw [h1]; simp
  rw [fo (by omega)]
  have hd : L.drop (a.length + 1) = b := by rw [h1]; simp
  obtain ⟨cur', i', e1, e2, e3, e4⟩ := wk w b L [x.Frame.Head.Seq] a.length (a.length + 1) big hd (by omega) (by omega) hL (by simp) (eQ (by omega))
  rw [e1, ay]
  have hc : chk (decide (0 ≤ ((i' : Nat) : Int)) && decide (((i' : Nat) : Int) ≤ (cur'.length : Int))) = some () := ww (by simp; omega)
  simp only [hc, ay, show ((i' : Nat) : Int).toNat = i' by omega]
  rw [e4, h1]
  simp [f1, f2, h3, seqs]

theorem CV (s : Sender) (w : Window) (h : s.Out.length ≤ 50000) : fP s w = some (seqs (s.Out.filter (pA w)), s.Out.filter (fun x => !pA w x)) := by
 unfold fP
 rw [Dz w s.Out h]; rfl

def ackS (s : Sender) (w : Window) : Sender := { s with Out := (s.Out.filter (fun x => !pA w x)).map unfly }
theorem acked_e {s : Sender} (h : Fit s) (hl : s.Out.length ≤ 50000) (w : Window) : fI s w = some (if Valid s then (if okW w then (if s.Phase = 2 then (seqs (s.Out.filter (pA w)), ackS s w, 0) else ([], Sender.z, 20)) else ([], Sender.z, 2)) else ([], Sender.z, 8)) := by
 unfold fI
 rw [pv, ay, tg h]
 by_cases hv : Valid s
 ·
  simp only [if_pos hv]
  by_cases hw : okW w
  ·
   simp only [if_pos hw]
   by_cases hp : s.Phase = 2
   ·
    rw [show ((0 : Int) == 0) = true from rfl]
    simp only [if_pos hp, if_true, ay]
    rw [show ((0 : Int) != 0) = false from rfl, cond_false, CV s w hl, ay, D1 (by have := List.length_filter_le (fun x => !pA w x) s.Out; simp only; omega)]
    rfl
   ·
    simp only [if_neg hp]; rfl
  ·
   simp only [if_neg hw]; rfl
 ·
  simp only [if_neg hv]; rfl

/-! Expire -/

def pX (lim life now : Int) (x : Unacked) : Bool := (!x.Flying) && ((x.Tries == lim) || (decide ((IntKind.wrap .i64 (x.At + life)) ≤ now)))
theorem CR (x : Unacked) (s : Sender) (t : Int) (l : List Int) (h : l.length ≤ 100000) : ey x s t l = some (pX s.Limit s.Life t x, if pX s.Limit s.Life t x = true then l ++ [x.Frame.Head.Seq] else l) := by
 unfold ey iD
 rw [ay]
 show (bif pX s.Limit s.Life t x then _ else _) = _
 cases hx : pX s.Limit s.Life t x
 ·
  simp only [cond_false, Bool.false_eq_true, if_false]; rw [show ((!x.Flying) && ((x.Tries == s.Limit) || (decide ((IntKind.wrap .i64 (x.At + s.Life)) ≤ t)))) = false from hx]
 ·
  rw [cond_true, fS (by omega), ay]; rw [show ((!x.Flying) && ((x.Tries == s.Limit) || (decide ((IntKind.wrap .i64 (x.At + s.Life)) ≤ t)))) = true from hx]; rfl

theorem tQ (s : Sender) (t : Int) (hL : s.Out.length ≤ 100000) : ∀ (l : List Unacked) (i n : Nat), s.Out.drop i = l → l.length < n →
  aZ s t n ([], (i : Int)) = some (match ff (pX s.Limit s.Life t) i l with | some (j, x) => Ex.ret ((j : Int), [x.Frame.Head.Seq]) | none => Ex.go [])
 | [], i, n + 1, h, hn => by
  rw [aZ, gS (jM h)]; rfl
 | x :: l, i, n + 1, h, hn => by
  obtain ⟨h1, h2, h3⟩ := ju h
  rw [aZ, gX h3]
  have ih := tQ s t hL l (i + 1) n h2 (by simpa using hn)
  simp only [cond_true, mq, h1, ay]
  rw [CR x s t [] (by simp), ay]
  unfold ff
  cases hx : pX s.Limit s.Life t x
  ·
   simp only [cond_false, Bool.false_eq_true, if_false, fo (show i < _ by omega)]; exact ih
  ·
   simp only [cond_true, if_true, List.nil_append]

theorem sX (t lim life : Int) : ∀ (l cur : List Unacked) (S : Sender) (nums : List Int) (i j n : Nat), S.Limit = lim → S.Life = life → cur.drop j = l → i ≤ j → j ≤ cur.length → cur.length ≤ 50000 → nums.length ≤ j → l.length < n →
  ∃ cur' i' o, aV t n (cur, S, nums, (i : Int), (j : Int)) = some (cur', ((i' : Nat) : Int), { S with Out := o }, nums ++ seqs (l.filter (pX lim life t))) ∧ cur'.length = cur.length ∧ i' ≤ cur.length ∧ cur'.take i' = cur.take i ++ l.filter (fun x => !pX lim life t x)
 | [], cur, S, nums, i, j, n + 1, e1, e2, h, hij, hj, hc, hm, hn => by
  refine ⟨cur, i, S.Out, ?_, rfl, by omega, by simp⟩
  rw [aV, gS (jM h)]
  simp [seqs]
 | x :: l, cur, S, nums, i, j, n + 1, q1, q2, h, hij, hj, hc, hm, hn => by
  obtain ⟨h1, h2, h3⟩ := ju h
  simp only [List.length_cons] at hn
  have hi : i < cur.length := by omega
  rw [aV, gX h3]
  simp only [cond_true, mq, h1, ay]
  rw [CR x { S with Out := cur } t nums (by omega), ay]
  subst q1; subst q2
  cases hx : pX S.Limit S.Life t x
  ·
   simp only [Bool.not_false, cond_true, Bool.false_eq_true, if_false]
   have hg : cur[i]? = some cur[i] := by simp [hi]
   rw [hg, ay, fo (by omega), fo (by omega), show (i : Int).toNat = i by omega]
   have hd : (cur.set i x).drop (j + 1) = l := by rw [tN x (by omega)]; exact h2
   obtain ⟨cur', i', o, e1, e2, e3, e4⟩ := sX t S.Limit S.Life l (cur.set i x) { S with Out := cur } nums (i + 1) (j + 1) n rfl rfl hd (by omega) (by simp; omega) (by simpa using hc) (by omega) (by omega)
   refine ⟨cur', i', o, ?_, by simpa using e2, by simpa using e3, ?_⟩
   ·
    rw [e1]; simp [hx]
   ·
    rw [e4, qd x hi]; simp [hx]
  ·
   simp only [Bool.not_true, cond_false, if_true]
   rw [fo (by omega)]
   obtain ⟨cur', i', o, e1, e2, e3, e4⟩ := sX t S.Limit S.Life l cur { S with Out := cur } (nums ++ [x.Frame.Head.Seq]) i (j + 1) n rfl rfl h2 (by omega) (by omega) hc (by simp; omega) (by omega)
   refine ⟨cur', i', o, ?_, e2, e3, ?_⟩
   ·
    rw [e1]; simp [hx, seqs]
   ·
    rw [e4]; simp [hx]

theorem Cl (s : Sender) (t : Int) (hL : s.Out.length ≤ 50000) : ∃ o, bK s t = some (s.Out.filter (fun x => !pX s.Limit s.Life t x), { s with Out := o }, seqs (s.Out.filter (pX s.Limit s.Life t))) := by
 unfold bK b9
 have := tQ s t (by omega) s.Out 0 big rfl (eQ (by omega))
 simp only [Int.ofNat_zero, Int.natCast_zero] at this
 rw [this, ay]
 cases hf : ff (pX s.Limit s.Life t) 0 s.Out with
 | none =>
  obtain ⟨h1, h2⟩ := yK hf
  refine ⟨s.Out, ?_⟩
  rw [h1, h2]
  rfl
 | some q =>
  obtain ⟨j, x⟩ := q
  obtain ⟨a, b, h1, h2, h3, h4⟩ := yA hf
  rw [Nat.zero_add] at h2
  subst h2
  obtain ⟨f1, f2⟩ := wd h4
  simp only [Ex.k_ret', ay]
  have hne : (((a.length : Nat) : Int) == -1) = false := by
   simp
  rw [hne, cond_false]
  have hlen : s.Out.length = a.length + (b.length + 1) := by rw [h1]; simp
  rw [fo (by omega)]
  have hd : s.Out.drop (a.length + 1) = b := by rw [h1]; simp
  obtain ⟨cur', i', o, e1, e2, e3, e4⟩ := sX t s.Limit s.Life b s.Out s [x.Frame.Head.Seq] a.length (a.length + 1) big rfl rfl hd (by omega) (by omega) hL (by simp) (eQ (by omega))
  refine ⟨o, ?_⟩
  rw [e1, ay]
  have hc : chk (decide (0 ≤ ((i' : Nat) : Int)) && decide (((i' : Nat) : Int) ≤ (cur'.length : Int))) = some () := ww (by simp; omega)
  simp only [hc, ay, show ((i' : Nat) : Int).toNat = i' by omega]
  have hta : s.Out.take a.length = a := by rw [h1]; simp
  rw [e4, hta]
  have g1 : s.Out.filter (fun x => !pX s.Limit s.Life t x) = a ++ b.filter (fun x => !pX s.Limit s.Life t x) := by
   conv => lhs; rw [h1]
   simp [f2, h3]
  have g2 : seqs (s.Out.filter (pX s.Limit s.Life t)) = [x.Frame.Head.Seq] ++ seqs (b.filter (pX s.Limit s.Life t)) := by
   conv => lhs; rw [h1]
   simp [f1, h3, seqs]
  rw [g1, g2]

def expN (s : Sender) (t : Int) : List Int := seqs (s.Out.filter (pX s.Limit s.Life t))
def expS (s : Sender) (t : Int) : Sender := { s with Bar := (s.Bar || (decide (0 < (((expN s t).length : Nat) : Int)))), Out := s.Out.filter (fun x => !pX s.Limit s.Life t x) }
theorem expire_e {s : Sender} (h : Fit s) (hl : s.Out.length ≤ 50000) (t : Int) : fe s t = some (if Valid s then (if 0 ≤ t ∧ t ≤ 1099511627776 then (if s.Phase = 2 then (expN s t, expS s t, 0) else ([], Sender.z, 20)) else ([], Sender.z, 2)) else ([], Sender.z, 8)) := by
 unfold fe
 simp only [bH, ay]
 rw [tg h]
 by_cases hv : Valid s
 ·
  simp only [if_pos hv]
  by_cases hn : 0 ≤ t ∧ t ≤ 1099511627776
  ·
   have e1 : (decide (0 ≤ t) && decide (t ≤ 1099511627776)) = true := by simp [hn]
   simp only [e1, if_true, if_pos hn]
   by_cases hp : s.Phase = 2
   ·
    simp only [if_pos hp, ay]
    obtain ⟨o, ho⟩ := Cl s t hl
    unfold jO
    rw [show ((0 : Int) != 0) = false from rfl, cond_false, ho]; rfl
   ·
    simp only [if_neg hp]; rfl
  ·
   have e1 : (decide (0 ≤ t) && decide (t ≤ 1099511627776)) = false := by
    simp only [Bool.and_eq_false_iff, decide_eq_false_iff_not]; omega
   simp only [e1, if_neg hn]; rfl
 ·
  simp only [if_neg hv]; rfl
end Go.AX.Z.TN.S

/-! (TNA) -/

set_option linter.unusedVariables false
set_option linter.unusedSimpArgs false
namespace Go.AX.Z.TN.R
open Go.AX

def OkE (st sz last : Int) (h : HeldSeq) : Prop := (0 ≤ h.n ∧ h.n < 4096) ∧ (0 ≤ h.At ∧ h.At ≤ 1099511627776) ∧ last < aE st h.n ∧ aE st h.n < sz
instance (st sz last : Int) (h : HeldSeq) : Decidable (OkE st sz last h) := by unfold OkE; infer_instance
def OkL (st sz : Int) : Int → List HeldSeq → Prop
 | _, [] => True
 | last, h :: l => OkE st sz last h ∧ OkL st sz (aE st h.n) l
def Dd (st sz : Int) : (last : Int) → (l : List HeldSeq) → Decidable (OkL st sz last l)
 | _, [] => .isTrue trivial
 | last, h :: l => by
  have := Dd st sz (aE st h.n) l
  unfold OkL; infer_instance
instance (st sz last : Int) (l : List HeldSeq) : Decidable (OkL st sz last l) := Dd st sz last l
def mQ (b : Reorder) : Prop := (0 ≤ b.Start ∧ b.Start < 4096) ∧ 1 ≤ b.Size ∧ b.Size ≤ 64 ∧ 0 ≤ b.Hold ∧ b.Hold ≤ 16777216 ∧ (0 ≤ b.Seen.Start ∧ b.Seen.Start < 4096)
instance (b : Reorder) : Decidable (mQ b) := by unfold mQ; infer_instance
def VR (b : Reorder) : Prop := mQ b ∧ OkL b.Start b.Size 0 b.Held
instance (b : Reorder) : Decidable (VR b) := by unfold VR; infer_instance

theorem kQ (b : Reorder) (hs : b.Held.length < 4611686018427387904) : ∀ (l : List HeldSeq) (i n : Nat) (last : Int), b.Held.drop i = l → l.length < n →
  cO b n (last, (i : Int)) = some (if OkL b.Start b.Size last l then Ex.go () else Ex.ret 8)
 | [], i, n + 1, last, h, hn => by
  rw [cO, gS (jM h)]
  simp [OkL]
 | x :: l, i, n + 1, last, h, hn => by
  obtain ⟨h1, h2, h3⟩ := ju h
  simp only [List.length_cons] at hn
  rw [cO, gX h3]
  simp only [cond_true, mq, h1, ay, iE, di, eo]
  have key : ((bif !(decide (0 ≤ x.n) && decide (x.n < 4096)) then some true else some (!(decide (0 ≤ x.At) && decide (x.At ≤ 1099511627776)))).bind fun x25 =>
    bif ((x25 || decide (aE b.Start x.n ≤ last)) || decide (b.Size ≤ aE b.Start x.n)) then some (Ex.ret 8) else cO b n (aE b.Start x.n, IntKind.wrap .i64 ((i : Int) + 1))) =
    if OkE b.Start b.Size last x then cO b n (aE b.Start x.n, IntKind.wrap .i64 ((i : Int) + 1)) else some (Ex.ret 8) := by
   by_cases ho : OkE b.Start b.Size last x
   ·
    rw [if_pos ho]
    obtain ⟨⟨a1, a2⟩, ⟨a3, a4⟩, a5, a6⟩ := ho
    rw [decide_eq_true a1, decide_eq_true a2, decide_eq_true a3, decide_eq_true a4, decide_eq_false (by omega), decide_eq_false (by omega)]; rfl
   ·
    rw [if_neg ho]
    by_cases h1 : 0 ≤ x.n ∧ x.n < 4096
    ·
     rw [show (!(decide (0 ≤ x.n) && decide (x.n < 4096))) = false by simp; omega, cond_false, ay]
     have : ((!(decide (0 ≤ x.At) && decide (x.At ≤ 1099511627776)) || decide (aE b.Start x.n ≤ last)) || decide (b.Size ≤ aE b.Start x.n)) = true := by
      simp only [Bool.or_eq_true, Bool.not_eq_true', Bool.and_eq_false_iff, decide_eq_true_eq, decide_eq_false_iff_not]
      unfold OkE at ho
      omega
     rw [this, cond_true]
    ·
     rw [show (!(decide (0 ≤ x.n) && decide (x.n < 4096))) = true by simp; omega, cond_true, ay]; rfl
  refine key.trans ?_
  by_cases ho : OkE b.Start b.Size last x
  ·
   rw [if_pos ho, fo (by omega), kQ b hs l (i + 1) n _ h2 (by omega)]
   congr 1
   simp only [OkL, ho, true_and]
  ·
   rw [if_neg ho, if_neg (fun q => ho q.1)]

theorem check_e (b : Reorder) (hs : b.Held.length < 4611686018427387904) : ee b = some (if VR b then 0 else 8) := by
 unfold ee eD ea di
 rw [ay, ay]
 have hl := kQ b hs b.Held 0 big 0 rfl (eQ hs)
 simp only [Int.natCast_zero] at hl
 by_cases h : mQ b
 ·
  obtain ⟨⟨a1, a2⟩, a3, a4, a5, a6, a7, a8⟩ := h
  rw [decide_eq_true a1, decide_eq_true a2, decide_eq_false (by omega), decide_eq_false (by omega), decide_eq_false (by omega), decide_eq_false (by omega), decide_eq_true a7, decide_eq_true a8]
  simp only [Bool.and_self, Bool.not_true, Bool.or_self, cond_false, ay]
  rw [show ((0 : Int) != 0) = false from rfl, cond_false, hl, ay]
  by_cases ho : OkL b.Start b.Size 0 b.Held
  ·
   rw [if_pos ho, if_pos ⟨⟨⟨a1, a2⟩, a3, a4, a5, a6, a7, a8⟩, ho⟩]; rfl
  ·
   rw [if_neg ho, if_neg (fun q => ho q.2)]; rfl
 ·
  rw [if_neg (fun q => h q.1)]
  by_cases h1 : (((((!(decide (0 ≤ b.Start) && decide (b.Start < 4096))) || decide (b.Size < 1)) || decide (64 < b.Size)) || decide (b.Hold < 0)) || decide (16777216 < b.Hold)) = true
  ·
   rw [h1, cond_true, ay]; rfl
  ·
   rw [Bool.not_eq_true] at h1
   rw [h1, cond_false]
   simp only [Bool.or_eq_false_iff, Bool.not_eq_false', Bool.and_eq_true, decide_eq_true_eq, decide_eq_false_iff_not] at h1
   have : (decide (0 ≤ b.Seen.Start) && decide (b.Seen.Start < 4096)) = false := by
    simp only [Bool.and_eq_false_iff, decide_eq_false_iff_not]
    unfold mQ at h
    omega
   rw [this]; rfl

/-! ## Copies, comparisons -/

def Fit (l : List HeldSeq) : Prop := l.length ≤ 1000 ∧ ∀ x ∈ l, x.Frame.Body.length ≤ 2400

theorem mf (L : List HeldSeq) (hs : L.length ≤ 1000) : ∀ (l acc : List HeldSeq) (i n : Nat), L.drop i = l → l.length < n → (∀ x ∈ l, x.Frame.Body.length ≤ 2400) → acc.length + l.length ≤ 1000 →
  dL L n (acc, (i : Int)) = some (acc ++ l)
 | [], acc, i, n + 1, h, hn, hb, ha => by
  rw [dL, gS (jM h)]; simp
 | x :: l, acc, i, n + 1, h, hn, hb, ha => by
  obtain ⟨h1, h2, h3⟩ := ju h
  simp only [List.length_cons] at ha hn
  have hx := hb x (by simp)
  rw [dL, gX h3]
  simp only [cond_true, mq, h1, ay, dO]
  rw [fS (by omega), ay, ay, fS (by omega), ay, fo (by omega), mf L hs l _ (i + 1) n h2 (by omega) (fun y hy => hb y (by simp [hy])) (by simp; omega)]
  simp
theorem o8 (l : List HeldSeq) (h : Fit l) : eE l = some l := by
 unfold eE
 have := mf l h.1 l [] 0 big rfl (eQ (by have := h.1; omega)) h.2 (by simpa using h.1)
 simp only [Int.natCast_zero, List.nil_append] at this
 rw [this, ay]
end Go.AX.Z.TN.R

/-! (TNB) -/

set_option linter.unusedVariables false
set_option linter.unusedSimpArgs false
namespace Go.AX.Z.TN.R
open Go.AX

def Sortd (S : Int) (l : List HeldSeq) : Prop := l.Pairwise (fun x y => aE S x.n < aE S y.n) ∧ ∀ x ∈ l, 0 ≤ x.n ∧ x.n < 4096
theorem Ds {st sz : Int} : ∀ {l : List HeldSeq} {last : Int}, OkL st sz last l → Sortd st l ∧ ∀ x ∈ l, last < aE st x.n ∧ aE st x.n < sz ∧ 0 ≤ x.At ∧ x.At ≤ 1099511627776
 | [], last, _ => ⟨⟨.nil, by simp⟩, by simp⟩
 | h :: l, last, ho => by
  obtain ⟨⟨a1, a2, a3, a4⟩, h2⟩ := ho
  obtain ⟨⟨i1, i2⟩, i3⟩ := Ds h2
  refine ⟨⟨List.pairwise_cons.2 ⟨fun y hy => (i3 y hy).1, i1⟩, fun x hx => ?_⟩, fun x hx => ?_⟩
  ·
   rcases List.mem_cons.1 hx with rfl | hx
   ·
    exact a1
   ·
    exact i2 x hx
  ·
   rcases List.mem_cons.1 hx with rfl | hx
   ·
    exact ⟨a3, a4, a2⟩
   ·
    have := i3 x hx; exact ⟨by omega, this.2⟩
theorem Sortd.tail {S : Int} {h : HeldSeq} {l : List HeldSeq} (hs : Sortd S (h :: l)) : Sortd S l := ⟨(List.pairwise_cons.1 hs.1).2, fun x hx => hs.2 x (by simp [hx])⟩
theorem Sortd.drop {S : Int} {l : List HeldSeq} (hs : Sortd S l) (i : Nat) : Sortd S (l.drop i) := ⟨hs.1.sublist (List.drop_sublist _ _), fun x hx => hs.2 x (List.mem_of_mem_drop hx)⟩
theorem Sortd.idx {S : Int} {l : List HeldSeq} (hs : Sortd S l) {i j : Nat} {x y : HeldSeq} (hij : i < j) (hx : l[i]? = some x) (hy : l[j]? = some y) : aE S x.n < aE S y.n := by
 obtain ⟨h1, e1⟩ := List.getElem?_eq_some_iff.1 hx
 obtain ⟨h2, e2⟩ := List.getElem?_eq_some_iff.1 hy
 have := List.pairwise_iff_getElem.1 hs.1 i j h1 h2 hij
 rw [e1, e2] at this; exact this

theorem FI {S n m : Int} (hn : 0 ≤ n ∧ n < 4096) (hm : 0 ≤ m ∧ m < 4096) : n = (S + m) % 4096 ↔ aE S n = m := by
 unfold aE; omega

def Cut (S t : Int) (l : List HeldSeq) (i : Nat) : Prop := i ≤ l.length ∧ (∀ k x, k < i → l[k]? = some x → aE S x.n < t) ∧ (∀ k x, i ≤ k → l[k]? = some x → t ≤ aE S x.n)

theorem ye (b : Reorder) (L : List HeldSeq) (hL : L.length ≤ 1000) (t : Int) (ht : 0 ≤ t ∧ t < 4096) (hs : Sortd b.Start L) : ∀ (m i j n : Nat), j - i ≤ m → i ≤ j → j ≤ L.length → m < n → (∀ k x, k < i → L[k]? = some x → aE b.Start x.n < t) → (∀ k x, j ≤ k → L[k]? = some x → t ≤ aE b.Start x.n) →
  ∃ r : Nat, aL L t b n ((i : Int), (j : Int)) = some (r : Int) ∧ Cut b.Start t L r
 | 0, i, j, n + 1, hm, hij, hj, hn, h1, h2 => by
  have e : i = j := by omega
  subst e
  rw [aL, decide_eq_false (by simp), cond_false]
  exact ⟨i, rfl, hj, h1, h2⟩
 | m + 1, i, j, n + 1, hm, hij, hj, hn, h1, h2 => by
  rw [aL]
  by_cases hlt : i < j
  ·
   have ehe : IntKind.wrap .i64 ((IntKind.wrap .u64 (IntKind.wrap .i64 ((i : Int) + (j : Int)))).fdiv (2 ^ (min 1 64))) = (((i + j) / 2 : Nat) : Int) := by
    rw [kw (i := (i : Int) + (j : Int)) (by omega) (by omega)]
    have : IntKind.wrap .u64 ((i : Int) + (j : Int)) = (i : Int) + (j : Int) := by
     rw [no]; omega
    rw [this, show ((2 : Int) ^ (min 1 64)) = 2 from rfl, Int.fdiv_eq_ediv_of_nonneg _ (by decide), kw (by omega) (by omega)]; omega
   have hh : (i + j) / 2 < L.length := by omega
   obtain ⟨x, hx⟩ : ∃ x, L[(i + j) / 2]? = some x := ⟨_, List.getElem?_eq_getElem hh⟩
   have hd := fN b.Start x.Frame.Head.Seq
   rw [decide_eq_true (by simp; omega), cond_true]
   simp only [ehe]
   rw [mq, hx, ay]
   unfold eT
   rw [iE, ay, ay, kw (by omega) (by omega)]
   by_cases hxt : aE b.Start x.n < t
   ·
    rw [decide_eq_true (by show aE b.Start x.Frame.Head.Seq - t < 0; have : aE b.Start x.Frame.Head.Seq < t := hxt; omega), cond_true, fo (by omega)]
    refine ye b L hL t ht hs m ((i + j) / 2 + 1) j n (by omega) (by omega) hj (by omega) (fun k y hk hy => ?_) h2
    rcases Nat.lt_or_ge k ((i + j) / 2) with q | q
    ·
     have := hs.idx q hy hx; omega
    ·
     have : k = (i + j) / 2 := by omega
     subst this; rw [hx] at hy; cases hy; exact hxt
   ·
    rw [decide_eq_false (by show ¬ aE b.Start x.Frame.Head.Seq - t < 0; have : ¬ aE b.Start x.Frame.Head.Seq < t := hxt; omega), cond_false]
    refine ye b L hL t ht hs m i ((i + j) / 2) n (by omega) (by omega) (by omega) (by omega) h1 (fun k y hk hy => ?_)
    rcases Nat.lt_or_ge ((i + j) / 2) k with q | q
    ·
     have := hs.idx q hx hy; omega
    ·
     have : k = (i + j) / 2 := by omega
     subst this; rw [hx] at hy; cases hy; omega
  ·
   have e : i = j := by omega
   subst e
   rw [decide_eq_false (by simp), cond_false]
   exact ⟨i, rfl, hj, h1, h2⟩

theorem yl (b : Reorder) (hL : b.Held.length ≤ 1000) (hs : Sortd b.Start b.Held) (n : Int) : ∃ r : Nat, fY b n = some ((r : Int), decide (∃ x ∈ b.Held, aE b.Start x.n = aE b.Start n)) ∧ Cut b.Start (aE b.Start n) b.Held r := by
 unfold fY bF
 obtain ⟨r, e1, e2⟩ := ye b b.Held hL (aE b.Start n) (fN _ _) hs b.Held.length 0 b.Held.length big (by omega) (by omega) (Nat.le_refl _) (eQ (by omega)) (fun k x hk => by omega) (fun k x hk hx => by have := (List.getElem?_eq_some_iff.1 hx).1; omega)
 simp only [Int.natCast_zero] at e1
 rw [iE, ay, e1, ay]
 refine ⟨r, ?_, e2⟩
 obtain ⟨c1, c2, c3⟩ := e2
 by_cases hr : r < b.Held.length
 ·
  obtain ⟨x, hx⟩ : ∃ x, b.Held[r]? = some x := ⟨_, List.getElem?_eq_getElem hr⟩
  have hd := fN b.Start x.Frame.Head.Seq
  have hd2 := fN b.Start n
  rw [gX hr, cond_true, mq, hx, ay]
  unfold eT
  rw [iE, ay, ay, kw (by omega) (by omega), ay]
  show some (_, _) = _
  congr 2
  rw [Bool.eq_iff_iff, decide_eq_true_eq, beq_iff_eq]
  constructor
  ·
   intro h
   exact ⟨x, List.mem_of_getElem? hx, by show aE b.Start x.Frame.Head.Seq = _; omega⟩
  ·
   rintro ⟨y, hy, h⟩
   obtain ⟨k, hk⟩ := List.mem_iff_getElem?.1 hy
   have hxr := c3 r x (Nat.le_refl _) hx
   rcases Nat.lt_trichotomy k r with q | q | q
   ·
    have := c2 k y q hk; omega
   ·
    subst q; rw [hx] at hk; cases hk
    show aE b.Start x.Frame.Head.Seq - _ = 0
    have : aE b.Start x.Frame.Head.Seq = aE b.Start n := h
    omega
   ·
    have := hs.idx q hx hk; omega
 ·
  rw [gS (by omega), cond_false, ay]
  show some (_, _) = _
  congr 2
  symm
  rw [decide_eq_false_iff_not]
  rintro ⟨y, hy, h⟩
  obtain ⟨k, hk⟩ := List.mem_iff_getElem?.1 hy
  have hkl := (List.getElem?_eq_some_iff.1 hk).1
  have := c2 k y (by omega) hk
  omega

def relF (S : Int) : Int → List HeldSeq → Int × List Frame × List HeldSeq
 | m, [] => (m, [], [])
 | m, h :: r => if aE S h.n = m then ((relF S (m + 1) r).1, h.Frame :: (relF S (m + 1) r).2.1, (relF S (m + 1) r).2.2) else (m, [], h :: r)

theorem zC (S : Int) : ∀ (l : List HeldSeq) (m : Int), (relF S m l).2.1.length + (relF S m l).2.2.length = l.length ∧ (relF S m l).1 = m + (relF S m l).2.1.length
 | [], m => by simp [relF]
 | h :: r, m => by
  unfold relF
  have := zC S r (m + 1)
  split
  ·
   simp only [List.length_cons]; omega
  ·
   simp
theorem KW (S : Int) : ∀ (l : List HeldSeq) (m : Int) (n : Nat) (b : Reorder) (out : List Frame), Sortd S l → 0 ≤ m → (∀ x ∈ l, m ≤ aE S x.n) → b.Start = (S + m) % 4096 → l.length < n → out.length + l.length ≤ 1000 →
  dP n (b, l, out) = some ({ b with Start := (S + (relF S m l).1) % 4096 }, (relF S m l).2.2, out ++ (relF S m l).2.1)
 | [], m, n + 1, b, out, hs, h0, hm, hb, hn, ho => by
  rw [dP]
  simp only [List.length_nil, Int.natCast_zero, relF, List.append_nil]
  rw [decide_eq_false (by omega), cond_false, ay, cond_false, ← hb]
 | h :: r, m, n + 1, b, out, hs, h0, hm, hb, hn, ho => by
  have hd := fN S h.n
  have hh := hm h (by simp)
  have hr := hs.2 h (by simp)
  rw [dP]
  simp only [List.length_cons] at hn ho ⊢
  rw [decide_eq_true (by omega), cond_true, KD, List.getElem?_cons_zero, ay, ay]
  have hiff : (h.Frame.Head.Seq == b.Start) = decide (aE S h.n = m) := by
   rw [Bool.eq_iff_iff, beq_iff_eq, decide_eq_true_eq, hb]
   exact FI hr ⟨h0, by omega⟩
  rw [hiff]
  unfold relF
  by_cases he : aE S h.n = m
  ·
   rw [decide_eq_true he, cond_true, if_pos he, ay, fS (by omega), ay, Ah, ay, fS (by omega), ay, List.drop_succ_cons, List.drop_zero]
   have hp := (List.pairwise_cons.1 hs.1).1
   rw [KW S r (m + 1) n _ _ hs.tail (by omega) (fun y hy => by have := hp y hy; omega) (by simp only [hb]; omega) (by omega) (by simp; omega)]
   simp
  ·
   rw [decide_eq_false he, cond_false, if_neg he, ← hb]; simp

theorem J1 (b : Reorder) (i : Nat) (hi : i ≤ b.Held.length) (hL : b.Held.length ≤ 1000) : ∀ (d k n : Nat) (out : List Frame), k + d = i → d < n → out.length ≤ k → dM b n (out, i, (i : Int), (k : Int)) = some (out ++ ((b.Held.take i).drop k).map (·.Frame))
 | 0, k, n + 1, out, hk, hn, ho => by
  rw [dM, decide_eq_false (by simp only; omega), cond_false, List.drop_of_length_le (by rw [List.length_take]; omega)]
  simp
 | d + 1, k, n + 1, out, hk, hn, ho => by
  obtain ⟨x, hx⟩ : ∃ x, b.Held[k]? = some x := ⟨_, List.getElem?_eq_getElem (by omega)⟩
  rw [dM, decide_eq_true (by simp only; omega), cond_true, ww (by simp only [decide_eq_true_eq] <;> omega), ay]
  simp only
  rw [mq, hx, ay, fS (by omega), ay, fo (by omega), J1 b i hi hL d (k + 1) n _ (by omega) (by omega) (by simp; omega)]
  have : (b.Held.take i).drop k = x :: (b.Held.take i).drop (k + 1) := by
   have hlt : k < (b.Held.take i).length := by rw [List.length_take]; omega
   rw [List.drop_eq_getElem_cons hlt]
   congr 1
   have := (List.getElem?_eq_some_iff.1 hx).2
   rw [List.getElem_take, this]
  rw [this]; simp

def mv (S t : Int) (l : List HeldSeq) (i : Nat) : Int × List Frame × List HeldSeq := ((relF S t (l.drop i)).1, (l.take i).map (·.Frame) ++ (relF S t (l.drop i)).2.1, (relF S t (l.drop i)).2.2)

theorem vR {S t : Int} {l : List HeldSeq} {i : Nat} (h : Cut S t l i) : ∀ x ∈ l.drop i, t ≤ aE S x.n := by
 intro x hx
 obtain ⟨k, hk⟩ := List.mem_iff_getElem?.1 hx
 rw [List.getElem?_drop] at hk
 exact h.2.2 (i + k) x (by omega) hk
theorem DN {S t : Int} {l : List HeldSeq} {i : Nat} (h : Cut S t l i) : ∀ x ∈ l.take i, aE S x.n < t := by
 intro x hx
 obtain ⟨k, hk⟩ := List.mem_iff_getElem?.1 hx
 rw [List.getElem?_take] at hk
 split at hk
 ·
  rename_i hki; exact h.2.1 k x hki hk
 ·
  cases hk

theorem zk (b : Reorder) (hL : b.Held.length ≤ 1000) (hs : Sortd b.Start b.Held) (to : Int) (ht : 0 ≤ to ∧ to < 4096) : ∃ i : Nat, Cut b.Start (aE b.Start to) b.Held i ∧
  eC b to = some ((mv b.Start (aE b.Start to) b.Held i).2.1, { b with Start := (b.Start + (mv b.Start (aE b.Start to) b.Held i).1) % 4096 }, (mv b.Start (aE b.Start to) b.Held i).2.2) := by
 obtain ⟨i, e1, e2⟩ := yl b hL hs to
 refine ⟨i, e2, ?_⟩
 have hi := e2.1
 have hd := fN b.Start to
 unfold eC
 have h2 := J1 b i hi hL i 0 big [] (by omega) (eQ (by omega)) (by simp)
 simp only [Int.natCast_zero, List.nil_append, List.drop_zero] at h2
 simp only [e1, ay, Int.toNat_natCast]
 rw [ww (by simp; omega), ay, h2, ay, ay]
 have h5 := KW b.Start (b.Held.drop i) (aE b.Start to) big { b with Start := to } ((b.Held.take i).map (·.Frame)) (hs.drop i) hd.1 (vR e2) (by simp only; unfold aE; omega) (eQ (by simp; omega)) (by simp; omega)
 rw [h5, ay]; rfl


end Go.AX.Z.TN.R

/-! (TNC) -/

set_option linter.unusedVariables false
set_option linter.unusedSimpArgs false
namespace Go.AX.Z.TN.R
open Go.AX

theorem u6 (n : Int) : di n = some (decide (0 ≤ n ∧ n < 4096)) := by
 unfold di; congr 1
 rw [Bool.eq_iff_iff]; simp
theorem Au (n : Int) : eo n = some (decide (0 ≤ n ∧ n ≤ 1099511627776)) := by
 unfold eo; congr 1
 rw [Bool.eq_iff_iff]; simp
theorem VR.sortd {b : Reorder} (h : VR b) : Sortd b.Start b.Held := (Ds h.2).1
theorem VR.held {b : Reorder} (h : VR b) : ∀ x ∈ b.Held, 0 < aE b.Start x.n ∧ aE b.Start x.n < b.Size ∧ 0 ≤ x.At ∧ x.At ≤ 1099511627776 := (Ds h.2).2

def due (hold now : Int) (x : HeldSeq) : Bool := decide (x.At + hold ≤ now)
/-- The last one that is due. -/
def ld (hold now : Int) (l : List HeldSeq) : Option HeldSeq := (l.filter (due hold now)).getLast?
theorem ld_mem {hold now : Int} {l : List HeldSeq} {x : HeldSeq} (h : ld hold now l = some x) : x ∈ l ∧ due hold now x = true := by
 have := List.mem_of_getLast? h
 exact List.mem_filter.1 this
theorem GB (hold now : Int) (l : List HeldSeq) (x : HeldSeq) : ld hold now (l ++ [x]) = if due hold now x = true then some x else ld hold now l := by
 unfold ld
 rw [List.filter_append, List.filter_cons, List.filter_nil]
 split
 ·
  simp
 ·
  simp
theorem KZ (hold now : Int) (x : HeldSeq) (l : List HeldSeq) : ld hold now (x :: l) = match ld hold now l with | some y => some y | none => if due hold now x = true then some x else none := by
 unfold ld
 rw [List.filter_cons]
 split
 ·
  rename_i h
  cases hl : (l.filter (due hold now)).getLast? with
  | none =>
   have : l.filter (due hold now) = [] := List.getLast?_eq_none_iff.1 hl
   rw [this]; rfl
  | some y =>
   rw [List.getLast?_cons, hl]; rfl
 ·
  cases hl : (l.filter (due hold now)).getLast? with
  | none => rfl
  | some y => rfl

theorem Dr (b : Reorder) (now : Int) (hv : VR b) : ∀ c, c ≤ b.Held.length → cR b now b.Held c = match ld b.Hold now (b.Held.take c) with
  | some x => ((eL x.Frame.Head.Seq 1).bind fun y => ((eC { b with Held := b.Held } y).bind fun z => some (Ex.ret (z.1, { z.2.1 with Held := z.2.2 }, 0))))
  | none => some (Ex.go ())
 | 0, _ => by rw [cR, List.take_zero]; rfl
 | c + 1, hc => by
  have hlt : c < b.Held.length := by omega
  obtain ⟨x, hx⟩ : ∃ x, b.Held[c]? = some x := ⟨_, List.getElem?_eq_getElem hlt⟩
  have e : b.Held.take (c + 1) = b.Held.take c ++ [x] := by
   rw [List.take_add_one, hx]; rfl
  have hb := hv.held x (List.mem_of_getElem? hx)
  have hh := hv.1
  rw [cR, hx, ay, e, GB, kw (i := x.At + b.Hold) (by unfold mQ at hh; omega) (by unfold mQ at hh; omega)]
  unfold due
  by_cases hd : x.At + b.Hold ≤ now
  ·
   rw [decide_eq_true hd, cond_true, if_pos rfl]
  ·
   rw [decide_eq_false hd, cond_false, if_neg (by decide), Dr b now hv c (by omega)]

theorem report_e (b : Reorder) (hL : b.Held.length ≤ 1000) : fy b = some (if VR b then (b.Seen, 0) else (Window.z, 8)) := by
 unfold fy
 rw [check_e b (by omega), ay]
 by_cases hv : VR b
 ·
  rw [if_pos hv, if_pos hv]; rfl
 ·
  rw [if_neg hv, if_neg hv]; rfl

def okN (n : Int) : Prop := 0 ≤ n ∧ n < 4096
instance (n : Int) : Decidable (okN n) := by unfold okN; infer_instance
theorem xO (n : Int) : ea n = some (decide (0 ≤ n ∧ n < 4096)) := by
 unfold ea; congr 1
 rw [Bool.eq_iff_iff]; simp
theorem pv {w : Window} {n : Int} (hw : okN w.Start) (hn : okN n) : eV w n = some 0 := by
 unfold eV eD
 rw [xO, ay, decide_eq_true (show 0 ≤ w.Start ∧ w.Start < 4096 from hw), Bool.not_true, cond_false, ay, xO, bne_self_eq_false, cond_false, ay, decide_eq_true (show 0 ≤ n ∧ n < 4096 from hn)]; rfl
/-- Marked. -/
def mrk (B d : Int) : Int := bor .u64 B (IntKind.wrap .u64 (1 * 2 ^ (min (d).toNat 64)))
theorem Ei {w : Window} {n : Int} (hw : okN w.Start) (hn : okN n) (hd : aE w.Start n < 64) : jW w n = some ({ w with Bits := mrk w.Bits (aE w.Start n) }, 0) := by
 unfold jW
 have := fN w.Start n
 rw [pv hw hn, ay, bne_self_eq_false, cond_false, iE, ay, decide_eq_false (by omega), cond_false, fS (by omega), ay]; rfl
theorem uL {S : Int} : ∀ {l : List HeldSeq} {lo hi : Int}, Sortd S l → (∀ x ∈ l, lo < aE S x.n ∧ aE S x.n < hi) → lo < hi → (l.length : Int) < hi - lo
 | [], lo, hi, _, _, h => by simp; omega
 | x :: l, lo, hi, hs, hb, h => by
  have hp := (List.pairwise_cons.1 hs.1).1
  have hx := hb x (by simp)
  have := uL (lo := aE S x.n) (hi := hi) hs.tail (fun y hy => ⟨hp y hy, (hb y (by simp [hy])).2⟩) hx.2
  simp only [List.length_cons]; omega
theorem held_len {b : Reorder} (hv : VR b) : b.Held.length ≤ 70 := by
 have ho := hv.1
 unfold mQ at ho
 have := uL (lo := 0) (hi := b.Size) hv.sortd (fun x hx => by have := hv.held x hx; omega) (by omega)
 omega


theorem Kp (l : List HeldSeq) (i : Nat) (hi : i ≤ l.length) (hL : l.length ≤ 1000) (x : HeldSeq) : bP (i : Int) l [x] = some (l.take i ++ [x] ++ l.drop i) := by
 unfold bP
 rw [ww (by simp; omega), ay, show (((([x] : List HeldSeq).length : Nat) : Int) == 0) = false from rfl, cond_false]
 by_cases h : i = l.length
 ·
  subst h
  rw [beq_self_eq_true, cond_true, fS (by simp; omega), ay, List.take_length, List.drop_length, List.append_nil]
 ·
  rw [show (((i : Int)) == ((l.length : Nat) : Int)) = false by rw [beq_eq_false_iff_ne]; omega, cond_false, ww (by simp; omega), ay, Int.toNat_natCast]

theorem Bt {S d : Int} {l : List HeldSeq} {i : Nat} (hs : Sortd S l) (hc : Cut S d l i) {x : HeldSeq} (hx : aE S x.n = d) (hn : okN x.n) (hf : ¬ ∃ y ∈ l, aE S y.n = d) : Sortd S (l.take i ++ [x] ++ l.drop i) := by
 refine ⟨?_, fun y hy => ?_⟩
 ·
  rw [List.append_assoc, List.pairwise_append]
  refine ⟨hs.1.sublist (List.take_sublist _ _), ?_, fun y hy z hz => ?_⟩
  ·
   rw [List.singleton_append, List.pairwise_cons]
   refine ⟨fun y hy => ?_, hs.1.sublist (List.drop_sublist _ _)⟩
   have h1 := vR hc y hy
   have h2 : aE S y.n ≠ d := fun e => hf ⟨y, List.mem_of_mem_drop hy, e⟩
   omega
  ·
   have h1 := DN hc y hy
   rcases List.mem_cons.1 hz with rfl | hz
   ·
    omega
   ·
    have := vR hc z hz; omega
 ·
  simp only [List.mem_append, List.mem_singleton] at hy
  rcases hy with (hy | rfl) | hy
  ·
   exact hs.2 y (List.mem_of_mem_take hy)
  ·
   exact hn
  ·
   exact hs.2 y (List.mem_of_mem_drop hy)


/-! ## Moving, as a function -/

theorem nd {S t : Int} : ∀ {l : List HeldSeq} {i : Nat}, Cut S t l i → l.take i = l.filter (fun x => decide (aE S x.n < t)) ∧ l.drop i = l.filter (fun x => !decide (aE S x.n < t))
 | [], i, h => by simp
 | x :: l, 0, h => by
  have h1 : ∀ y ∈ x :: l, ¬ aE S y.n < t := fun y hy => by
   obtain ⟨k, hk⟩ := List.mem_iff_getElem?.1 hy
   have := h.2.2 k y (Nat.zero_le _) hk
   omega
  refine ⟨?_, ?_⟩
  ·
   rw [List.take_zero]; exact (List.filter_eq_nil_iff.2 fun y hy => by simpa using h1 y hy).symm
  ·
   rw [List.drop_zero]; exact (List.filter_eq_self.2 fun y hy => by simpa using h1 y hy).symm
 | x :: l, i + 1, h => by
  have hx : aE S x.n < t := h.2.1 0 x (by omega) rfl
  have h' : Cut S t l i := ⟨by have := h.1; simp at this; omega, fun k y hk hy => h.2.1 (k + 1) y (by omega) (by simpa using hy), fun k y hk hy => h.2.2 (k + 1) y (by omega) (by simpa using hy)⟩
  obtain ⟨e1, e2⟩ := nd h'
  simp [hx, e1, e2]

def pre (b : Reorder) (t : Int) : List HeldSeq := b.Held.filter fun x => decide (aE b.Start x.n < t)
def post (b : Reorder) (t : Int) : List HeldSeq := b.Held.filter fun x => !decide (aE b.Start x.n < t)
/-- What moving gives. -/
def mvF (b : Reorder) (t : Int) : List Frame × Reorder :=
 ((pre b t).map (·.Frame) ++ (relF b.Start t (post b t)).2.1, { b with Start := (b.Start + (relF b.Start t (post b t)).1) % 4096, Held := (relF b.Start t (post b t)).2.2 })
theorem Ee (b : Reorder) (hL : b.Held.length ≤ 1000) (hs : Sortd b.Start b.Held) (to : Int) (ht : 0 ≤ to ∧ to < 4096) :
  ∃ z, eC b to = some z ∧ z.1 = (mvF b (aE b.Start to)).1 ∧ { z.2.1 with Held := z.2.2 } = (mvF b (aE b.Start to)).2 := by
 obtain ⟨i, hc, e⟩ := zk b hL hs to ht
 obtain ⟨e1, e2⟩ := nd hc
 refine ⟨_, e, ?_, ?_⟩
 ·
  simp only [mvF, mv, pre, post, e1, e2]
 ·
  simp only [mvF, mv, pre, post, e1, e2]
theorem Ck (S : Int) (l : List HeldSeq) (m : Int) : (relF S m l).2.1.length ≤ l.length ∧ (relF S m l).2.2.length ≤ l.length := by
 have := zC S l m
 omega
theorem FQ (b : Reorder) (t : Int) : (mvF b t).1.length ≤ b.Held.length + b.Held.length ∧ (mvF b t).2.Held.length ≤ b.Held.length := by
 have h1 : (pre b t).length ≤ b.Held.length := List.length_filter_le _ _
 have h2 : (post b t).length ≤ b.Held.length := List.length_filter_le _ _
 have h3 := Ck b.Start (post b t) t
 simp only [mvF, List.length_append, List.length_map]
 omega
theorem zP (S : Int) : ∀ (l : List HeldSeq) (m : Int), (∀ f ∈ (relF S m l).2.1, ∃ x ∈ l, f = x.Frame) ∧ ∀ x ∈ (relF S m l).2.2, x ∈ l
 | [], m => by simp [relF]
 | h :: r, m => by
  unfold relF
  obtain ⟨a, b⟩ := zP S r (m + 1)
  split
  ·
   refine ⟨fun f hf => ?_, fun x hx => List.mem_cons_of_mem _ (b x hx)⟩
   rcases List.mem_cons.1 hf with rfl | hf
   ·
    exact ⟨h, by simp, rfl⟩
   ·
    obtain ⟨x, hx, e⟩ := a f hf; exact ⟨x, List.mem_cons_of_mem _ hx, e⟩
  ·
   simp
theorem mvF_mem (b : Reorder) (t : Int) : (∀ f ∈ (mvF b t).1, ∃ x ∈ b.Held, f = x.Frame) ∧ ∀ x ∈ (mvF b t).2.Held, x ∈ b.Held := by
 have hp : ∀ x ∈ post b t, x ∈ b.Held := fun x hx => (List.mem_filter.1 hx).1
 obtain ⟨a, c⟩ := zP b.Start (post b t) t
 refine ⟨fun f hf => ?_, fun x hx => hp x (c x hx)⟩
 simp only [mvF, List.mem_append, List.mem_map] at hf
 rcases hf with ⟨x, hx, rfl⟩ | hf
 ·
  exact ⟨x, (List.mem_filter.1 hx).1, rfl⟩
 ·
  obtain ⟨x, hx, e⟩ := a f hf; exact ⟨x, hp x hx, e⟩

/-! ## Bar, Expire -/

abbrev Res := List Frame × Reorder × Int
def barF (b : Reorder) (n : Int) : Res :=
 if VR b then (if okN n then (if 2048 ≤ aE b.Start n then ([], b, 0) else ((mvF b (aE b.Start n)).1, (mvF b (aE b.Start n)).2, 0)) else ([], Reorder.z, 2)) else ([], Reorder.z, 8)
theorem bar_e (b : Reorder) (hf : Fit b.Held) (n : Int) : iV b n = some (barF b n) := by
 unfold iV barF
 have hL := hf.1
 rw [check_e b (by omega), ay]
 by_cases hv : VR b
 ·
  rw [if_pos hv, if_pos hv, bne_self_eq_false, cond_false, u6, ay]
  by_cases hn : okN n
  ·
   rw [if_pos hn, decide_eq_true (show 0 ≤ n ∧ n < 4096 from hn), Bool.not_true, cond_false, o8 _ hf, ay, iE, ay]
   by_cases hd : 2048 ≤ aE b.Start n
   ·
    rw [decide_eq_true hd, cond_true, if_pos hd]
   ·
    obtain ⟨z, z1, z2, z3⟩ := Ee b hL hv.sortd n hn
    rw [decide_eq_false hd, cond_false, if_neg hd, show ({ b with Held := b.Held } : Reorder) = b from rfl, z1, ay, z2, ← z3]
  ·
   rw [if_neg hn, decide_eq_false (show ¬ (0 ≤ n ∧ n < 4096) from hn)]; rfl
 ·
  rw [if_neg hv, if_neg hv]; rfl

def expF (b : Reorder) (now : Int) : Res :=
 if VR b then (if 0 ≤ now ∧ now ≤ 1099511627776 then (match ld b.Hold now b.Held with | some x => ((mvF b (aE b.Start ((x.n + 1) % 4096))).1, (mvF b (aE b.Start ((x.n + 1) % 4096))).2, 0) | none => ([], b, 0)) else ([], Reorder.z, 2)) else ([], Reorder.z, 8)
theorem expire_e (b : Reorder) (hf : Fit b.Held) (now : Int) : dI b now = some (expF b now) := by
 unfold dI expF
 have hL := hf.1
 rw [check_e b (by omega), ay]
 by_cases hv : VR b
 ·
  rw [if_pos hv, if_pos hv, bne_self_eq_false, cond_false, Au, ay]
  by_cases hn : 0 ≤ now ∧ now ≤ 1099511627776
  ·
   rw [if_pos hn, decide_eq_true hn, Bool.not_true, cond_false, o8 _ hf, ay, fS (by omega), ay, Dr b now hv _ (Nat.le_refl _), List.take_length]
   cases hld : ld b.Hold now b.Held with
   | none => rfl
   | some x =>
    obtain ⟨z, z1, z2, z3⟩ := Ee b hL hv.sortd ((x.n + 1) % 4096) (by omega)
    simp only
    rw [Ah, ay, show ({ b with Held := b.Held } : Reorder) = b from rfl, show (x.Frame.Head.Seq + 1) % 4096 = (x.n + 1) % 4096 from rfl, z1, ay, ay, Ex.k_ret', z2, ← z3]
  ·
   rw [if_neg hn, decide_eq_false hn]; rfl
 ·
  rw [if_neg hv, if_neg hv]; rfl

/-! ## Put -/

def noteF (w : Window) (n : Int) : Window :=
 if 2048 ≤ aE w.Start n then w else
 if 64 ≤ aE w.Start n then { Bits := mrk (w.Bits.fdiv (2 ^ (min (aE w.Start n - 63).toNat 64))) 63, Start := (n + (-63)) % 4096 }
 else { w with Bits := mrk w.Bits (aE w.Start n) }
theorem JE {w : Window} {n : Int} (hw : okN w.Start) (hn : okN n) : i7 w n = some (noteF w n) := by
 unfold i7 noteF
 have hd := fN w.Start n
 rw [iE, ay]
 by_cases h : 2048 ≤ aE w.Start n
 ·
  rw [decide_eq_true h, cond_true, if_pos h]
 ·
  rw [decide_eq_false h, cond_false, if_neg h]
  by_cases h2 : 64 ≤ aE w.Start n
  ·
   have hx : okN ((n + (-63)) % 4096) := by unfold okN; omega
   have e1 : aE w.Start ((n + (-63)) % 4096) = aE w.Start n - 63 := by unfold aE at h h2 ⊢; omega
   have e2 : aE ((n + (-63)) % 4096) n = 63 := by unfold okN at hn; unfold aE; omega
   have hm : jZ w ((n + (-63)) % 4096) = some ({ Window.z with Bits := (w.Bits).fdiv (2 ^ (min (aE w.Start n - 63).toNat 64)), Start := (n + (-63)) % 4096 }, 0) := by
    unfold jZ
    rw [pv hw hx, ay, bne_self_eq_false, cond_false, iE, e1, ay, decide_eq_true (by omega), cond_true, fS (by omega), ay]
   rw [decide_eq_true h2, cond_true, if_pos h2, Ah, ay, hm, ay, ay, Ei (w := { Window.z with Bits := (w.Bits).fdiv (2 ^ (min (aE w.Start n - 63).toNat 64)), Start := (n + (-63)) % 4096 }) hx hn (by simp only [e2]; omega), ay]
   simp only [e2]
  ·
   rw [decide_eq_false h2, cond_false, if_neg h2, ay, Ei hw hn (by omega), ay]

def insF (b : Reorder) (x : HeldSeq) : List HeldSeq := pre b (aE b.Start x.n) ++ [x] ++ post b (aE b.Start x.n)
def toF (b : Reorder) (n : Int) : Int := if b.Size ≤ aE b.Start n then (n + (1 - b.Size)) % 4096 else b.Start
def putB (b : Reorder) (x : HeldSeq) : Reorder := { b with Held := insF b x, Seen := noteF b.Seen x.n }
def putF (b : Reorder) (f : Frame) (now : Int) : Res :=
 if VR b then (if (0 ≤ now ∧ now ≤ 1099511627776) ∧ okN f.Head.Seq then
  (if 2048 ≤ aE b.Start f.Head.Seq ∨ ∃ x ∈ b.Held, aE b.Start x.n = aE b.Start f.Head.Seq then ([], Reorder.z, 21) else
   ((mvF (putB b ⟨now, f⟩) (aE b.Start (toF b f.Head.Seq))).1, (mvF (putB b ⟨now, f⟩) (aE b.Start (toF b f.Head.Seq))).2, 0))
  else ([], Reorder.z, 2)) else ([], Reorder.z, 8)
theorem insF_sorted {b : Reorder} {x : HeldSeq} (hs : Sortd b.Start b.Held) (hL : b.Held.length ≤ 1000) (hn : okN x.n) (hf : ¬ ∃ y ∈ b.Held, aE b.Start y.n = aE b.Start x.n) : Sortd b.Start (insF b x) := by
 obtain ⟨i, e, hc⟩ := yl b hL hs x.n
 obtain ⟨e1, e2⟩ := nd hc
 have := Bt hs hc rfl hn hf
 unfold insF pre post
 rw [← e1, ← e2]; exact this
theorem An (b : Reorder) (x : HeldSeq) : (insF b x).length ≤ b.Held.length + b.Held.length + 1 := by
 have h1 : (pre b (aE b.Start x.n)).length ≤ b.Held.length := List.length_filter_le _ _
 have h2 : (post b (aE b.Start x.n)).length ≤ b.Held.length := List.length_filter_le _ _
 simp only [insF, List.length_append, List.length_cons, List.length_nil]; omega
theorem put_e (b : Reorder) (hf : Fit b.Held) (f : Frame) (hfb : f.Body.length ≤ 2400) (now : Int) : iK b f now = some (putF b f now) := by
 unfold iK putF
 have hL := hf.1
 rw [check_e b (by omega), ay]
 by_cases hv : VR b
 ·
  have h70 := held_len hv
  have ho := hv.1
  unfold mQ at ho
  rw [if_pos hv, if_pos hv, bne_self_eq_false, cond_false, Au, ay]
  by_cases hn : 0 ≤ now ∧ now ≤ 1099511627776
  ·
   rw [decide_eq_true hn, Bool.not_true, cond_false, u6, ay, ay]
   by_cases hq : okN f.Head.Seq
   ·
    obtain ⟨i, pe, hc⟩ := yl b hL hv.sortd f.Head.Seq
    obtain ⟨c1, c2⟩ := nd hc
    rw [decide_eq_true (show 0 ≤ f.Head.Seq ∧ f.Head.Seq < 4096 from hq), Bool.not_true, cond_false, if_pos ⟨hn, hq⟩, iE, ay, pe, ay]
    by_cases hd : 2048 ≤ aE b.Start f.Head.Seq ∨ ∃ x ∈ b.Held, aE b.Start x.n = aE b.Start f.Head.Seq
    ·
     have : ((decide (2048 ≤ aE b.Start f.Head.Seq)) || (decide (∃ x ∈ b.Held, aE b.Start x.n = aE b.Start f.Head.Seq))) = true := by simpa using hd
     simp only [this, cond_true, if_pos hd]
    ·
     have : ((decide (2048 ≤ aE b.Start f.Head.Seq)) || (decide (∃ x ∈ b.Held, aE b.Start x.n = aE b.Start f.Head.Seq))) = false := by
      rw [Bool.eq_false_iff]; simpa using hd
     simp only [this, cond_false, if_neg hd]
     have hi := hc.1
     have hw : okN b.Seen.Start := ho.2.2.2.2.2
     rw [JE hw hq, ay, o8 _ hf, ay]
     unfold dO
     rw [fS (by omega), ay, ay, Kp _ _ hi hL, ay]
     have hil : b.Held.take i ++ [({ HeldSeq.z with At := now, Frame := f } : HeldSeq)] ++ b.Held.drop i = insF b ⟨now, f⟩ := by
      unfold insF pre post; rw [c1, c2]
     have hto : (bif decide (b.Size ≤ aE b.Start f.Head.Seq) then ((eL f.Head.Seq (IntKind.wrap .i64 (1 - b.Size))).bind fun x78 => some x78) else some b.Start) = some (toF b f.Head.Seq) := by
      unfold toF
      by_cases hz : b.Size ≤ aE b.Start f.Head.Seq
      ·
       rw [decide_eq_true hz, cond_true, if_pos hz, kw (by omega) (by omega), Ah, ay]
      ·
       rw [decide_eq_false hz, cond_false, if_neg hz]
     have hti : 0 ≤ toF b f.Head.Seq ∧ toF b f.Head.Seq < 4096 := by unfold toF; split <;> omega
     have hnf : ¬ ∃ y ∈ b.Held, aE b.Start y.n = aE b.Start (⟨now, f⟩ : HeldSeq).n := fun h => hd (.inr h)
     have hsr := insF_sorted (x := ⟨now, f⟩) hv.sortd hL hq hnf
     have hil2 := An b ⟨now, f⟩
     rw [hto, ay, hil]
     obtain ⟨z, z1, z2, z3⟩ := Ee (putB b ⟨now, f⟩) (by simp only [putB]; omega) hsr (toF b f.Head.Seq) hti
     rw [show ({ b with Held := insF b ⟨now, f⟩, Seen := noteF b.Seen f.Head.Seq } : Reorder) = putB b ⟨now, f⟩ from rfl, z1, ay, z2]
     show some (_, ({ z.2.1 with Held := z.2.2 } : Reorder), (0 : Int)) = _
     rw [z3]; rfl
   ·
    rw [decide_eq_false (show ¬ (0 ≤ f.Head.Seq ∧ f.Head.Seq < 4096) from hq), if_neg (fun h => hq h.2)]; rfl
  ·
   rw [decide_eq_false hn, if_neg (fun h => hn h.1)]; rfl
 ·
  rw [if_neg hv, if_neg hv]; rfl
end Go.AX.Z.TN.R

/-! (TNE) -/

set_option linter.unusedVariables false
set_option linter.unusedSimpArgs false
namespace Go.AX.Z.TN
open Go.AX

namespace S
abbrev RI := List Int × Sender × Int
def expR (s : Sender) (t : Int) : RI := if Valid s then (if 0 ≤ t ∧ t ≤ 1099511627776 then (if s.Phase = 2 then (expN s t, expS s t, 0) else ([], Sender.z, 20)) else ([], Sender.z, 2)) else ([], Sender.z, 8)
def closeR (s : Sender) : RI := if Valid s then (seqs s.Out, closeS s, 0) else ([], Sender.z, 8)
def offR (s : Sender) (n : Int) : Frame × Sender × Int := if Valid s then (if 0 ≤ n ∧ n ≤ 1099511627776 then (if s.Phase = 2 then (if s.Out ≠ [] ∧ n < lastAt s then (Frame.z, Sender.z, 20) else if s.Size ≤ aE (startOf s) s.Next then (Frame.z, Sender.z, 22) else (offF s Frame.z, offS s Frame.z n, 0)) else (Frame.z, Sender.z, 20)) else (Frame.z, Sender.z, 2)) else (Frame.z, Sender.z, 8)
def pickS (s : Sender) (k : Int) : Sender := { s with Out := (pickR s.Limit k 0 s.Out).1 }
def pikR (s : Sender) (k : Int) : List Frame × Sender × Int := if Valid s then (if 0 ≤ k then (if s.Phase = 2 then ((pickR s.Limit k 0 s.Out).2, pickS s k, 0) else ([], Sender.z, 20)) else ([], Sender.z, 2)) else ([], Sender.z, 8)
def lostS (s : Sender) : Sender := { s with Out := s.Out.map unfly }
def lostR (s : Sender) : Sender × Int := if Valid s then (if s.Phase = 2 then (lostS s, 0) else (Sender.z, 20)) else (Sender.z, 8)
def barS (s : Sender) : Sender := { s with Bar := false }
def barR (s : Sender) : Sender × Int := if Valid s then (if s.Phase = 2 then (if s.Bar = true then (barS s, 0) else (Sender.z, 20)) else (Sender.z, 20)) else (Sender.z, 8)
def ackR (s : Sender) (w : Window) : RI := if Valid s then (if okW w then (if s.Phase = 2 then (seqs (s.Out.filter (pA w)), ackS s w, 0) else ([], Sender.z, 20)) else ([], Sender.z, 2)) else ([], Sender.z, 8)
def startR (s : Sender) : Int := if Valid s then startOf s else 0
def PA (s : Sender) (n : Int) : Prop := (s.Out.length : Int) ≤ n ∧ n ≤ 1000 ∧ ∀ x ∈ s.Out, x.Frame.Body = []
theorem PA.fit {s : Sender} {n : Int} (h : PA s n) : Fit s := ⟨by have := h.1; have := h.2.1; omega, fun x hx => by rw [h.2.2 x hx]; simp⟩
theorem PA.len {s : Sender} {n : Int} (h : PA s n) : s.Out.length ≤ 50000 := by have := h.1; have := h.2.1; omega
theorem PA.z {n : Int} (h0 : 0 ≤ n) (h : n ≤ 1000) : PA Sender.z n := ⟨by simpa [Sender.z] using h0, h, by simp [Sender.z]⟩
theorem PA.nn {s : Sender} {n : Int} (h : PA s n) : 0 ≤ n := by have := h.1; omega
theorem start_r {s : Sender} {n : Int} (h : PA s n) : gH s = some (startR s) := by
 unfold gH startR
 rw [check_e s h.fit.len, ay]
 by_cases hv : Valid s
 ·
  rw [if_pos hv, if_pos hv, yt]; rfl
 ·
  rw [if_neg hv, if_neg hv]; rfl
theorem exp_p {s : Sender} {n : Int} (h : PA s n) (t : Int) : PA (expR s t).2.1 n ∧ ((expR s t).1.length : Int) ≤ n := by
 have hl : ∀ p : Unacked → Bool, ((s.Out.filter p).length : Int) ≤ n := fun p => by have := List.length_filter_le p s.Out; have := h.1; omega
 unfold expR
 split
 ·
  split
  ·
   split
   ·
    refine ⟨⟨hl _, h.2.1, fun x hx => h.2.2 x (List.mem_filter.1 hx).1⟩, by simpa [expN, seqs] using hl _⟩
   ·
    exact ⟨.z h.nn h.2.1, by simpa using h.nn⟩
  ·
   exact ⟨.z h.nn h.2.1, by simpa using h.nn⟩
 ·
  exact ⟨.z h.nn h.2.1, by simpa using h.nn⟩
theorem close_p {s : Sender} {n : Int} (h : PA s n) : PA (closeR s).2.1 n ∧ ((closeR s).1.length : Int) ≤ n := by
 unfold closeR
 split
 ·
  exact ⟨⟨by simpa [closeS] using h.nn, h.2.1, by simp [closeS]⟩, by simpa [seqs] using h.1⟩
 ·
  exact ⟨.z h.nn h.2.1, by simpa using h.nn⟩
theorem off_p {s : Sender} {n : Int} (h : PA s n) (hn : n < 1000) (t : Int) : PA (offR s t).2.1 (n + 1) := by
 have z : PA Sender.z (n + 1) := .z (by have := h.nn; omega) (by omega)
 unfold offR
 split
 ·
  split
  ·
   split
   ·
    split
    ·
     exact z
    ·
     split
     ·
      exact z
     ·
      refine ⟨by have := h.1; simp [offS]; omega, by omega, fun x hx => ?_⟩
      simp only [offS, List.mem_append, List.mem_singleton] at hx
      rcases hx with hx | rfl
      ·
       exact h.2.2 x hx
      ·
       rfl
   ·
    exact z
  ·
   exact z
 ·
  exact z
theorem o6 (lim k : Int) : ∀ (c : Nat) (l : List Unacked), (∀ y ∈ l, y.Frame.Body = []) → (∀ y ∈ (pickR lim k c l).1, y.Frame.Body = []) ∧ (∀ f ∈ (pickR lim k c l).2, f.Body = []) ∧ (pickR lim k c l).1.length = l.length ∧ (pickR lim k c l).2.length ≤ l.length
 | _, [], _ => by simp [pickR]
 | c, x :: l, h => by
  have hx := h x (by simp)
  have hl : ∀ y ∈ l, y.Frame.Body = [] := fun y hy => h y (by simp [hy])
  unfold pickR
  split
  ·
   exact ⟨h, by simp, rfl, by simp⟩
  ·
   split
   ·
    obtain ⟨a, b, c1, d⟩ := o6 lim k c l hl
    exact ⟨fun y hy => by rcases List.mem_cons.1 hy with rfl | hy; exact hx; exact a y hy, b, by simp [c1], by simp; omega⟩
   ·
    obtain ⟨a, b, c1, d⟩ := o6 lim k (c + 1) l hl
    refine ⟨fun y hy => by rcases List.mem_cons.1 hy with rfl | hy; exact hx; exact a y hy, fun f hf => by rcases List.mem_cons.1 hf with rfl | hf; exact hx; exact b f hf, by simp [c1], by simp; omega⟩
theorem pick_p {s : Sender} {n : Int} (h : PA s n) (k : Int) : PA (pikR s k).2.1 n ∧ ((pikR s k).1.length : Int) ≤ n ∧ ∀ f ∈ (pikR s k).1, f.Body = [] := by
 have z : PA Sender.z n := .z h.nn h.2.1
 have hb := o6 s.Limit k 0 s.Out h.2.2
 unfold pikR
 split
 ·
  split
  ·
   split
   ·
    exact ⟨⟨by have := h.1; simp only [pickS]; omega, h.2.1, hb.1⟩, by have := h.1; simp only; omega, hb.2.1⟩
   ·
    exact ⟨z, by simpa using h.nn, by simp⟩
  ·
   exact ⟨z, by simpa using h.nn, by simp⟩
 ·
  exact ⟨z, by simpa using h.nn, by simp⟩
theorem lost_p {s : Sender} {n : Int} (h : PA s n) : PA (lostR s).1 n := by
 have z : PA Sender.z n := .z h.nn h.2.1
 unfold lostR
 split
 ·
  split
  ·
   refine ⟨by simpa [lostS] using h.1, h.2.1, fun x hx => ?_⟩
   simp only [lostS, List.mem_map] at hx
   obtain ⟨y, hy, rfl⟩ := hx; exact h.2.2 y hy
  ·
   exact z
 ·
  exact z
theorem bar_p {s : Sender} {n : Int} (h : PA s n) : PA (barR s).1 n := by
 have z : PA Sender.z n := .z h.nn h.2.1
 unfold barR
 split
 ·
  split
  ·
   split
   ·
    exact h
   ·
    exact z
  ·
   exact z
 ·
  exact z
theorem ack_p {s : Sender} {n : Int} (h : PA s n) (w : Window) : PA (ackR s w).2.1 n ∧ ((ackR s w).1.length : Int) ≤ n := by
 have z : PA Sender.z n := .z h.nn h.2.1
 have hl : ∀ p : Unacked → Bool, ((s.Out.filter p).length : Int) ≤ n := fun p => by have := List.length_filter_le p s.Out; have := h.1; omega
 unfold ackR
 split
 ·
  split
  ·
   split
   ·
    refine ⟨⟨by simpa [ackS] using hl _, h.2.1, fun x hx => ?_⟩, by simpa [seqs] using hl _⟩
    simp only [ackS, List.mem_map] at hx
    obtain ⟨y, hy, rfl⟩ := hx; exact h.2.2 y (List.mem_filter.1 hy).1
   ·
    exact ⟨z, by simpa using h.nn⟩
  ·
   exact ⟨z, by simpa using h.nn⟩
 ·
  exact ⟨z, by simpa using h.nn⟩
end S

namespace R
def repR (b : Reorder) : Window × Int := if VR b then (b.Seen, 0) else (Window.z, 8)
def PB (b : Reorder) : Prop := b.Held.length ≤ 200 ∧ ∀ x ∈ b.Held, x.Frame.Body = []
theorem PB.fit {b : Reorder} (h : PB b) : Fit b.Held := ⟨by have := h.1; omega, fun x hx => by rw [h.2 x hx]; simp⟩
theorem PB.z : PB Reorder.z := ⟨by simp [Reorder.z], by simp [Reorder.z]⟩
theorem xW {b : Reorder} (h : b.Held.length ≤ 200 ∧ ∀ x ∈ b.Held, x.Frame.Body = []) (t : Int) : PB (mvF b t).2 ∧ (mvF b t).1.length ≤ 400 ∧ ∀ f ∈ (mvF b t).1, f.Body = [] := by
 obtain ⟨a, c⟩ := FQ b t
 obtain ⟨d, e⟩ := mvF_mem b t
 exact ⟨⟨by omega, fun x hx => h.2 x (e x hx)⟩, by omega, fun f hf => by obtain ⟨x, hx, rfl⟩ := d f hf; exact h.2 x hx⟩
theorem bar_p {b : Reorder} (h : PB b) (n : Int) : PB (barF b n).2.1 ∧ (barF b n).1.length ≤ 400 := by
 unfold barF
 split
 ·
  split
  ·
   split
   ·
    exact ⟨h, by simp⟩
   ·
    exact ⟨(xW h _).1, (xW h _).2.1⟩
  ·
   exact ⟨.z, by simp⟩
 ·
  exact ⟨.z, by simp⟩
theorem exp_p {b : Reorder} (h : PB b) (n : Int) : PB (expF b n).2.1 ∧ (expF b n).1.length ≤ 400 := by
 unfold expF
 split
 ·
  split
  ·
   split
   ·
    exact ⟨(xW h _).1, (xW h _).2.1⟩
   ·
    exact ⟨h, by simp⟩
  ·
   exact ⟨.z, by simp⟩
 ·
  exact ⟨.z, by simp⟩
theorem put_p {b : Reorder} (h : PB b) (f : Frame) (hf : f.Body = []) (n : Int) : PB (putF b f n).2.1 ∧ (putF b f n).1.length ≤ 400 := by
 unfold putF
 split
 ·
  rename_i hv
  have h70 := held_len hv
  split
  ·
   split
   ·
    exact ⟨.z, by simp⟩
   ·
    have hl := An b ⟨n, f⟩
    have hp : (putB b ⟨n, f⟩).Held.length ≤ 200 ∧ ∀ x ∈ (putB b ⟨n, f⟩).Held, x.Frame.Body = [] := by
     refine ⟨by simp only [putB]; omega, fun x hx => ?_⟩
     simp only [putB, insF, List.mem_append, List.mem_singleton] at hx
     rcases hx with (hx | rfl) | hx
     ·
      exact h.2 x (List.mem_filter.1 hx).1
     ·
      exact hf
     ·
      exact h.2 x (List.mem_filter.1 hx).1
    exact ⟨(xW hp _).1, (xW hp _).2.1⟩
  ·
   exact ⟨.z, by simp⟩
 ·
  exact ⟨.z, by simp⟩
end R
end Go.AX.Z.TN

/-! (TNG) -/

set_option linter.unusedVariables false
set_option linter.unusedSimpArgs false
set_option maxRecDepth 20000
namespace Go.AX.Z.TN
open Go.AX

abbrev SS := Session_session
def cD (e : Int) (s : SS) : SS := { s with err := if s.err = 0 then e else s.err }
theorem i8 (e : Int) (s : SS) (d : List Bool) : aW e s d = some (cD e s) := by
 unfold aW cD
 by_cases h : s.err = 0
 ·
  rw [h, if_pos rfl]; rfl
 ·
  rw [show (s.err == 0) = false by simpa using h, if_neg h]; rfl

def mS (p : SessionPlan) (l : List Int) : List Int := l.map fun n => aE p.Start n
theorem rD (s : SS) (L : List Int) (hL : L.length ≤ 100000) : ∀ (l acc : List Int) (i n : Nat), L.drop i = l → l.length < n → acc.length + l.length ≤ 100000 →
  bO L s n (acc, (i : Int)) = some (acc ++ mS s.plan l)
 | [], acc, i, n + 1, h, hn, ha => by
  rw [bO, gS (jM h)]; simp [mS]
 | x :: l, acc, i, n + 1, h, hn, ha => by
  obtain ⟨h1, h2, h3⟩ := ju h
  simp only [List.length_cons] at ha hn
  rw [bO, gX h3]
  simp only [cond_true, mq, h1, ay, iE]
  rw [fS (by omega), ay, fo (by omega), rD s L hL l _ (i + 1) n h2 (by omega) (by simp; omega)]
  simp [mS]
theorem sP (s : SS) (d : List Bool) (l : List Int) (h : l.length ≤ 100000) : cd s d l = some (mS s.plan l) := by
 unfold cd
 have := rD s l h l [] 0 big rfl (eQ (by omega)) (by simpa using h)
 simp only [Int.natCast_zero, List.nil_append] at this
 rw [this]; rfl

def rel (p : SessionPlan) (l : List Frame) : List Int := l.map fun f => aE p.Start f.Head.Seq
theorem qr (s : SS) (L : List Frame) (hL : L.length ≤ 100000) : ∀ (l : List Frame) (acc : List Int) (i n : Nat), L.drop i = l → l.length < n → acc.length + l.length ≤ 2000000000 →
  bN L s n (acc, (i : Int)) = some (acc ++ rel s.plan l)
 | [], acc, i, n + 1, h, hn, ha => by
  rw [bN, gS (jM h)]; simp [rel]
 | x :: l, acc, i, n + 1, h, hn, ha => by
  obtain ⟨h1, h2, h3⟩ := ju h
  simp only [List.length_cons] at ha hn
  rw [bN, gX h3]
  simp only [cond_true, mq, h1, ay, iE]
  rw [fS (by omega), ay, fo (by omega), qr s L hL l _ (i + 1) n h2 (by omega) (by simp; omega)]
  simp [rel]
theorem qD (l : List Frame) (s : SS) (d : List Bool) (h : l.length ≤ 100000) (hd : s.out.Delivered.length ≤ 1000000000) : bI l s d = some (s.out.Delivered ++ rel s.plan l) := by
 unfold bI
 have := qr s l h l s.out.Delivered 0 big rfl (eQ (by omega)) (by omega)
 simp only [Int.natCast_zero] at this
 rw [this]; rfl

def eK : List Bool → Bool × List Bool
 | [] => (false, [])
 | b :: l => (b, l)
theorem A7 (d : List Bool) : fc d = some (eK d) := by
 unfold fc eK
 cases d with
 | nil => rfl
 | cons b l =>
  have : (((b :: l).length : Int) == 0) = false := by rw [beq_eq_false_iff_ne]; simp; omega
  rw [this, cond_false, KD, List.getElem?_cons_zero, ay, fS (by simp; omega), ay]; rfl

structure Wt (N : Nat) (s : SS) : Prop where
 A : S.PA s.sides.Sender s.accepted
 B : R.PB s.sides.Reorder
 D : s.out.Delivered.length ≤ N
 K : s.out.Acked.length ≤ N
 X : s.out.Dropped.length ≤ N
 N : N ≤ 900000000
 acc : s.accepted ≤ 200
 many : s.many ≤ 200
theorem Wt.keep {N : Nat} {s : SS} (h : Wt N s) (e : Int) : Wt N (cD e s) := ⟨h.A, h.B, h.D, h.K, h.X, h.N, h.acc, h.many⟩
theorem Wt.mono {N M : Nat} {s : SS} (h : Wt N s) (hm : N ≤ M) (hM : M ≤ 900000000) : Wt M s := ⟨h.A, h.B, Nat.le_trans h.D hm, Nat.le_trans h.K hm, Nat.le_trans h.X hm, hM, h.acc, h.many⟩
theorem Wt.upA {N : Nat} {s : SS} (h : Wt N s) {A : Sender} (hA : S.PA A s.accepted) : Wt N { s with sides.Sender := A } := ⟨hA, h.B, h.D, h.K, h.X, h.N, h.acc, h.many⟩
theorem Wt.upB {N : Nat} {s : SS} (h : Wt N s) {B : Reorder} (hB : R.PB B) : Wt N { s with sides.Reorder := B } := ⟨h.A, hB, h.D, h.K, h.X, h.N, h.acc, h.many⟩
theorem zn (p : SessionPlan) (l : List Frame) : (rel p l).length = l.length := by simp [rel]
theorem kW (p : SessionPlan) (l : List Int) : (mS p l).length = l.length := by simp [mS]

def fu (to : Int) (s : SS) : SS :=
 { cD (R.barF s.sides.Reorder to).2.2 s with sides.Reorder := (R.barF s.sides.Reorder to).2.1, out.Delivered := s.out.Delivered ++ rel s.plan (R.barF s.sides.Reorder to).1 }
theorem zk {N : Nat} {s : SS} (h : Wt N s) (hN : N ≤ 899000000) (to : Int) (d : List Bool) : (∃ r, cp to s d = some r ∧ { r.1 with out.Delivered := r.2 } = fu to s ∧ r.2 = (fu to s).out.Delivered) ∧ Wt (N + 1000) (fu to s) := by
 obtain ⟨b1, b2⟩ := R.bar_p h.B to
 have hD := h.D
 constructor
 ·
  unfold cp
  rw [R.bar_e _ h.B.fit, ay, i8, ay, qD _ _ _ (by omega) (by simp only; omega), ay]
  exact ⟨_, rfl, rfl, rfl⟩
 ·
  refine ⟨h.A, b1, ?_, by have := h.K; simp only [fu]; show s.out.Acked.length ≤ _; omega, by have := h.X; show s.out.Dropped.length ≤ _; omega, by omega, h.acc, h.many⟩
  simp only [fu, List.length_append, zn]; omega

def bY (now : Int) : Nat → SS → SS
 | 0, s => s
 | n + 1, s => if s.accepted < s.many ∧ s.err = 0 then
   (if (S.offR s.sides.Sender now).2.2 = 22 then s else
    bY now n { cD (S.offR s.sides.Sender now).2.2 s with accepted := s.accepted + 1, sides.Sender := (S.offR s.sides.Sender now).2.1 }) else s
theorem I1 {s : Sender} {n : Int} (h : S.PA s n) (hn : n < 1000) (t : Int) : fE s Frame.z t = some (S.offR s t) :=
 S.offer_e h.fit Frame.z (by simp [Frame.z]) t (by have := h.1; omega)
theorem Be (now : Int) (s0 : SS) (d : List Bool) : ∀ (m n k : Nat) (N : Nat) (s : SS), Wt N s → s.many - s.accepted ≤ m → m < n → m ≤ k → s.out = s0.out →
  (∃ o, bX now s0 d n s = some o ∧ (o = Ex.ret (bY now k s) ∨ o = Ex.go (bY now k s))) ∧ Wt N (bY now k s)  := by
 intro m n k
 induction k generalizing m n with
 | zero =>
  intro N s h hm hn hk ho
  obtain ⟨n, rfl⟩ : ∃ q, n = q + 1 := ⟨n - 1, by omega⟩
  refine ⟨?_, h⟩
  rw [bX, decide_eq_false (by omega), Bool.false_and, cond_false]
  exact ⟨_, rfl, .inr rfl⟩
 | succ k ih =>
  intro N s h hm hn hk ho
  obtain ⟨n, rfl⟩ : ∃ q, n = q + 1 := ⟨n - 1, by omega⟩
  rw [bX]
  unfold bY
  by_cases hc : s.accepted < s.many ∧ s.err = 0
  ·
   have hcb : (decide (s.accepted < s.many) && (s.err == 0)) = true := by simpa using hc
   have ha := h.acc
   have hma := h.many
   rw [hcb, cond_true, if_pos hc, I1 h.A (by omega), ay]
   by_cases h22 : (S.offR s.sides.Sender now).2.2 = 22
   ·
    rw [show ((S.offR s.sides.Sender now).2.2 == 22) = true by simpa using h22, cond_true, if_pos h22]
    exact ⟨⟨_, rfl, .inl rfl⟩, h⟩
   ·
    rw [show ((S.offR s.sides.Sender now).2.2 == 22) = false by simpa using h22, cond_false, if_neg h22, i8, ay]
    have e : ({ s with out.Acked := s0.out.Acked, out.Delivered := s0.out.Delivered, out.Dropped := s0.out.Dropped } : SS) = s := by rw [← ho]
    rw [e]
    obtain ⟨m, rfl⟩ : ∃ q, m = q + 1 := ⟨m - 1, by omega⟩
    have hA := S.off_p h.A (by omega) now
    have hnn := h.A.nn
    have hw : Wt N { cD (S.offR s.sides.Sender now).2.2 s with accepted := s.accepted + 1, sides.Sender := (S.offR s.sides.Sender now).2.1 } := ⟨hA, h.B, h.D, h.K, h.X, h.N, by simp only; omega, h.many⟩
    have ew : IntKind.wrap .i64 ((cD (S.offR s.sides.Sender now).2.2 s).accepted + 1) = s.accepted + 1 := kw (by simp only [cD]; omega) (by simp only [cD]; omega)
    rw [ew]
    exact ih m n N _ hw (by simp only [cD]; omega) (by omega) (by omega) ho
  ·
   have hcb : (decide (s.accepted < s.many) && (s.err == 0)) = false := by rw [Bool.eq_false_iff]; simpa using hc
   rw [hcb, cond_false, if_neg hc]
   exact ⟨⟨_, rfl, .inr rfl⟩, h⟩
theorem offer_e {N : Nat} {s : SS} (h : Wt N s) (h0 : 0 ≤ s.accepted) (now : Int) (d : List Bool) : cQ now s d = some (bY now 200 s) ∧ Wt N (bY now 200 s) := by
 have hma := h.many
 obtain ⟨⟨o, e, ho⟩, hw⟩ := Be now s d 200 big 200 N s h (by omega) (eQ (by omega)) (Nat.le_refl _) rfl
 refine ⟨?_, hw⟩
 unfold cQ
 rw [e, ay]
 rcases ho with rfl | rfl <;> rfl

def fB (now : Int) : List Frame → SS → List Bool → SS × List Bool
 | [], s, d => (s, d)
 | f :: l, s, d => if (eK d).1 = true then fB now l s (eK d).2 else
   if (R.putF s.sides.Reorder f now).2.2 = 0 then fB now l { s with sides.Reorder := (R.putF s.sides.Reorder f now).2.1, out.Delivered := s.out.Delivered ++ rel s.plan (R.putF s.sides.Reorder f now).1 } (eK d).2
   else fB now l s (eK d).2
theorem Cw (x : List Frame × Sender × Int) (now : Int) (s0 : SS) (hx : x.1.length ≤ 1000) : ∀ (l : List Frame) (i n : Nat) (N : Nat) (s : SS) (d : List Bool) (D : List Int), x.1.drop i = l → l.length < n → (∀ f ∈ l, f.Body = []) → Wt N { s with out.Delivered := D } → N + 1000 * l.length ≤ 899000000 → s.out.Acked = s0.out.Acked → s.out.Dropped = s0.out.Dropped →
  (∃ r, bL x now s0 n (s, d, D, (i : Int)) = some r ∧ { r.1 with out.Delivered := r.2.2 } = (fB now l { s with out.Delivered := D } d).1 ∧ r.2.1 = (fB now l { s with out.Delivered := D } d).2 ∧ r.2.2 = (fB now l { s with out.Delivered := D } d).1.out.Delivered) ∧ Wt (N + 1000 * l.length) (fB now l { s with out.Delivered := D } d).1 := by
 intro l
 induction l with
 | nil =>
  intro i n N s d D h hn hb hw hN h1 h2
  obtain ⟨n, rfl⟩ : ∃ q, n = q + 1 := ⟨n - 1, by simp at hn; omega⟩
  refine ⟨?_, by simpa [fB] using hw⟩
  rw [bL, gS (jM h), cond_false]
  exact ⟨_, rfl, rfl, rfl, rfl⟩
 | cons f l ih =>
  intro i n N s d D h hn hb hw hN h1 h2
  obtain ⟨n, rfl⟩ : ∃ q, n = q + 1 := ⟨n - 1, by simp at hn; omega⟩
  obtain ⟨q1, q2, q3⟩ := ju h
  simp only [List.length_cons] at hn hN
  have hbl : ∀ g ∈ l, g.Body = [] := fun g hg => hb g (by simp [hg])
  have hf := hb f (by simp)
  have hN' : N + 1000 ≤ 900000000 := by omega
  have hN3 : N ≤ N + 1000 := by omega
  rw [bL, gX q3]
  simp only [cond_true, mq, q1, ay, A7, fB]
  rw [fo (by omega)]
  by_cases hd : (eK d).1 = true
  ·
   rw [hd, cond_true, if_pos rfl]
   obtain ⟨a, b⟩ := ih (i + 1) n N s (eK d).2 D q2 (by omega) hbl hw (by omega) h1 h2
   exact ⟨a, b.mono (by simp; omega) (by simp; omega)⟩
  ·
   rw [Bool.not_eq_true] at hd
   have hp := R.put_e s.sides.Reorder hw.B.fit f (by rw [hf]; simp) now
   rw [hd, cond_false, if_neg (by decide), hp, ay]
   by_cases he : (R.putF s.sides.Reorder f now).2.2 = 0
   ·
    obtain ⟨p1, p2⟩ := R.put_p hw.B f hf now
    have hD := hw.D
    simp only at p1 p2 hD
    rw [show ((R.putF s.sides.Reorder f now).2.2 == 0) = true by simpa using he, cond_true, if_pos he]
    rw [← h1, ← h2, qD _ _ _ (by omega) (by simp only; omega), ay]
    have hw' : Wt (N + 1000) { ({ s with sides.Reorder := (R.putF s.sides.Reorder f now).2.1 } : SS) with out.Delivered := D ++ rel s.plan (R.putF s.sides.Reorder f now).1 } := by
     refine ⟨hw.A, p1, ?_, Nat.le_trans hw.K hN3, Nat.le_trans hw.X hN3, hN', hw.acc, hw.many⟩
     simp only [List.length_append, zn]; omega
    have := ih (i + 1) n (N + 1000) { s with out.Delivered := D, sides.Reorder := (R.putF s.sides.Reorder f now).2.1 } (eK d).2 (D ++ rel s.plan (R.putF s.sides.Reorder f now).1) q2 (by omega) hbl hw' (by omega) h1 h2
    obtain ⟨a, b⟩ := this
    exact ⟨a, b.mono (by simp; omega) (by simp; omega)⟩
   ·
    rw [show ((R.putF s.sides.Reorder f now).2.2 == 0) = false by simpa using he, cond_false, if_neg he]
    obtain ⟨a, b⟩ := ih (i + 1) n N s (eK d).2 D q2 (by omega) hbl hw (by omega) h1 h2
    exact ⟨a, b.mono (by simp; omega) (by simp; omega)⟩

def c6 (now : Int) (s : SS) (d : List Bool) : SS × List Bool :=
 fB now (S.pikR s.sides.Sender s.plan.Burst).1 { cD (S.pikR s.sides.Sender s.plan.Burst).2.2 s with sides.Sender := (S.pikR s.sides.Sender s.plan.Burst).2.1 } d
theorem Jy {N : Nat} {s : SS} (h : Wt N s) (hN : N ≤ 898000000) (now : Int) (d : List Bool) :
  (∃ r, c4 now s d = some r ∧ r.1 = ((S.pikR s.sides.Sender s.plan.Burst).1.length : Int) ∧ { r.2.1 with out.Delivered := r.2.2.2 } = (c6 now s d).1 ∧ r.2.2.1 = (c6 now s d).2 ∧ r.2.2.2 = (c6 now s d).1.out.Delivered) ∧ Wt (N + 250000) (c6 now s d).1 := by
 obtain ⟨a1, a2, a3⟩ := S.pick_p h.A s.plan.Burst
 have hl := h.acc
 have hw : Wt N { cD (S.pikR s.sides.Sender s.plan.Burst).2.2 s with sides.Sender := (S.pikR s.sides.Sender s.plan.Burst).2.1 } := (h.keep _).upA a1
 obtain ⟨⟨r, e1, e2, e3, e4⟩, e5⟩ := Cw (S.pikR s.sides.Sender s.plan.Burst) now s (by omega) (S.pikR s.sides.Sender s.plan.Burst).1 0 big N { cD (S.pikR s.sides.Sender s.plan.Burst).2.2 s with sides.Sender := (S.pikR s.sides.Sender s.plan.Burst).2.1 } d s.out.Delivered List.drop_zero (eQ (by clear hw; omega)) a3 hw (by clear hw; omega) rfl rfl
 refine ⟨?_, e5.mono (by omega) (by omega)⟩
 unfold c4
 rw [show gA s.sides.Sender s.plan.Burst = some (S.pikR s.sides.Sender s.plan.Burst) from S.pick_e h.A.fit _, ay, i8, ay]
 simp only [Int.natCast_zero] at e1
 rw [e1, ay]
 exact ⟨_, rfl, rfl, e2, e3, e4⟩

def js (s : SS) (d : List Bool) : SS × List Bool :=
 if (eK d).1 = true then ({ cD (S.lostR s.sides.Sender).2 s with sides.Sender := (S.lostR s.sides.Sender).1 }, (eK d).2)
 else ({ cD (S.ackR s.sides.Sender (R.repR s.sides.Reorder).1).2.2 (cD (R.repR s.sides.Reorder).2 s) with sides.Sender := (S.ackR s.sides.Sender (R.repR s.sides.Reorder).1).2.1, out.Acked := s.out.Acked ++ mS s.plan (S.ackR s.sides.Sender (R.repR s.sides.Reorder).1).1 }, (eK d).2)
theorem report_e {N : Nat} {s : SS} (h : Wt N s) (hN : N ≤ 899000000) (d : List Bool) :
  (∃ r, cI s d = some r ∧ { r.1 with out.Acked := r.2.2 } = (js s d).1 ∧ r.2.1 = (js s d).2 ∧ r.2.2 = (js s d).1.out.Acked) ∧ Wt (N + 1000) (js s d).1 := by
 have hK := h.K
 have ha := h.acc
 unfold cI js
 rw [A7, ay]
 by_cases hd : (eK d).1 = true
 ·
  rw [hd, cond_true, if_pos rfl, show gr s.sides.Sender = some (S.lostR s.sides.Sender) from S.lost_e h.A.fit, ay, i8, ay]
  exact ⟨⟨_, rfl, rfl, rfl, rfl⟩, ((h.keep _).upA (S.lost_p h.A)).mono (by omega) (by omega)⟩
 ·
  rw [Bool.not_eq_true] at hd
  obtain ⟨a1, a2⟩ := S.ack_p h.A (R.repR s.sides.Reorder).1
  rw [hd, cond_false, if_neg (by decide), show fy s.sides.Reorder = some (R.repR s.sides.Reorder) from R.report_e _ h.B.fit.1, ay, i8, ay]
  rw [show fI (cD (R.repR s.sides.Reorder).2 s).sides.Sender (R.repR s.sides.Reorder).1 = some (S.ackR s.sides.Sender (R.repR s.sides.Reorder).1) from S.acked_e h.A.fit h.A.len _, ay, i8, ay, sP _ _ _ (by omega), ay, fS (by rw [kW]; omega), ay]
  refine ⟨⟨_, rfl, rfl, rfl, rfl⟩, ?_⟩
  refine ⟨a1, h.B, by have := h.D; exact Nat.le_trans this (by omega), ?_, by have := h.X; exact Nat.le_trans this (by omega), by omega, ha, h.many⟩
  simp only [List.length_append, kW]; omega
end Go.AX.Z.TN

/-! (TNH) -/

set_option linter.unusedVariables false
set_option linter.unusedSimpArgs false
set_option maxRecDepth 20000
namespace Go.AX.Z.TN
open Go.AX

structure Sm (s t : SS) : Prop where
 plan : t.plan = s.plan
 many : t.many = s.many
 rounds : t.out.Rounds = s.out.Rounds
theorem Sm.refl (s : SS) : Sm s s := ⟨rfl, rfl, rfl⟩
theorem Sm.trans {s t u : SS} (h : Sm s t) (g : Sm t u) : Sm s u := ⟨g.plan.trans h.plan, g.many.trans h.many, g.rounds.trans h.rounds⟩
theorem zl (now : Int) : ∀ (n : Nat) (s : SS), Sm s (bY now n s) ∧ (bY now n s).out = s.out ∧ (0 ≤ s.accepted → 0 ≤ (bY now n s).accepted)
 | 0, s => ⟨.refl s, rfl, id⟩
 | n + 1, s => by
  unfold bY
  split
  ·
   split
   ·
    exact ⟨.refl s, rfl, id⟩
   ·
    obtain ⟨a, b, c⟩ := zl now n { cD (S.offR s.sides.Sender now).2.2 s with accepted := s.accepted + 1, sides.Sender := (S.offR s.sides.Sender now).2.1 }
    exact ⟨⟨a.plan, a.many, a.rounds⟩, b, fun h => c (by simp only; omega)⟩
  ·
   exact ⟨.refl s, rfl, id⟩
theorem rZ (now : Int) : ∀ (l : List Frame) (s : SS) (d : List Bool), Sm s (fB now l s d).1 ∧ (fB now l s d).1.out.Acked = s.out.Acked ∧ (fB now l s d).1.out.Dropped = s.out.Dropped ∧ (fB now l s d).1.accepted = s.accepted
 | [], s, d => ⟨.refl s, rfl, rfl, rfl⟩
 | f :: l, s, d => by
  unfold fB
  split
  ·
   exact rZ now l s _
  ·
   split
   ·
    obtain ⟨a, b, c, e⟩ := rZ now l { s with sides.Reorder := (R.putF s.sides.Reorder f now).2.1, out.Delivered := s.out.Delivered ++ rel s.plan (R.putF s.sides.Reorder f now).1 } (eK d).2
    exact ⟨⟨a.plan, a.many, a.rounds⟩, b, c, e⟩
   ·
    exact rZ now l s _
theorem AD (now : Int) (s : SS) (d : List Bool) : Sm s (c6 now s d).1 ∧ (c6 now s d).1.out.Acked = s.out.Acked ∧ (c6 now s d).1.out.Dropped = s.out.Dropped ∧ (c6 now s d).1.accepted = s.accepted := by
 obtain ⟨a, b, c, e⟩ := rZ now (S.pikR s.sides.Sender s.plan.Burst).1 { cD (S.pikR s.sides.Sender s.plan.Burst).2.2 s with sides.Sender := (S.pikR s.sides.Sender s.plan.Burst).2.1 } d
 exact ⟨⟨a.plan, a.many, a.rounds⟩, b, c, e⟩
theorem B3 (s : SS) (d : List Bool) : Sm s (js s d).1 ∧ (js s d).1.out.Delivered = s.out.Delivered ∧ (js s d).1.out.Dropped = s.out.Dropped ∧ (js s d).1.accepted = s.accepted := by
 unfold js
 split
 ·
  exact ⟨⟨rfl, rfl, rfl⟩, rfl, rfl, rfl⟩
 ·
  exact ⟨⟨rfl, rfl, rfl⟩, rfl, rfl, rfl⟩

def rxF (now : Int) (s : SS) : SS :=
 { cD (R.expF s.sides.Reorder now).2.2 s with sides.Reorder := (R.expF s.sides.Reorder now).2.1, out.Delivered := s.out.Delivered ++ rel s.plan (R.expF s.sides.Reorder now).1, out.Rounds := s.out.Rounds + 1 }
def rpF (n : Nat) (q : SS × List Bool) : SS × List Bool := if 0 < n then js q.1 q.2 else q
def iT (now : Int) (s : SS) (d : List Bool) : SS × List Bool :=
 let t := bY now 200 s
 let q := rpF (S.pikR t.sides.Sender t.plan.Burst).1.length (c6 now t d)
 (rxF now q.1, q.2)

def qt (now : Int) (s : SS) (d : List Bool) (K0 D0 X0 : List Int) : Option (Session_session × List Bool × List Int × List Int × List Int) :=
  ((cQ now s d).bind fun x45 =>
  ((c4 now { x45 with out.Acked := K0, out.Delivered := D0, out.Dropped := X0 } d).bind fun x46 =>
  ((
   bif decide (0 < x46.1) then
    ((cI { x46.2.1 with out.Acked := K0, out.Delivered := x46.2.2.2, out.Dropped := X0 } x46.2.2.1).bind fun x48 =>
    some (x48.1, x48.2.1, x48.2.2))
   else
    some (x46.2.1, x46.2.2.1, K0)).bind fun d47 =>
  ((dI d47.1.sides.Reorder now).bind fun x49 =>
  ((aW x49.2.2 { d47.1 with out.Acked := d47.2.2, out.Delivered := x46.2.2.2, out.Dropped := X0 } d47.2.1).bind fun x50 =>
  ((bI x49.1 { x50 with out.Acked := d47.2.2, out.Delivered := x46.2.2.2, out.Dropped := X0, sides.Reorder := x49.2.1 } d47.2.1).bind fun x51 =>
  some ({ x50 with out.Acked := d47.2.2, out.Delivered := x46.2.2.2, out.Dropped := X0, out.Rounds := IntKind.wrap .i64 (x50.out.Rounds + 1), sides.Reorder := x49.2.1 }, d47.2.1, x51, d47.2.2, X0)))))))

abbrev KE (r : Session_session × List Bool × List Int × List Int × List Int) : SS := { r.1 with out.Delivered := r.2.2.1, out.Acked := r.2.2.2.1, out.Dropped := r.2.2.2.2 }
def Gv (c : Option (Session_session × List Bool × List Int × List Int × List Int)) (q : SS × List Bool) : Prop := ∃ r, c = some r ∧ KE r = q.1 ∧ r.2.1 = q.2

theorem Dq {N : Nat} {now : Int} {s : SS} (h : Wt N s) (hN : N ≤ 899000000) (hr : 0 ≤ s.out.Rounds ∧ s.out.Rounds ≤ 2000) (y : SS) (d : List Bool) (K0 D0 X0 : List Int) (hy : { y with out.Acked := K0, out.Delivered := D0, out.Dropped := X0 } = s) :
  Gv ((dI y.sides.Reorder now).bind fun x49 =>
  ((aW x49.2.2 { y with out.Acked := K0, out.Delivered := D0, out.Dropped := X0 } d).bind fun x50 =>
  ((bI x49.1 { x50 with out.Acked := K0, out.Delivered := D0, out.Dropped := X0, sides.Reorder := x49.2.1 } d).bind fun x51 =>
  some ({ x50 with out.Acked := K0, out.Delivered := D0, out.Dropped := X0, out.Rounds := IntKind.wrap .i64 (x50.out.Rounds + 1), sides.Reorder := x49.2.1 }, d, x51, K0, X0)))) (rxF now s, d) ∧ Wt (N + 1000) (rxF now s) := by
 subst hy
 obtain ⟨p1, p2⟩ := R.exp_p h.B now
 have hD := h.D
 simp only at p1 p2 hD hr
 constructor
 ·
  rw [R.expire_e y.sides.Reorder h.B.fit, ay, i8, ay, qD _ _ _ (by omega) (by simp only; omega), ay]
  refine ⟨_, rfl, ?_, rfl⟩
  have : IntKind.wrap .i64 (y.out.Rounds + 1) = y.out.Rounds + 1 := kw (by omega) (by omega)
  simp only [KE, cD, rxF]
  rw [this]
 ·
  refine ⟨h.A, p1, ?_, Nat.le_trans h.K (Nat.le_add_right _ _), Nat.le_trans h.X (Nat.le_add_right _ _), by omega, h.acc, h.many⟩
  simp only [rxF, List.length_append, zn]; omega

theorem AO {N : Nat} {now : Int} {s : SS} (h : Wt N s) (h0 : 0 ≤ s.accepted) (hN : N ≤ 898000000) (hr : 0 ≤ s.out.Rounds ∧ s.out.Rounds ≤ 2000) (d : List Bool) :
  Gv (qt now s d s.out.Acked s.out.Delivered s.out.Dropped) (iT now s d) ∧ Wt (N + 252000) (iT now s d).1 := by
 obtain ⟨o1, o2⟩ := offer_e h h0 now d
 obtain ⟨m1, m2, m3⟩ := zl now 200 s
 unfold qt
 rw [o1, ay]
 have e : ({ bY now 200 s with out.Acked := s.out.Acked, out.Delivered := s.out.Delivered, out.Dropped := s.out.Dropped } : SS) = bY now 200 s := by rw [← m2]
 rw [e]
 obtain ⟨⟨r, r1, r2, r3, r4, r5⟩, w⟩ := Jy o2 hN now d
 obtain ⟨k1, k2, k3, k4⟩ := AD now (bY now 200 s) d
 rw [r1, ay]
 have hD : (c6 now (bY now 200 s) d).1.out.Delivered = r.2.2.2 := r5.symm
 have hK : r.2.1.out.Acked = s.out.Acked := by
  have : ({ r.2.1 with out.Delivered := r.2.2.2 } : SS).out.Acked = _ := (congrArg (fun z : SS => z.out.Acked) r3).trans (k2.trans (by rw [m2]))
  exact this
 have hX : r.2.1.out.Dropped = s.out.Dropped := by
  have : ({ r.2.1 with out.Delivered := r.2.2.2 } : SS).out.Dropped = _ := (congrArg (fun z : SS => z.out.Dropped) r3).trans (k3.trans (by rw [m2]))
  exact this
 have e2 : ({ r.2.1 with out.Acked := s.out.Acked, out.Delivered := r.2.2.2, out.Dropped := s.out.Dropped } : SS) = (c6 now (bY now 200 s) d).1 := by
  rw [← r3, ← hK, ← hX]
 have hrr : (c6 now (bY now 200 s) d).1.out.Rounds = s.out.Rounds := k1.rounds.trans m1.rounds
 rw [r2]
 unfold iT rpF
 by_cases hn : 0 < (S.pikR (bY now 200 s).sides.Sender (bY now 200 s).plan.Burst).1.length
 ·
  rw [decide_eq_true (by omega), cond_true]
  simp only [if_pos hn]
  rw [e2, r4]
  obtain ⟨⟨q, q1, q2, q3, q4⟩, w2⟩ := report_e w (by omega) (c6 now (bY now 200 s) d).2
  obtain ⟨j1, j2, j3, j4⟩ := B3 (c6 now (bY now 200 s) d).1 (c6 now (bY now 200 s) d).2
  rw [q1, ay, ay]
  have hD2 : q.1.out.Delivered = r.2.2.2 := by
   have : ({ q.1 with out.Acked := q.2.2 } : SS).out.Delivered = _ := (congrArg (fun z : SS => z.out.Delivered) q2).trans (j2.trans hD)
   exact this
  have hX2 : q.1.out.Dropped = s.out.Dropped := by
   have : ({ q.1 with out.Acked := q.2.2 } : SS).out.Dropped = _ := (congrArg (fun z : SS => z.out.Dropped) q2).trans (j3.trans (k3.trans (by rw [m2])))
   exact this
  have e3 : ({ q.1 with out.Acked := q.2.2, out.Delivered := r.2.2.2, out.Dropped := s.out.Dropped } : SS) = (js (c6 now (bY now 200 s) d).1 (c6 now (bY now 200 s) d).2).1 := by
   rw [← q2, ← hD2, ← hX2]
  have := Dq (now := now) w2 (by omega) (by rw [j1.rounds, hrr]; exact hr) q.1 q.2.1 q.2.2 r.2.2.2 s.out.Dropped e3
  rw [← q3]
  exact ⟨this.1, this.2.mono (by omega) (by omega)⟩
 ·
  rw [decide_eq_false (by omega), cond_false]
  simp only [if_neg hn]
  rw [ay]
  have := Dq (now := now) w (by omega) (by rw [hrr]; exact hr) r.2.1 r.2.2.1 s.out.Acked r.2.2.2 s.out.Dropped e2
  rw [r4] at this ⊢
  exact ⟨this.1, this.2.mono (by omega) (by omega)⟩

def exF (now : Int) (s : SS) : SS :=
 { cD (S.expR s.sides.Sender now).2.2 s with sides.Sender := (S.expR s.sides.Sender now).2.1, out.Dropped := s.out.Dropped ++ mS s.plan (S.expR s.sides.Sender now).1 }
def bdF (s : SS) : SS := { cD (S.barR s.sides.Sender).2 s with sides.Sender := (S.barR s.sides.Sender).1 }
def cP (s : SS) (d : List Bool) : SS × List Bool :=
 if s.sides.Sender.Bar = true then (if (eK d).1 = true then (s, (eK d).2) else (bdF (fu (S.startR s.sides.Sender) s), (eK d).2)) else (s, d)
def cr (s : SS) : Int := s.out.Rounds * s.plan.Round
def dJ (s : SS) (d : List Bool) : SS × List Bool := iT (cr s) (cP (exF (cr s) s) d).1 (cP (exF (cr s) s) d).2

theorem KP {N : Nat} {s : SS} (h : Wt N s) (hN : N ≤ 899000000) (now : Int) : Wt (N + 1000) (exF now s) := by
 obtain ⟨a1, a2⟩ := S.exp_p h.A now
 have ha := h.acc
 have hX := h.X
 refine ⟨a1, h.B, Nat.le_trans h.D (Nat.le_add_right _ _), Nat.le_trans h.K (Nat.le_add_right _ _), ?_, by omega, h.acc, h.many⟩
 simp only [exF, List.length_append, kW]; omega

theorem Ia {A : Option (Session_session × List Int)} {K : Session_session × List Int → Option (Session_session × List Bool × List Int × List Int × List Int)} {Q : SS × List Bool} {v : Session_session × List Int} (h : A = some v) (g : Gv (K v) Q) : Gv (A.bind K) Q := by
 subst h; exact g

theorem BC {N : Nat} {s : SS} (h : Wt N s) (h0 : 0 ≤ s.accepted) (hN : N ≤ 897000000) (hr : 0 ≤ s.out.Rounds ∧ s.out.Rounds ≤ 2000) (hp : 0 ≤ s.plan.Round ∧ s.plan.Round ≤ 1000000) (d : List Bool) :
  Gv (de s d) (dJ s d) ∧ Wt (N + 256000) (dJ s d).1 := by
 have hw1 := KP h (by omega) (cr s)
 obtain ⟨a1, a2⟩ := S.exp_p h.A (cr s)
 have hX := h.X
 have ha := h.acc
 have hnow : IntKind.wrap .i64 (s.out.Rounds * s.plan.Round) = cr s := by
  have h1 : 0 ≤ s.out.Rounds * s.plan.Round := Int.mul_nonneg hr.1 hp.1
  have h2 : s.out.Rounds * s.plan.Round ≤ 2000 * 1000000 := Int.mul_le_mul hr.2 hp.2 hp.1 (by omega)
  exact kw (by omega) (by omega)
 unfold de
 rw [hnow, show fe s.sides.Sender (cr s) = some (S.expR s.sides.Sender (cr s)) from S.expire_e h.A.fit h.A.len _, ay, i8, ay, sP _ _ _ (by omega), ay, fS (by rw [kW]; omega), ay]
 unfold dJ cP
 show Gv (bif (exF (cr s) s).sides.Sender.Bar then _ else _) _ ∧ _
 cases hb : (exF (cr s) s).sides.Sender.Bar with
 | false =>
  rw [cond_false, if_neg (by decide)]
  have := AO (now := cr s) (s := exF (cr s) s) hw1 h0 (by omega) hr d
  exact ⟨this.1, this.2.mono (by omega) (by omega)⟩
 | true =>
  rw [cond_true, if_pos rfl, A7, ay]
  cases hd : (eK d).1 with
  | true =>
   rw [if_pos rfl, Bool.not_true, cond_false, ay]
   have := AO (now := cr s) (s := exF (cr s) s) hw1 h0 (by omega) hr (eK d).2
   exact ⟨this.1, this.2.mono (by omega) (by omega)⟩
  | false =>
   rw [if_neg (by decide), Bool.not_false, cond_true]
   obtain ⟨⟨m, m1, m2, m3⟩, w2⟩ := zk hw1 (by omega) (S.startR (exF (cr s) s).sides.Sender) (eK d).2
   have w3 : Wt (N + 1000 + 1000) (bdF (fu (S.startR (exF (cr s) s).sides.Sender) (exF (cr s) s))) := (w2.keep _).upA (S.bar_p w2.A)
   have hS : m.1.sides.Sender = (fu (S.startR (exF (cr s) s).sides.Sender) (exF (cr s) s)).sides.Sender := by
    have := congrArg (fun z : SS => z.sides.Sender) m2; exact this
   have hfix : ({ m.1 with out.Acked := s.out.Acked, out.Delivered := m.2, out.Dropped := s.out.Dropped ++ mS s.plan (S.expR s.sides.Sender (cr s)).1 } : SS) = fu (S.startR (exF (cr s) s).sides.Sender) (exF (cr s) s) := by
    have q1 : m.1.out.Acked = s.out.Acked := by
     have := congrArg (fun z : SS => z.out.Acked) m2; exact this
    have q2 : m.1.out.Dropped = s.out.Dropped ++ mS s.plan (S.expR s.sides.Sender (cr s)).1 := by
     have := congrArg (fun z : SS => z.out.Dropped) m2; exact this
    rw [← m2, ← q1, ← q2]
   have key : ((((gH (S.expR s.sides.Sender (cr s)).2.1).bind fun x41 =>
    ((cp x41 { cD (S.expR s.sides.Sender (cr s)).2.2 s with out.Acked := s.out.Acked, out.Delivered := s.out.Delivered, out.Dropped := (s.out.Dropped ++ mS s.plan (S.expR s.sides.Sender (cr s)).1), sides.Sender := (S.expR s.sides.Sender (cr s)).2.1 } (eK d).2).bind fun x42 =>
    ((eG x42.1.sides.Sender).bind fun x43 =>
    ((aW x43.2 { x42.1 with out.Acked := s.out.Acked, out.Delivered := x42.2, out.Dropped := (s.out.Dropped ++ mS s.plan (S.expR s.sides.Sender (cr s)).1), sides.Sender := x43.1 } (eK d).2).bind fun x44 =>
    some (x44, x42.2)))))) : Option (Session_session × List Int)) = some (bdF (fu (S.startR (exF (cr s) s).sides.Sender) (exF (cr s) s)), m.2) := by
    rw [S.start_r a1, ay]
    show ((cp (S.startR (exF (cr s) s).sides.Sender) (exF (cr s) s) (eK d).2).bind _) = _
    rw [m1, ay, hS, show eG (fu (S.startR (exF (cr s) s).sides.Sender) (exF (cr s) s)).sides.Sender = some (S.barR (fu (S.startR (exF (cr s) s).sides.Sender) (exF (cr s) s)).sides.Sender) from S.barred_e w2.A.fit, ay, i8, ay]
    unfold bdF
    rw [← hfix]; rfl
   have := AO (now := cr s) (s := bdF (fu (S.startR (exF (cr s) s).sides.Sender) (exF (cr s) s))) w3 h0 (by omega) hr (eK d).2
   refine ⟨Ia key ?_, this.2.mono (by omega) (by omega)⟩
   have g := this.1
   unfold qt at g
   rw [m3]
   exact g
end Go.AX.Z.TN

/-! (TNJ) -/

set_option linter.unusedVariables false
set_option linter.unusedSimpArgs false
set_option maxRecDepth 20000
namespace Go.AX.Z.TN
open Go.AX

/-! ## The end, the beginning, a run -/

def rng (a m : Int) : List Int := (List.range (m - a).toNat).map fun (i : Nat) => a + (i : Int)
theorem Dt {a m : Int} (h : a < m) : rng a m = a :: rng (a + 1) m := by
 unfold rng
 have : (m - a).toNat = (m - (a + 1)).toNat + 1 := by omega
 rw [this, List.range_succ_eq_map, List.map_cons, List.map_map]
 congr 1
 ·
  simp
 ·
  apply List.map_congr_left
  intro i _
  simp only [Function.comp]; omega
theorem yn {a m : Int} (h : m ≤ a) : rng a m = [] := by
 unfold rng
 have : (m - a).toNat = 0 := by omega
 rw [this]; rfl
theorem BQ (a m : Int) : (rng a m).length = (m - a).toNat := by simp [rng]
theorem mI (s : SS) (hm : s.many ≤ 200) : ∀ (k n : Nat) (a : Int) (acc : List Int), (s.many - a).toNat = k → k < n → 0 ≤ a → acc.length + k ≤ 1000000000 → bW s n (acc, a) = some (acc ++ rng a s.many) := by
 intro k
 induction k with
 | zero =>
  intro n a acc hk hn ha hc
  obtain ⟨n, rfl⟩ : ∃ q, n = q + 1 := ⟨n - 1, by omega⟩
  rw [bW, decide_eq_false (by simp only; omega), cond_false, yn (by omega), List.append_nil]
 | succ k ih =>
  intro n a acc hk hn ha hc
  obtain ⟨n, rfl⟩ : ∃ q, n = q + 1 := ⟨n - 1, by omega⟩
  rw [bW, decide_eq_true (by simp only; omega), cond_true]
  simp only
  rw [fS (by omega), ay, kw (by omega) (by omega), ih n (a + 1) _ (by omega) (by omega) (by omega) (by simp; omega), Dt (a := a) (by omega)]
  simp

def clF (s : SS) : SS := { cD (S.closeR s.sides.Sender).2.2 s with sides.Sender := (S.closeR s.sides.Sender).2.1, out.Dropped := s.out.Dropped ++ mS s.plan (S.closeR s.sides.Sender).1 ++ rng s.accepted s.many }
def iF (s : SS) : SS := fu (S.closeR s.sides.Sender).2.1.Next (clF s)
theorem close_e {N : Nat} {s : SS} (h : Wt N s) (h0 : 0 ≤ s.accepted) (hN : N ≤ 898000000) (d : List Bool) :
  (∃ r, dU s d = some r ∧ { r.1 with out.Delivered := r.2.1, out.Dropped := r.2.2 } = iF s ∧ r.2.1 = (iF s).out.Delivered ∧ r.2.2 = (iF s).out.Dropped) ∧ Wt (N + 2000) (iF s) := by
 obtain ⟨a1, a2⟩ := S.close_p h.A
 have ha := h.acc
 have hm := h.many
 have hX := h.X
 have hw : Wt (N + 1000) (clF s) := by
  refine ⟨a1, h.B, Nat.le_trans h.D (Nat.le_add_right _ _), Nat.le_trans h.K (Nat.le_add_right _ _), ?_, by omega, h.acc, h.many⟩
  simp only [clF, List.length_append, kW, BQ]; omega
 obtain ⟨⟨m, m1, m2, m3⟩, w2⟩ := zk hw (by omega) (S.closeR s.sides.Sender).2.1.Next d
 refine ⟨?_, w2.mono (by omega) (by omega)⟩
 unfold dU
 rw [show fD s.sides.Sender = some (S.closeR s.sides.Sender) from S.close_e h.A.fit, ay, i8, ay, sP _ _ _ (by omega), ay, fS (by rw [kW]; omega), ay, mI (cD (S.closeR s.sides.Sender).2.2 s) hm _ big (cD (S.closeR s.sides.Sender).2.2 s).accepted _ rfl (eQ (by simp only [cD]; omega)) h0 (by simp only [List.length_append, kW, cD]; omega), ay]
 show ∃ r, ((cp (S.closeR s.sides.Sender).2.1.Next (clF s) d).bind _) = _ ∧ _
 rw [m1, ay]
 have hX2 : m.1.out.Dropped = (clF s).out.Dropped := by
  have := congrArg (fun z : SS => z.out.Dropped) m2; exact this
 refine ⟨_, rfl, ?_, m3, rfl⟩
 show ({ m.1 with out.Delivered := m.2, out.Dropped := (clF s).out.Dropped } : SS) = iF s
 unfold iF
 rw [← m2, ← hX2]

def gR (p : SessionPlan) : Prop := (0 ≤ p.Start ∧ p.Start ≤ 4095) ∧ (1 ≤ p.Size ∧ p.Size ≤ 64) ∧ (1 ≤ p.Limit ∧ p.Limit ≤ 16) ∧ (1 ≤ p.Burst ∧ p.Burst ≤ 64) ∧ (1 ≤ p.Life ∧ p.Life ≤ 1073741824) ∧ (0 ≤ p.Hold ∧ p.Hold ≤ 16777216) ∧ (1 ≤ p.Round ∧ p.Round ≤ 1000000)
instance (p : SessionPlan) : Decidable (gR p) := by unfold gR; infer_instance
theorem Ha (p : SessionPlan) : ii p = some (if gR p then 0 else 8) := by
 unfold ii
 simp only [cL, ay]
 have b1 : ∀ (a b : Bool), (bif a then some b else some false) = some (a && b) := by intro a b; cases a <;> rfl
 simp only [b1, ay]
 by_cases h : gR p
 ·
  obtain ⟨⟨a1, a2⟩, ⟨a3, a4⟩, ⟨a5, a6⟩, ⟨a7, a8⟩, ⟨a9, a10⟩, ⟨a11, a12⟩, a13, a14⟩ := h
  rw [if_pos ⟨⟨a1, a2⟩, ⟨a3, a4⟩, ⟨a5, a6⟩, ⟨a7, a8⟩, ⟨a9, a10⟩, ⟨a11, a12⟩, a13, a14⟩]
  simp only [a1, a2, a3, a4, a5, a6, a7, a8, a9, a10, a11, a12, a13, a14, decide_true, Bool.and_self, Bool.not_true, Bool.or_self, cond_false]
 ·
  rw [if_neg h]
  cases hc : (!((((decide (0 ≤ p.Start) && decide (p.Start ≤ 4095)) && (decide (1 ≤ p.Size) && decide (p.Size ≤ 64))) && (decide (1 ≤ p.Limit) && decide (p.Limit ≤ 16))) && (decide (1 ≤ p.Burst) && decide (p.Burst ≤ 64))) || !(((decide (1 ≤ p.Life) && decide (p.Life ≤ 1073741824)) && (decide (0 ≤ p.Hold) && decide (p.Hold ≤ 16777216))) && (decide (1 ≤ p.Round) && decide (p.Round ≤ 1000000))))
  ·
   exfalso
   apply h
   simp only [Bool.or_eq_false_iff, Bool.not_eq_false', Bool.and_eq_true, decide_eq_true_eq] at hc
   unfold gR; omega
  ·
   rfl

def A0 (p : SessionPlan) : Sender := { Sender.z with Life := p.Life, Limit := p.Limit, Next := p.Start, Phase := 2, Size := p.Size, Token := 1 }
def B0 (p : SessionPlan) : Reorder := { Reorder.z with Hold := p.Hold, Seen := { Window.z with Start := p.Start }, Size := p.Size, Start := p.Start }
def gb (p : SessionPlan) (many : Int) : SS := { Session_session.z with many := many, plan := p }
theorem z5 {p : SessionPlan} (hp : gR p) (t ph sz : Int) (ht : 0 ≤ t ∧ t ≤ 255) (hph : 0 ≤ ph ∧ ph ≤ 2) (hsz : if ph = 0 then sz = 0 else 1 ≤ sz ∧ sz ≤ 64) : S.Valid { A0 p with Token := t, Phase := ph, Size := sz } := by
 obtain ⟨h1, h2, h3, h4, h5, h6, h7⟩ := hp
 have e : S.startOf { A0 p with Token := t, Phase := ph, Size := sz } = p.Start := rfl
 refine ⟨by simp [A0, Sender.z], hph.2, ht, h1, h3, h5, hsz, fun _ => ⟨rfl, rfl⟩, ?_, trivial⟩
 rw [e]
 show aE p.Start p.Start ≤ sz
 have : aE p.Start p.Start = 0 := by unfold aE; simp
 rw [this]
 split at hsz <;> omega
theorem Gg {p : SessionPlan} (hp : gR p) (many : Int) (d : List Bool) : dW (gb p many) d = some { gb p many with sides := ⟨A0 p, B0 p⟩ } := by
 have v0 : S.Valid (S.newS 0 p.Start p.Limit p.Life) := z5 hp 0 0 0 (by omega) (by omega) rfl
 have f0 := S.newS_fit 0 p.Start p.Limit p.Life
 have k1 : S.tok (S.newS 0 p.Start p.Limit p.Life) = 1 := by
  show IntKind.wrap .i64 ((0 : Int).tmod 255 + 1) = 1; decide
 obtain ⟨h1, h2, h3, h4, h5, h6, h7⟩ := hp
 have hp : gR p := ⟨h1, h2, h3, h4, h5, h6, h7⟩
 have e1 : S.askS (S.newS 0 p.Start p.Limit p.Life) p.Size = { A0 p with Token := 1, Phase := 1 } := by
  unfold S.askS; rw [k1]; rfl
 have v1 : S.Valid ({ A0 p with Token := 1, Phase := 1 } : Sender) := z5 hp 1 1 p.Size (by omega) (by omega) h2
 have hb : R.VR (B0 p) := ⟨⟨⟨h1.1, by show p.Start < 4096; omega⟩, h2.1, h2.2, h6.1, h6.2, h1.1, by show p.Start < 4096; omega⟩, trivial⟩
 unfold dW
 rw [show (gb p many).plan = p from rfl, S.new_e, if_pos v0, ay, i8, ay]
 simp only
 rw [S.ask_e f0, if_pos v0, if_pos h2, if_neg (show ¬ (S.newS 0 p.Start p.Limit p.Life).Phase = 2 from (by decide : ¬ (0 : Int) = 2)), ay, i8, ay]
 simp only
 rw [e1, S.answer_e ⟨by simp [A0, Sender.z], by simp [A0, Sender.z]⟩, if_pos v1, if_pos rfl, if_pos ⟨k1, rfl⟩, if_neg (by rintro ⟨_, q⟩; exact q ⟨h2.1, Int.le_refl _⟩), ay, i8, ay]
 unfold lB
 rw [show ({ Reorder.z with Hold := p.Hold, Seen := { Window.z with Start := p.Start }, Size := p.Size, Start := p.Start } : Reorder) = B0 p from rfl, R.check_e _ (by simp [B0, Reorder.z]), if_pos hb, ay, bne_self_eq_false, cond_false, ay, i8, ay]
 rfl

def i5 : Nat → SS → List Bool → SS × List Bool
 | 0, s, d => (s, d)
 | n + 1, s, d => if s.err = 0 ∧ (s.accepted < s.many ∨ s.sides.Sender.Out ≠ [] ∨ s.sides.Sender.Bar = true) then
   (if s.out.Rounds = 2000 then (iF s, d) else i5 n (dJ s d).1 (dJ s d).2) else (s, d)

theorem Df (now : Int) (s : SS) (d : List Bool) : (iT now s d).1.plan = s.plan ∧ (iT now s d).1.many = s.many ∧ (iT now s d).1.out.Rounds = s.out.Rounds + 1 ∧ (0 ≤ s.accepted → 0 ≤ (iT now s d).1.accepted) := by
 obtain ⟨m1, m2, m3⟩ := zl now 200 s
 obtain ⟨k1, k2, k3, k4⟩ := AD now (bY now 200 s) d
 have hs := m1.trans k1
 have q : Sm s (rpF (S.pikR (bY now 200 s).sides.Sender (bY now 200 s).plan.Burst).1.length (c6 now (bY now 200 s) d)).1 ∧ (rpF (S.pikR (bY now 200 s).sides.Sender (bY now 200 s).plan.Burst).1.length (c6 now (bY now 200 s) d)).1.accepted = (c6 now (bY now 200 s) d).1.accepted := by
  unfold rpF
  split
  ·
   obtain ⟨j1, j2, j3, j4⟩ := B3 (c6 now (bY now 200 s) d).1 (c6 now (bY now 200 s) d).2
   exact ⟨hs.trans j1, j4⟩
  ·
   exact ⟨hs, rfl⟩
 refine ⟨q.1.plan, q.1.many, ?_, fun h => ?_⟩
 ·
  show (rpF _ _).1.out.Rounds + 1 = _
  rw [q.1.rounds]
 ·
  show 0 ≤ (rpF _ _).1.accepted
  rw [q.2, k4]; exact m3 h
theorem te (s : SS) (d : List Bool) : (dJ s d).1.plan = s.plan ∧ (dJ s d).1.many = s.many ∧ (dJ s d).1.out.Rounds = s.out.Rounds + 1 ∧ (0 ≤ s.accepted → 0 ≤ (dJ s d).1.accepted) := by
 have hb : (cP (exF (cr s) s) d).1.plan = s.plan ∧ (cP (exF (cr s) s) d).1.many = s.many ∧ (cP (exF (cr s) s) d).1.out.Rounds = s.out.Rounds ∧ (cP (exF (cr s) s) d).1.accepted = s.accepted := by
  unfold cP
  split
  ·
   split
   ·
    exact ⟨rfl, rfl, rfl, rfl⟩
   ·
    exact ⟨rfl, rfl, rfl, rfl⟩
  ·
   exact ⟨rfl, rfl, rfl, rfl⟩
 obtain ⟨a, b, c, e⟩ := Df (cr s) (cP (exF (cr s) s) d).1 (cP (exF (cr s) s) d).2
 exact ⟨a.trans hb.1, b.trans hb.2.1, c.trans (by rw [hb.2.2.1]), fun h => e (by rw [hb.2.2.2]; exact h)⟩

theorem D7 (many : Int) (hm : 0 ≤ many ∧ many ≤ 200) : ∀ (k n N : Nat) (s : SS) (d : List Bool) (x : SS) (D K X : List Int), { x with out.Delivered := D, out.Acked := K, out.Dropped := X } = s → Wt N s → 0 ≤ s.accepted → s.many = many → 0 ≤ s.out.Rounds → s.out.Rounds + k = 2000 → (0 ≤ s.plan.Round ∧ s.plan.Round ≤ 1000000) → N + 256000 * k ≤ 800000000 → k < n →
  ∃ r, ej many n (x, d, D, K, X) = some r ∧ { r.1 with out.Delivered := r.2.2.1, out.Acked := r.2.2.2.1, out.Dropped := r.2.2.2.2 } = (i5 (k + 1) s d).1 := by
 intro k
 induction k with
 | zero =>
  intro n N s d x D K X hx hw ha hmy hr hk hp hN hn
  obtain ⟨n, rfl⟩ : ∃ q, n = q + 1 := ⟨n - 1, by omega⟩
  rw [ej]
  subst hx
  unfold i5
  by_cases hc : x.err = 0 ∧ (x.accepted < many ∨ x.sides.Sender.Out ≠ [] ∨ x.sides.Sender.Bar = true)
  ·
   have hcb : ((x.err == 0) && (((decide (x.accepted < many)) || (decide (0 < ((x.sides.Sender.Out.length : Nat) : Int)))) || x.sides.Sender.Bar)) = true := by
    obtain ⟨h1, h2⟩ := hc
    rw [h1]
    rcases h2 with h2 | h2 | h2
    ·
     simp [h2]
    ·
     have : 0 < x.sides.Sender.Out.length := List.length_pos_iff.2 h2
     simp [this]
    ·
     simp [h2]
   have hcs : ({ x with out.Delivered := D, out.Acked := K, out.Dropped := X } : SS).err = 0 ∧ (({ x with out.Delivered := D, out.Acked := K, out.Dropped := X } : SS).accepted < ({ x with out.Delivered := D, out.Acked := K, out.Dropped := X } : SS).many ∨ ({ x with out.Delivered := D, out.Acked := K, out.Dropped := X } : SS).sides.Sender.Out ≠ [] ∨ ({ x with out.Delivered := D, out.Acked := K, out.Dropped := X } : SS).sides.Sender.Bar = true) := by
    rw [hmy]; exact hc
   have hR : x.out.Rounds = 2000 := by simp only at hk; omega
   rw [if_pos hcs, if_pos hR]
   simp only [hcb, cond_true]
   rw [show (x.out.Rounds == 2000) = true by simpa using hR, cond_true]
   obtain ⟨⟨r, r1, r2, r3, r4⟩, w⟩ := close_e hw ha (by omega) d
   rw [r1, ay]
   refine ⟨_, rfl, ?_⟩
   have hK : r.1.out.Acked = K := by
    have := congrArg (fun z : SS => z.out.Acked) r2; exact this
   simp only
   rw [← r2, ← hK]
  ·
   have hcb : ((x.err == 0) && (((decide (x.accepted < many)) || (decide (0 < ((x.sides.Sender.Out.length : Nat) : Int)))) || x.sides.Sender.Bar)) = false := by
    rw [Bool.eq_false_iff]
    intro q
    apply hc
    simp only [Bool.and_eq_true, beq_iff_eq, Bool.or_eq_true, decide_eq_true_eq] at q
    refine ⟨q.1, ?_⟩
    rcases q.2 with (q | q) | q
    ·
     exact .inl q
    ·
     exact .inr (.inl (List.length_pos_iff.1 (by omega)))
    ·
     exact .inr (.inr q)
   have hcs : ¬ (({ x with out.Delivered := D, out.Acked := K, out.Dropped := X } : SS).err = 0 ∧ (({ x with out.Delivered := D, out.Acked := K, out.Dropped := X } : SS).accepted < ({ x with out.Delivered := D, out.Acked := K, out.Dropped := X } : SS).many ∨ ({ x with out.Delivered := D, out.Acked := K, out.Dropped := X } : SS).sides.Sender.Out ≠ [] ∨ ({ x with out.Delivered := D, out.Acked := K, out.Dropped := X } : SS).sides.Sender.Bar = true)) := by
    rw [hmy]; exact hc
   rw [if_neg hcs]
   simp only [hcb, cond_false]
   exact ⟨_, rfl, rfl⟩
 | succ k ih =>
  intro n N s d x D K X hx hw ha hmy hr hk hp hN hn
  obtain ⟨n, rfl⟩ : ∃ q, n = q + 1 := ⟨n - 1, by omega⟩
  rw [ej]
  subst hx
  unfold i5
  by_cases hc : x.err = 0 ∧ (x.accepted < many ∨ x.sides.Sender.Out ≠ [] ∨ x.sides.Sender.Bar = true)
  ·
   have hcb : ((x.err == 0) && (((decide (x.accepted < many)) || (decide (0 < ((x.sides.Sender.Out.length : Nat) : Int)))) || x.sides.Sender.Bar)) = true := by
    obtain ⟨h1, h2⟩ := hc
    rw [h1]
    rcases h2 with h2 | h2 | h2
    ·
     simp [h2]
    ·
     have : 0 < x.sides.Sender.Out.length := List.length_pos_iff.2 h2
     simp [this]
    ·
     simp [h2]
   have hcs : ({ x with out.Delivered := D, out.Acked := K, out.Dropped := X } : SS).err = 0 ∧ (({ x with out.Delivered := D, out.Acked := K, out.Dropped := X } : SS).accepted < ({ x with out.Delivered := D, out.Acked := K, out.Dropped := X } : SS).many ∨ ({ x with out.Delivered := D, out.Acked := K, out.Dropped := X } : SS).sides.Sender.Out ≠ [] ∨ ({ x with out.Delivered := D, out.Acked := K, out.Dropped := X } : SS).sides.Sender.Bar = true) := by
    rw [hmy]; exact hc
   have hR : x.out.Rounds ≠ 2000 := by simp only at hk; omega
   rw [if_pos hcs, if_neg hR]
   simp only [hcb, cond_true]
   rw [show (x.out.Rounds == 2000) = false by simpa using hR, cond_false]
   obtain ⟨⟨r, r1, r2, r3⟩, w⟩ := BC hw ha (by omega) ⟨hr, by simp only at hk ⊢; omega⟩ hp d
   obtain ⟨z1, z2, z3, z4⟩ := te ({ x with out.Delivered := D, out.Acked := K, out.Dropped := X } : SS) d
   have r1' : de { x with out.Acked := K, out.Delivered := D, out.Dropped := X } d = some r := r1
   rw [r1', ay]
   have := ih n (N + 256000) (dJ ({ x with out.Delivered := D, out.Acked := K, out.Dropped := X } : SS) d).1 r.2.1 r.1 r.2.2.1 r.2.2.2.1 r.2.2.2.2 r2 w (z4 ha) (z2.trans hmy) (by rw [z3]; simp only at hr ⊢; omega) (by rw [z3]; simp only at hk ⊢; omega) (by rw [z1]; exact hp) (by omega) (by omega)
   rw [r3] at this
   rw [r3]
   exact this
  ·
   have hcb : ((x.err == 0) && (((decide (x.accepted < many)) || (decide (0 < ((x.sides.Sender.Out.length : Nat) : Int)))) || x.sides.Sender.Bar)) = false := by
    rw [Bool.eq_false_iff]
    intro q
    apply hc
    simp only [Bool.and_eq_true, beq_iff_eq, Bool.or_eq_true, decide_eq_true_eq] at q
    refine ⟨q.1, ?_⟩
    rcases q.2 with (q | q) | q
    ·
     exact .inl q
    ·
     exact .inr (.inl (List.length_pos_iff.1 (by omega)))
    ·
     exact .inr (.inr q)
   have hcs : ¬ (({ x with out.Delivered := D, out.Acked := K, out.Dropped := X } : SS).err = 0 ∧ (({ x with out.Delivered := D, out.Acked := K, out.Dropped := X } : SS).accepted < ({ x with out.Delivered := D, out.Acked := K, out.Dropped := X } : SS).many ∨ ({ x with out.Delivered := D, out.Acked := K, out.Dropped := X } : SS).sides.Sender.Out ≠ [] ∨ ({ x with out.Delivered := D, out.Acked := K, out.Dropped := X } : SS).sides.Sender.Bar = true)) := by
    rw [hmy]; exact hc
   rw [if_neg hcs]
   simp only [hcb, cond_false]
   exact ⟨_, rfl, rfl⟩

def start (p : SessionPlan) (many : Int) : SS := { gb p many with sides := ⟨A0 p, B0 p⟩ }
def mi (p : SessionPlan) (many : Int) (d : List Bool) : SessionResult × Int :=
 if gR p then (if 0 ≤ many ∧ many ≤ 200 then
  (if (i5 2001 (start p many) d).1.err = 0 then ((i5 2001 (start p many) d).1.out, 0) else (SessionResult.z, (i5 2001 (start p many) d).1.err))
  else (SessionResult.z, 4)) else (SessionResult.z, 8)
theorem J7 (p : SessionPlan) (many : Int) (d : List Bool) : gz p many d = some (mi p many d) := by
 unfold gz mi
 rw [Ha, ay]
 by_cases hp : gR p
 ·
  rw [if_pos hp, if_pos hp, bne_self_eq_false, cond_false]
  simp only [cL, ay]
  by_cases hm : 0 ≤ many ∧ many ≤ 200
  ·
   rw [if_pos hm, show (!(decide (0 ≤ many) && decide (many ≤ 200))) = false by simp [hm], cond_false]
   rw [show ({ Session_session.z with many := many, out.Acked := ([] : List Int), out.Delivered := ([] : List Int), out.Dropped := ([] : List Int), plan := p } : SS) = gb p many from rfl, Gg hp, ay]
   have hw : Wt 0 (start p many) := ⟨⟨by simp [start, gb, A0, Sender.z, Session_session.z], by simp [start, gb, Session_session.z], by simp [start, A0, Sender.z]⟩, ⟨by simp [start, B0, Reorder.z], by simp [start, B0, Reorder.z]⟩, by simp [start, gb, Session_session.z, SessionResult.z], by simp [start, gb, Session_session.z, SessionResult.z], by simp [start, gb, Session_session.z, SessionResult.z], by omega, by simp [start, gb, Session_session.z], hm.2⟩
   obtain ⟨r, r1, r2⟩ := D7 many hm 2000 big 0 (start p many) d (start p many) [] [] [] rfl hw (Int.le_refl _) rfl (Int.le_refl _) rfl (by have := hp.2.2.2.2.2.2; show 0 ≤ p.Round ∧ p.Round ≤ 1000000; omega) (by omega) (eQ (by omega))
   rw [show ({ gb p many with sides := ⟨A0 p, B0 p⟩ } : SS) = start p many from rfl, r1, ay]
   have he : r.1.err = (i5 2001 (start p many) d).1.err := by
    have := congrArg (fun z : SS => z.err) r2; exact this
   rw [he]
   by_cases h0 : (i5 2001 (start p many) d).1.err = 0
   ·
    rw [if_pos h0, h0, bne_self_eq_false, cond_false]
    have := congrArg (fun z : SS => z.out) r2
    simp only at this
    rw [← this]
   ·
    rw [if_neg h0, show ((i5 2001 (start p many) d).1.err != 0) = true by simpa using h0]; rfl
  ·
   rw [if_neg hm, show (!(decide (0 ≤ many) && decide (many ≤ 200))) = true by simp; omega]; rfl
 ·
  rw [if_neg hp, if_neg hp]; rfl
end Go.AX.Z.TN

/-! (TNL) -/

set_option linter.unusedVariables false
set_option linter.unusedSimpArgs false
set_option maxRecDepth 20000
namespace Go.AX.Z.TN
open Go.AX

theorem Gi : fG = some true := by decide +kernel

def Mod (r : SessionResult) : Prop := r.Delivered.length ≤ 900000000 ∧ r.Acked.length ≤ 900000000 ∧ r.Dropped.length ≤ 900000000
theorem Hy : ∀ (k N : Nat) (s : SS) (d : List Bool), Wt N s → 0 ≤ s.accepted → 0 ≤ s.out.Rounds → s.out.Rounds + k = 2000 → (0 ≤ s.plan.Round ∧ s.plan.Round ≤ 1000000) → N + 256000 * k ≤ 800000000 → Wt 900000000 (i5 (k + 1) s d).1 := by
 intro k
 induction k with
 | zero =>
  intro N s d hw ha hr hk hp hN
  unfold i5
  split
  ·
   rw [if_pos (by omega)]
   exact (close_e hw ha (by omega) d).2.mono (by omega) (by omega)
  ·
   exact hw.mono hw.N (Nat.le_refl _)
 | succ k ih =>
  intro N s d hw ha hr hk hp hN
  unfold i5
  split
  ·
   rw [if_neg (by omega)]
   obtain ⟨z1, z2, z3, z4⟩ := te s d
   exact ih (N + 256000) _ _ (BC hw ha (by omega) ⟨hr, by omega⟩ hp d).2 (z4 ha) (by rw [z3]; omega) (by rw [z3]; omega) (by rw [z1]; exact hp) (by omega)
  ·
   exact hw.mono hw.N (Nat.le_refl _)
theorem Fv (p : SessionPlan) (many : Int) (hm : many ≤ 200) : Wt 0 (start p many) := ⟨⟨by simp [start, gb, A0, Sender.z, Session_session.z], by simp [start, gb, Session_session.z], by simp [start, A0, Sender.z]⟩, ⟨by simp [start, B0, Reorder.z], by simp [start, B0, Reorder.z]⟩, by simp [start, gb, Session_session.z, SessionResult.z], by simp [start, gb, Session_session.z, SessionResult.z], by simp [start, gb, Session_session.z, SessionResult.z], by omega, by simp [start, gb, Session_session.z], hm⟩
theorem En : Mod SessionResult.z := ⟨by simp [SessionResult.z], by simp [SessionResult.z], by simp [SessionResult.z]⟩
theorem FW (p : SessionPlan) (many : Int) (d : List Bool) : Mod (mi p many d).1 := by
 unfold mi
 split
 ·
  rename_i hp
  split
  ·
   rename_i hm
   split
   ·
    have : Wt 900000000 (i5 (2000 + 1) (start p many) d).1 := Hy 2000 0 (start p many) d (Fv p many hm.2) (Int.le_refl _) (Int.le_refl _) (by show (0 : Int) + ((2000 : Nat) : Int) = 2000; omega) (by have := hp.2.2.2.2.2.2; show 0 ≤ p.Round ∧ p.Round ≤ 1000000; omega) (by decide)
    exact ⟨this.D, this.K, this.X⟩
   ·
    exact En
  ·
   exact En
 ·
  exact En

end Go.AX.Z.TN

/-! (TNM) -/

set_option linter.unusedVariables false
set_option linter.unusedSimpArgs false
set_option maxRecDepth 20000
namespace Go.AX.Z.TN
open Go.AX

theorem rt {a b : Int} (h : a ≤ b) (h2 : b - a < 4096) : aE a b = b - a := by unfold aE; omega
theorem y0 {a b : Int} (h : b < a) (h2 : a - b ≤ 4096) : aE a b = 4096 - (a - b) := by unfold aE; omega
theorem GJ {n : Int} (h : 0 ≤ n) (h2 : n < 4096) : aE 0 n = n := by unfold aE; omega
theorem ze {p : SessionPlan} (hp : p.Start = 0) {l : List Int} (h : ∀ x ∈ l, 0 ≤ x ∧ x < 4096) : mS p l = l := by
 unfold mS
 rw [hp]
 conv => rhs; rw [← List.map_id l]
 exact List.map_congr_left fun x hx => GJ (h x hx).1 (h x hx).2
abbrev fq (f : Frame) : Int := f.Head.Seq
theorem DO {p : SessionPlan} (hp : p.Start = 0) {l : List Frame} (h : ∀ f ∈ l, 0 ≤ fq f ∧ fq f < 4096) : rel p l = l.map fq := by
 unfold rel
 rw [hp]
 exact List.map_congr_left fun x hx => GJ (h x hx).1 (h x hx).2

def hn (b : Reorder) : List Int := b.Held.map (·.n)
theorem kZ {b : Reorder} {i : Int} : i ∈ hn b ↔ ∃ h ∈ b.Held, h.n = i := by unfold hn; rw [List.mem_map]

namespace R
theorem relF_run (S : Int) : ∀ (l : List HeldSeq) (m : Int), Sortd S l → (∀ x ∈ l, m ≤ aE S x.n) →
  m ≤ (relF S m l).1 ∧ (∀ f ∈ (relF S m l).2.1, m ≤ aE S (fq f) ∧ aE S (fq f) < (relF S m l).1) ∧ ((relF S m l).2.1).Pairwise (fun f g => aE S (fq f) < aE S (fq g)) ∧
  (∀ x ∈ (relF S m l).2.2, (relF S m l).1 < aE S x.n) ∧ (∀ x ∈ l, x ∈ (relF S m l).2.2 ∨ x.Frame ∈ (relF S m l).2.1) ∧ (∀ x ∈ (relF S m l).2.2, x ∈ l) ∧ (∀ f ∈ (relF S m l).2.1, ∃ x ∈ l, x.Frame = f) ∧
  ((relF S m l).1 = m ∨ ∃ x ∈ l, aE S x.n + 1 = (relF S m l).1)
 | [], m, _, _ => by simp [relF]
 | h :: r, m, hs, hm => by
  have hp := (List.pairwise_cons.1 hs.1).1
  have hh := hm h (by simp)
  unfold relF
  by_cases he : aE S h.n = m
  ·
   rw [if_pos he]
   obtain ⟨a, b, c, d, e, f, g, k⟩ := relF_run S r (m + 1) hs.tail (fun x hx => by have := hp x hx; omega)
   refine ⟨by omega, ?_, ?_, d, ?_, fun x hx => List.mem_cons_of_mem _ (f x hx), ?_, ?_⟩
   ·
    intro z hz
    rcases List.mem_cons.1 hz with rfl | hz
    ·
     exact ⟨by show m ≤ aE S h.n; omega, by show aE S h.n < _; omega⟩
    ·
     have := b z hz; exact ⟨by omega, this.2⟩
   ·
    refine List.pairwise_cons.2 ⟨fun z hz => ?_, c⟩
    have := b z hz
    show aE S h.n < _; omega
   ·
    intro x hx
    rcases List.mem_cons.1 hx with rfl | hx
    ·
     exact .inr (by simp)
    ·
     rcases e x hx with q | q
     ·
      exact .inl q
     ·
      exact .inr (List.mem_cons_of_mem _ q)
   ·
    intro z hz
    rcases List.mem_cons.1 hz with rfl | hz
    ·
     exact ⟨h, by simp, rfl⟩
    ·
     obtain ⟨x, hx, q⟩ := g z hz; exact ⟨x, List.mem_cons_of_mem _ hx, q⟩
   ·
    rcases k with k | ⟨x, hx, q⟩
    ·
     exact .inr ⟨h, by simp, by omega⟩
    ·
     exact .inr ⟨x, List.mem_cons_of_mem _ hx, q⟩
  ·
   rw [if_neg he]
   refine ⟨Int.le_refl _, by simp, by simp, ?_, fun x hx => .inl hx, fun x hx => hx, by simp, .inl rfl⟩
   intro x hx
   show m < aE S x.n
   rcases List.mem_cons.1 hx with rfl | hx
   ·
    omega
   ·
    have := hp x hx; omega
end R

structure Mv (a : Int) (b : Reorder) (to : Int) (out : List Frame) (nx : Reorder) : Prop where
 size : nx.Size = b.Size
 hold : nx.Hold = b.Hold
 seen : nx.Seen = b.Seen
 le : to ≤ nx.Start ∧ nx.Start ≤ a
 held : ∀ h ∈ nx.Held, nx.Start < h.n ∧ h.n < a
 inc : (out.map fq).Pairwise (· < ·)
 rng : ∀ f ∈ out, b.Start ≤ fq f ∧ fq f < nx.Start
 iff : ∀ i, i ∈ hn b ↔ i ∈ out.map fq ∨ i ∈ hn nx
theorem Km {a : Int} {b : Reorder} (ha : a ≤ 200) (h0 : 0 ≤ b.Start) (hs : R.Sortd b.Start b.Held) (hh : ∀ h ∈ b.Held, b.Start ≤ h.n ∧ h.n < a) {to : Int} (ht : b.Start ≤ to ∧ to ≤ a) : Mv a b to (R.mvF b (aE b.Start to)).1 (R.mvF b (aE b.Start to)).2 := by
 have hd : ∀ h ∈ b.Held, aE b.Start h.n = h.n - b.Start := fun h hx => rt (hh h hx).1 (by have := (hh h hx).2; omega)
 have hdt : aE b.Start to = to - b.Start := rt ht.1 (by omega)
 have hpost : R.Sortd b.Start (R.post b (aE b.Start to)) := ⟨hs.1.sublist List.filter_sublist, fun x hx => hs.2 x (List.mem_filter.1 hx).1⟩
 have hpm : ∀ x ∈ R.post b (aE b.Start to), x ∈ b.Held ∧ aE b.Start to ≤ aE b.Start x.n := fun x hx => by
  have := List.mem_filter.1 hx
  refine ⟨this.1, ?_⟩
  have h2 := this.2
  simp only [Bool.not_eq_true', decide_eq_false_iff_not] at h2
  omega
 have hprm : ∀ x ∈ R.pre b (aE b.Start to), x ∈ b.Held ∧ aE b.Start x.n < aE b.Start to := fun x hx => by
  have := List.mem_filter.1 hx
  exact ⟨this.1, by simpa using this.2⟩
 obtain ⟨q1, q2, q3, q4, q5, q6, q7, q8⟩ := R.relF_run b.Start (R.post b (aE b.Start to)) (aE b.Start to) hpost (fun x hx => (hpm x hx).2)
 have hfr : ∀ f ∈ (R.relF b.Start (aE b.Start to) (R.post b (aE b.Start to))).2.1, ∃ x ∈ b.Held, x.Frame = f := fun f hf => by
  obtain ⟨x, hx, e⟩ := q7 f hf; exact ⟨x, (hpm x hx).1, e⟩
 have hfd : ∀ f, (∃ x ∈ b.Held, x.Frame = f) → aE b.Start (fq f) = fq f - b.Start := by
  rintro f ⟨x, hx, rfl⟩; exact hd x hx
 have hr1 : (R.relF b.Start (aE b.Start to) (R.post b (aE b.Start to))).1 ≤ a - b.Start := by
  rcases q8 with q8 | ⟨x, hx, e⟩
  ·
   omega
  ·
   have := hd x (hpm x hx).1
   have := (hh x (hpm x hx).1).2
   omega
 have hst : (R.mvF b (aE b.Start to)).2.Start = b.Start + (R.relF b.Start (aE b.Start to) (R.post b (aE b.Start to))).1 := by
  show (b.Start + _) % 4096 = _
  omega
 have hst' : (R.mvF b (aE b.Start to)).1 = (R.pre b (aE b.Start to)).map (·.Frame) ++ (R.relF b.Start (aE b.Start to) (R.post b (aE b.Start to))).2.1 := rfl
 have hpf : ∀ f ∈ (R.pre b (aE b.Start to)).map (·.Frame), ∃ x ∈ b.Held, x.Frame = f ∧ aE b.Start (fq f) < aE b.Start to := fun f hf => by
  obtain ⟨x, hx, rfl⟩ := List.mem_map.1 hf
  exact ⟨x, (hprm x hx).1, rfl, (hprm x hx).2⟩
 refine ⟨rfl, rfl, rfl, ⟨by omega, by omega⟩, ?_, ?_, ?_, ?_⟩
 ·
  intro h hx
  have h1 := q4 h hx
  have h2 := (hpm h (q6 h hx)).1
  have := hd h h2
  have := hh h h2
  omega
 ·
  rw [hst', List.map_append, List.pairwise_append]
  refine ⟨?_, ?_, ?_⟩
  ·
   rw [List.map_map, List.pairwise_map]
   have : (R.pre b (aE b.Start to)).Pairwise (fun x y => aE b.Start x.n < aE b.Start y.n) := hs.1.sublist List.filter_sublist
   refine List.Pairwise.imp_of_mem ?_ this
   intro x y hx hy hxy
   rw [hd x (hprm x hx).1, hd y (hprm y hy).1] at hxy
   show x.n < y.n; omega
  ·
   rw [List.pairwise_map]
   refine List.Pairwise.imp_of_mem ?_ q3
   intro f g hf hg hfg
   rw [hfd f (hfr f hf), hfd g (hfr g hg)] at hfg
   omega
  ·
   intro i hi j hj
   obtain ⟨f, hf, rfl⟩ := List.mem_map.1 hi
   obtain ⟨g, hg, rfl⟩ := List.mem_map.1 hj
   obtain ⟨x, hx, e, hlt⟩ := hpf f hf
   have h1 := q2 g hg
   rw [hfd f ⟨x, hx, e⟩] at hlt
   rw [hfd g (hfr g hg)] at h1
   omega
 ·
  intro f hf
  rw [hst', List.mem_append] at hf
  rcases hf with hf | hf
  ·
   obtain ⟨x, hx, rfl, hlt⟩ := hpf f hf
   have := hh x hx
   have := hfd x.Frame ⟨x, hx, rfl⟩
   exact ⟨(hh x hx).1, by omega⟩
  ·
   have h1 := q2 f hf
   have h2 := hfd f (hfr f hf)
   omega
 ·
  intro i
  rw [kZ, hst']
  constructor
  ·
   rintro ⟨x, hx, rfl⟩
   by_cases hlt : aE b.Start x.n < aE b.Start to
   ·
    refine .inl (List.mem_map.2 ⟨x.Frame, List.mem_append.2 (.inl (List.mem_map.2 ⟨x, List.mem_filter.2 ⟨hx, by simpa using hlt⟩, rfl⟩)), rfl⟩)
   ·
    have : x ∈ R.post b (aE b.Start to) := List.mem_filter.2 ⟨hx, by simpa using hlt⟩
    rcases q5 x this with q | q
    ·
     exact .inr (kZ.2 ⟨x, q, rfl⟩)
    ·
     exact .inl (List.mem_map.2 ⟨x.Frame, List.mem_append.2 (.inr q), rfl⟩)
  ·
   rintro (hi | hi)
   ·
    obtain ⟨f, hf, rfl⟩ := List.mem_map.1 hi
    rcases List.mem_append.1 hf with hf | hf
    ·
     obtain ⟨x, hx, rfl, _⟩ := hpf f hf; exact ⟨x, hx, rfl⟩
    ·
     obtain ⟨x, hx, rfl⟩ := hfr f hf; exact ⟨x, hx, rfl⟩
   ·
    obtain ⟨x, hx, rfl⟩ := kZ.1 hi
    exact ⟨x, (hpm x (q6 x hx)).1, rfl⟩
end Go.AX.Z.TN

/-! (TNN) -/

set_option linter.unusedVariables false
set_option linter.unusedSimpArgs false
set_option maxRecDepth 20000
namespace Go.AX.Z.TN
open Go.AX

def U64 (B : Int) : Prop := 0 ≤ B ∧ B < 18446744073709551616
theorem qg : (2 : Nat) ^ 64 = 18446744073709551616 := rfl
theorem GV (X e : Nat) : (X : Int).fdiv (2 ^ e) = ((X / 2 ^ e : Nat) : Int) := by
 rw [Int.fdiv_eq_ediv_of_nonneg _ (by exact Int.pow_nonneg (by decide))]
 simp
theorem KC (Y : Nat) (hY : Y < 18446744073709551616) : uP .u64 (Y : Int) 1 = ((Y % 2 : Nat) : Int) := by
 have hb : (IntKind.bits .u64) = 64 := rfl
 unfold uP
 rw [hb, show (1 : Int) = ((1 : Nat) : Int) from rfl, BitVec.ofInt_natCast, BitVec.ofInt_natCast, BitVec.toNat_and, BitVec.toNat_ofNat, BitVec.toNat_ofNat, Nat.mod_eq_of_lt (by rw [qg]; exact hY), Nat.mod_eq_of_lt (by decide), Nat.and_one_is_mod, no]
 omega
theorem Kz (X Y : Nat) (hX : X < 18446744073709551616) (hY : Y < 18446744073709551616) : bor .u64 (X : Int) (Y : Int) = ((X ||| Y : Nat) : Int) := by
 have hb : (IntKind.bits .u64) = 64 := rfl
 have h : X ||| Y < 2 ^ 64 := Nat.or_lt_two_pow (by rw [qg]; exact hX) (by rw [qg]; exact hY)
 unfold bor
 rw [hb, BitVec.ofInt_natCast, BitVec.ofInt_natCast, BitVec.toNat_or, BitVec.toNat_ofNat, BitVec.toNat_ofNat, Nat.mod_eq_of_lt (by rw [qg]; exact hX), Nat.mod_eq_of_lt (by rw [qg]; exact hY), no]
 rw [qg] at h
 omega
theorem GM (X d : Nat) (hX : X < 18446744073709551616) (hd : d < 64) : (uP .u64 ((X : Int).fdiv (2 ^ (min d 64))) 1 == 1) = X.testBit d := by
 rw [Nat.min_eq_left (by omega), GV, KC _ (Nat.lt_of_le_of_lt (Nat.div_le_self _ _) hX), Nat.testBit_eq_decide_div_mod_eq]
 rw [Bool.eq_iff_iff, beq_iff_eq, decide_eq_true_eq]
 omega
theorem GZ (X d : Nat) (hX : X < 18446744073709551616) (hd : d < 64) : R.mrk (X : Int) (d : Int) = ((X ||| 2 ^ d : Nat) : Int) := by
 have h2 : 2 ^ d < 2 ^ 64 := Nat.pow_lt_pow_right (by decide) hd
 rw [qg] at h2
 unfold R.mrk
 rw [Int.toNat_natCast, Nat.min_eq_left (by omega), Int.one_mul, show ((2 : Int) ^ d) = ((2 ^ d : Nat) : Int) by simp, no, Int.emod_eq_of_lt (Int.natCast_nonneg _) (by exact Int.ofNat_lt.2 h2), Kz _ _ hX h2]
theorem GT {X d : Nat} (hX : X < 18446744073709551616) (hd : d < 64) : X ||| 2 ^ d < 18446744073709551616 := by
 have := Nat.or_lt_two_pow (n := 64) (x := X) (y := 2 ^ d) (by rw [qg]; exact hX) (Nat.pow_lt_pow_right (by decide) hd)
 rwa [qg] at this
theorem po {w : Window} {X : Nat} (hB : w.Bits = X) (hX : X < 18446744073709551616) (n : Int) : S.hasB w n = true ↔ (S.okW w ∧ 0 ≤ n ∧ n < 4096 ∧ aE w.Start n < 64) ∧ X.testBit (aE w.Start n).toNat = true := by
 unfold S.hasB
 rw [Bool.and_eq_true, decide_eq_true_eq, hB]
 constructor
 ·
  rintro ⟨h1, h2⟩
  rw [GM X _ hX (by have := fN w.Start n; omega)] at h2
  exact ⟨h1, h2⟩
 ·
  rintro ⟨h1, h2⟩
  refine ⟨h1, ?_⟩
  rw [GM X _ hX (by have := fN w.Start n; omega)]
  exact h2
theorem M3 {X i : Nat} (hX : X < 18446744073709551616) (h : X.testBit i = true) : i < 64 := by
 apply Nat.lt_of_not_le
 intro h64
 have : X < 2 ^ i := Nat.lt_of_lt_of_le (by rw [← qg] at hX; exact hX) (Nat.pow_le_pow_right (by decide) h64)
 rw [Nat.testBit_lt_two_pow this] at h; cases h

structure Note (w : Window) (n : Int) : Prop where
 u : U64 (R.noteF w n).Bits
 ok : S.okW (R.noteF w n)
 back : ∀ i, S.hasB (R.noteF w n) i = true → S.hasB w i = true ∨ i = n
 self : aE w.Start n < 2048 → S.hasB (R.noteF w n) n = true
 keep : ∀ i, S.hasB w i = true → aE (R.noteF w n).Start i < 64 → S.hasB (R.noteF w n) i = true
theorem E0 {w : Window} {n : Int} (hu : U64 w.Bits) (hw : S.okW w) (hn : R.okN n) : Note w n := by
 obtain ⟨X, hB, hX⟩ : ∃ X : Nat, w.Bits = X ∧ X < 18446744073709551616 := ⟨w.Bits.toNat, by unfold U64 at hu; omega, by unfold U64 at hu; omega⟩
 have hd := fN w.Start n
 unfold S.okW at hw
 unfold R.okN at hn
 by_cases h : 2048 ≤ aE w.Start n
 ·
  have e : R.noteF w n = w := by unfold R.noteF; rw [if_pos h]
  refine ⟨by rw [e]; exact hu, by rw [e]; exact hw, fun i hi => by rw [e] at hi; exact .inl hi, fun q => by omega, fun i hi _ => by rw [e]; exact hi⟩
 ·
  by_cases h2 : 64 ≤ aE w.Start n
  ·
   -- the window moves
   have he : (min (aE w.Start n - 63).toNat 64) ≤ 64 := Nat.min_le_right _ _
   have e : R.noteF w n = { Bits := R.mrk (w.Bits.fdiv (2 ^ (min (aE w.Start n - 63).toNat 64))) 63, Start := (n + (-63)) % 4096 } := by unfold R.noteF; rw [if_neg h, if_pos h2]
   have hY : X / 2 ^ (min (aE w.Start n - 63).toNat 64) < 18446744073709551616 := Nat.lt_of_le_of_lt (Nat.div_le_self _ _) hX
   have eB : (R.noteF w n).Bits = ((X / 2 ^ (min (aE w.Start n - 63).toNat 64) ||| 2 ^ 63 : Nat) : Int) := by
    rw [e]
    show R.mrk (w.Bits.fdiv _) 63 = _
    rw [hB, GV]
    exact GZ _ 63 hY (by decide)
   have eS : (R.noteF w n).Start = (n + (-63)) % 4096 := by rw [e]
   have hL : (X / 2 ^ (min (aE w.Start n - 63).toNat 64) ||| 2 ^ 63) < 18446744073709551616 := GT hY (by decide)
   have hok : S.okW (R.noteF w n) := by unfold S.okW; rw [eS]; omega
   have tb : ∀ j : Nat, (X / 2 ^ (min (aE w.Start n - 63).toNat 64) ||| 2 ^ 63).testBit j = (X.testBit (j + min (aE w.Start n - 63).toNat 64) || decide (63 = j)) := by
    intro j
    rw [Nat.testBit_or, Nat.testBit_div_two_pow, Nat.testBit_two_pow]
   refine ⟨by rw [eB]; unfold U64; omega, hok, ?_, ?_, ?_⟩
   ·
    intro i hi
    obtain ⟨⟨_, i1, i2, i3⟩, hb⟩ := (po eB hL i).1 hi
    rw [tb, Bool.or_eq_true, decide_eq_true_eq] at hb
    rw [eS] at i3 hb
    have hdi := fN ((n + (-63)) % 4096) i
    rcases hb with hb | hb
    ·
     left
     have h64 := M3 hX hb
     have hm : min (aE w.Start n - 63).toNat 64 = (aE w.Start n - 63).toNat := by omega
     have e2 : aE w.Start i = aE ((n + (-63)) % 4096) i + (aE w.Start n - 63) := by
      rw [hm] at h64
      unfold aE at *; omega
     refine (po hB hX i).2 ⟨⟨hw, i1, i2, by rw [hm] at h64; omega⟩, ?_⟩
     rw [hm] at hb
     rw [show (aE w.Start i).toNat = (aE ((n + (-63)) % 4096) i).toNat + (aE w.Start n - 63).toNat by omega]
     exact hb
    ·
     right
     unfold aE at *; omega
   ·
    intro _
    refine (po eB hL n).2 ⟨⟨hok, hn.1, hn.2, ?_⟩, ?_⟩
    ·
     rw [eS]; unfold aE; omega
    ·
     rw [tb, Bool.or_eq_true, decide_eq_true_eq, eS]
     right; unfold aE; omega
   ·
    intro i hi h3
    obtain ⟨⟨_, i1, i2, i3⟩, hb⟩ := (po hB hX i).1 hi
    rw [eS] at h3
    refine (po eB hL i).2 ⟨⟨hok, i1, i2, by rw [eS]; exact h3⟩, ?_⟩
    rw [tb, Bool.or_eq_true, eS]
    left
    have hm : min (aE w.Start n - 63).toNat 64 = (aE w.Start n - 63).toNat := by
     unfold aE at *; omega
    have e2 : aE w.Start i = aE ((n + (-63)) % 4096) i + (aE w.Start n - 63) := by
     unfold aE at *; omega
    have hdi := fN ((n + (-63)) % 4096) i
    rw [hm, ← show (aE w.Start i).toNat = (aE ((n + (-63)) % 4096) i).toNat + (aE w.Start n - 63).toNat by omega]
    exact hb
  ·
   have e : R.noteF w n = { w with Bits := R.mrk w.Bits (aE w.Start n) } := by unfold R.noteF; rw [if_neg h, if_neg h2]
   obtain ⟨D, hD⟩ : ∃ D : Nat, aE w.Start n = D := ⟨(aE w.Start n).toNat, by omega⟩
   have hD64 : D < 64 := by omega
   have eB : (R.noteF w n).Bits = ((X ||| 2 ^ D : Nat) : Int) := by
    rw [e]
    show R.mrk w.Bits (aE w.Start n) = _
    rw [hB, hD, GZ _ D hX hD64]
   have eS : (R.noteF w n).Start = w.Start := by rw [e]
   have hL : (X ||| 2 ^ D) < 18446744073709551616 := GT hX hD64
   have hok : S.okW (R.noteF w n) := by unfold S.okW; rw [eS]; exact hw
   have tb : ∀ j : Nat, (X ||| 2 ^ D).testBit j = (X.testBit j || decide (D = j)) := by
    intro j
    rw [Nat.testBit_or, Nat.testBit_two_pow]
   refine ⟨by rw [eB]; unfold U64; omega, hok, ?_, ?_, ?_⟩
   ·
    intro i hi
    obtain ⟨⟨_, i1, i2, i3⟩, hb⟩ := (po eB hL i).1 hi
    rw [tb, Bool.or_eq_true, decide_eq_true_eq] at hb
    rw [eS] at i3 hb
    rcases hb with hb | hb
    ·
     exact .inl ((po hB hX i).2 ⟨⟨hw, i1, i2, i3⟩, hb⟩)
    ·
     right
     have hdi := fN w.Start i
     have : aE w.Start i = aE w.Start n := by omega
     unfold aE at this; omega
   ·
    intro _
    refine (po eB hL n).2 ⟨⟨hok, hn.1, hn.2, by rw [eS]; omega⟩, ?_⟩
    rw [tb, Bool.or_eq_true, decide_eq_true_eq, eS]
    right; omega
   ·
    intro i hi h3
    obtain ⟨⟨_, i1, i2, i3⟩, hb⟩ := (po hB hX i).1 hi
    refine (po eB hL i).2 ⟨⟨hok, i1, i2, by rw [eS]; exact i3⟩, ?_⟩
    rw [tb, Bool.or_eq_true, eS]
    exact .inl hb

def bump (x : Unacked) : Unacked := { x with Tries := x.Tries + 1, Flying := true }
def frm (x : Unacked) : Frame := { x.Frame with Head := { x.Frame.Head with Retry := decide (0 < x.Tries) } }
theorem zy (lim k : Int) : ∀ (l : List Unacked) (c : Nat), (∀ x ∈ l, x.Flying = false ∧ x.Tries ≠ lim ∧ 0 ≤ x.Tries ∧ x.Tries ≤ 100) → (c : Int) ≤ k →
  S.pickR lim k c l = ((l.take (k - c).toNat).map bump ++ l.drop (k - c).toNat, (l.take (k - c).toNat).map frm)
 | [], c, _, _ => by simp [S.pickR]
 | x :: l, c, h, hc => by
  have hx := h x (by simp)
  have hl : ∀ y ∈ l, y.Flying = false ∧ y.Tries ≠ lim ∧ 0 ≤ y.Tries ∧ y.Tries ≤ 100 := fun y hy => h y (by simp [hy])
  unfold S.pickR
  by_cases he : (c : Int) = k
  ·
   rw [if_pos he, show (k - (c : Int)).toNat = 0 by omega]; simp
  ·
   have hf : (x.Flying || (x.Tries == lim)) = false := by
    rw [hx.1, Bool.false_or, beq_eq_false_iff_ne]; exact hx.2.1
   have ih := zy lim k l (c + 1) hl (by omega)
   rw [if_neg he, hf, if_neg (by decide), ih, show (k - (c : Int)).toNat = (k - ((c + 1 : Nat) : Int)).toNat + 1 by omega, kw (by omega) (by omega)]
   simp [bump, frm]
end Go.AX.Z.TN

/-! (TNXa) -/

set_option linter.unusedVariables false
set_option linter.unusedSimpArgs false
namespace Go.AX.Z.TN.S
open Go.AX

def Good (lim : Int) (x : Unacked) : Prop := 0 ≤ x.Frame.Head.Seq ∧ x.Frame.Head.Seq ≤ 4095 ∧ 0 ≤ x.At ∧ x.At ≤ 1099511627776 ∧ 0 ≤ x.Tries ∧ x.Tries ≤ lim ∧ (x.Flying = true → x.Tries ≠ 0)
abbrev dq (st : Int) (x : Unacked) : Int := aE st x.Frame.Head.Seq
structure OkP (st dd lim : Int) (l : List Unacked) : Prop where
 good : ∀ x ∈ l, Good lim x
 dd : ∀ x ∈ l, dq st x < dd
 pw : l.Pairwise fun x y => dq st x < dq st y ∧ x.At ≤ y.At

theorem OkL.toP {st dd lim : Int} : ∀ {l : List Unacked} {last at' : Int}, 0 ≤ at' → OkL st dd lim last at' l → OkP st dd lim l ∧ ∀ x ∈ l, last < dq st x ∧ at' ≤ x.At
 | [], _, _, _, _ => ⟨⟨by simp, by simp, .nil⟩, by simp⟩
 | x :: l, last, at', h0, h => by
  obtain ⟨⟨a, b, c, d, e, f, g, k, m⟩, h2⟩ := h
  obtain ⟨h3, h4⟩ := OkL.toP (l := l) (show 0 ≤ x.At by omega) h2
  refine ⟨⟨?_, ?_, ?_⟩, ?_⟩
  ·
   intro y hy
   rcases List.mem_cons.1 hy with rfl | hy
   ·
    exact ⟨a, b, by omega, f, g, k, m⟩
   ·
    exact h3.good y hy
  ·
   intro y hy
   rcases List.mem_cons.1 hy with rfl | hy
   ·
    exact d
   ·
    exact h3.dd y hy
  ·
   exact List.pairwise_cons.2 ⟨fun y hy => h4 y hy, h3.pw⟩
  ·
   intro y hy
   rcases List.mem_cons.1 hy with rfl | hy
   ·
    exact ⟨c, e⟩
   ·
    have := h4 y hy; unfold dq at this ⊢; omega

theorem Valid.P {s : Sender} (h : Valid s) : OkP (startOf s) (aE (startOf s) s.Next) s.Limit s.Out := by
 obtain ⟨_, _, _, _, _, _, _, _, _, q⟩ := h
 exact (OkL.toP (by omega) q).1

end Go.AX.Z.TN.S

/-! (TNX) -/

set_option linter.unusedVariables false
set_option linter.unusedSimpArgs false
set_option maxRecDepth 20000
namespace Go.AX.Z.TN
open Go.AX

abbrev un (x : Unacked) : Int := x.Frame.Head.Seq
theorem yu {a m i : Int} : i ∈ rng a m ↔ a ≤ i ∧ i < m := by
 unfold rng
 rw [List.mem_map]
 constructor
 ·
  rintro ⟨k, hk, rfl⟩
  rw [List.mem_range] at hk; omega
 ·
  intro h
  exact ⟨(i - a).toNat, List.mem_range.2 (by omega), by omega⟩
theorem uM {a m : Int} (h : a ≤ m) : rng a (m + 1) = rng a m ++ [m] := by
 unfold rng
 rw [show (m + 1 - a).toNat = (m - a).toNat + 1 by omega, List.range_succ, List.map_append]
 congr 1
 simp; omega
theorem FU {a b c : Int} (h : a ≤ b) (h2 : b ≤ c) : rng a c = rng a b ++ rng b c := by
 obtain ⟨k, hk⟩ : ∃ k : Nat, c = b + k := ⟨(c - b).toNat, by omega⟩
 subst hk
 clear h2
 induction k with
 | zero => rw [show b + ((0 : Nat) : Int) = b by omega, yn (a := b) (Int.le_refl _), List.append_nil]
 | succ k ih => rw [show b + ((k + 1 : Nat) : Int) = (b + k) + 1 by omega, uM (by omega), uM (by omega), ih, List.append_assoc]
def Ord (l : List Unacked) : Prop := l.Pairwise fun x y => un x < un y ∧ x.At ≤ y.At ∧ y.Tries ≤ x.Tries
structure JA (lim : Int) (A : Sender) (a : Int) (K X : List Int) : Prop where
 next : A.Next = a
 perm : (K ++ X ++ S.seqs A.Out).Perm (rng 0 a)
 tries : A.Out.Pairwise fun x y => y.Tries ≤ x.Tries
 drop : ∀ i ∈ X, i < S.startOf A
 barx : A.Bar = true → X ≠ []
 lim : A.Limit = lim
structure JB (b : Reorder) (a : Int) (D : List Int) : Prop where
 r : 0 ≤ b.Start ∧ b.Start ≤ a
 held : ∀ h ∈ b.Held, b.Start < h.n ∧ h.n < a
 inc : D.Pairwise (· < ·)
 lt : ∀ i ∈ D, 0 ≤ i ∧ i < b.Start
 u : U64 b.Seen.Bits
 seen : ∀ i, S.hasB b.Seen i = true → i ∈ D ∨ i ∈ hn b
structure J (s : SS) : Prop where
 p0 : s.plan.Start = 0
 pok : gR s.plan
 acc : 0 ≤ s.accepted ∧ s.accepted ≤ s.many ∧ s.many ≤ 200
 A : JA s.plan.Limit s.sides.Sender s.accepted s.out.Acked s.out.Dropped
 B : JB s.sides.Reorder s.accepted s.out.Delivered
 rcv : ∀ i ∈ s.out.Acked, i ∈ s.out.Delivered ∨ i ∈ hn s.sides.Reorder
 bar : s.sides.Sender.Bar = false → ∀ i ∈ s.out.Dropped, i < s.sides.Reorder.Start
def Fly (s : SS) : Prop := ∀ x ∈ s.sides.Sender.Out, x.Flying = false

theorem JA.mem {lim : Int} {A : Sender} {a : Int} {K X : List Int} (h : JA lim A a K X) (i : Int) : (i ∈ K ∨ i ∈ X ∨ i ∈ S.seqs A.Out) ↔ 0 ≤ i ∧ i < a := by
 rw [← yu, ← h.perm.mem_iff]
 simp [or_assoc]
theorem JA.out {lim : Int} {A : Sender} {a : Int} {K X : List Int} (h : JA lim A a K X) : ∀ x ∈ A.Out, 0 ≤ un x ∧ un x < a := fun x hx => (h.mem (un x)).1 (.inr (.inr (List.mem_map.2 ⟨x, hx, rfl⟩)))
theorem JA.ord {lim : Int} {A : Sender} {a : Int} {K X : List Int} (h : JA lim A a K X) (h0 : 0 ≤ a) (ha : a ≤ 200) (hv : S.Valid A) : Ord A.Out ∧ (∀ x ∈ A.Out, S.startOf A ≤ un x) ∧ 0 ≤ S.startOf A ∧ S.startOf A ≤ a := by
 have hP := hv.P
 have hp := hv
 obtain ⟨_, _, _, _, _, _, q0, q00, q1, q2⟩ := hp
 have hsz : A.Size ≤ 64 := by split at q0 <;> omega
 have hm := h.out
 cases hO : A.Out with
 | nil =>
  have e : S.startOf A = A.Next := by unfold S.startOf; rw [hO]
  rw [e, h.next]
  exact ⟨.nil, by simp, h0, Int.le_refl _⟩
 | cons x l =>
  have e : S.startOf A = un x := by unfold S.startOf; rw [hO]
  have hx := hm x (by rw [hO]; simp)
  rw [e] at hP q1
  rw [e]
  have hs : ∀ y ∈ x :: l, un x ≤ un y ∧ aE (un x) (un y) = un y - un x := by
   intro y hy
   have hy1 := hm y (by rw [hO]; exact hy)
   have h1 := hP.dd y (by rw [hO]; exact hy)
   by_cases hle : un x ≤ un y
   ·
    exact ⟨hle, rt hle (by omega)⟩
   ·
    have : aE (un x) (un y) = 4096 - (un x - un y) := y0 (by omega) (by omega)
    have h1' : aE (un x) (un y) < aE (un x) A.Next := h1
    omega
  refine ⟨?_, fun y hy => (hs y hy).1, hx.1, by omega⟩
  have hpw := hP.pw
  have ht := h.tries
  rw [hO] at hpw ht
  refine List.Pairwise.imp_of_mem ?_ (hpw.and ht)
  intro y z hy hz hyz
  have h1 : aE (un x) (un y) < aE (un x) (un z) := hyz.1.1
  rw [(hs y hy).2, (hs z hz).2] at h1
  exact ⟨by omega, hyz.1.2, hyz.2⟩
end Go.AX.Z.TN

/-! (TNXb) -/

set_option linter.unusedVariables false
set_option linter.unusedSimpArgs false
set_option maxRecDepth 20000
namespace Go.AX.Z.TN
open Go.AX

theorem xJ (p : Unacked → Bool) (l : List Unacked) (i : Int) : (S.seqs l).count i = (S.seqs (l.filter p)).count i + (S.seqs (l.filter fun x => !p x)).count i := by
 have h := (List.filter_append_perm p l).map un
 rw [List.map_append] at h
 have := h.count_eq i
 rw [List.count_append] at this
 exact this.symm
theorem z0 {p : Unacked → Bool} : ∀ {l : List Unacked}, Ord l → (∀ x ∈ l, ∀ y ∈ l, x.At ≤ y.At ∧ y.Tries ≤ x.Tries → p y = true → p x = true) → ∀ {y : Unacked} {r : List Unacked}, l.filter (fun x => !p x) = y :: r → ∀ x ∈ l, p x = true → un x < un y
 | [], _, _, y, r, h, x, hx, _ => by simp at h
 | z :: l, ho, hp, y, r, h, x, hx, hpx => by
  obtain ⟨o1, o2⟩ := List.pairwise_cons.1 ho
  by_cases hz : p z = true
  ·
   rw [List.filter_cons_of_neg (by simp [hz])] at h
   have hy : y ∈ l := (List.mem_filter.1 (by rw [h]; simp : y ∈ l.filter (fun x => !p x))).1
   rcases List.mem_cons.1 hx with rfl | hx
   ·
    exact (o1 y hy).1
   ·
    exact z0 o2 (fun a ha b hb => hp a (by simp [ha]) b (by simp [hb])) h x hx hpx
  ·
   rw [List.filter_cons_of_pos (by simp [hz])] at h
   injection h with h1 h2
   subst h1
   rcases List.mem_cons.1 hx with rfl | hx
   ·
    exact absurd hpx hz
   ·
    exact absurd (hp z (by simp) x (by simp [hx]) (o1 x hx).2 hpx) hz

theorem Aj {A A' : Sender} {a : Int} (hn : A'.Next = a) (h : ∀ x ∈ A'.Out, S.startOf A ≤ un x) (ha : S.startOf A ≤ a) : S.startOf A ≤ S.startOf A' := by
 unfold S.startOf at *
 cases hO : A'.Out with
 | nil => simp only [hn]; exact ha
 | cons x l => exact h x (by rw [hO]; simp)

theorem Cd {lim life t : Int} {x y : Unacked} (hl : 1 ≤ life ∧ life ≤ 1073741824) (gx : S.Good lim x) (gy : S.Good lim y) (fx : x.Flying = false) (h : x.At ≤ y.At ∧ y.Tries ≤ x.Tries) (hp : S.pX lim life t y = true) : S.pX lim life t x = true := by
 obtain ⟨_, _, x3, x4, _, x6, _⟩ := gx
 obtain ⟨_, _, y3, y4, _, y6, _⟩ := gy
 unfold S.pX at hp ⊢
 rw [kw (by omega) (by omega)] at hp ⊢
 rw [fx]
 simp only [Bool.and_eq_true, Bool.or_eq_true, beq_iff_eq, decide_eq_true_eq, Bool.not_false, true_and] at hp ⊢
 rcases hp.2 with q | q
 ·
  left; omega
 ·
  right; omega

structure Ex (lim : Int) (A : Sender) (a t : Int) (K X : List Int) : Prop where
 J : JA lim (S.expS A t) a K (X ++ S.expN A t)
 fly : ∀ x ∈ (S.expS A t).Out, x.Flying = false ∧ x.Tries ≠ lim
 mem : ∀ i ∈ S.expN A t, 0 ≤ i ∧ i < a
 bar : (S.expS A t).Bar = false → X ++ S.expN A t = X ∧ A.Bar = false
theorem JA.exp {lim : Int} {A : Sender} {a : Int} {K X : List Int} (h : JA lim A a K X) (h0 : 0 ≤ a) (ha : a ≤ 200) (hv : S.Valid A) (hf : ∀ x ∈ A.Out, x.Flying = false) (t : Int) : Ex lim A a t K X := by
 obtain ⟨o1, o2, o3, o4⟩ := h.ord h0 ha hv
 have hP := hv.P
 have hlife := hv.2.2.2.2.2.1
 have hcl : ∀ x ∈ A.Out, ∀ y ∈ A.Out, x.At ≤ y.At ∧ y.Tries ≤ x.Tries → S.pX A.Limit A.Life t y = true → S.pX A.Limit A.Life t x = true :=
  fun x hx y hy hxy => Cd hlife (hP.good x hx) (hP.good y hy) (hf x hx) hxy
 have hsub : ∀ x ∈ (S.expS A t).Out, x ∈ A.Out ∧ S.pX A.Limit A.Life t x = false := fun x hx => by
  have := List.mem_filter.1 hx
  exact ⟨this.1, by simpa using this.2⟩
 have hN : ∀ i ∈ S.expN A t, ∃ x ∈ A.Out, un x = i ∧ S.pX A.Limit A.Life t x = true := fun i hi => by
  obtain ⟨x, hx, rfl⟩ := List.mem_map.1 hi
  have := List.mem_filter.1 hx
  exact ⟨x, this.1, rfl, this.2⟩
 have hge := Aj (A := A) (A' := S.expS A t) (a := a) h.next (fun x hx => o2 x (hsub x hx).1) o4
 refine ⟨⟨h.next, ?_, h.tries.sublist List.filter_sublist, ?_, ?_, h.lim⟩, ?_, ?_, ?_⟩
 ·
  rw [List.perm_iff_count]
  intro i
  have h1 := h.perm.count_eq i
  have h2 := xJ (S.pX A.Limit A.Life t) A.Out i
  simp only [List.count_append] at h1 ⊢
  have e1 : (S.seqs (S.expS A t).Out).count i = (S.seqs (A.Out.filter fun x => !S.pX A.Limit A.Life t x)).count i := rfl
  have e2 : (S.expN A t).count i = (S.seqs (A.Out.filter (S.pX A.Limit A.Life t))).count i := rfl
  omega
 ·
  intro i hi
  rcases List.mem_append.1 hi with hi | hi
  ·
   have := h.drop i hi; omega
  ·
   obtain ⟨x, hx, rfl, hp⟩ := hN i hi
   have hxa := h.out x hx
   cases hO : (S.expS A t).Out with
   | nil =>
    have e : S.startOf (S.expS A t) = a := by unfold S.startOf; rw [hO]; exact h.next
    rw [e]; exact hxa.2
   | cons y r =>
    have e : S.startOf (S.expS A t) = un y := by unfold S.startOf; rw [hO]
    rw [e]
    exact z0 o1 hcl hO x hx hp
 ·
  intro hb
  have hb' : (A.Bar || decide (0 < (((S.expN A t).length : Nat) : Int))) = true := hb
  rw [Bool.or_eq_true, decide_eq_true_eq] at hb'
  intro hnil
  rw [List.append_eq_nil_iff] at hnil
  rcases hb' with q | q
  ·
   exact h.barx q hnil.1
  ·
   rw [hnil.2] at q; simp at q
 ·
  intro x hx
  obtain ⟨h1, h2⟩ := hsub x hx
  refine ⟨hf x h1, fun q => ?_⟩
  unfold S.pX at h2
  rw [hf x h1, q, h.lim] at h2
  simp at h2
 ·
  intro i hi
  obtain ⟨x, hx, rfl, _⟩ := hN i hi
  exact h.out x hx
 ·
  intro hb
  have hb' : (A.Bar || decide (0 < (((S.expN A t).length : Nat) : Int))) = false := hb
  rw [Bool.or_eq_false_iff, decide_eq_false_iff_not] at hb'
  have : S.expN A t = [] := List.length_eq_zero_iff.1 (by omega)
  exact ⟨by rw [this, List.append_nil], hb'.1⟩

theorem JA.off {lim : Int} {A : Sender} {a : Int} {K X : List Int} (h : JA lim A a K X) (h0 : 0 ≤ a) (ha : a < 200) (hv : S.Valid A) (t : Int) : JA lim (S.offS A Frame.z t) (a + 1) K X := by
 have hP := hv.P
 refine ⟨?_, ?_, ?_, ?_, h.barx, h.lim⟩
 ·
  show (A.Next + 1) % 4096 = a + 1
  rw [h.next]; omega
 ·
  rw [uM h0]
  have e : S.seqs (S.offS A Frame.z t).Out = S.seqs A.Out ++ [a] := by
   simp only [S.offS, S.seqs, List.map_append, List.map_cons, List.map_nil, S.offF, h.next]
  rw [e, ← List.append_assoc]
  exact h.perm.append_right _
 ·
  show (A.Out ++ [_]).Pairwise _
  rw [List.pairwise_append]
  refine ⟨h.tries, List.pairwise_singleton _ _, fun x hx y hy => ?_⟩
  simp only [List.mem_singleton] at hy
  subst hy
  exact (hP.good x hx).2.2.2.2.1
 ·
  have e : S.startOf (S.offS A Frame.z t) = S.startOf A := by
   unfold S.startOf S.offS
   cases A.Out <;> rfl
  rw [e]; exact h.drop

theorem JA.pick {lim : Int} {A : Sender} {a : Int} {K X : List Int} (h : JA lim A a K X) (h0 : 0 ≤ a) (ha : a ≤ 200) (hv : S.Valid A) (hf : ∀ x ∈ A.Out, x.Flying = false ∧ x.Tries ≠ lim) {k : Int} (hk : 0 ≤ k) :
  JA lim (S.pickS A k) a K X ∧ (S.pickR A.Limit k 0 A.Out).2 = (A.Out.take k.toNat).map frm ∧ (S.pickS A k).Out = (A.Out.take k.toNat).map bump ++ A.Out.drop k.toNat := by
 have hP := hv.P
 have hl := hv.2.2.2.2.1
 have hg : ∀ x ∈ A.Out, x.Flying = false ∧ x.Tries ≠ A.Limit ∧ 0 ≤ x.Tries ∧ x.Tries ≤ 100 := fun x hx => by
  obtain ⟨_, _, _, _, x5, x6, _⟩ := hP.good x hx
  exact ⟨(hf x hx).1, by rw [h.lim]; exact (hf x hx).2, x5, by omega⟩
 have hp := zy A.Limit k A.Out 0 hg (by simpa using hk)
 simp only [Int.natCast_zero, Int.sub_zero] at hp
 have hO : (S.pickS A k).Out = (A.Out.take k.toNat).map bump ++ A.Out.drop k.toNat := by
  show (S.pickR A.Limit k 0 A.Out).1 = _
  rw [hp]
 have hs : S.seqs (S.pickS A k).Out = S.seqs A.Out := by
  unfold S.seqs
  rw [hO, List.map_append, List.map_map]
  conv => rhs; rw [← List.take_append_drop k.toNat A.Out, List.map_append]
  rfl
 refine ⟨⟨h.next, by rw [hs]; exact h.perm, ?_, ?_, h.barx, h.lim⟩, by rw [hp], hO⟩
 ·
  rw [hO, List.pairwise_append, List.pairwise_map]
  have ht := h.tries
  rw [← List.take_append_drop k.toNat A.Out, List.pairwise_append] at ht
  refine ⟨ht.1.imp fun q => by simp only [bump]; omega, ht.2.1, fun x hx y hy => ?_⟩
  obtain ⟨z, hz, rfl⟩ := List.mem_map.1 hx
  have := ht.2.2 z hz y hy
  simp only [bump]; omega
 ·
  intro i hi
  have := h.drop i hi
  have e : S.startOf (S.pickS A k) = S.startOf A := by
   have h1 : ∀ B : Sender, S.startOf B = match S.seqs B.Out with | [] => B.Next | x :: _ => x := fun B => by
    unfold S.startOf S.seqs; cases B.Out <;> rfl
   rw [h1, h1, hs]; rfl
  rw [e]; exact this

theorem vD (l : List Unacked) : S.seqs (l.map S.unfly) = S.seqs l := by
 unfold S.seqs
 rw [List.map_map]; rfl
theorem Cc (B : Sender) : S.startOf B = match S.seqs B.Out with | [] => B.Next | x :: _ => x := by
 unfold S.startOf S.seqs; cases B.Out <;> rfl
theorem JA.lost {lim : Int} {A : Sender} {a : Int} {K X : List Int} (h : JA lim A a K X) : JA lim (S.lostS A) a K X := by
 have hs : S.seqs (S.lostS A).Out = S.seqs A.Out := vD _
 refine ⟨h.next, by rw [hs]; exact h.perm, ?_, fun i hi => ?_, h.barx, h.lim⟩
 ·
  show (A.Out.map S.unfly).Pairwise _
  rw [List.pairwise_map]; exact h.tries
 ·
  have := h.drop i hi
  rw [Cc] at this ⊢
  rw [hs]; exact this
theorem JA.ack {lim : Int} {A : Sender} {a : Int} {K X : List Int} (h : JA lim A a K X) (h0 : 0 ≤ a) (ha : a ≤ 200) (hv : S.Valid A) (w : Window) :
  JA lim (S.ackS A w) a (K ++ S.seqs (A.Out.filter (S.pA w))) X ∧ (∀ i ∈ S.seqs (A.Out.filter (S.pA w)), (0 ≤ i ∧ i < a) ∧ S.hasB w i = true) := by
 obtain ⟨o1, o2, o3, o4⟩ := h.ord h0 ha hv
 have hs : S.seqs (S.ackS A w).Out = S.seqs (A.Out.filter fun x => !S.pA w x) := vD _
 refine ⟨⟨h.next, ?_, ?_, ?_, h.barx, h.lim⟩, ?_⟩
 ·
  rw [List.perm_iff_count]
  intro i
  have h1 := h.perm.count_eq i
  have h2 := xJ (S.pA w) A.Out i
  rw [hs]
  simp only [List.count_append] at h1 ⊢
  omega
 ·
  show ((A.Out.filter fun x => !S.pA w x).map S.unfly).Pairwise _
  rw [List.pairwise_map]; exact h.tries.sublist List.filter_sublist
 ·
  intro i hi
  have h1 := h.drop i hi
  have := Aj (A := A) (A' := S.ackS A w) (a := a) h.next (fun x hx => by
   obtain ⟨y, hy, rfl⟩ := List.mem_map.1 hx
   exact o2 y (List.mem_filter.1 hy).1) o4
  omega
 ·
  intro i hi
  obtain ⟨x, hx, rfl⟩ := List.mem_map.1 hi
  obtain ⟨h1, h2⟩ := List.mem_filter.1 hx
  refine ⟨h.out x h1, ?_⟩
  unfold S.pA at h2
  rw [Bool.and_eq_true] at h2
  exact h2.2
theorem xG (l : List Unacked) : ∀ x ∈ l.map S.unfly, x.Flying = false := fun x hx => by
 obtain ⟨y, _, rfl⟩ := List.mem_map.1 hx; rfl
end Go.AX.Z.TN

/-! (TNXc) -/

set_option linter.unusedVariables false
set_option linter.unusedSimpArgs false
set_option maxRecDepth 20000
namespace Go.AX.Z.TN
open Go.AX

structure Go (a : Int) (b : Reorder) (D : List Int) (nx : Reorder) (out : List Frame) : Prop where
 J : JB nx a (D ++ out.map fq)
 mono : b.Start ≤ nx.Start
 rc : ∀ i, i ∈ D ∨ i ∈ hn b → i ∈ D ++ out.map fq ∨ i ∈ hn nx
 rng : ∀ f ∈ out, 0 ≤ fq f ∧ fq f < 4096
theorem JB.go {a : Int} {b : Reorder} {D : List Int} (ha : a ≤ 200) (hr : 0 ≤ b.Start) (hh : ∀ h ∈ b.Held, b.Start ≤ h.n ∧ h.n < a) (hi : D.Pairwise (· < ·)) (hl : ∀ i ∈ D, 0 ≤ i ∧ i < b.Start) (hu : U64 b.Seen.Bits) (hs : ∀ i, S.hasB b.Seen i = true → i ∈ D ∨ i ∈ hn b) (hso : R.Sortd b.Start b.Held) {to : Int} (ht : b.Start ≤ to ∧ to ≤ a) :
  Go a b D (R.mvF b (aE b.Start to)).2 (R.mvF b (aE b.Start to)).1 ∧ to ≤ (R.mvF b (aE b.Start to)).2.Start := by
 have m := Km ha hr hso hh ht
 have rc : ∀ i, i ∈ D ∨ i ∈ hn b → i ∈ D ++ (R.mvF b (aE b.Start to)).1.map fq ∨ i ∈ hn (R.mvF b (aE b.Start to)).2 := by
  intro i hi
  rw [List.mem_append]
  rcases hi with hi | hi
  ·
   exact .inl (.inl hi)
  ·
   rcases (m.iff i).1 hi with q | q
   ·
    exact .inl (.inr q)
   ·
    exact .inr q
 refine ⟨⟨⟨⟨by have := m.le; omega, m.le.2⟩, m.held, ?_, ?_, by rw [m.seen]; exact hu, fun i h => rc i (hs i (by rw [← m.seen]; exact h))⟩, by have := m.le; omega, rc, fun f hf => by have := m.rng f hf; have := m.le; omega⟩, m.le.1⟩
 ·
  rw [List.pairwise_append]
  refine ⟨hi, m.inc, fun i h j hj => ?_⟩
  obtain ⟨f, hf, rfl⟩ := List.mem_map.1 hj
  have h1 := m.rng f hf
  have h2 := hl i h
  omega
 ·
  intro i hi
  rcases List.mem_append.1 hi with hi | hi
  ·
   have := hl i hi
   have := m.le
   omega
  ·
   obtain ⟨f, hf, rfl⟩ := List.mem_map.1 hi
   have := m.rng f hf
   omega
theorem JB.stay {a : Int} {b : Reorder} {D : List Int} (h : JB b a D) : Go a b D b [] :=
 ⟨by simpa using h, Int.le_refl _, fun i hi => by simpa using hi, by simp⟩
theorem JB.move {a : Int} {b : Reorder} {D : List Int} (h : JB b a D) (ha : a ≤ 200) (hv : R.VR b) {to : Int} (ht : b.Start ≤ to ∧ to ≤ a) :
  Go a b D (R.mvF b (aE b.Start to)).2 (R.mvF b (aE b.Start to)).1 ∧ to ≤ (R.mvF b (aE b.Start to)).2.Start :=
 JB.go ha h.r.1 (fun x hx => by have := h.held x hx; omega) h.inc h.lt h.u h.seen hv.sortd ht

theorem Eh {b : Reorder} {n : Int} (h : (R.barF b n).2.2 = 0) : R.VR b ∧ R.okN n ∧ R.barF b n = if 2048 ≤ aE b.Start n then ([], b, 0) else ((R.mvF b (aE b.Start n)).1, (R.mvF b (aE b.Start n)).2, 0) := by
 unfold R.barF at h ⊢
 by_cases hv : R.VR b
 ·
  rw [if_pos hv] at h ⊢
  by_cases hn : R.okN n
  ·
   rw [if_pos hn] at h ⊢; exact ⟨hv, hn, rfl⟩
  ·
   rw [if_neg hn] at h; cases h
 ·
  rw [if_neg hv] at h; cases h
theorem JB.bar {a : Int} {b : Reorder} {D : List Int} (h : JB b a D) (ha : a ≤ 200) {n : Int} (hn : 0 ≤ n ∧ n ≤ a) (ho : (R.barF b n).2.2 = 0) : Go a b D (R.barF b n).2.1 (R.barF b n).1 ∧ n ≤ (R.barF b n).2.1.Start := by
 obtain ⟨hv, _, e⟩ := Eh ho
 have hr := h.r
 rw [e]
 by_cases hd : 2048 ≤ aE b.Start n
 ·
  rw [if_pos hd]
  refine ⟨h.stay, ?_⟩
  show n ≤ b.Start
  apply Int.not_lt.1; intro hlt
  rw [rt (by omega) (by omega)] at hd; omega
 ·
  rw [if_neg hd]
  have hle : b.Start ≤ n := by
   apply Int.not_lt.1; intro hlt
   rw [y0 hlt (by omega)] at hd; omega
  exact h.move ha hv ⟨hle, hn.2⟩
theorem DM {b : Reorder} {n : Int} (h : (R.expF b n).2.2 = 0) : R.VR b ∧ R.expF b n = match R.ld b.Hold n b.Held with | some x => ((R.mvF b (aE b.Start ((x.n + 1) % 4096))).1, (R.mvF b (aE b.Start ((x.n + 1) % 4096))).2, 0) | none => ([], b, 0) := by
 unfold R.expF at h ⊢
 by_cases hv : R.VR b
 ·
  rw [if_pos hv] at h ⊢
  by_cases hn : 0 ≤ n ∧ n ≤ 1099511627776
  ·
   rw [if_pos hn] at h ⊢; exact ⟨hv, rfl⟩
  ·
   rw [if_neg hn] at h; cases h
 ·
  rw [if_neg hv] at h; cases h
theorem JB.exp {a : Int} {b : Reorder} {D : List Int} (h : JB b a D) (ha : a ≤ 200) {n : Int} (ho : (R.expF b n).2.2 = 0) : Go a b D (R.expF b n).2.1 (R.expF b n).1 := by
 obtain ⟨hv, e⟩ := DM ho
 rw [e]
 cases hl : R.ld b.Hold n b.Held with
 | none => exact h.stay
 | some x =>
  have hx := h.held x (R.ld_mem hl).1
  have hr := h.r
  have e2 : (x.n + 1) % 4096 = x.n + 1 := by omega
  simp only [e2]
  exact (h.move ha hv ⟨by omega, by omega⟩).1
theorem H9 {b : Reorder} {f : Frame} {n : Int} (h : (R.putF b f n).2.2 = 0) : R.VR b ∧ R.okN (fq f) ∧ ¬ (2048 ≤ aE b.Start (fq f) ∨ ∃ x ∈ b.Held, aE b.Start x.n = aE b.Start (fq f)) ∧
  R.putF b f n = ((R.mvF (R.putB b ⟨n, f⟩) (aE b.Start (R.toF b (fq f)))).1, (R.mvF (R.putB b ⟨n, f⟩) (aE b.Start (R.toF b (fq f)))).2, 0) := by
 unfold R.putF at h ⊢
 by_cases hv : R.VR b
 ·
  rw [if_pos hv] at h ⊢
  by_cases hn : (0 ≤ n ∧ n ≤ 1099511627776) ∧ R.okN f.Head.Seq
  ·
   rw [if_pos hn] at h ⊢
   by_cases hd : 2048 ≤ aE b.Start f.Head.Seq ∨ ∃ x ∈ b.Held, aE b.Start x.n = aE b.Start f.Head.Seq
   ·
    rw [if_pos hd] at h; cases h
   ·
    rw [if_neg hd]; exact ⟨hv, hn.2, hd, rfl⟩
  ·
   rw [if_neg hn] at h; cases h
 ·
  rw [if_neg hv] at h; cases h
theorem sN (b : Reorder) (x : HeldSeq) (i : Int) : i ∈ hn (R.putB b x) ↔ i ∈ hn b ∨ i = x.n := by
 simp only [kZ, R.putB, R.insF, List.mem_append, List.mem_singleton]
 constructor
 ·
  rintro ⟨h, (h1 | h1) | h1, rfl⟩
  ·
   exact .inl ⟨h, (List.mem_filter.1 h1).1, rfl⟩
  ·
   exact .inr (by rw [h1])
  ·
   exact .inl ⟨h, (List.mem_filter.1 h1).1, rfl⟩
 ·
  rintro (⟨h, h1, rfl⟩ | rfl)
  ·
   refine ⟨h, ?_, rfl⟩
   by_cases hd : aE b.Start h.n < aE b.Start x.n
   ·
    exact .inl (.inl (List.mem_filter.2 ⟨h1, by simpa using hd⟩))
   ·
    exact .inr (List.mem_filter.2 ⟨h1, by simpa using hd⟩)
  ·
   exact ⟨x, .inl (.inr rfl), rfl⟩
theorem JB.put {a : Int} {b : Reorder} {D : List Int} (h : JB b a D) (ha : a ≤ 200) {f : Frame} (hf : 0 ≤ fq f ∧ fq f < a) {n : Int} (ho : (R.putF b f n).2.2 = 0) : Go a b D (R.putF b f n).2.1 (R.putF b f n).1 ∧ (fq f ∈ D ++ (R.putF b f n).1.map fq ∨ fq f ∈ hn (R.putF b f n).2.1) := by
 obtain ⟨hv, hq, hd, e⟩ := H9 ho
 have hr := h.r
 have hle : b.Start ≤ fq f := by
  apply Int.not_lt.1; intro hlt
  exact hd (.inl (by rw [y0 hlt (by omega)]; omega))
 have hdf : aE b.Start (fq f) = fq f - b.Start := rt hle (by omega)
 have hsz := hv.1.2.1
 have hsz2 := hv.1.2.2.1
 have hto : b.Start ≤ R.toF b (fq f) ∧ R.toF b (fq f) ≤ a := by
  unfold R.toF
  split
  ·
   rename_i hz
   rw [hdf] at hz; omega
  ·
   omega
 have nt := E0 h.u hv.1.2.2.2.2.2 hq
 have hg := JB.go (a := a) (b := R.putB b ⟨n, f⟩) (D := D) ha hr.1 (fun x hx => by
   have : x.n ∈ hn (R.putB b ⟨n, f⟩) := kZ.2 ⟨x, hx, rfl⟩
   rcases (sN b ⟨n, f⟩ x.n).1 this with q | q
   ·
    obtain ⟨y, hy, e⟩ := kZ.1 q
    have := h.held y hy
    show b.Start ≤ x.n ∧ _
    omega
   ·
    show b.Start ≤ x.n ∧ _
    rw [q]; exact ⟨hle, hf.2⟩) h.inc h.lt nt.u (fun i hi => by
   rcases nt.back i hi with q | q
   ·
    rcases h.seen i q with w | w
    ·
     exact .inl w
    ·
     exact .inr ((sN _ _ _).2 (.inl w))
   ·
    exact .inr ((sN _ _ _).2 (.inr q)))
  (R.insF_sorted hv.sortd (by have := R.held_len hv; omega) hq (fun q => hd (.inr q))) (to := R.toF b (fq f)) hto
 obtain ⟨g, _⟩ := hg
 rw [e]
 refine ⟨⟨g.J, g.mono, fun i hi => ?_, g.rng⟩, ?_⟩
 ·
  rcases hi with hi | hi
  ·
   exact g.rc i (.inl hi)
  ·
   exact g.rc i (.inr ((sN _ _ _).2 (.inl hi)))
 ·
  exact g.rc _ (.inr ((sN _ _ _).2 (.inr rfl)))

theorem J.upB {s : SS} (h : J s) {nx : Reorder} {out : List Frame} (g : Go s.accepted s.sides.Reorder s.out.Delivered nx out) : J { s with sides.Reorder := nx, out.Delivered := s.out.Delivered ++ rel s.plan out } := by
 rw [DO h.p0 g.rng]
 refine ⟨h.p0, h.pok, h.acc, h.A, g.J, fun i hi => g.rc i (h.rcv i hi), fun hb i hi => ?_⟩
 have := h.bar hb i hi
 have := g.mono
 show i < nx.Start; omega
theorem J.keep {s : SS} (h : J s) (e : Int) : J (cD e s) := ⟨h.p0, h.pok, h.acc, h.A, h.B, h.rcv, h.bar⟩
theorem dm {e : Int} {s : SS} (h : (cD e s).err = 0) : s.err = 0 ∧ e = 0 := by
 unfold cD at h
 simp only at h
 by_cases hs : s.err = 0
 ·
  rw [if_pos hs] at h; exact ⟨hs, h⟩
 ·
  rw [if_neg hs] at h; exact absurd h hs

theorem J.move {s : SS} (h : J s) {to : Int} (ht : 0 ≤ to ∧ to ≤ s.accepted) (he : (fu to s).err = 0) : J (fu to s) ∧ to ≤ (fu to s).sides.Reorder.Start := by
 have ho := (dm (s := s) he).2
 obtain ⟨g, g2⟩ := h.B.bar (by have := h.acc; omega) ht ho
 exact ⟨(h.keep _).upB g, g2⟩
theorem iI (now : Int) : ∀ (l : List Frame) (s : SS) (d : List Bool), (fB now l s d).1.err = s.err ∧ (fB now l s d).1.sides.Sender = s.sides.Sender
 | [], s, d => ⟨rfl, rfl⟩
 | f :: l, s, d => by
  unfold fB
  split
  ·
   exact iI now l s _
  ·
   split
   ·
    exact iI now l _ _
   ·
    exact iI now l s _
theorem J.puts (now : Int) : ∀ (l : List Frame) (s : SS) (d : List Bool), J s → (∀ f ∈ l, 0 ≤ fq f ∧ fq f < s.accepted) → J (fB now l s d).1
 | [], s, d, h, _ => h
 | f :: l, s, d, h, hl => by
  unfold fB
  have hl' : ∀ g ∈ l, 0 ≤ fq g ∧ fq g < s.accepted := fun g hg => hl g (by simp [hg])
  split
  ·
   exact J.puts now l s _ h hl'
  ·
   split
   ·
    rename_i ho
    have ha := h.acc
    exact J.puts now l _ _ (h.upB (h.B.put (by omega) (hl f (by simp)) ho).1) hl'
   ·
    exact J.puts now l s _ h hl'
theorem J.upA {s : SS} (h : J s) {A : Sender} (hA : JA s.plan.Limit A s.accepted s.out.Acked s.out.Dropped) (hb : A.Bar = s.sides.Sender.Bar) : J { s with sides.Sender := A } :=
 ⟨h.p0, h.pok, h.acc, hA, h.B, h.rcv, fun q => h.bar (by rw [← hb]; exact q)⟩

theorem DZ {A : Sender} {k : Int} (h : (S.pikR A k).2.2 = 0) : S.Valid A ∧ 0 ≤ k ∧ S.pikR A k = ((S.pickR A.Limit k 0 A.Out).2, S.pickS A k, 0) := by
 unfold S.pikR at h ⊢
 by_cases hv : S.Valid A
 ·
  rw [if_pos hv] at h ⊢
  by_cases hk : 0 ≤ k
  ·
   rw [if_pos hk] at h ⊢
   by_cases hp : A.Phase = 2
   ·
    rw [if_pos hp]; exact ⟨hv, hk, rfl⟩
   ·
    rw [if_neg hp] at h; cases h
  ·
   rw [if_neg hk] at h; cases h
 ·
  rw [if_neg hv] at h; cases h
def tE (s : SS) : Prop := ∀ x ∈ s.sides.Sender.Out, x.Flying = false ∧ x.Tries ≠ s.plan.Limit
theorem J.send {s : SS} (h : J s) (hr : tE s) (now : Int) (d : List Bool) (he : (c6 now s d).1.err = 0) :
  s.err = 0 ∧ J (c6 now s d).1 ∧ ((S.pikR s.sides.Sender s.plan.Burst).1.length = 0 → Fly (c6 now s d).1) := by
 have e1 := iI now (S.pikR s.sides.Sender s.plan.Burst).1 { cD (S.pikR s.sides.Sender s.plan.Burst).2.2 s with sides.Sender := (S.pikR s.sides.Sender s.plan.Burst).2.1 } d
 have he' : (cD (S.pikR s.sides.Sender s.plan.Burst).2.2 s).err = 0 := e1.1.symm.trans he
 obtain ⟨k1, k2⟩ := dm he'
 obtain ⟨hv, hk, e⟩ := DZ k2
 have ha := h.acc
 obtain ⟨p1, p2, p3⟩ := h.A.pick ha.1 (by omega) hv hr hk
 have hj : J { cD (S.pikR s.sides.Sender s.plan.Burst).2.2 s with sides.Sender := (S.pikR s.sides.Sender s.plan.Burst).2.1 } := by
  rw [e]; exact (h.keep _).upA p1 rfl
 have hfr : (S.pikR s.sides.Sender s.plan.Burst).1 = (s.sides.Sender.Out.take s.plan.Burst.toNat).map frm := by rw [e]; exact p2
 have hl : ∀ f ∈ (S.pikR s.sides.Sender s.plan.Burst).1, 0 ≤ fq f ∧ fq f < s.accepted := by
  intro f hf
  rw [hfr] at hf
  obtain ⟨x, hx, rfl⟩ := List.mem_map.1 hf
  exact h.A.out x (List.mem_of_mem_take hx)
 refine ⟨k1, J.puts now _ _ d hj hl, fun h0 => ?_⟩
 rw [hfr, List.length_map] at h0
 have ht : s.sides.Sender.Out.take s.plan.Burst.toNat = [] := List.length_eq_zero_iff.1 h0
 intro x hx
 have hx' : x ∈ (fB now (S.pikR s.sides.Sender s.plan.Burst).1 { cD (S.pikR s.sides.Sender s.plan.Burst).2.2 s with sides.Sender := (S.pikR s.sides.Sender s.plan.Burst).2.1 } d).1.sides.Sender.Out := hx
 rw [e1.2, e] at hx'
 have hx2 : x ∈ (S.pickS s.sides.Sender s.plan.Burst).Out := hx'
 rw [p3, ht, List.map_nil, List.nil_append] at hx2
 exact (hr x (List.mem_of_mem_drop hx2)).1

theorem E2 {A : Sender} (h : (S.lostR A).2 = 0) : S.Valid A ∧ S.lostR A = (S.lostS A, 0) := by
 unfold S.lostR at h ⊢
 by_cases hv : S.Valid A
 ·
  rw [if_pos hv] at h ⊢
  by_cases hp : A.Phase = 2
  ·
   rw [if_pos hp]; exact ⟨hv, rfl⟩
  ·
   rw [if_neg hp] at h; cases h
 ·
  rw [if_neg hv] at h; cases h
theorem DJ {b : Reorder} (h : (R.repR b).2 = 0) : R.VR b ∧ R.repR b = (b.Seen, 0) := by
 unfold R.repR at h ⊢
 by_cases hv : R.VR b
 ·
  rw [if_pos hv]; exact ⟨hv, rfl⟩
 ·
  rw [if_neg hv] at h; cases h
theorem HH {A : Sender} {w : Window} (h : (S.ackR A w).2.2 = 0) : S.Valid A ∧ S.ackR A w = (S.seqs (A.Out.filter (S.pA w)), S.ackS A w, 0) := by
 unfold S.ackR at h ⊢
 by_cases hv : S.Valid A
 ·
  rw [if_pos hv] at h ⊢
  by_cases hk : S.okW w
  ·
   rw [if_pos hk] at h ⊢
   by_cases hp : A.Phase = 2
   ·
    rw [if_pos hp]; exact ⟨hv, rfl⟩
   ·
    rw [if_neg hp] at h; cases h
  ·
   rw [if_neg hk] at h; cases h
 ·
  rw [if_neg hv] at h; cases h
theorem J.rep {s : SS} (h : J s) (d : List Bool) (he : (js s d).1.err = 0) : s.err = 0 ∧ J (js s d).1 ∧ Fly (js s d).1 := by
 have ha := h.acc
 unfold js at he ⊢
 by_cases hd : (eK d).1 = true
 ·
  rw [if_pos hd] at he ⊢
  obtain ⟨k1, k2⟩ := dm (s := s) he
  obtain ⟨hv, e⟩ := E2 k2
  refine ⟨k1, ?_, ?_⟩
  ·
   rw [e]; exact (h.keep _).upA h.A.lost rfl
  ·
   rw [e]; exact xG _
 ·
  rw [if_neg hd] at he ⊢
  obtain ⟨k1, k2⟩ := dm (s := cD (R.repR s.sides.Reorder).2 s) he
  obtain ⟨k3, k4⟩ := dm k1
  obtain ⟨hvb, eb⟩ := DJ k4
  rw [eb] at k2
  obtain ⟨hv, e⟩ := HH k2
  obtain ⟨a1, a2⟩ := h.A.ack ha.1 (by omega) hv s.sides.Reorder.Seen
  rw [eb, e]
  simp only
  rw [ze h.p0 (fun i hi => by have := (a2 i hi).1; omega)]
  refine ⟨k3, ⟨h.p0, h.pok, h.acc, a1, h.B, fun i hi => ?_, h.bar⟩, xG _⟩
  rcases List.mem_append.1 hi with hi | hi
  ·
   exact h.rcv i hi
  ·
   exact h.B.seen i (a2 i hi).2

theorem FY {A : Sender} {t : Int} (h : (S.offR A t).2.2 = 0) : S.Valid A ∧ S.offR A t = (S.offF A Frame.z, S.offS A Frame.z t, 0) := by
 unfold S.offR at h ⊢
 by_cases hv : S.Valid A
 ·
  rw [if_pos hv] at h ⊢
  by_cases hk : 0 ≤ t ∧ t ≤ 1099511627776
  ·
   rw [if_pos hk] at h ⊢
   by_cases hp : A.Phase = 2
   ·
    rw [if_pos hp] at h ⊢
    by_cases h1 : A.Out ≠ [] ∧ t < S.lastAt A
    ·
     rw [if_pos h1] at h; cases h
    ·
     rw [if_neg h1] at h ⊢
     by_cases h2 : A.Size ≤ aE (S.startOf A) A.Next
     ·
      rw [if_pos h2] at h; cases h
     ·
      rw [if_neg h2]; exact ⟨hv, rfl⟩
   ·
    rw [if_neg hp] at h; cases h
  ·
   rw [if_neg hk] at h; cases h
 ·
  rw [if_neg hv] at h; cases h
theorem mN (now : Int) (n : Nat) {s : SS} (h : s.err ≠ 0) : bY now n s = s := by
 cases n with
 | zero => rfl
 | succ n => unfold bY; rw [if_neg (fun q => h q.2)]
theorem J.offs (now : Int) : ∀ (n : Nat) (s : SS), J s → tE s → (bY now n s).err = 0 → s.err = 0 ∧ J (bY now n s) ∧ tE (bY now n s)
 | 0, s, h, hr, he => ⟨he, h, hr⟩
 | n + 1, s, h, hr, he => by
  unfold bY at he ⊢
  by_cases hc : s.accepted < s.many ∧ s.err = 0
  ·
   rw [if_pos hc] at he ⊢
   by_cases h22 : (S.offR s.sides.Sender now).2.2 = 22
   ·
    rw [if_pos h22] at he ⊢; exact ⟨he, h, hr⟩
   ·
    rw [if_neg h22] at he ⊢
    have ha := h.acc
    have e0 : (S.offR s.sides.Sender now).2.2 = 0 := by
     apply Classical.byContradiction
     intro hne
     have hs : ({ cD (S.offR s.sides.Sender now).2.2 s with accepted := s.accepted + 1, sides.Sender := (S.offR s.sides.Sender now).2.1 } : SS).err ≠ 0 := by
      simp only [cD, if_pos hc.2]; exact hne
     rw [mN now n hs] at he
     exact hs he
    obtain ⟨hv, e⟩ := FY e0
    have hA := h.A.off ha.1 (by omega) hv now
    have hj : J { cD (S.offR s.sides.Sender now).2.2 s with accepted := s.accepted + 1, sides.Sender := (S.offR s.sides.Sender now).2.1 } := by
     rw [e]
     refine ⟨h.p0, h.pok, ⟨by simp only; omega, by simp only [cD]; omega, ha.2.2⟩, hA, ?_, h.rcv, h.bar⟩
     exact ⟨⟨h.B.r.1, by have := h.B.r.2; simp only [cD]; omega⟩, fun x hx => by have := h.B.held x hx; simp only [cD]; omega, h.B.inc, h.B.lt, h.B.u, h.B.seen⟩
    have hr2 : tE { cD (S.offR s.sides.Sender now).2.2 s with accepted := s.accepted + 1, sides.Sender := (S.offR s.sides.Sender now).2.1 } := by
     rw [e]
     intro x hx
     have hx' : x ∈ s.sides.Sender.Out ++ [({ Unacked.z with At := now, Frame := S.offF s.sides.Sender Frame.z } : Unacked)] := hx
     rcases List.mem_append.1 hx' with q | q
     ·
      exact hr x q
     ·
      simp only [List.mem_singleton] at q
      subst q
      have := h.pok.2.2.1
      refine ⟨rfl, ?_⟩
      show (0 : Int) ≠ s.plan.Limit
      omega
    obtain ⟨_, r2, r3⟩ := J.offs now n _ hj hr2 he
    exact ⟨hc.2, r2, r3⟩
  ·
   rw [if_neg hc] at he ⊢; exact ⟨he, h, hr⟩
end Go.AX.Z.TN

/-! (TNXd) -/

set_option linter.unusedVariables false
set_option linter.unusedSimpArgs false
set_option maxRecDepth 20000
namespace Go.AX.Z.TN
open Go.AX

theorem J.rnd {s : SS} (h : J s) (n : Int) : J { s with out.Rounds := n } := ⟨h.p0, h.pok, h.acc, h.A, h.B, h.rcv, h.bar⟩
theorem J.rx {s : SS} (h : J s) (now : Int) (he : (rxF now s).err = 0) : s.err = 0 ∧ J (rxF now s) := by
 obtain ⟨k1, k2⟩ := dm (s := s) he
 have ha := h.acc
 have g := h.B.exp (by omega) k2
 exact ⟨k1, ((h.keep _).upB g).rnd (s.out.Rounds + 1)⟩
theorem J.rest {s : SS} (h : J s) (hr : tE s) (now : Int) (d : List Bool) (he : (iT now s d).1.err = 0) : s.err = 0 ∧ J (iT now s d).1 ∧ Fly (iT now s d).1 := by
 unfold iT at he ⊢
 simp only at he ⊢
 -- whatever comes ahead of the last step
 have key : ∀ q : SS × List Bool, q = rpF (S.pikR (bY now 200 s).sides.Sender (bY now 200 s).plan.Burst).1.length (c6 now (bY now 200 s) d) → q.1.err = 0 → s.err = 0 ∧ J q.1 ∧ Fly q.1 := by
  rintro q rfl hq
  unfold rpF at hq ⊢
  by_cases hn : 0 < (S.pikR (bY now 200 s).sides.Sender (bY now 200 s).plan.Burst).1.length
  ·
   rw [if_pos hn] at hq ⊢
   have e1 : (c6 now (bY now 200 s) d).1.err = 0 := by
    unfold js at hq
    split at hq
    ·
     exact (dm (s := (c6 now (bY now 200 s) d).1) hq).1
    ·
     exact (dm (s := (c6 now (bY now 200 s) d).1) (dm (s := cD _ (c6 now (bY now 200 s) d).1) hq).1).1
   have e2 : (bY now 200 s).err = 0 := by
    have := (iI now (S.pikR (bY now 200 s).sides.Sender (bY now 200 s).plan.Burst).1 { cD (S.pikR (bY now 200 s).sides.Sender (bY now 200 s).plan.Burst).2.2 (bY now 200 s) with sides.Sender := (S.pikR (bY now 200 s).sides.Sender (bY now 200 s).plan.Burst).2.1 } d).1
    exact (dm (s := bY now 200 s) (this.symm.trans e1)).1
   obtain ⟨o1, o2, o3⟩ := J.offs now 200 s h hr e2
   obtain ⟨_, p2, _⟩ := o2.send o3 now d e1
   obtain ⟨_, q2, q3⟩ := p2.rep _ hq
   exact ⟨o1, q2, q3⟩
  ·
   rw [if_neg hn] at hq ⊢
   have e2 : (bY now 200 s).err = 0 := by
    have := (iI now (S.pikR (bY now 200 s).sides.Sender (bY now 200 s).plan.Burst).1 { cD (S.pikR (bY now 200 s).sides.Sender (bY now 200 s).plan.Burst).2.2 (bY now 200 s) with sides.Sender := (S.pikR (bY now 200 s).sides.Sender (bY now 200 s).plan.Burst).2.1 } d).1
    exact (dm (s := bY now 200 s) (this.symm.trans hq)).1
   obtain ⟨o1, o2, o3⟩ := J.offs now 200 s h hr e2
   obtain ⟨_, p2, p3⟩ := o2.send o3 now d hq
   exact ⟨o1, p2, p3 (by omega)⟩
 have he1 := (dm (s := (rpF (S.pikR (bY now 200 s).sides.Sender (bY now 200 s).plan.Burst).1.length (c6 now (bY now 200 s) d)).1) he).1
 obtain ⟨k1, k2, k3⟩ := key _ rfl he1
 exact ⟨k1, (k2.rx now he).2, k3⟩

theorem Fm {A : Sender} {t : Int} (h : (S.expR A t).2.2 = 0) : S.Valid A ∧ S.expR A t = (S.expN A t, S.expS A t, 0) := by
 unfold S.expR at h ⊢
 by_cases hv : S.Valid A
 ·
  rw [if_pos hv] at h ⊢
  by_cases hk : 0 ≤ t ∧ t ≤ 1099511627776
  ·
   rw [if_pos hk] at h ⊢
   by_cases hp : A.Phase = 2
   ·
    rw [if_pos hp]; exact ⟨hv, rfl⟩
   ·
    rw [if_neg hp] at h; cases h
  ·
   rw [if_neg hk] at h; cases h
 ·
  rw [if_neg hv] at h; cases h
theorem BV {A : Sender} (h : (S.barR A).2 = 0) : S.Valid A ∧ S.barR A = (S.barS A, 0) := by
 unfold S.barR at h ⊢
 by_cases hv : S.Valid A
 ·
  rw [if_pos hv] at h ⊢
  by_cases hp : A.Phase = 2
  ·
   rw [if_pos hp] at h ⊢
   by_cases hb : A.Bar = true
   ·
    rw [if_pos hb]; exact ⟨hv, rfl⟩
   ·
    rw [if_neg hb] at h; cases h
  ·
   rw [if_neg hp] at h; cases h
 ·
  rw [if_neg hv] at h; cases h
theorem J.ex {s : SS} (h : J s) (hf : Fly s) (t : Int) (he : (exF t s).err = 0) : s.err = 0 ∧ J (exF t s) ∧ tE (exF t s) := by
 obtain ⟨k1, k2⟩ := dm (s := s) he
 obtain ⟨hv, e⟩ := Fm k2
 have ha := h.acc
 have x := h.A.exp ha.1 (by omega) hv hf t
 unfold exF
 rw [e]
 simp only
 rw [ze h.p0 (fun i hi => by have := x.mem i hi; omega)]
 refine ⟨k1, ⟨h.p0, h.pok, h.acc, x.J, h.B, h.rcv, fun hb i hi => ?_⟩, x.fly⟩
 obtain ⟨b1, b2⟩ := x.bar hb
 refine h.bar b2 i ?_
 rw [← b1]; exact hi
theorem J.barr {s : SS} (h : J s) (hr : tE s) (d : List Bool) (he : (cP s d).1.err = 0) : s.err = 0 ∧ J (cP s d).1 ∧ tE (cP s d).1 := by
 unfold cP at he ⊢
 by_cases hb : s.sides.Sender.Bar = true
 ·
  rw [if_pos hb] at he ⊢
  by_cases hd : (eK d).1 = true
  ·
   rw [if_pos hd] at he ⊢; exact ⟨he, h, hr⟩
  ·
   rw [if_neg hd] at he ⊢
   obtain ⟨k1, k2⟩ := dm (s := fu (S.startR s.sides.Sender) s) he
   have k3 := (dm (s := s) k1).1
   obtain ⟨hv, e⟩ := BV k2
   have hv : S.Valid s.sides.Sender := hv
   have ha := h.acc
   have es : S.startR s.sides.Sender = S.startOf s.sides.Sender := by unfold S.startR; rw [if_pos hv]
   obtain ⟨_, _, o3, o4⟩ := h.A.ord ha.1 (by omega) hv
   rw [es] at k1 e ⊢
   obtain ⟨m1, m2⟩ := h.move ⟨o3, o4⟩ k1
   unfold bdF
   rw [e]
   refine ⟨k3, ⟨h.p0, h.pok, h.acc, ⟨h.A.next, h.A.perm, h.A.tries, h.A.drop, fun q => (by cases q), h.A.lim⟩, m1.B, m1.rcv, fun _ i hi => ?_⟩, hr⟩
   have := h.A.drop i hi
   show i < (fu (S.startOf s.sides.Sender) s).sides.Reorder.Start
   omega
 ·
  rw [if_neg hb] at he ⊢; exact ⟨he, h, hr⟩
theorem J.round {s : SS} (h : J s) (hf : Fly s) (d : List Bool) (he : (dJ s d).1.err = 0) : J (dJ s d).1 ∧ Fly (dJ s d).1 := by
 unfold dJ at he ⊢
 -- errors stay
 have c1 : (cP (exF (cr s) s) d).1.err = 0 := by
  apply Classical.byContradiction; intro hne
  have e1 := mN (cr s) 200 hne
  unfold iT at he
  simp only [e1] at he
  have e2 := (dm (s := (rpF (S.pikR (cP (exF (cr s) s) d).1.sides.Sender (cP (exF (cr s) s) d).1.plan.Burst).1.length (c6 (cr s) (cP (exF (cr s) s) d).1 (cP (exF (cr s) s) d).2)).1) he).1
  have e3 : (c6 (cr s) (cP (exF (cr s) s) d).1 (cP (exF (cr s) s) d).2).1.err = 0 := by
   unfold rpF at e2
   split at e2
   ·
    unfold js at e2
    split at e2
    ·
     exact (dm (s := (c6 (cr s) (cP (exF (cr s) s) d).1 (cP (exF (cr s) s) d).2).1) e2).1
    ·
     exact (dm (s := (c6 (cr s) (cP (exF (cr s) s) d).1 (cP (exF (cr s) s) d).2).1) (dm (s := cD _ (c6 (cr s) (cP (exF (cr s) s) d).1 (cP (exF (cr s) s) d).2).1) e2).1).1
   ·
    exact e2
  have := (iI (cr s) (S.pikR (cP (exF (cr s) s) d).1.sides.Sender (cP (exF (cr s) s) d).1.plan.Burst).1 { cD (S.pikR (cP (exF (cr s) s) d).1.sides.Sender (cP (exF (cr s) s) d).1.plan.Burst).2.2 (cP (exF (cr s) s) d).1 with sides.Sender := (S.pikR (cP (exF (cr s) s) d).1.sides.Sender (cP (exF (cr s) s) d).1.plan.Burst).2.1 } (cP (exF (cr s) s) d).2).1
  exact hne (dm (s := (cP (exF (cr s) s) d).1) (this.symm.trans e3)).1
 have c2 : (exF (cr s) s).err = 0 := by
  unfold cP at c1
  split at c1
  ·
   split at c1
   ·
    exact c1
   ·
    exact (dm (s := exF (cr s) s) (dm (s := fu _ (exF (cr s) s)) c1).1).1
  ·
   exact c1
 obtain ⟨_, a2, a3⟩ := h.ex hf _ c2
 obtain ⟨_, b2, b3⟩ := a2.barr a3 d c1
 obtain ⟨_, r2, r3⟩ := b2.rest b3 _ _ he
 exact ⟨r2, r3⟩

structure Fin (many : Int) (o : SessionResult) : Prop where
 perm : (o.Acked ++ o.Dropped).Perm (rng 0 many)
 inc : o.Delivered.Pairwise (· < ·)
 lt : ∀ i ∈ o.Delivered, 0 ≤ i ∧ i < many
 rcv : ∀ i ∈ o.Acked, i ∈ o.Delivered
 rounds : 0 ≤ o.Rounds ∧ o.Rounds ≤ 2000
 some : 0 < many ↔ 0 < o.Rounds

theorem J.fin {s : SS} (h : J s) (hr : 0 ≤ s.out.Rounds ∧ s.out.Rounds ≤ 2000) (hs : 0 < s.many ↔ 0 < s.out.Rounds) (hc : ¬ (s.accepted < s.many ∨ s.sides.Sender.Out ≠ [] ∨ s.sides.Sender.Bar = true)) : Fin s.many s.out := by
 have ha := h.acc
 have h1 : s.accepted = s.many := by
  have : ¬ s.accepted < s.many := fun q => hc (.inl q)
  omega
 have h2 : s.sides.Sender.Out = [] := Classical.byContradiction fun q => hc (.inr (.inl q))
 have h3 : s.sides.Sender.Bar = false := by
  cases hb : s.sides.Sender.Bar with
  | false => rfl
  | true => exact absurd (.inr (.inr hb)) hc
 have hp := h.A.perm
 rw [h2, h1] at hp
 have hp' : (s.out.Acked ++ s.out.Dropped).Perm (rng 0 s.many) := by simpa [S.seqs] using hp
 -- nothing is held
 have hno : ∀ x ∈ s.sides.Reorder.Held, False := by
  intro x hx
  have hb := h.B.held x hx
  have hr := h.B.r
  have hin : s.sides.Reorder.Start ∈ rng 0 s.many := yu.2 (by omega)
  rw [← hp'.mem_iff, List.mem_append] at hin
  rcases hin with q | q
  ·
   rcases h.rcv _ q with w | w
   ·
    have := h.B.lt _ w; omega
   ·
    obtain ⟨y, hy, e⟩ := kZ.1 w
    have := h.B.held y hy; omega
  ·
   have := h.bar h3 _ q; omega
 refine ⟨hp', h.B.inc, fun i hi => by have := h.B.lt i hi; have := h.B.r; omega, fun i hi => ?_, hr, hs⟩
 rcases h.rcv i hi with w | w
 ·
  exact w
 ·
  obtain ⟨y, hy, _⟩ := kZ.1 w
  exact (hno y hy).elim

theorem DD {A : Sender} (h : (S.closeR A).2.2 = 0) : S.Valid A ∧ S.closeR A = (S.seqs A.Out, S.closeS A, 0) := by
 unfold S.closeR at h ⊢
 by_cases hv : S.Valid A
 ·
  rw [if_pos hv]; exact ⟨hv, rfl⟩
 ·
  rw [if_neg hv] at h; cases h
theorem J.close {s : SS} (h : J s) (hr : s.out.Rounds = 2000) (hs : 0 < s.many) (he : (iF s).err = 0) : Fin s.many (iF s).out := by
 have ha := h.acc
 obtain ⟨k1, k2⟩ := dm (s := clF s) he
 have k3 := (dm (s := s) k1).2
 obtain ⟨hv, e⟩ := DD k3
 have hN : (S.closeR s.sides.Sender).2.1.Next = s.accepted := by rw [e]; exact h.A.next
 have ho := h.A.out
 have hX : (clF s).out.Dropped = s.out.Dropped ++ S.seqs s.sides.Sender.Out ++ rng s.accepted s.many := by
  unfold clF
  rw [e]
  show s.out.Dropped ++ mS s.plan (S.seqs s.sides.Sender.Out) ++ _ = _
  rw [ze h.p0 (fun i hi => by obtain ⟨x, hx, rfl⟩ := List.mem_map.1 hi; have := ho x hx; show 0 ≤ un x ∧ un x < 4096; omega)]
 rw [hN] at k2
 have hB : JB (clF s).sides.Reorder s.accepted (clF s).out.Delivered := h.B
 obtain ⟨g, g2⟩ := hB.bar (by omega) ⟨ha.1, Int.le_refl _⟩ k2
 have hD : (iF s).out.Delivered = (clF s).out.Delivered ++ (R.barF (clF s).sides.Reorder s.accepted).1.map fq := by
  unfold iF fu
  rw [hN]
  show (clF s).out.Delivered ++ rel s.plan _ = _
  rw [DO h.p0 g.rng]
 have hno : ∀ i, i ∉ hn (R.barF (clF s).sides.Reorder s.accepted).2.1 := by
  intro i hi
  obtain ⟨x, hx, _⟩ := kZ.1 hi
  have := g.J.held x hx
  omega
 refine ⟨?_, by rw [hD]; exact g.J.inc, ?_, ?_, ?_, ?_⟩
 ·
  show (s.out.Acked ++ (clF s).out.Dropped).Perm _
  rw [hX, FU ha.1 ha.2.1, ← List.append_assoc, ← List.append_assoc]
  exact h.A.perm.append_right _
 ·
  intro i hi
  rw [hD] at hi
  have := g.J.lt i hi
  have := g.J.r
  omega
 ·
  intro i hi
  rw [hD]
  rcases g.rc i (h.rcv i hi) with w | w
  ·
   exact w
  ·
   exact (hno i w).elim
 ·
  show 0 ≤ s.out.Rounds ∧ s.out.Rounds ≤ 2000
  omega
 ·
  show 0 < s.many ↔ 0 < s.out.Rounds
  omega

theorem H7 : ∀ (k : Nat) (s : SS) (d : List Bool), J s → Fly s → 0 ≤ s.out.Rounds → s.out.Rounds + k = 2000 → (s.out.Rounds = 0 ∨ 0 < s.many) → (s.out.Rounds = 0 → s.accepted = 0) → (i5 (k + 1) s d).1.err = 0 → Fin s.many (i5 (k + 1) s d).1.out := by
 intro k
 induction k with
 | zero =>
  intro s d h hf h0 hk hm h1 he
  unfold i5 at he ⊢
  by_cases hc : s.err = 0 ∧ (s.accepted < s.many ∨ s.sides.Sender.Out ≠ [] ∨ s.sides.Sender.Bar = true)
  ·
   rw [if_pos hc, if_pos (by omega)] at he ⊢
   exact h.close (by omega) (by omega) he
  ·
   rw [if_neg hc] at he ⊢
   exact h.fin ⟨h0, by omega⟩ (by omega) (fun q => hc ⟨he, q⟩)
 | succ k ih =>
  intro s d h hf h0 hk hm h1 he
  unfold i5 at he ⊢
  by_cases hc : s.err = 0 ∧ (s.accepted < s.many ∨ s.sides.Sender.Out ≠ [] ∨ s.sides.Sender.Bar = true)
  ·
   rw [if_pos hc, if_neg (by omega)] at he ⊢
   obtain ⟨z1, z2, z3, z4⟩ := te s d
   have her : (dJ s d).1.err = 0 := by
    apply Classical.byContradiction; intro hne
    have : i5 (k + 1) (dJ s d).1 (dJ s d).2 = ((dJ s d).1, (dJ s d).2) := by
     unfold i5
     rw [if_neg (fun q => hne q.1)]
    rw [this] at he
    exact hne he
   obtain ⟨r1, r2⟩ := h.round hf d her
   have hmp : 0 < s.many := by
    apply Int.not_le.1; intro hle
    have ha := h.acc
    have a0 : s.accepted = 0 := by omega
    rcases hc.2 with q | q | q
    ·
     omega
    ·
     obtain ⟨x, hx⟩ := List.exists_mem_of_ne_nil _ q
     have := h.A.out x hx; omega
    ·
     obtain ⟨i, hi⟩ := List.exists_mem_of_ne_nil _ (h.A.barx q)
     have := (h.A.mem i).1 (.inr (.inl hi)); omega
   have := ih (dJ s d).1 (dJ s d).2 r1 r2 (by rw [z3]; omega) (by rw [z3]; omega) (.inr (by rw [z2]; exact hmp)) (fun q => by rw [z3] at q; omega) he
   rw [z2] at this
   exact this
  ·
   rw [if_neg hc] at he ⊢
   have ha := h.acc
   refine h.fin ⟨h0, by omega⟩ ?_ (fun q => hc ⟨he, q⟩)
   constructor
   ·
    intro hmp
    apply Int.not_le.1; intro hle
    have : s.accepted = 0 := h1 (by omega)
    exact hc ⟨he, .inl (by omega)⟩
   ·
    intro q
    omega
theorem Fd {p : SessionPlan} (hp : gR p) (h0 : p.Start = 0) {many : Int} (hm : 0 ≤ many ∧ many ≤ 200) : J (start p many) ∧ Fly (start p many) := by
 refine ⟨⟨h0, hp, ⟨Int.le_refl _, hm.1, hm.2⟩, ⟨h0, ?_, .nil, by simp [start, gb, Session_session.z, SessionResult.z], fun q => (by cases q), rfl⟩, ⟨?_, by simp [start, B0, Reorder.z], .nil, by simp [start, gb, Session_session.z, SessionResult.z], ⟨Int.le_refl _, (by decide : (0 : Int) < 18446744073709551616)⟩, fun i hi => ?_⟩, by simp [start, gb, Session_session.z, SessionResult.z], fun _ => by simp [start, gb, Session_session.z, SessionResult.z]⟩, by simp [Fly, start, A0, Sender.z]⟩
 ·
  show (([] : List Int) ++ [] ++ S.seqs []).Perm (rng 0 0)
  rw [yn (Int.le_refl _)]; exact .nil
 ·
  show 0 ≤ p.Start ∧ p.Start ≤ 0
  omega
 ·
  have : S.hasB (B0 p).Seen i = true := hi
  have hb := ((po (w := (B0 p).Seen) (X := 0) rfl (by decide) i).1 this).2
  simp at hb
theorem Dj {p : SessionPlan} (h0 : p.Start = 0) {many : Int} {d : List Bool} (he : (mi p many d).2 = 0) : Fin many (mi p many d).1 := by
 unfold mi at he ⊢
 by_cases hp : gR p
 ·
  rw [if_pos hp] at he ⊢
  by_cases hm : 0 ≤ many ∧ many ≤ 200
  ·
   rw [if_pos hm] at he ⊢
   by_cases h : (i5 2001 (start p many) d).1.err = 0
   ·
    rw [if_pos h]
    obtain ⟨j1, j2⟩ := Fd hp h0 hm
    exact H7 2000 (start p many) d j1 j2 (Int.le_refl _) (by show (0 : Int) + ((2000 : Nat) : Int) = 2000; omega) (.inl rfl) (fun _ => rfl) h
   ·
    rw [if_neg h] at he; exact absurd he h
  ·
   rw [if_neg hm] at he; cases he
 ·
  rw [if_neg hp] at he; cases he
end Go.AX.Z.TN

/-! (TNXe) -/

set_option linter.unusedVariables false
set_option linter.unusedSimpArgs false
set_option maxRecDepth 20000
namespace Go.AX.Z.TN
open Go.AX

def sh (k n : Int) : Int := (n + k) % 4096
theorem ep (k a b : Int) : aE (sh k a) (sh k b) = aE a b := by unfold aE sh; omega
theorem oU (k n : Int) : 0 ≤ sh k n ∧ sh k n < 4096 := by unfold sh; omega
theorem wi (k a b : Int) : (sh k a + b) % 4096 = sh k ((a + b) % 4096) := by unfold sh; omega
def shF (k : Int) (f : Frame) : Frame := { f with Head := { f.Head with Seq := sh k f.Head.Seq } }
def shU (k : Int) (x : Unacked) : Unacked := { x with Frame := shF k x.Frame }
def shA (k : Int) (A : Sender) : Sender := { A with Next := sh k A.Next, Out := A.Out.map (shU k) }
theorem jU {α : Type} {f : α → α} {p q : α → Bool} : ∀ {l : List α}, (∀ x ∈ l, p (f x) = q x) → (l.map f).filter p = (l.filter q).map f
 | [], _ => rfl
 | x :: l, h => by
  have ih := jU (f := f) (p := p) (q := q) (l := l) fun y hy => h y (by simp [hy])
  have hx := h x (by simp)
  rw [List.map_cons]
  cases hq : q x with
  | true => rw [List.filter_cons_of_pos (by rw [hx, hq]), List.filter_cons_of_pos hq, List.map_cons, ih]
  | false => rw [List.filter_cons_of_neg (by rw [hx, hq]; decide), List.filter_cons_of_neg (by rw [hq]; decide), ih]
theorem kN (k : Int) (A : Sender) : S.startOf (shA k A) = sh k (S.startOf A) := by
 unfold S.startOf
 show (match A.Out.map (shU k) with | [] => sh k A.Next | x :: _ => x.Frame.Head.Seq) = _
 cases A.Out <;> rfl
theorem BL (k : Int) {st dd lim : Int} : ∀ {l : List Unacked} {last at' : Int}, S.OkL st dd lim last at' l → S.OkL (sh k st) dd lim last at' (l.map (shU k))
 | [], _, _, _ => trivial
 | x :: l, last, at', h => by
  obtain ⟨⟨a, b, c, d, e, f, g, i, j⟩, h2⟩ := h
  have ih := BL k h2
  have e1 : aE (sh k st) (shU k x).Frame.Head.Seq = aE st x.Frame.Head.Seq := ep k _ _
  have hs : 0 ≤ (shU k x).Frame.Head.Seq ∧ (shU k x).Frame.Head.Seq < 4096 := oU k _
  refine ⟨⟨hs.1, by omega, by rw [e1]; exact c, by rw [e1]; exact d, e, f, g, i, j⟩, ?_⟩
  rw [e1]; exact ih
theorem ja (k : Int) {A : Sender} (h : S.Valid A) : S.Valid (shA k A) := by
 obtain ⟨a, b, c, d, e, f, g, h, i, j⟩ := h
 have hs := oU k A.Next
 have e1 : aE (S.startOf (shA k A)) (shA k A).Next = aE (S.startOf A) A.Next := by rw [kN]; exact ep k _ _
 refine ⟨a, b, c, ⟨hs.1, by show sh k A.Next ≤ 4095; omega⟩, e, f, g, fun q => ?_, ?_, ?_⟩
 ·
  obtain ⟨h1, h2⟩ := h q
  exact ⟨by show A.Out.map _ = []; rw [h1]; rfl, h2⟩
 ·
  rw [e1]; exact i
 ·
  rw [e1, kN]; exact BL k j
theorem y7 (k : Int) (l : List Unacked) : S.seqs (l.map (shU k)) = (S.seqs l).map (sh k) := by
 unfold S.seqs; rw [List.map_map, List.map_map]; rfl

theorem BY (k : Int) (A : Sender) (t : Int) : S.expN (shA k A) t = (S.expN A t).map (sh k) := by
 unfold S.expN
 show S.seqs ((A.Out.map (shU k)).filter (S.pX A.Limit A.Life t)) = _
 rw [jU (f := shU k) (q := S.pX A.Limit A.Life t) (fun x _ => rfl), y7]
theorem F4 (k : Int) (A : Sender) (t : Int) : S.expS (shA k A) t = shA k (S.expS A t) := by
 unfold S.expS
 rw [BY, List.length_map]
 have : (shA k A).Out.filter (fun x => !S.pX (shA k A).Limit (shA k A).Life t x) = (A.Out.filter (fun x => !S.pX A.Limit A.Life t x)).map (shU k) := jU (fun x _ => rfl)
 rw [this]; rfl
theorem EC (k : Int) {A : Sender} {t : Int} (h : (S.expR A t).2.2 = 0) : S.expR (shA k A) t = ((S.expR A t).1.map (sh k), shA k (S.expR A t).2.1, 0) := by
 unfold S.expR at h ⊢
 by_cases hv : S.Valid A
 ·
  rw [if_pos hv] at h
  rw [if_pos (ja k hv), if_pos hv]
  by_cases ht : 0 ≤ t ∧ t ≤ 1099511627776
  ·
   rw [if_pos ht] at h
   rw [if_pos ht, if_pos ht]
   by_cases hp : A.Phase = 2
   ·
    rw [if_pos (show (shA k A).Phase = 2 from hp), if_pos hp, BY, F4]
   ·
    rw [if_neg hp] at h; cases h
  ·
   rw [if_neg ht] at h; cases h
 ·
  rw [if_neg hv] at h; cases h
theorem Cu (k : Int) {A : Sender} (h : (S.closeR A).2.2 = 0) : S.closeR (shA k A) = ((S.closeR A).1.map (sh k), shA k (S.closeR A).2.1, 0) := by
 unfold S.closeR at h ⊢
 by_cases hv : S.Valid A
 ·
  rw [if_pos (ja k hv), if_pos hv]
  have : S.seqs (shA k A).Out = (S.seqs A.Out).map (sh k) := y7 k _
  rw [this]; rfl
 ·
  rw [if_neg hv] at h; cases h
theorem EJ (k : Int) (A : Sender) (t : Int) : S.offS (shA k A) Frame.z t = shA k (S.offS A Frame.z t) := by
 unfold S.offS
 have e1 : ((shA k A).Next + 1) % 4096 = sh k ((A.Next + 1) % 4096) := wi k _ _
 rw [e1]
 show ({ shA k A with Next := _, Out := A.Out.map (shU k) ++ _ } : Sender) = _
 simp only [shA, List.map_append, List.map_cons, List.map_nil]
 rfl
theorem xz (k : Int) (A : Sender) : S.lastAt (shA k A) = S.lastAt A := by
 unfold S.lastAt
 show (match (A.Out.map (shU k)).getLast? with | some x => x.At | none => 0) = _
 rw [List.getLast?_map]
 cases A.Out.getLast? <;> rfl
theorem AF (k : Int) (A : Sender) : (shA k A).Out ≠ [] ↔ A.Out ≠ [] := by
 show A.Out.map (shU k) ≠ [] ↔ _
 cases A.Out <;> simp
theorem ES (k : Int) {A : Sender} {t : Int} (h : (S.offR A t).2.2 = 0) : (S.offR (shA k A) t).2 = (shA k (S.offR A t).2.1, 0) := by
 unfold S.offR at h ⊢
 by_cases hv : S.Valid A
 ·
  rw [if_pos hv] at h
  rw [if_pos (ja k hv), if_pos hv]
  by_cases ht : 0 ≤ t ∧ t ≤ 1099511627776
  ·
   rw [if_pos ht] at h
   rw [if_pos ht, if_pos ht]
   by_cases hp : A.Phase = 2
   ·
    rw [if_pos hp] at h
    rw [if_pos (show (shA k A).Phase = 2 from hp), if_pos hp]
    by_cases h1 : A.Out ≠ [] ∧ t < S.lastAt A
    ·
     rw [if_pos h1] at h; cases h
    ·
     rw [if_neg h1] at h
     rw [if_neg (show ¬ ((shA k A).Out ≠ [] ∧ t < S.lastAt (shA k A)) by rw [AF, xz]; exact h1), if_neg h1]
     by_cases h2 : A.Size ≤ aE (S.startOf A) A.Next
     ·
      rw [if_pos h2] at h; cases h
     ·
      rw [if_neg (show ¬ ((shA k A).Size ≤ aE (S.startOf (shA k A)) (shA k A).Next) by rw [kN]; show ¬ (A.Size ≤ aE _ (sh k A.Next)); rw [ep]; exact h2), if_neg h2]
      rw [EJ]
   ·
    rw [if_neg hp] at h; cases h
  ·
   rw [if_neg ht] at h; cases h
 ·
  rw [if_neg hv] at h; cases h
theorem Ca (k : Int) {A : Sender} {t : Int} (h : (S.offR A t).2.2 = 22) : (S.offR (shA k A) t).2.2 = 22 := by
 unfold S.offR at h ⊢
 by_cases hv : S.Valid A
 ·
  rw [if_pos hv] at h
  rw [if_pos (ja k hv)]
  by_cases ht : 0 ≤ t ∧ t ≤ 1099511627776
  ·
   rw [if_pos ht] at h
   rw [if_pos ht]
   by_cases hp : A.Phase = 2
   ·
    rw [if_pos hp] at h
    rw [if_pos (show (shA k A).Phase = 2 from hp)]
    by_cases h1 : A.Out ≠ [] ∧ t < S.lastAt A
    ·
     rw [if_pos h1] at h; cases h
    ·
     rw [if_neg h1] at h
     rw [if_neg (show ¬ ((shA k A).Out ≠ [] ∧ t < S.lastAt (shA k A)) by rw [AF, xz]; exact h1)]
     by_cases h2 : A.Size ≤ aE (S.startOf A) A.Next
     ·
      rw [if_pos (show (shA k A).Size ≤ aE (S.startOf (shA k A)) (shA k A).Next by rw [kN]; show A.Size ≤ aE _ (sh k A.Next); rw [ep]; exact h2)]
     ·
      rw [if_neg h2] at h; cases h
   ·
    rw [if_neg hp] at h; cases h
  ·
   rw [if_neg ht] at h; cases h
 ·
  rw [if_neg hv] at h; cases h
theorem vz (k lim n : Int) : ∀ (l : List Unacked) (c : Nat), S.pickR lim n c (l.map (shU k)) = ((S.pickR lim n c l).1.map (shU k), (S.pickR lim n c l).2.map (shF k))
 | [], c => rfl
 | x :: l, c => by
  rw [List.map_cons]
  unfold S.pickR
  by_cases h1 : (c : Int) = n
  ·
   rw [if_pos h1, if_pos h1]; rfl
  ·
   rw [if_neg h1, if_neg h1]
   by_cases h2 : (x.Flying || (x.Tries == lim)) = true
   ·
    rw [if_pos (show ((shU k x).Flying || ((shU k x).Tries == lim)) = true from h2), if_pos h2, vz k lim n l c]; rfl
   ·
    rw [if_neg (show ¬ ((shU k x).Flying || ((shU k x).Tries == lim)) = true from h2), if_neg h2, vz k lim n l (c + 1)]; rfl
theorem BH (k : Int) {A : Sender} {n : Int} (h : (S.pikR A n).2.2 = 0) : S.pikR (shA k A) n = ((S.pikR A n).1.map (shF k), shA k (S.pikR A n).2.1, 0) := by
 unfold S.pikR at h ⊢
 by_cases hv : S.Valid A
 ·
  rw [if_pos hv] at h
  rw [if_pos (ja k hv), if_pos hv]
  by_cases ht : 0 ≤ n
  ·
   rw [if_pos ht] at h
   rw [if_pos ht, if_pos ht]
   by_cases hp : A.Phase = 2
   ·
    rw [if_pos (show (shA k A).Phase = 2 from hp), if_pos hp]
    have e := vz k A.Limit n A.Out 0
    have e' : S.pickR (shA k A).Limit n 0 (shA k A).Out = _ := e
    unfold S.pickS
    rw [e']; rfl
   ·
    rw [if_neg hp] at h; cases h
  ·
   rw [if_neg ht] at h; cases h
 ·
  rw [if_neg hv] at h; cases h
theorem As (k : Int) (l : List Unacked) : (l.map (shU k)).map S.unfly = (l.map S.unfly).map (shU k) := by
 rw [List.map_map, List.map_map]; rfl
theorem DC (k : Int) {A : Sender} (h : (S.lostR A).2 = 0) : S.lostR (shA k A) = (shA k (S.lostR A).1, 0) := by
 unfold S.lostR at h ⊢
 by_cases hv : S.Valid A
 ·
  rw [if_pos hv] at h
  rw [if_pos (ja k hv), if_pos hv]
  by_cases hp : A.Phase = 2
  ·
   rw [if_pos (show (shA k A).Phase = 2 from hp), if_pos hp]
   have e : (shA k A).Out.map S.unfly = (A.Out.map S.unfly).map (shU k) := As k _
   unfold S.lostS
   rw [e]; rfl
  ·
   rw [if_neg hp] at h; cases h
 ·
  rw [if_neg hv] at h; cases h
theorem FP (k : Int) {A : Sender} (h : (S.barR A).2 = 0) : S.barR (shA k A) = (shA k (S.barR A).1, 0) := by
 unfold S.barR at h ⊢
 by_cases hv : S.Valid A
 ·
  rw [if_pos hv] at h
  rw [if_pos (ja k hv), if_pos hv]
  by_cases hp : A.Phase = 2
  ·
   rw [if_pos hp] at h
   rw [if_pos (show (shA k A).Phase = 2 from hp), if_pos hp]
   by_cases hb : A.Bar = true
   ·
    rw [if_pos (show (shA k A).Bar = true from hb), if_pos hb]; rfl
   ·
    rw [if_neg hb] at h; cases h
  ·
   rw [if_neg hp] at h; cases h
 ·
  rw [if_neg hv] at h; cases h
def shW (k : Int) (w : Window) : Window := { w with Start := sh k w.Start }
theorem Fl (k : Int) {w : Window} {n : Int} (hw : S.okW w) (hn : 0 ≤ n ∧ n < 4096) : S.hasB (shW k w) (sh k n) = S.hasB w n := by
 unfold S.hasB
 have e : aE (shW k w).Start (sh k n) = aE w.Start n := ep k _ _
 have e2 : (S.okW (shW k w) ∧ 0 ≤ sh k n ∧ sh k n < 4096 ∧ aE (shW k w).Start (sh k n) < 64) ↔ (S.okW w ∧ 0 ≤ n ∧ n < 4096 ∧ aE w.Start n < 64) := by
  rw [e]
  exact ⟨fun q => ⟨hw, hn.1, hn.2, q.2.2.2⟩, fun q => ⟨oU k _, (oU k n).1, (oU k n).2, q.2.2.2⟩⟩
 rw [decide_eq_decide.2 e2, e]; rfl
theorem Gp (k : Int) {A : Sender} {w : Window} (h : (S.ackR A w).2.2 = 0) : S.ackR (shA k A) (shW k w) = ((S.ackR A w).1.map (sh k), shA k (S.ackR A w).2.1, 0) := by
 unfold S.ackR at h ⊢
 by_cases hv : S.Valid A
 ·
  rw [if_pos hv] at h
  rw [if_pos (ja k hv), if_pos hv]
  by_cases ht : S.okW w
  ·
   rw [if_pos ht] at h
   rw [if_pos (show S.okW (shW k w) from oU k _), if_pos ht]
   by_cases hp : A.Phase = 2
   ·
    rw [if_pos (show (shA k A).Phase = 2 from hp), if_pos hp]
    have hg := hv.P.good
    have hpa : ∀ x ∈ A.Out, S.pA (shW k w) (shU k x) = S.pA w x := fun x hx => by
     unfold S.pA
     have := hg x hx
     have e : S.hasB (shW k w) (shU k x).Frame.Head.Seq = S.hasB w x.Frame.Head.Seq := Fl k ht ⟨this.1, by have := this.2.1; omega⟩
     rw [e]; rfl
    have e1 : (shA k A).Out.filter (S.pA (shW k w)) = (A.Out.filter (S.pA w)).map (shU k) := jU hpa
    have e2 : (shA k A).Out.filter (fun x => !S.pA (shW k w) x) = (A.Out.filter (fun x => !S.pA w x)).map (shU k) := jU (fun x hx => by rw [hpa x hx])
    unfold S.ackS
    rw [e1, e2, y7, As]; rfl
   ·
    rw [if_neg hp] at h; cases h
  ·
   rw [if_neg ht] at h; cases h
 ·
  rw [if_neg hv] at h; cases h
end Go.AX.Z.TN

/-! (TNXf) -/

set_option linter.unusedVariables false
set_option linter.unusedSimpArgs false
set_option maxRecDepth 20000
namespace Go.AX.Z.TN
open Go.AX

def shH (k : Int) (h : HeldSeq) : HeldSeq := { h with Frame := shF k h.Frame }
def shB (k : Int) (b : Reorder) : Reorder := { b with Start := sh k b.Start, Held := b.Held.map (shH k), Seen := shW k b.Seen }
def InB (b : Reorder) : Prop := R.okN b.Start ∧ R.okN b.Seen.Start ∧ ∀ h ∈ b.Held, R.okN h.n
theorem InB.z : InB Reorder.z := ⟨⟨Int.le_refl _, by decide⟩, ⟨Int.le_refl _, by decide⟩, by simp [Reorder.z]⟩
theorem Jq (k : Int) (h : HeldSeq) : (shH k h).n = sh k h.n := rfl
theorem BK (k : Int) {st sz : Int} : ∀ {l : List HeldSeq} {last : Int}, R.OkL st sz last l → R.OkL (sh k st) sz last (l.map (shH k))
 | [], _, _ => trivial
 | x :: l, last, h => by
  obtain ⟨⟨a, b, c, d⟩, h2⟩ := h
  have ih := BK k h2
  have e1 : aE (sh k st) (shH k x).n = aE st x.n := ep k _ _
  refine ⟨⟨oU k _, b, by rw [e1]; exact c, by rw [e1]; exact d⟩, ?_⟩
  rw [e1]; exact ih
theorem Ab (k : Int) {st sz : Int} : ∀ {l : List HeldSeq} {last : Int}, (∀ h ∈ l, R.okN h.n) → R.OkL (sh k st) sz last (l.map (shH k)) → R.OkL st sz last l
 | [], _, _, _ => trivial
 | x :: l, last, hl, h => by
  obtain ⟨⟨a, b, c, d⟩, h2⟩ := h
  have e1 : aE (sh k st) (shH k x).n = aE st x.n := ep k _ _
  rw [e1] at c d h2
  exact ⟨⟨hl x (by simp), b, c, d⟩, Ab k (fun y hy => hl y (by simp [hy])) h2⟩
theorem BI (k : Int) {b : Reorder} (h : R.VR b) : R.VR (shB k b) := by
 obtain ⟨⟨a, b', c, d, e, f⟩, g⟩ := h
 exact ⟨⟨oU k _, b', c, d, e, oU k _⟩, BK k g⟩
theorem Hk (k : Int) {b : Reorder} (hi : InB b) (h : R.VR (shB k b)) : R.VR b := by
 obtain ⟨⟨a, b', c, d, e, f⟩, g⟩ := h
 exact ⟨⟨hi.1, b', c, d, e, hi.2.1⟩, Ab k hi.2.2 g⟩
theorem BD (k S : Int) : ∀ (l : List HeldSeq) (m : Int), R.relF (sh k S) m (l.map (shH k)) = ((R.relF S m l).1, (R.relF S m l).2.1.map (shF k), (R.relF S m l).2.2.map (shH k))
 | [], m => rfl
 | x :: l, m => by
  rw [List.map_cons]
  unfold R.relF
  have e1 : aE (sh k S) (shH k x).n = aE S x.n := ep k _ _
  rw [e1]
  by_cases h : aE S x.n = m
  ·
   rw [if_pos h, if_pos h, BD k S l (m + 1)]; rfl
  ·
   rw [if_neg h, if_neg h]; rfl
theorem DV (k : Int) (b : Reorder) (t : Int) : R.pre (shB k b) t = (R.pre b t).map (shH k) :=
 jU (f := shH k) fun x _ => by
  have e1 : aE (shB k b).Start (shH k x).n = aE b.Start x.n := ep k _ _
  rw [e1]
theorem BG (k : Int) (b : Reorder) (t : Int) : R.post (shB k b) t = (R.post b t).map (shH k) :=
 jU (f := shH k) fun x _ => by
  have e1 : aE (shB k b).Start (shH k x).n = aE b.Start x.n := ep k _ _
  rw [e1]
theorem CB (k : Int) (l : List HeldSeq) : (l.map (shH k)).map (·.Frame) = (l.map (·.Frame)).map (shF k) := by
 rw [List.map_map, List.map_map]; rfl
theorem Bl (k : Int) (b : Reorder) (t : Int) : R.mvF (shB k b) t = ((R.mvF b t).1.map (shF k), shB k (R.mvF b t).2) := by
 unfold R.mvF
 rw [DV, BG]
 have e := BD k b.Start (R.post b t) t
 have e' : R.relF (shB k b).Start t ((R.post b t).map (shH k)) = _ := e
 rw [e', CB, ← List.map_append]
 have e2 : ((shB k b).Start + (R.relF b.Start t (R.post b t)).1) % 4096 = sh k ((b.Start + (R.relF b.Start t (R.post b t)).1) % 4096) := wi k _ _
 simp only [e2]
 rfl
theorem A9 {b : Reorder} (h : InB b) (t : Int) : InB (R.mvF b t).2 := by
 refine ⟨?_, h.2.1, fun x hx => h.2.2 x ((R.mvF_mem b t).2 x hx)⟩
 show 0 ≤ (_ : Int) % 4096 ∧ (_ : Int) % 4096 < 4096
 omega
theorem Gc (k : Int) {b : Reorder} {n : Int} (h : (R.barF b n).2.2 = 0) : R.barF (shB k b) (sh k n) = ((R.barF b n).1.map (shF k), shB k (R.barF b n).2.1, 0) := by
 obtain ⟨hv, hn, e⟩ := Eh h
 have e1 : aE (shB k b).Start (sh k n) = aE b.Start n := ep k _ _
 rw [e]
 unfold R.barF
 rw [if_pos (BI k hv), if_pos (show R.okN (sh k n) from oU k n), e1, Bl]
 by_cases hd : 2048 ≤ aE b.Start n
 ·
  rw [if_pos hd, if_pos hd]; rfl
 ·
  rw [if_neg hd, if_neg hd]
theorem EZ {b : Reorder} {n : Int} (hi : InB b) : InB (R.barF b n).2.1 := by
 unfold R.barF
 split
 ·
  split
  ·
   split
   ·
    exact hi
   ·
    exact A9 hi _
  ·
   exact .z
 ·
  exact .z
theorem KU (k hold now : Int) (l : List HeldSeq) : R.ld hold now (l.map (shH k)) = (R.ld hold now l).map (shH k) := by
 unfold R.ld
 rw [jU (f := shH k) (q := R.due hold now) (fun x _ => rfl), List.getLast?_map]
theorem F8 (k : Int) {b : Reorder} {n : Int} (h : (R.expF b n).2.2 = 0) : R.expF (shB k b) n = ((R.expF b n).1.map (shF k), shB k (R.expF b n).2.1, 0) := by
 have hn : 0 ≤ n ∧ n ≤ 1099511627776 := by
  apply Classical.byContradiction; intro hn
  unfold R.expF at h
  by_cases hv : R.VR b
  ·
   rw [if_pos hv, if_neg hn] at h; cases h
  ·
   rw [if_neg hv] at h; cases h
 obtain ⟨hv, e⟩ := DM h
 rw [e]
 unfold R.expF
 have e0 : R.ld (shB k b).Hold n (shB k b).Held = (R.ld b.Hold n b.Held).map (shH k) := KU k _ _ _
 rw [if_pos (BI k hv), if_pos hn, e0]
 cases R.ld b.Hold n b.Held with
 | none => rfl
 | some x =>
  have e1 : aE (shB k b).Start (((shH k x).n + 1) % 4096) = aE b.Start ((x.n + 1) % 4096) := by
   rw [Jq, wi]; exact ep k _ _
  simp only [Option.map_some, e1, Bl]
theorem EU {b : Reorder} {n : Int} (hi : InB b) : InB (R.expF b n).2.1 := by
 unfold R.expF
 split
 ·
  split
  ·
   split
   ·
    exact A9 hi _
   ·
    exact hi
  ·
   exact .z
 ·
  exact .z
theorem CP (k : Int) (w : Window) (n : Int) : R.noteF (shW k w) (sh k n) = shW k (R.noteF w n) := by
 unfold R.noteF
 have e1 : aE (shW k w).Start (sh k n) = aE w.Start n := ep k _ _
 rw [e1, wi]
 split
 ·
  rfl
 ·
  split <;> rfl
theorem CW {w : Window} {n : Int} (h : R.okN w.Start) : R.okN (R.noteF w n).Start := by
 unfold R.noteF
 split
 ·
  exact h
 ·
  split
  ·
   show 0 ≤ (_ : Int) % 4096 ∧ (_ : Int) % 4096 < 4096
   omega
  ·
   exact h
theorem Fw (k : Int) (b : Reorder) (x : HeldSeq) : R.putB (shB k b) (shH k x) = shB k (R.putB b x) := by
 unfold R.putB R.insF
 have e1 : aE (shB k b).Start (shH k x).n = aE b.Start x.n := ep k _ _
 have e2 : R.noteF (shB k b).Seen (shH k x).n = shW k (R.noteF b.Seen x.n) := CP k _ _
 rw [e1, e2, DV, BG]
 simp only [shB, List.map_append, List.map_cons, List.map_nil]
theorem IA (k : Int) (b : Reorder) (n : Int) : R.toF (shB k b) (sh k n) = sh k (R.toF b n) := by
 unfold R.toF
 have e1 : aE (shB k b).Start (sh k n) = aE b.Start n := ep k _ _
 rw [e1, wi]
 by_cases h : b.Size ≤ aE b.Start n
 ·
  rw [if_pos (show (shB k b).Size ≤ _ from h), if_pos h]; rfl
 ·
  rw [if_neg (show ¬ (shB k b).Size ≤ _ from h), if_neg h]; rfl
theorem Je (k : Int) (b : Reorder) (n : Int) : (∃ x ∈ (shB k b).Held, aE (shB k b).Start x.n = aE (shB k b).Start (sh k n)) ↔ ∃ x ∈ b.Held, aE b.Start x.n = aE b.Start n := by
 have e1 : ∀ m, aE (shB k b).Start (sh k m) = aE b.Start m := fun m => ep k _ _
 constructor
 ·
  rintro ⟨y, hy, e⟩
  obtain ⟨x, hx, rfl⟩ := List.mem_map.1 hy
  rw [Jq, e1, e1] at e
  exact ⟨x, hx, e⟩
 ·
  rintro ⟨x, hx, e⟩
  exact ⟨shH k x, List.mem_map.2 ⟨x, hx, rfl⟩, by rw [Jq, e1, e1]; exact e⟩
theorem EL (k : Int) {b : Reorder} {f : Frame} {now : Int} (hi : InB b) (hf : R.okN (fq f)) :
  (R.putF (shB k b) (shF k f) now).2.2 = (R.putF b f now).2.2 ∧ ((R.putF b f now).2.2 = 0 → R.putF (shB k b) (shF k f) now = ((R.putF b f now).1.map (shF k), shB k (R.putF b f now).2.1, 0)) := by
 have hf' : R.okN f.Head.Seq := hf
 have hs : R.okN (shF k f).Head.Seq := oU k _
 have e1 : aE (shB k b).Start (shF k f).Head.Seq = aE b.Start f.Head.Seq := ep k _ _
 have e2 := Je k b f.Head.Seq
 have e3 : R.toF (shB k b) (shF k f).Head.Seq = sh k (R.toF b f.Head.Seq) := IA k b _
 have e4 : aE (shB k b).Start (sh k (R.toF b f.Head.Seq)) = aE b.Start (R.toF b f.Head.Seq) := ep k _ _
 have e5 : R.putB (shB k b) ⟨now, shF k f⟩ = shB k (R.putB b ⟨now, f⟩) := Fw k b ⟨now, f⟩
 unfold R.putF
 by_cases hv : R.VR b
 ·
  rw [if_pos hv, if_pos (BI k hv)]
  by_cases hn : 0 ≤ now ∧ now ≤ 1099511627776
  ·
   rw [if_pos (And.intro hn hf'), if_pos (And.intro hn hs)]
   have e6 : (2048 ≤ aE (shB k b).Start (shF k f).Head.Seq ∨ ∃ x ∈ (shB k b).Held, aE (shB k b).Start x.n = aE (shB k b).Start (shF k f).Head.Seq) ↔ (2048 ≤ aE b.Start f.Head.Seq ∨ ∃ x ∈ b.Held, aE b.Start x.n = aE b.Start f.Head.Seq) := by
    exact or_congr (by rw [e1]) e2
   by_cases hd : 2048 ≤ aE b.Start f.Head.Seq ∨ ∃ x ∈ b.Held, aE b.Start x.n = aE b.Start f.Head.Seq
   ·
    rw [if_pos hd, if_pos (e6.2 hd)]
    exact ⟨rfl, fun h => (by cases h)⟩
   ·
    rw [if_neg hd, if_neg (fun q => hd (e6.1 q)), e3, e4, e5, Bl]
    exact ⟨rfl, fun _ => rfl⟩
  ·
   rw [if_neg (fun q => hn q.1), if_neg (fun q => hn q.1)]
   exact ⟨rfl, fun h => (by cases h)⟩
 ·
  rw [if_neg hv, if_neg (fun q => hv (Hk k hi q))]
  exact ⟨rfl, fun h => (by cases h)⟩
theorem Gw {b : Reorder} {f : Frame} {now : Int} (hi : InB b) : InB (R.putF b f now).2.1 := by
 unfold R.putF
 split
 ·
  split
  ·
   rename_i hok
   split
   ·
    exact .z
   ·
    refine A9 (b := R.putB b ⟨now, f⟩) ⟨hi.1, CW hi.2.1, fun x hx => ?_⟩ _
    have : x.n ∈ hn (R.putB b ⟨now, f⟩) := kZ.2 ⟨x, hx, rfl⟩
    rcases (sN b ⟨now, f⟩ x.n).1 this with q | q
    ·
     obtain ⟨y, hy, e⟩ := kZ.1 q
     rw [← e]; exact hi.2.2 y hy
    ·
     rw [q]; exact hok.2
  ·
   exact .z
 ·
  exact .z
end Go.AX.Z.TN

/-! (TNXg) -/

set_option linter.unusedVariables false
set_option linter.unusedSimpArgs false
set_option maxRecDepth 20000
namespace Go.AX.Z.TN
open Go.AX

def shS (k : Int) (s : SS) : SS := { s with plan.Start := sh k s.plan.Start, sides := ⟨shA k s.sides.Sender, shB k s.sides.Reorder⟩ }
theorem yE (k : Int) (s : SS) (l : List Int) : mS (shS k s).plan (l.map (sh k)) = mS s.plan l := by
 unfold mS
 rw [List.map_map]
 exact List.map_congr_left fun x _ => ep k _ _
theorem Bo (k : Int) (s : SS) (l : List Frame) : rel (shS k s).plan (l.map (shF k)) = rel s.plan l := by
 unfold rel
 rw [List.map_map]
 exact List.map_congr_left fun x _ => ep k _ _
theorem IK (k : Int) {s : SS} {t : Int} (he : (exF t s).err = 0) : exF t (shS k s) = shS k (exF t s) := by
 have e0 := (dm (s := s) he).2
 have e := EC k e0
 unfold exF
 rw [show S.expR (shS k s).sides.Sender t = S.expR (shA k s.sides.Sender) t from rfl, e, yE, e0]
 rfl
theorem zU (k : Int) {s : SS} {to : Int} (he : (fu to s).err = 0) : fu (sh k to) (shS k s) = shS k (fu to s) := by
 have e0 := (dm (s := s) he).2
 have e := Gc k e0
 unfold fu
 rw [show R.barF (shS k s).sides.Reorder (sh k to) = R.barF (shB k s.sides.Reorder) (sh k to) from rfl, e, Bo, e0]
 rfl
theorem IP (k : Int) {s : SS} (he : (bdF s).err = 0) : bdF (shS k s) = shS k (bdF s) := by
 have e0 := (dm (s := s) he).2
 have e := FP k e0
 unfold bdF
 rw [show S.barR (shS k s).sides.Sender = S.barR (shA k s.sides.Sender) from rfl, e, e0]
 rfl
theorem DB (k : Int) {s : SS} {d : List Bool} (he : (cP s d).1.err = 0) : cP (shS k s) d = (shS k (cP s d).1, (cP s d).2) := by
 unfold cP at he ⊢
 by_cases hb : s.sides.Sender.Bar = true
 ·
  rw [if_pos hb] at he ⊢
  rw [if_pos (show (shS k s).sides.Sender.Bar = true from hb)]
  by_cases hd : (eK d).1 = true
  ·
   rw [if_pos hd, if_pos hd]
  ·
   rw [if_neg hd] at he
   rw [if_neg hd, if_neg hd]
   obtain ⟨k1, k2⟩ := dm (s := fu (S.startR s.sides.Sender) s) he
   obtain ⟨hv, _⟩ := BV k2
   have hv : S.Valid s.sides.Sender := hv
   have e1 : S.startR (shS k s).sides.Sender = sh k (S.startR s.sides.Sender) := by
    unfold S.startR
    rw [if_pos (show S.Valid (shS k s).sides.Sender from ja k hv), if_pos hv]
    exact kN k _
   rw [e1, zU k k1, IP k he]
 ·
  rw [if_neg hb]
  rw [if_neg (show ¬ (shS k s).sides.Sender.Bar = true from hb)]
theorem BR (k now : Int) : ∀ (n : Nat) (s : SS), (bY now n s).err = 0 → bY now n (shS k s) = shS k (bY now n s)
 | 0, s, _ => rfl
 | n + 1, s, he => by
  unfold bY at he ⊢
  by_cases hc : s.accepted < s.many ∧ s.err = 0
  ·
   rw [if_pos hc] at he ⊢
   rw [if_pos (show (shS k s).accepted < (shS k s).many ∧ (shS k s).err = 0 from hc)]
   by_cases h22 : (S.offR s.sides.Sender now).2.2 = 22
   ·
    rw [if_pos h22, if_pos (show (S.offR (shS k s).sides.Sender now).2.2 = 22 from Ca k h22)]
   ·
    rw [if_neg h22] at he ⊢
    have e0 : (S.offR s.sides.Sender now).2.2 = 0 := by
     apply Classical.byContradiction
     intro hne
     have hs : ({ cD (S.offR s.sides.Sender now).2.2 s with accepted := s.accepted + 1, sides.Sender := (S.offR s.sides.Sender now).2.1 } : SS).err ≠ 0 := by
      simp only [cD, if_pos hc.2]; exact hne
     rw [mN now n hs] at he
     exact hs he
    have e : (S.offR (shS k s).sides.Sender now).2 = (shA k (S.offR s.sides.Sender now).2.1, 0) := ES k e0
    have ih := BR k now n _ he
    rw [e, if_neg (show ¬ ((0 : Int) = 22) by decide), ← ih, e0]
    rfl
  ·
   rw [if_neg hc, if_neg (show ¬ ((shS k s).accepted < (shS k s).many ∧ (shS k s).err = 0) from hc)]
theorem C8 (now : Int) : ∀ (n : Nat) (s : SS), (bY now n s).sides.Reorder = s.sides.Reorder
 | 0, s => rfl
 | n + 1, s => by
  unfold bY
  split
  ·
   split
   ·
    rfl
   ·
    rw [C8 now n]; rfl
  ·
   rfl
theorem r7 (k now : Int) : ∀ (l : List Frame) (s : SS) (d : List Bool), InB s.sides.Reorder → (∀ f ∈ l, R.okN (fq f)) →
  fB now (l.map (shF k)) (shS k s) d = (shS k (fB now l s d).1, (fB now l s d).2) ∧ InB (fB now l s d).1.sides.Reorder
 | [], s, d, h, _ => ⟨rfl, h⟩
 | f :: l, s, d, h, hl => by
  have hl' : ∀ g ∈ l, R.okN (fq g) := fun g hg => hl g (by simp [hg])
  obtain ⟨p1, p2⟩ := EL k (now := now) h (hl f (by simp))
  have p1 : (R.putF (shS k s).sides.Reorder (shF k f) now).2.2 = (R.putF s.sides.Reorder f now).2.2 := p1
  rw [List.map_cons]
  unfold fB
  by_cases hd : (eK d).1 = true
  ·
   rw [if_pos hd, if_pos hd]; exact r7 k now l s _ h hl'
  ·
   rw [if_neg hd, if_neg hd, p1]
   by_cases h0 : (R.putF s.sides.Reorder f now).2.2 = 0
   ·
    rw [if_pos h0, if_pos h0]
    have p2' : R.putF (shS k s).sides.Reorder (shF k f) now = _ := p2 h0
    have ih := r7 k now l { s with sides.Reorder := (R.putF s.sides.Reorder f now).2.1, out.Delivered := s.out.Delivered ++ rel s.plan (R.putF s.sides.Reorder f now).1 } (eK d).2 (Gw h) hl'
    refine ⟨?_, ih.2⟩
    rw [← ih.1, p2', Bo]
    rfl
   ·
    rw [if_neg h0, if_neg h0]; exact r7 k now l s _ h hl'
theorem Fc {A : Sender} {n : Int} (h : (S.pikR A n).2.2 = 0) : ∀ f ∈ (S.pikR A n).1, R.okN (fq f) := by
 obtain ⟨hv, _, e⟩ := DZ h
 rw [e]
 have key : ∀ (l : List Unacked) (c : Nat), (∀ x ∈ l, R.okN (un x)) → ∀ f ∈ (S.pickR A.Limit n c l).2, R.okN (fq f) := by
  intro l
  induction l with
  | nil => intro c _ f hf; simp [S.pickR] at hf
  | cons x l ih =>
   intro c hl f hf
   unfold S.pickR at hf
   by_cases h1 : (c : Int) = n
   ·
    rw [if_pos h1] at hf; simp at hf
   ·
    rw [if_neg h1] at hf
    by_cases h2 : (x.Flying || (x.Tries == A.Limit)) = true
    ·
     rw [if_pos h2] at hf
     exact ih c (fun y hy => hl y (by simp [hy])) f hf
    ·
     rw [if_neg h2] at hf
     rcases List.mem_cons.1 hf with rfl | hf
     ·
      exact hl x (by simp)
     ·
      exact ih (c + 1) (fun y hy => hl y (by simp [hy])) f hf
 refine key A.Out 0 fun x hx => ?_
 have := hv.P.good x hx
 exact ⟨this.1, by have := this.2.1; show un x < 4096; unfold un; omega⟩
theorem vG {now : Int} {s : SS} {d : List Bool} (he : (c6 now s d).1.err = 0) : s.err = 0 ∧ (S.pikR s.sides.Sender s.plan.Burst).2.2 = 0 := by
 have := (iI now (S.pikR s.sides.Sender s.plan.Burst).1 { cD (S.pikR s.sides.Sender s.plan.Burst).2.2 s with sides.Sender := (S.pikR s.sides.Sender s.plan.Burst).2.1 } d).1
 exact dm (s := s) (this.symm.trans he)
theorem Eu (k now : Int) {s : SS} {d : List Bool} (hi : InB s.sides.Reorder) (he : (c6 now s d).1.err = 0) :
  c6 now (shS k s) d = (shS k (c6 now s d).1, (c6 now s d).2) ∧ InB (c6 now s d).1.sides.Reorder := by
 obtain ⟨_, e0⟩ := vG he
 have e := BH k e0
 have e' : S.pikR (shS k s).sides.Sender (shS k s).plan.Burst = _ := e
 have ih := r7 k now (S.pikR s.sides.Sender s.plan.Burst).1 { cD (S.pikR s.sides.Sender s.plan.Burst).2.2 s with sides.Sender := (S.pikR s.sides.Sender s.plan.Burst).2.1 } d hi (Fc e0)
 refine ⟨?_, ih.2⟩
 unfold c6
 rw [← ih.1, e', e0]
 rfl
theorem Ff (k : Int) {s : SS} {d : List Bool} (he : (js s d).1.err = 0) : js (shS k s) d = (shS k (js s d).1, (js s d).2) := by
 unfold js at he ⊢
 by_cases hd : (eK d).1 = true
 ·
  rw [if_pos hd] at he
  rw [if_pos hd, if_pos hd]
  have e0 := (dm (s := s) he).2
  have e := DC k e0
  rw [show S.lostR (shS k s).sides.Sender = S.lostR (shA k s.sides.Sender) from rfl, e, e0]
  rfl
 ·
  rw [if_neg hd] at he
  rw [if_neg hd, if_neg hd]
  obtain ⟨k1, k2⟩ := dm (s := cD (R.repR s.sides.Reorder).2 s) he
  obtain ⟨k3, k4⟩ := dm k1
  obtain ⟨hvb, eb⟩ := DJ k4
  have eb' : R.repR (shS k s).sides.Reorder = (shW k s.sides.Reorder.Seen, 0) := by
   unfold R.repR
   rw [if_pos (show R.VR (shS k s).sides.Reorder from BI k hvb)]; rfl
  rw [eb] at k2
  have e := Gp k k2
  have e' : S.ackR (shS k s).sides.Sender (shW k s.sides.Reorder.Seen) = _ := e
  rw [eb', eb, e', yE, k2]
  rfl
theorem EO {s : SS} {d : List Bool} (he : (js s d).1.err = 0) : s.err = 0 := by
 unfold js at he
 split at he
 ·
  exact (dm (s := s) he).1
 ·
  exact (dm (s := s) (dm (s := cD _ s) he).1).1
theorem Ka (s : SS) (d : List Bool) : (js s d).1.sides.Reorder = s.sides.Reorder := by
 unfold js; split <;> rfl
theorem JI {n : Nat} {q : SS × List Bool} (he : (rpF n q).1.err = 0) : q.1.err = 0 := by
 unfold rpF at he
 split at he
 ·
  exact EO he
 ·
  exact he
theorem Iz (k : Int) {n : Nat} {q : SS × List Bool} (he : (rpF n q).1.err = 0) : rpF n (shS k q.1, q.2) = (shS k (rpF n q).1, (rpF n q).2) := by
 unfold rpF at he ⊢
 by_cases h : 0 < n
 ·
  rw [if_pos h] at he
  rw [if_pos h, if_pos h]; exact Ff k he
 ·
  rw [if_neg h, if_neg h]
theorem LJ (n : Nat) (q : SS × List Bool) : (rpF n q).1.sides.Reorder = q.1.sides.Reorder := by
 unfold rpF; split
 ·
  exact Ka _ _
 ·
  rfl
theorem Jo (k now : Int) {s : SS} (he : (rxF now s).err = 0) : rxF now (shS k s) = shS k (rxF now s) := by
 have e0 := (dm (s := s) he).2
 have e := F8 k e0
 unfold rxF
 rw [show R.expF (shS k s).sides.Reorder now = R.expF (shB k s.sides.Reorder) now from rfl, e, Bo, e0]
 rfl
theorem Ga {now : Int} {n : Nat} {s : SS} (he : (bY now n s).err = 0) : s.err = 0 := by
 apply Classical.byContradiction; intro h
 rw [mN now n h] at he; exact h he
theorem zJ {now : Int} {s : SS} {d : List Bool} (he : (iT now s d).1.err = 0) :
  (rpF (S.pikR (bY now 200 s).sides.Sender (bY now 200 s).plan.Burst).1.length (c6 now (bY now 200 s) d)).1.err = 0 ∧ (c6 now (bY now 200 s) d).1.err = 0 ∧ (bY now 200 s).err = 0 ∧ s.err = 0 := by
 have h1 := (dm (s := (rpF (S.pikR (bY now 200 s).sides.Sender (bY now 200 s).plan.Burst).1.length (c6 now (bY now 200 s) d)).1) he).1
 have h2 := JI h1
 have h3 := (vG h2).1
 exact ⟨h1, h2, h3, Ga h3⟩
theorem CZ (k now : Int) {s : SS} {d : List Bool} (hi : InB s.sides.Reorder) (he : (iT now s d).1.err = 0) :
  iT now (shS k s) d = (shS k (iT now s d).1, (iT now s d).2) ∧ InB (iT now s d).1.sides.Reorder := by
 obtain ⟨h1, h2, h3, h4⟩ := zJ he
 have hiO : InB (bY now 200 s).sides.Reorder := by rw [C8]; exact hi
 obtain ⟨s1, s2⟩ := Eu k now hiO h2
 have e1 := BR k now 200 s h3
 have e2 := (vG h2).2
 have e3 : (S.pikR (shS k (bY now 200 s)).sides.Sender (shS k (bY now 200 s)).plan.Burst).1.length = (S.pikR (bY now 200 s).sides.Sender (bY now 200 s).plan.Burst).1.length := by
  have : S.pikR (shS k (bY now 200 s)).sides.Sender (shS k (bY now 200 s)).plan.Burst = _ := BH k e2
  rw [this, List.length_map]; rfl
 have e4 := Iz k h1
 have e5 : rxF now (shS k (rpF (S.pikR (bY now 200 s).sides.Sender (bY now 200 s).plan.Burst).1.length (c6 now (bY now 200 s) d)).1) = _ := Jo k now he
 refine ⟨?_, ?_⟩
 ·
  unfold iT
  simp only
  rw [e1, s1, e3, e4, e5]
 ·
  show InB (R.expF _ now).2.1
  apply EU
  rw [LJ]; exact s2
theorem DW {s : SS} {d : List Bool} (he : (cP s d).1.err = 0) : s.err = 0 := by
 unfold cP at he
 split at he
 ·
  split at he
  ·
   exact he
  ·
   exact (dm (s := s) (dm (s := fu _ s) he).1).1
 ·
  exact he
theorem GC {s : SS} {d : List Bool} (hi : InB s.sides.Reorder) : InB (cP s d).1.sides.Reorder := by
 unfold cP
 split
 ·
  split
  ·
   exact hi
  ·
   exact EZ hi
 ·
  exact hi
theorem CD {s : SS} {d : List Bool} (he : (dJ s d).1.err = 0) : (cP (exF (cr s) s) d).1.err = 0 ∧ (exF (cr s) s).err = 0 ∧ s.err = 0 := by
 have h1 := (zJ he).2.2.2
 have h2 := DW h1
 exact ⟨h1, h2, (dm (s := s) h2).1⟩
theorem CH (k : Int) {s : SS} {d : List Bool} (hi : InB s.sides.Reorder) (he : (dJ s d).1.err = 0) :
  dJ (shS k s) d = (shS k (dJ s d).1, (dJ s d).2) ∧ InB (dJ s d).1.sides.Reorder := by
 obtain ⟨h1, h2, h3⟩ := CD he
 have e1 := IK k h2
 have e2 := DB k h1
 have hb : InB (cP (exF (cr s) s) d).1.sides.Reorder := GC (s := exF (cr s) s) (show InB s.sides.Reorder from hi)
 obtain ⟨r1, r2⟩ := CZ k (cr s) (s := (cP (exF (cr s) s) d).1) (d := (cP (exF (cr s) s) d).2) hb he
 refine ⟨?_, r2⟩
 unfold dJ
 rw [show cr (shS k s) = cr s from rfl, e1, e2, r1]
theorem Cn (k : Int) {s : SS} (he : (iF s).err = 0) : iF (shS k s) = shS k (iF s) := by
 obtain ⟨k1, k2⟩ := dm (s := clF s) he
 have e0 := (dm (s := s) k1).2
 have e := Cu k e0
 have e' : S.closeR (shS k s).sides.Sender = _ := e
 have e1 : clF (shS k s) = shS k (clF s) := by
  unfold clF
  rw [e', yE, e0]; rfl
 unfold iF
 rw [e', e1]
 exact zU k he
theorem Bw {n : Nat} {s : SS} {d : List Bool} (h : s.err ≠ 0) : i5 n s d = (s, d) := by
 cases n with
 | zero => rfl
 | succ n => unfold i5; rw [if_neg (fun q => h q.1)]
theorem B4 (k : Int) : ∀ (n : Nat) (s : SS) (d : List Bool), InB s.sides.Reorder → (i5 n s d).1.err = 0 → i5 n (shS k s) d = (shS k (i5 n s d).1, (i5 n s d).2)
 | 0, s, d, _, _ => rfl
 | n + 1, s, d, hi, he => by
  unfold i5 at he ⊢
  have ec : ((shS k s).err = 0 ∧ ((shS k s).accepted < (shS k s).many ∨ (shS k s).sides.Sender.Out ≠ [] ∨ (shS k s).sides.Sender.Bar = true)) ↔ (s.err = 0 ∧ (s.accepted < s.many ∨ s.sides.Sender.Out ≠ [] ∨ s.sides.Sender.Bar = true)) :=
   and_congr Iff.rfl (or_congr Iff.rfl (or_congr (AF k _) Iff.rfl))
  by_cases hc : s.err = 0 ∧ (s.accepted < s.many ∨ s.sides.Sender.Out ≠ [] ∨ s.sides.Sender.Bar = true)
  ·
   rw [if_pos hc] at he
   rw [if_pos hc, if_pos (ec.2 hc)]
   by_cases hr : s.out.Rounds = 2000
   ·
    rw [if_pos hr] at he
    rw [if_pos hr, if_pos (show (shS k s).out.Rounds = 2000 from hr), Cn k he]
   ·
    rw [if_neg hr] at he
    rw [if_neg hr, if_neg (show ¬ (shS k s).out.Rounds = 2000 from hr)]
    have her : (dJ s d).1.err = 0 := by
     apply Classical.byContradiction; intro hne
     rw [Bw hne] at he
     exact hne he
    obtain ⟨r1, r2⟩ := CH k hi her
    rw [r1]
    exact B4 k n _ _ r2 he
  ·
   rw [if_neg hc, if_neg (fun q => hc (ec.1 q))]

theorem EH {p : SessionPlan} {many : Int} {d : List Bool} (he : (mi p many d).2 = 0) {T : Int} (hT : 0 ≤ T ∧ T < 4096) : mi { p with Start := T } many d = mi p many d := by
 unfold mi at he ⊢
 by_cases hp : gR p
 ·
  rw [if_pos hp] at he
  rw [if_pos hp, if_pos (show gR { p with Start := T } from ⟨⟨hT.1, by show T ≤ 4095; omega⟩, hp.2⟩)]
  by_cases hm : 0 ≤ many ∧ many ≤ 200
  ·
   rw [if_pos hm] at he
   rw [if_pos hm, if_pos hm]
   by_cases h : (i5 2001 (start p many) d).1.err = 0
   ·
    have hs := hp.1
    have hi : InB (start p many).sides.Reorder := ⟨⟨hs.1, by show p.Start < 4096; omega⟩, ⟨hs.1, by show p.Start < 4096; omega⟩, by simp [start, B0, Reorder.z]⟩
    have e := B4 (T - p.Start) 2001 (start p many) d hi h
    have es : shS (T - p.Start) (start p many) = start { p with Start := T } many := by
     have : sh (T - p.Start) p.Start = T := by unfold sh; omega
     unfold shS start shA shB shW
     simp only [A0, B0, gb, this]
     rfl
    rw [es] at e
    rw [e, if_pos h, if_pos (show (shS (T - p.Start) (i5 2001 (start p many) d).1).err = 0 from h)]
    rfl
   ·
    rw [if_neg h] at he; exact absurd he h
  ·
   rw [if_neg hm] at he; cases he
 ·
  rw [if_neg hp] at he; cases he
end Go.AX.Z.TN

/-! (TNXh) -/

set_option linter.unusedVariables false
set_option linter.unusedSimpArgs false
set_option maxRecDepth 20000
namespace Go.AX.Z.TN
open Go.AX

theorem ET {p : SessionPlan} {many : Int} {d : List Bool} (he : (mi p many d).2 = 0) : Fin many (mi p many d).1 := by
 have e := EH he (T := 0) ⟨Int.le_refl _, by decide⟩
 have := Dj (p := { p with Start := 0 }) rfl (many := many) (d := d) (by rw [e]; exact he)
 rwa [e] at this
theorem DL {p : SessionPlan} {many : Int} {d : List Bool} (he : (mi p many d).2 = 0) : 0 ≤ many ∧ many ≤ 200 := by
 apply Classical.byContradiction; intro hm
 unfold mi at he
 by_cases hp : gR p
 ·
  rw [if_pos hp, if_neg hm] at he; cases he
 ·
  rw [if_neg hp] at he; cases he

theorem y9 : ∀ {l : List Int}, l.Pairwise (· < ·) → ∀ {i : Int}, i ∈ l → l.count i = 1
 | [], _, i, hi => by simp at hi
 | x :: l, h, i, hi => by
  obtain ⟨h1, h2⟩ := List.pairwise_cons.1 h
  by_cases hx : x = i
  ·
   subst hx
   have : x ∉ l := fun q => by have := h1 x q; omega
   rw [List.count_cons_self, List.count_eq_zero_of_not_mem this]
  ·
   rw [List.count_cons_of_ne hx]
   rcases List.mem_cons.1 hi with q | q
   ·
    exact absurd q.symm hx
   ·
    exact y9 h2 q
theorem Gq (a m : Int) : (rng a m).Pairwise (· < ·) := by
 unfold rng
 rw [List.pairwise_map]
 exact List.pairwise_lt_range.imp fun h => by omega
theorem Fin.cnt {many : Int} {o : SessionResult} (h : Fin many o) {i : Int} (hi : 0 ≤ i ∧ i < many) : o.Acked.count i + o.Dropped.count i = 1 := by
 rw [← List.count_append, h.perm.count_eq, y9 (Gq 0 many) (yu.2 hi)]
theorem Fin.len {many : Int} {o : SessionResult} (h : Fin many o) : o.Acked.length + o.Dropped.length = many.toNat := by
 rw [← List.length_append, h.perm.length_eq, BQ]; simp
theorem Fin.del {many : Int} {o : SessionResult} (h : Fin many o) {i : Int} (hi : i ∈ o.Acked) : o.Delivered.count i = 1 := y9 h.inc (h.rcv i hi)

theorem Eg (a : List Int) (x : Int) (hs : a.length ≤ 900000000) : ∀ (l : List Int) (c i n : Nat), a.drop i = l → l.length < n → c ≤ i → cA a x n ((c : Int), (i : Int)) = some (((c + l.count x : Nat) : Int)) := by
 intro l
 induction l with
 | nil =>
  intro c i n h hn hc
  obtain ⟨n, rfl⟩ : ∃ q, n = q + 1 := ⟨n - 1, by simp at hn; omega⟩
  rw [cA]
  simp only [gS (jM h)]; rfl
 | cons y l ih =>
  intro c i n h hn hc
  obtain ⟨n, rfl⟩ : ∃ q, n = q + 1 := ⟨n - 1, by simp at hn; omega⟩
  obtain ⟨h1, h2, h3⟩ := ju h
  simp only [List.length_cons] at hn
  rw [cA]
  simp only [gX h3, cond_true, mq, h1, ay]
  by_cases hy : y = x
  ·
   subst hy
   rw [beq_self_eq_true, cond_true, fo (by omega), fo (by omega), ih (c + 1) (i + 1) n h2 (by omega) (by omega), List.count_cons_self]
   congr 2; omega
  ·
   rw [show (y == x) = false by simpa using hy, cond_false, fo (by omega), ih c (i + 1) n h2 (by omega) (by omega), List.count_cons_of_ne hy]
theorem Bu (a : List Int) (x : Int) (hs : a.length ≤ 900000000) : dz a x = some ((a.count x : Nat) : Int) := by
 unfold dz
 have := Eg a x hs a 0 0 big rfl (eQ (by omega)) (Nat.le_refl _)
 simp only [Int.natCast_zero, Nat.zero_add] at this
 rw [this, ay]

theorem B7 (x : SessionResult × Int) (many : Int) (hm : Mod x.1) (hf : Fin many x.1) (h200 : many ≤ 200) : ∀ (k i n : Nat), many - i ≤ k → k < n → bM many x n (i : Int) = some (Ex.go ()) := by
 intro k
 induction k with
 | zero =>
  intro i n h hn
  obtain ⟨n, rfl⟩ : ∃ q, n = q + 1 := ⟨n - 1, by omega⟩
  rw [bM, decide_eq_false (by omega)]; rfl
 | succ k ih =>
  intro i n h hn
  obtain ⟨n, rfl⟩ : ∃ q, n = q + 1 := ⟨n - 1, by omega⟩
  rw [bM]
  by_cases hi : (i : Int) < many
  ·
   have hc := hf.cnt (i := (i : Int)) ⟨by omega, hi⟩
   rw [decide_eq_true hi, cond_true, Bu _ _ hm.2.1, ay, Bu _ _ hm.2.2, ay, Bu _ _ hm.1, ay, ay,
    show ((x.1.Acked.count (i : Int) : Nat) : Int) + ((x.1.Dropped.count (i : Int) : Nat) : Int) = 1 by omega, show (IntKind.wrap .i64 1 != 1) = false from rfl, cond_false]
   have e : ((bif (((x.1.Acked.count (i : Int) : Nat) : Int) == 1) then some (((x.1.Delivered.count (i : Int) : Nat) : Int) != 1) else some false) : Option Bool) = some false := by
    by_cases hk : (i : Int) ∈ x.1.Acked
    ·
     rw [hf.del hk]
     cases (((x.1.Acked.count (i : Int) : Nat) : Int) == 1) <;> rfl
    ·
     rw [List.count_eq_zero_of_not_mem hk]; rfl
   rw [e, ay, ay, cond_false, fo (by omega)]
   exact ih (i + 1) n (by omega) (by omega)
  ·
   rw [decide_eq_false hi]; rfl
theorem FE (p : SessionPlan) (many : Int) (d : List Bool) : d9 p many d = some true := by
 unfold d9
 rw [Gi, ay]
 by_cases h : 5000 < d.length
 ·
  rw [decide_eq_true (by omega : (5000 : Int) < (d.length : Int))]; rfl
 ·
  rw [decide_eq_false (by omega : ¬ (5000 : Int) < (d.length : Int)), Bool.not_true, Bool.or_self, cond_false, J7, ay]
  have hm := FW p many d
  by_cases he : (mi p many d).2 = 0
  ·
   have hf := ET he
   have hr := DL he
   have l1 := B7 (mi p many d) many hm hf hr.2 200 0 big (by omega) (eQ (by omega))
   simp only [Int.natCast_zero] at l1
   have hl := hf.len
   rw [he, bne_self_eq_false, cond_false, l1, ay, Ex.k_go', show (((mi p many d).1.Acked.length : Int) + ((mi p many d).1.Dropped.length : Int)) = many by omega, kw (by omega) (by omega), beq_self_eq_true, decide_eq_true hf.rounds.2, decide_eq_decide.2 hf.some, beq_self_eq_true]; rfl
  ·
   rw [show ((mi p many d).2 != 0) = true by simpa using he, cond_true]

theorem u6 (n : Int) : ku n = some (decide (0 ≤ n ∧ n < 4096)) := by
 unfold ku
 rw [← Bool.decide_and]
 congr 1
 exact decide_eq_decide.2 ⟨fun q => ⟨q.1, by omega⟩, fun q => ⟨q.1, by omega⟩⟩
end Go.AX.Z.TN

/-! (TNY) -/

set_option linter.unusedVariables false
namespace Go.AX.Z.TN
open Go.AX Go.Proofs

/-! ## Arguments, read -/

theorem ud3 : K.P.underlying 3 = some (.int .i64) := by kernel_rfl

def wF (B : Nat) (x : SessionPlan) : Prop := ((Lit.int .i64 x.Start).wf = true) ∧ ((Lit.int .i64 x.Size).wf = true) ∧ ((Lit.int .i64 x.Limit).wf = true) ∧ ((Lit.int .i64 x.Life).wf = true) ∧ ((Lit.int .i64 x.Hold).wf = true) ∧ ((Lit.int .i64 x.Burst).wf = true) ∧ ((Lit.int .i64 x.Round).wf = true)

theorem Lz {B n : Nat} {l : List AV} (h : Ty K.P B n 23 l) : ∃ x : SessionPlan, l = am x ∧ wF B x := by
 obtain ⟨m, h⟩ := Ct Try.underlying23 h
 have h' : Ae (Ty K.P B m) [3, 3, 3, 3, 3, 3, 3] l := h
 obtain ⟨_, _, rfl, h0, _, _, rfl, h1, _, _, rfl, h2, _, _, rfl, h3, _, _, rfl, h4, _, _, rfl, h5, _, _, rfl, h6, rfl⟩ := h'
 obtain ⟨v0, rfl, w0⟩ := qu ud3 h0
 obtain ⟨v1, rfl, w1⟩ := qu ud3 h1
 obtain ⟨v2, rfl, w2⟩ := qu ud3 h2
 obtain ⟨v3, rfl, w3⟩ := qu ud3 h3
 obtain ⟨v4, rfl, w4⟩ := qu ud3 h4
 obtain ⟨v5, rfl, w5⟩ := qu ud3 h5
 obtain ⟨v6, rfl, w6⟩ := qu ud3 h6
 exact ⟨⟨v0, v1, v2, v3, v4, v5, v6⟩, rfl, ⟨w0, w1, w2, w3, w4, w5, w6⟩⟩

theorem ud4 : K.P.underlying 4 = some (.bool) := by kernel_rfl

theorem KS : K.P.underlying 31 = some (.slice 4) := by kernel_rfl

theorem Kl {B n : Nat} {x : AV} (h : Ty K.P B n 31 [x]) : ∃ l : (List Bool), x = xq l ∧ l.length ≤ B := by
 obtain ⟨l, rfl, h1⟩ := vn KS ud4 h
 exact ⟨l, rfl, h1⟩

end Go.AX.Z.TN

/-! (TNU) -/

/- How bulks bound what a reading holds. -/
namespace Go.Proofs.Ytpjogfcpmcbafaa.bulks
open Go.AX

theorem IW {H : Type} (d : DataW H) : 1 ≤ Rows.uptoBulk d := by
 cases d with
 | lit l => cases l <;> simp [Rows.uptoBulk]
 | nil => simp [Rows.uptoBulk]
 | ptr d => simp [Rows.uptoBulk]
 | slice elems spare => simp [Rows.uptoBulk]
 | agg parts => simp [Rows.uptoBulk]
 | iface t d => simp [Rows.uptoBulk]
 | map entries => simp [Rows.uptoBulk]
 | held h => simp [Rows.uptoBulk]

theorem part_le {H : Type} {d : DataW H} {l : List (DataW H)} (h : d ∈ l) : Rows.uptoBulk d ≤ Rows.uptoBulkAll l := by
 induction l with
 | nil => cases h
 | cons x r ih =>
  simp only [Rows.uptoBulkAll]
  cases List.mem_cons.1 h with
  | inl e => subst e; omega
  | inr e => have := ih e; omega

theorem Cp {H : Type} (l : List (DataW H)) : l.length ≤ Rows.uptoBulkAll l := by
 induction l with
 | nil => simp [Rows.uptoBulkAll]
 | cons x r ih => have := IW x; simp only [Rows.uptoBulkAll, List.length_cons]; omega

theorem bulk {H : Type} : Bulk (H := H) Rows.uptoBulk where
 ptr d := by simp [Rows.uptoBulk]
 elems es sp d h := by have := part_le h; simp only [Rows.uptoBulk]; omega
 len es sp := by have := Cp es; simp only [Rows.uptoBulk]; omega
 agg ds d h := by have := part_le h; simp only [Rows.uptoBulk]; omega
 str bs := by simp [Rows.uptoBulk]

theorem J9 {H : Type} {l : List (DataW H)} (hk : Rows.uptoSmall H l = true) : Rows.uptoBulkAll l ≤ 1048576 := by
 have := of_decide_eq_true hk
 exact this

end Go.Proofs.Ytpjogfcpmcbafaa.bulks

/-! (TNTSessionEnds) -/

/- SessionEnds: the law returns true whatever its arguments. -/
namespace Go.Proofs.Ytpjogfcpmcbafaa.sessionEnds
open Go.ChangeShapes Go.WideShapes Go.ChangeAt Go.RowKit Go.AX Go.AX.Z Go.AX.Z.TN

theorem own : ownKnob Try.prog.godebug = none := by kernel_rfl
theorem laid : laidOutB K.P = true := by kernel_rfl
theorem par : J8 K.P Try.f5.params.toList = true := by kernel_rfl

theorem law (B : Nat) (xs : List AV) (h : u9 K.P B Try.f5.params.toList xs) : SndP K 5 xs (.v (.bool true)) := by
 have h' : u9 K.P B [23, 3, 31] xs := h
 obtain ⟨_, _, rfl, h0, _, _, rfl, h1, _, _, rfl, h2, rfl⟩ := h'
 obtain ⟨_, _, rfl, qp0⟩ := Hf Try.underlying23 h0
 obtain ⟨p0, rfl, wp0⟩ := Lz qp0
 obtain ⟨p1, rfl, wp1⟩ := Gu ud3 h1
 obtain ⟨_, qp2⟩ := GD KS h2
 obtain ⟨p2, rfl, wp2⟩ := Kl qp2
 exact lp p0 p1 p2 (FE p0 p1 p2)

set_option maxRecDepth 100000 in
theorem lifted (os : Os) (started : os.Started) (H : Type) (enc : TypeId × Value → H) :
  ReturnsInHanded {} Try.checked os 5 .any (Rows.sessionEndsSpec.pre6 enc Try.prog Try.f5 Rows.sessionEndsRow.domain false) (Rows.sessionEndsSpec.post enc Try.prog Try.f5 false true false false) := by
 refine returnsInHanded_of_change (C := Try.checked) own started (by kernel_rfl) Try.func5
  (ChangeSpec.witness6 (enc := enc) (C := Try.checked) false ⟨#[], #[.agg #[.int .i64 0, .int .i64 0, .int .i64 0, .int .i64 0, .int .i64 0, .int .i64 0, .int .i64 0], .int .i64 0, .slice none 0 0], []⟩ 8 (by kernel_rfl) (by kernel_rfl) (by kernel_rfl) (by kernel_rfl)) ?_
 intro W base args ds gs before hval hW hcnd _
 exact zc (C := K) (f := 5) ⟨Try.f5, Try.func5, rfl, by decide +kernel⟩ (fn := Try.f5) (tb := 4) (B := Rows.uptoBulkAll ds) (bk := Rows.uptoBulk) rfl laid par rfl Try.underlying4 (law _) rfl
  (fun ds hds => by match ds, hds with | [d1, d2, d3], _ => rfl) bulks.bulk hval hW (fun d hd => bulks.part_le hd)

theorem over : Rows.SessionEndsSaid :=
 OpenClaim.holds_of_wide 5 Try.f5 rfl rfl rfl rfl rfl rfl rfl ⟨rfl, rfl, rfl, rfl, rfl⟩ rfl rfl rfl rfl rfl (by kernel_rfl) Try.func5 (by kernel_rfl)
  (of_decide_eq_true (by kernel_rfl)) (by unfold Func.isWrapper; first | (rw [if_pos (by decide +kernel)]; kernel_rfl) | (rw [if_neg (by decide +kernel)]; exact ⟨rfl, rfl⟩))
  (fun os started H enc _ => lifted os started H enc)

end Go.Proofs.Ytpjogfcpmcbafaa.sessionEnds
