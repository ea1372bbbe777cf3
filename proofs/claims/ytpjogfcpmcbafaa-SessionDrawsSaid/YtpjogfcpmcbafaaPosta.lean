/- SessionDraws: the law returns true whatever its arguments. -/
import Derived.Test.YtpjogfcpmcbafaaWalkb
import Derived.Test.YtpjogfcpmcbafaaRows
import Derived.WalkKit
import Derived.ProofKit
import Derived.OpenShut
import Derived.JoinedCond
set_option linter.unusedVariables false
set_option linter.unusedSimpArgs false

/-! (TNP) -/

set_option linter.unusedVariables false
set_option linter.unusedSimpArgs false
namespace Go.AX.Z.TN
open Go.AX

theorem dist_e (a b : Int) : window_Dist a b = some (dist a b) := by
  have := dist_bits a b
  unfold window_Dist band
  rw [show IntKind.bits .u64 = 64 from rfl, this]
theorem add_e (a b : Int) : window_Add a b = some ((a + b) % 4096) := by
  have := add_bits a b
  unfold window_Add band
  rw [show IntKind.bits .u64 = 64 from rfl, this]
theorem dist_nn (a b : Int) : 0 ≤ dist a b ∧ dist a b < 4096 := by unfold dist; omega
abbrev HeldSeq.n (h : HeldSeq) : Int := h.Frame.Head.Seq
end Go.AX.Z.TN

/-! (TNQ) -/

set_option linter.unusedVariables false
set_option linter.unusedSimpArgs false
namespace Go.AX.Z.TN.S
open Go.AX

def OkE (st dd lim last at' : Int) (x : Unacked) : Prop :=
  0 ≤ x.Frame.Head.Seq ∧ x.Frame.Head.Seq ≤ 4095 ∧ last < dist st x.Frame.Head.Seq ∧ dist st x.Frame.Head.Seq < dd ∧ at' ≤ x.At ∧ x.At ≤ 1099511627776 ∧ 0 ≤ x.Tries ∧ x.Tries ≤ lim ∧ (x.Flying = true → x.Tries ≠ 0)
instance (st dd lim last at' : Int) (x : Unacked) : Decidable (OkE st dd lim last at' x) := by unfold OkE; infer_instance

def OkL (st dd lim : Int) : Int → Int → List Unacked → Prop
  | _, _, [] => True
  | last, at', x :: l => OkE st dd lim last at' x ∧ OkL st dd lim (dist st x.Frame.Head.Seq) x.At l
def decL (st dd lim : Int) : (last at' : Int) → (l : List Unacked) → Decidable (OkL st dd lim last at' l)
  | _, _, [] => .isTrue trivial
  | last, at', x :: l => by
    have := decL st dd lim (dist st x.Frame.Head.Seq) x.At l
    unfold OkL; infer_instance
instance (st dd lim last at' : Int) (l : List Unacked) : Decidable (OkL st dd lim last at' l) := decL st dd lim last at' l

theorem check_loop (s : Sender) (st dd : Int) (hs : s.Out.length < 4611686018427387904) : ∀ (l : List Unacked) (i n : Nat) (last at' : Int), s.Out.drop i = l → l.length < n →
    sender_Check_L4 s st dd n (last, at', (i : Int)) = some (if OkL st dd s.Limit last at' l then Ex.go () else Ex.ret 8)
  | [], i, n + 1, last, at', h, hn => by
    have := drop_n h
    rw [sender_Check_L4, ge_dec this]
    simp [OkL]
  | x :: l, i, n + 1, last, at', h, hn => by
    obtain ⟨h1, h2, h3⟩ := drop_c h
    have ih := check_loop s st dd hs l (i + 1) n (dist st x.Frame.Head.Seq) x.At h2 (by simpa using hn)
    rw [sender_Check_L4, lt_dec h3]
    simp only [cond_true, idxN, h1, bindS, dist_e, sender_within, wrapN (show i < _ by omega), ih, OkL]
    by_cases hx : OkE st dd s.Limit last at' x
    · have hx' := hx
      obtain ⟨a, b, c, d, e, f, g, k, m⟩ := hx
      have e1 : ((!(decide (0 ≤ x.Frame.Head.Seq) && decide (x.Frame.Head.Seq ≤ 4095)) || decide (dist st x.Frame.Head.Seq ≤ last)) || decide (dd ≤ dist st x.Frame.Head.Seq)) = false := by
        simp [a, b]; omega
      have e2 : (!(decide (at' ≤ x.At) && decide (x.At ≤ 1099511627776))) = false := by simp [e, f]
      have e3 : (!(decide (0 ≤ x.Tries) && decide (x.Tries ≤ s.Limit))) = false := by simp [g, k]
      have e4 : (x.Flying && x.Tries == 0) = false := by
        cases hf : x.Flying
        · rfl
        · simpa using m hf
      simp only [e1, e2, e3, e4, cond_false, cond_true, bindS, Bool.or_false, hx', true_and]
    · simp only [hx, false_and, if_false]
      cases e1 : ((!(decide (0 ≤ x.Frame.Head.Seq) && decide (x.Frame.Head.Seq ≤ 4095)) || decide (dist st x.Frame.Head.Seq ≤ last)) || decide (dd ≤ dist st x.Frame.Head.Seq))
      · cases e2 : (!(decide (at' ≤ x.At) && decide (x.At ≤ 1099511627776)))
        · cases e3 : (!(decide (0 ≤ x.Tries) && decide (x.Tries ≤ s.Limit)))
          · cases e4 : (x.Flying && x.Tries == 0)
            · exfalso
              apply hx
              simp at e1 e2 e3 e4
              refine ⟨by omega, by omega, by omega, by omega, by omega, by omega, by omega, by omega, fun hf => ?_⟩
              exact e4 hf
            · simp only [e4, cond_false, cond_true, bindS, Bool.or_true, Bool.or_false]
          · simp only [e3, cond_false, cond_true, bindS, Bool.or_true, Bool.true_or, Bool.or_false]
        · simp only [e2, cond_false, cond_true, bindS, Bool.or_true, Bool.true_or, Bool.or_false]
      · simp only [e1, cond_false, cond_true, bindS, Bool.or_true, Bool.true_or, Bool.or_false]

def startOf (s : Sender) : Int := match s.Out with | [] => s.Next | x :: _ => x.Frame.Head.Seq
theorem start_e (s : Sender) : sender_start s = some (startOf s) := by
  unfold sender_start startOf
  cases h : s.Out with
  | nil => simp
  | cons x l => simp [idx]

def Valid (s : Sender) : Prop :=
  (0 ≤ s.Tid ∧ s.Tid ≤ 7) ∧ s.Phase ≤ 2 ∧ (0 ≤ s.Token ∧ s.Token ≤ 255) ∧ (0 ≤ s.Next ∧ s.Next ≤ 4095) ∧ (1 ≤ s.Limit ∧ s.Limit ≤ 16) ∧ (1 ≤ s.Life ∧ s.Life ≤ 1073741824) ∧
    (if s.Phase = 0 then s.Size = 0 else 1 ≤ s.Size ∧ s.Size ≤ 64) ∧ (s.Phase ≠ 2 → s.Out = [] ∧ s.Bar = false) ∧ dist (startOf s) s.Next ≤ s.Size ∧
    OkL (startOf s) (dist (startOf s) s.Next) s.Limit (-1) 0 s.Out
instance (s : Sender) : Decidable (Valid s) := by unfold Valid; infer_instance

theorem check_e (s : Sender) (hs : s.Out.length < 4611686018427387904) : sender_Check s = some (if Valid s then 0 else 8) := by
  have hL := check_loop s (startOf s) (dist (startOf s) s.Next) hs s.Out 0 big (-1) 0 rfl (big_lt hs)
  simp only [Int.ofNat_zero, Int.natCast_zero] at hL
  unfold sender_Check
  simp only [sender_within, bindS, start_e, dist_e, hL]
  have b1 : ∀ (a b : Bool), (bif a then some b else some false) = some (a && b) := by intro a b; cases a <;> rfl
  have b2 : ∀ (a b c : Bool), (bif a then some b else some c) = some (bif a then b else c) := by intro a b c; cases a <;> rfl
  simp only [b1, b2, bindS]
  by_cases h1 : (((!((((((decide (0 ≤ s.Tid) && decide (s.Tid ≤ 7)) && decide (s.Phase ≤ 2)) && (decide (0 ≤ s.Token) && decide (s.Token ≤ 255))) && (decide (0 ≤ s.Next) && decide (s.Next ≤ 4095))) && (decide (1 ≤ s.Limit) && decide (s.Limit ≤ 16))) && (decide (1 ≤ s.Life) && decide (s.Life ≤ 1073741824)))) || (!(bif s.Phase == 0 then s.Size == 0 else (decide (1 ≤ s.Size) && decide (s.Size ≤ 64))))) || ((s.Phase != 2) && ((decide (0 < (s.Out.length : Int))) || s.Bar))) = true
  · rw [h1]
    have : ¬ Valid s := by
      rintro ⟨a, b, c, d, e, f, g, k, _⟩
      simp only [Bool.or_eq_true, Bool.and_eq_true, Bool.not_eq_true', Bool.and_eq_false_iff, decide_eq_true_eq, decide_eq_false_iff_not] at h1
      rcases h1 with (h1 | h1) | h1
      · omega
      · by_cases hp : s.Phase = 0
        · rw [if_pos hp] at g; simp [hp, g] at h1
        · rw [if_neg hp] at g
          have : (s.Phase == 0) = false := by simpa using hp
          rw [this] at h1
          simp at h1; omega
      · obtain ⟨h2, h3⟩ := h1
        have := k (by simpa using h2)
        simp [this.1, this.2] at h3
    rw [if_neg this]; rfl
  · rw [Bool.not_eq_true] at h1
    rw [h1, cond_false]
    simp only [Bool.or_eq_false_iff, Bool.and_eq_false_iff, Bool.not_eq_false', Bool.and_eq_true, decide_eq_true_eq, decide_eq_false_iff_not] at h1
    obtain ⟨⟨⟨⟨⟨⟨⟨a, b⟩, c⟩, d⟩, e⟩, f⟩, g⟩, k⟩ := h1
    have a := a
    have g' : (if s.Phase = 0 then s.Size = 0 else 1 ≤ s.Size ∧ s.Size ≤ 64) := by
      by_cases hp : s.Phase = 0
      · rw [if_pos hp]; simpa [hp] using g
      · rw [if_neg hp]
        have : (s.Phase == 0) = false := by simpa using hp
        rw [this] at g
        simpa using g
    have k' : s.Phase ≠ 2 → s.Out = [] ∧ s.Bar = false := by
      intro hp
      rcases k with k | k
      · exact absurd (by simpa using k) hp
      · refine ⟨?_, k.2⟩
        have := k.1
        rw [← List.length_eq_zero_iff]; omega
    by_cases h2 : s.Size < dist (startOf s) s.Next
    · rw [decide_eq_true h2, cond_true, if_neg (by rintro ⟨_, _, _, _, _, _, _, _, q, _⟩; omega)]
    · rw [decide_eq_false h2, cond_false]
      by_cases h3 : OkL (startOf s) (dist (startOf s) s.Next) s.Limit (-1) 0 s.Out
      · rw [if_pos h3, if_pos ⟨a, b, c, d, e, f, g', k', by omega, h3⟩]; rfl
      · rw [if_neg h3, if_neg (by rintro ⟨_, _, _, _, _, _, _, _, _, q⟩; exact h3 q)]; rfl

/-! A state of moderate size -/

def Fit (s : Sender) : Prop := s.Out.length ≤ 100000 ∧ ∀ x ∈ s.Out, x.Frame.Body.length ≤ 2400
theorem Fit.len {s : Sender} (h : Fit s) : s.Out.length < 4611686018427387904 := by have := h.1; omega

theorem twinF {f : Frame} (h : f.Body.length ≤ 2400) : header_Twin f = some f := by
  unfold header_Twin
  rw [chk_d (by omega)]; rfl

theorem twin_loop (s : Sender) (hs : s.Out.length ≤ 100000) : ∀ (l acc : List Unacked) (i n : Nat), s.Out.drop i = l → l.length < n → (∀ x ∈ l, x.Frame.Body.length ≤ 2400) → acc.length + l.length ≤ 100000 →
    sender_twin_L2 s n (acc, (i : Int)) = some (acc ++ l)
  | [], acc, i, n + 1, h, hn, hb, ha => by
    rw [sender_twin_L2, ge_dec (drop_n h)]; simp
  | x :: l, acc, i, n + 1, h, hn, hb, ha => by
    obtain ⟨h1, h2, h3⟩ := drop_c h
    simp only [List.length_cons] at ha hn
    rw [sender_twin_L2, lt_dec h3]
    have ih := twin_loop s hs l (acc ++ [x]) (i + 1) n h2 (by omega) (fun y hy => hb y (by simp [hy])) (by simp; omega)
    simp only [cond_true, idxN, h1, bindS, twinF (hb x (by simp))]
    rw [chk_d (by omega)]
    simp only [bindS, wrapN (show i < _ by omega)]
    rw [show ({ x with Frame := { x.Frame with Body := x.Frame.Body } } : Unacked) = x from rfl, ih]
    simp

theorem twin_e {s : Sender} (h : Fit s) : sender_twin s = some s := by
  unfold sender_twin
  have := twin_loop s h.1 s.Out [] 0 big rfl (big_lt h.len) h.2 (by simpa using h.1)
  simp only [Int.ofNat_zero, Int.natCast_zero] at this
  rw [this]; rfl

theorem open_e {s : Sender} (h : Fit s) (b : Bool) : sender_open s b = some (if Valid s then (if b = true then (if s.Phase = 2 then (s, 0) else (Sender.z, 20)) else (Sender.z, 2)) else (Sender.z, 8)) := by
  unfold sender_open
  rw [check_e s h.len, bindS]
  by_cases hv : Valid s
  · simp only [if_pos hv]
    cases b
    · rfl
    · by_cases hp : s.Phase = 2
      · simp [hp, twin_e h]
      · have e : (s.Phase != 2) = true := by simpa using hp
        simp [hp, e]
  · simp only [if_neg hv]; rfl
end Go.AX.Z.TN.S

/-! (TNR) -/

set_option linter.unusedVariables false
set_option linter.unusedSimpArgs false
namespace Go.AX.Z.TN.S
open Go.AX

def newS (a b c d : Int) : Sender := { Sender.z with Life := d, Limit := c, Next := b, Tid := a }
theorem newS_fit (a b c d : Int) : Fit (newS a b c d) := ⟨by simp [newS, Sender.z], by simp [newS, Sender.z]⟩
theorem new_e (a b c d : Int) : sender_New a b c d = some (if Valid (newS a b c d) then (newS a b c d, 0) else (Sender.z, 2)) := by
  unfold sender_New
  rw [show ({ Sender.z with Life := d, Limit := c, Next := b, Tid := a } : Sender) = newS a b c d from rfl, check_e _ (newS_fit a b c d).len, bindS]
  by_cases hv : Valid (newS a b c d)
  · simp only [if_pos hv]; rfl
  · simp only [if_neg hv]; rfl

def tok (s : Sender) : Int := IntKind.wrap .i64 (s.Token.tmod 255 + 1)
def askB (s : Sender) (n : Int) : BlockAsk := { BlockAsk.z with Size := n, Start := s.Next, Tid := s.Tid, Token := tok s }
def askS (s : Sender) (n : Int) : Sender := { s with Phase := 1, Size := n, Token := tok s }
theorem ask_e {s : Sender} (h : Fit s) (n : Int) : sender_Ask s n = some (if Valid s then (if 1 ≤ n ∧ n ≤ 64 then (if s.Phase = 2 then (BlockAsk.z, Sender.z, 20) else (askB s n, askS s n, 0)) else (BlockAsk.z, Sender.z, 2)) else (BlockAsk.z, Sender.z, 8)) := by
  unfold sender_Ask
  rw [check_e s h.len, bindS]
  by_cases hv : Valid s
  · simp only [if_pos hv, sender_within, bindS]
    by_cases hn : 1 ≤ n ∧ n ≤ 64
    · have e : (!(decide (1 ≤ n) && decide (n ≤ 64))) = false := by simp [hn]
      simp only [if_pos hn, e]
      by_cases hp : s.Phase = 2
      · simp [hp]
      · have hf : Fit (askS s n) := ⟨h.1, h.2⟩
        have e2 : (s.Phase == 2) = false := by simpa using hp
        simp only [if_neg hp, e2, cond_false]
        rw [show ({ s with Phase := 1, Size := n, Token := IntKind.wrap .i64 (s.Token.tmod 255 + 1) } : Sender) = askS s n from rfl, twin_e hf, bindS]
        rfl
    · have e : (!(decide (1 ≤ n) && decide (n ≤ 64))) = true := by
        simp only [Bool.not_eq_true', Bool.and_eq_false_iff, decide_eq_false_iff_not]; omega
      simp only [if_neg hn, e]; rfl
  · simp only [if_neg hv]; rfl

def ansS (s : Sender) (a : BlockAnswer) : Sender := if a.Status = 0 then { s with Phase := 2, Size := a.Size } else { s with Phase := 0, Size := 0 }
theorem ansS_fit {s : Sender} (h : Fit s) (a : BlockAnswer) : Fit (ansS s a) := by
  unfold ansS; split <;> exact ⟨h.1, h.2⟩
theorem answer_e {s : Sender} (h : Fit s) (a : BlockAnswer) : sender_Answer s a = some (if Valid s then (if s.Phase = 1 then (if a.Token = s.Token ∧ a.Tid = s.Tid then (if a.Status = 0 ∧ ¬ (1 ≤ a.Size ∧ a.Size ≤ s.Size) then (Sender.z, 2) else (ansS s a, 0)) else (Sender.z, 21)) else (Sender.z, 20)) else (Sender.z, 8)) := by
  unfold sender_Answer
  rw [check_e s h.len, bindS]
  by_cases hv : Valid s
  · simp only [if_pos hv]
    by_cases hp : s.Phase = 1
    · have e1 : (s.Phase != 1) = false := by simp [hp]
      simp only [if_pos hp, e1, cond_false]
      by_cases ht : a.Token = s.Token ∧ a.Tid = s.Tid
      · have e2 : ((a.Token != s.Token) || (a.Tid != s.Tid)) = false := by simp [ht.1, ht.2]
        simp only [if_pos ht, e2, cond_false]
        by_cases hs : a.Status = 0
        · have e3 : (a.Status != 0) = false := by simp [hs]
          simp only [e3, cond_false, sender_within, bindS]
          by_cases hz : 1 ≤ a.Size ∧ a.Size ≤ s.Size
          · have e4 : (!(decide (1 ≤ a.Size) && decide (a.Size ≤ s.Size))) = false := by simp [hz]
            have e5 : ¬ (a.Status = 0 ∧ ¬ (1 ≤ a.Size ∧ a.Size ≤ s.Size)) := fun h => h.2 hz
            have hf := ansS_fit h a
            have e6 : ansS s a = { s with Phase := 2, Size := a.Size } := by unfold ansS; rw [if_pos hs]
            simp only [e4, cond_false, bindS, Ex.k_go', if_neg e5]
            rw [show ((0 : Int) != 0) = false from rfl, cond_false, bindS, Ex.k_go', ← e6, twin_e hf]; rfl
          · have e4 : (!(decide (1 ≤ a.Size) && decide (a.Size ≤ s.Size))) = true := by
              simp only [Bool.not_eq_true', Bool.and_eq_false_iff, decide_eq_false_iff_not]; omega
            have e5 : (a.Status = 0 ∧ ¬ (1 ≤ a.Size ∧ a.Size ≤ s.Size)) := ⟨hs, hz⟩
            simp only [e4, cond_true, bindS, Ex.k_ret', if_pos e5]; rfl
        · have e3 : (a.Status != 0) = true := by simpa using hs
          have e5 : ¬ (a.Status = 0 ∧ ¬ (1 ≤ a.Size ∧ a.Size ≤ s.Size)) := fun h => hs h.1
          have hf := ansS_fit h a
          have e6 : ansS s a = { s with Phase := 0, Size := 0 } := by unfold ansS; rw [if_neg hs]
          simp only [e3, cond_true, if_neg e5]
          rw [show ((0 : Int) != 0) = false from rfl, cond_false, bindS, Ex.k_go', ← e6, twin_e hf]; rfl
      · have e2 : ((a.Token != s.Token) || (a.Tid != s.Tid)) = true := by
          simp only [Bool.or_eq_true, bne_iff_ne]
          rcases Classical.em (a.Token = s.Token) with h1 | h1
          · exact .inr fun h2 => ht ⟨h1, h2⟩
          · exact .inl h1
        simp only [if_neg ht, e2]; rfl
    · have e1 : (s.Phase != 1) = true := by simpa using hp
      simp only [if_neg hp, e1]; rfl
  · simp only [if_neg hv]; rfl

def seqs (l : List Unacked) : List Int := l.map fun x => x.Frame.Head.Seq

theorem close_loop (s : Sender) (hs : s.Out.length ≤ 100000) : ∀ (l : List Unacked) (acc : List Int) (i n : Nat), s.Out.drop i = l → l.length < n → acc.length + l.length ≤ 100000 →
    sender_Close_L2 s n (acc, (i : Int)) = some (acc ++ seqs l)
  | [], acc, i, n + 1, h, hn, ha => by
    rw [sender_Close_L2, ge_dec (drop_n h)]; simp [seqs]
  | x :: l, acc, i, n + 1, h, hn, ha => by
    obtain ⟨h1, h2, h3⟩ := drop_c h
    simp only [List.length_cons] at ha hn
    rw [sender_Close_L2, lt_dec h3]
    have ih := close_loop s hs l (acc ++ [x.Frame.Head.Seq]) (i + 1) n h2 (by omega) (by simp; omega)
    simp only [cond_true, idxN, h1, bindS]
    rw [chk_d (by omega)]
    simp only [bindS, wrapN (show i < _ by omega), ih]
    simp [seqs]

def closeS (s : Sender) : Sender := { s with Bar := false, Out := [], Phase := 0, Size := 0 }
theorem close_e {s : Sender} (h : Fit s) : sender_Close s = some (if Valid s then (seqs s.Out, closeS s, 0) else ([], Sender.z, 8)) := by
  unfold sender_Close
  rw [check_e s h.len, bindS]
  by_cases hv : Valid s
  · simp only [if_pos hv]
    have := close_loop s h.1 s.Out [] 0 big rfl (big_lt h.len) (by simpa using h.1)
    simp only [Int.ofNat_zero, Int.natCast_zero, List.nil_append] at this
    rw [this]; rfl
  · simp only [if_neg hv]; rfl

def lastAt (s : Sender) : Int := match s.Out.getLast? with | some x => x.At | none => 0
def offF (s : Sender) (f : Frame) : Frame := { f with Head := { f.Head with Retry := false, Seq := s.Next, Tid := s.Tid } }
def offS (s : Sender) (f : Frame) (n : Int) : Sender := { s with Next := (s.Next + 1) % 4096, Out := s.Out ++ [{ Unacked.z with At := n, Frame := offF s f }] }
theorem offer_e {s : Sender} (h : Fit s) (f : Frame) (hf : f.Body.length ≤ 2400) (n : Int) (hl : s.Out.length < 90000) : sender_Offer s f n =
    some (if Valid s then (if 0 ≤ n ∧ n ≤ 1099511627776 then (if s.Phase = 2 then (if s.Out ≠ [] ∧ n < lastAt s then (Frame.z, Sender.z, 20) else if s.Size ≤ dist (startOf s) s.Next then (Frame.z, Sender.z, 22) else (offF s f, offS s f n, 0)) else (Frame.z, Sender.z, 20)) else (Frame.z, Sender.z, 2)) else (Frame.z, Sender.z, 8)) := by
  unfold sender_Offer
  simp only [sender_within, bindS]
  rw [open_e h]
  by_cases hv : Valid s
  · simp only [if_pos hv]
    by_cases hn : 0 ≤ n ∧ n ≤ 1099511627776
    · have e1 : (decide (0 ≤ n) && decide (n ≤ 1099511627776)) = true := by simp [hn]
      simp only [e1, if_true, if_pos hn]
      by_cases hp : s.Phase = 2
      · simp only [if_pos hp, bindS]
        rw [show ((0 : Int) != 0) = false from rfl, cond_false]
        have key : ((bif decide (0 < ((s.Out.length : Nat) : Int)) then ((idx s.Out (IntKind.wrap .i64 (((s.Out.length : Nat) : Int) - 1))).bind fun x16 => some (decide (n < x16.At))) else some false) : Option Bool) = some (decide (s.Out ≠ [] ∧ n < lastAt s)) := by
          cases ho : s.Out with
          | nil => simp
          | cons x l =>
            have hl' : (x :: l).length = l.length + 1 := rfl
            have hlen : s.Out.length = l.length + 1 := by rw [ho]; rfl
            rw [show decide (0 < (((x :: l).length : Nat) : Int)) = true by simp, cond_true, show IntKind.wrap .i64 ((((x :: l).length : Nat) : Int) - 1) = ((l.length : Nat) : Int) by rw [hl', wrapI (by omega) (by omega)]; omega, idxN]
            have : (x :: l)[l.length]? = (x :: l).getLast? := by rw [List.getLast?_eq_getElem?]; rfl
            rw [this]
            have hne : (x :: l).getLast? = some ((x :: l).getLast (by simp)) := List.getLast?_eq_some_getLast (by simp)
            rw [hne, bindS]
            simp [lastAt, ho, hne]
        rw [key, bindS]
        by_cases hw : s.Out ≠ [] ∧ n < lastAt s
        · rw [decide_eq_true hw, if_pos hw]; rfl
        · rw [decide_eq_false hw, if_neg hw, cond_false, start_e, bindS, dist_e, bindS]
          by_cases hz : s.Size ≤ dist (startOf s) s.Next
          · rw [decide_eq_true hz, if_pos hz]; rfl
          · rw [decide_eq_false hz, if_neg hz, cond_false, twinF hf, bindS, chk_d (by omega), bindS, add_e, bindS]
            rw [twinF (f := { f with Head := { f.Head with Retry := false, Seq := s.Next, Tid := s.Tid } }) hf]
            rfl
      · simp only [if_neg hp]; rfl
    · have e1 : (decide (0 ≤ n) && decide (n ≤ 1099511627776)) = false := by
        simp only [Bool.and_eq_false_iff, decide_eq_false_iff_not]; omega
      simp only [e1, if_neg hn]; rfl
  · simp only [if_neg hv]; rfl

def pickR (lim k : Int) : Nat → List Unacked → List Unacked × List Frame
  | _, [] => ([], [])
  | c, x :: l => if (c : Int) = k then (x :: l, []) else
      if (x.Flying || (x.Tries == lim)) = true then (x :: (pickR lim k c l).1, (pickR lim k c l).2)
      else ({ x with Tries := IntKind.wrap .i64 (x.Tries + 1), Flying := true } :: (pickR lim k (c + 1) l).1, { x.Frame with Head := { x.Frame.Head with Retry := decide (0 < x.Tries) } } :: (pickR lim k (c + 1) l).2)

theorem mod_mid {α : Type} (f : α → α) : ∀ (pre : List α) (x : α) (l : List α), (pre ++ x :: l).modify pre.length f = pre ++ f x :: l
  | [], x, l => by simp
  | p :: pre, x, l => by simp [mod_mid f pre x l]

theorem pick_loop (r : Sender × Int) (k : Int) : ∀ (l pre : List Unacked) (fr : List Frame) (n : Nat), pre.length + l.length = r.1.Out.length → r.1.Out.length ≤ 100000 → l.length < n → (∀ x ∈ l, x.Frame.Body.length ≤ 2400) → fr.length + l.length ≤ 100000 →
    sender_Pick_L3 r k n (pre ++ l, fr, (pre.length : Int)) = some (pre ++ (pickR r.1.Limit k fr.length l).1, fr ++ (pickR r.1.Limit k fr.length l).2)
  | [], pre, fr, n + 1, h, hL, hn, hb, ha => by
    rw [sender_Pick_L3, ge_dec (by simp at h; omega)]; simp [pickR]
  | x :: l, pre, fr, n + 1, h, hL, hn, hb, ha => by
    simp only [List.length_cons] at h ha hn
    rw [sender_Pick_L3, lt_dec (by omega)]
    have e : idx (pre ++ x :: l) (pre.length : Int) = some x := by rw [idxN]; simp
    simp only [cond_true, e, bindS, pickR]
    by_cases hk : (fr.length : Int) = k
    · rw [show (((fr.length : Nat) : Int) == k) = true by simpa using hk, if_pos hk]; simp
    · rw [show (((fr.length : Nat) : Int) == k) = false by simpa using hk, if_neg hk, cond_false]
      cases hx : (x.Flying || (x.Tries == r.1.Limit))
      · simp only [cond_false, Bool.false_eq_true, if_false]
        rw [twinF (hb x (by simp)), bindS, chk_d (by omega), bindS, show (pre.length : Int).toNat = pre.length by omega, mod_mid, mod_mid, wrapN (by omega)]
        have ih := pick_loop r k l (pre ++ [{ x with Tries := IntKind.wrap .i64 (x.Tries + 1), Flying := true }]) (fr ++ [{ x.Frame with Head := { x.Frame.Head with Retry := decide (0 < x.Tries) } }]) n (by simp; omega) hL (by omega) (fun y hy => hb y (by simp [hy])) (by simp; omega)
        simp only [List.append_assoc, List.cons_append, List.nil_append, List.length_append, List.length_cons, List.length_nil, Nat.zero_add] at ih
        exact ih
      · simp only [cond_true, if_true]
        rw [wrapN (by omega)]
        have ih := pick_loop r k l (pre ++ [x]) fr n (by simp; omega) hL (by omega) (fun y hy => hb y (by simp [hy])) (by omega)
        simp only [List.append_assoc, List.cons_append, List.nil_append, List.length_append, List.length_cons, List.length_nil, Nat.zero_add] at ih
        exact ih

theorem pick_e {s : Sender} (h : Fit s) (k : Int) : sender_Pick s k = some (if Valid s then (if 0 ≤ k then (if s.Phase = 2 then ((pickR s.Limit k 0 s.Out).2, { s with Out := (pickR s.Limit k 0 s.Out).1 }, 0) else ([], Sender.z, 20)) else ([], Sender.z, 2)) else ([], Sender.z, 8)) := by
  unfold sender_Pick
  rw [open_e h]
  by_cases hv : Valid s
  · simp only [if_pos hv]
    by_cases hk : 0 ≤ k
    · simp only [decide_eq_true hk, if_true, if_pos hk]
      by_cases hp : s.Phase = 2
      · simp only [if_pos hp, bindS]
        have := pick_loop (s, 0) k s.Out [] [] big (by simp) h.1 (big_lt h.len) h.2 (by simpa using h.1)
        simp only [List.nil_append, List.length_nil, Int.ofNat_zero, Int.natCast_zero] at this
        rw [show ((0 : Int) != 0) = false from rfl, cond_false, this]; rfl
      · simp only [if_neg hp]; rfl
    · simp only [decide_eq_false hk, if_neg hk]; rfl
  · simp only [if_neg hv]; rfl

def unfly (x : Unacked) : Unacked := { x with Flying := false }
theorem land_loop (s : Sender) : ∀ (l pre : List Unacked) (n : Nat), pre.length + l.length = s.Out.length → s.Out.length ≤ 100000 → l.length < n →
    sender_land_L2 s n (pre ++ l, (pre.length : Int)) = some (pre ++ l.map unfly)
  | [], pre, n + 1, h, hL, hn => by
    rw [sender_land_L2, ge_dec (by simp at h; omega)]; simp
  | x :: l, pre, n + 1, h, hL, hn => by
    simp only [List.length_cons] at h hn
    rw [sender_land_L2, lt_dec (by omega)]
    have e : idx (pre ++ x :: l) (pre.length : Int) = some x := by rw [idxN]; simp
    simp only [cond_true, e, bindS]
    rw [show (pre.length : Int).toNat = pre.length by omega, mod_mid, wrapN (by omega)]
    have ih := land_loop s l (pre ++ [unfly x]) n (by simp; omega) hL (by omega)
    simp only [List.append_assoc, List.cons_append, List.nil_append, List.length_append, List.length_cons, List.length_nil, Nat.zero_add] at ih
    exact ih
theorem land_e {s : Sender} (h : s.Out.length ≤ 100000) : sender_land s = some (s.Out.map unfly) := by
  unfold sender_land
  have := land_loop s s.Out [] big (by simp) h (big_lt (by omega))
  simp only [List.nil_append, List.length_nil, Int.ofNat_zero, Int.natCast_zero] at this
  rw [this]; rfl

theorem lost_e {s : Sender} (h : Fit s) : sender_Lost s = some (if Valid s then (if s.Phase = 2 then ({ s with Out := s.Out.map unfly }, 0) else (Sender.z, 20)) else (Sender.z, 8)) := by
  unfold sender_Lost
  rw [open_e h]
  by_cases hv : Valid s
  · simp only [if_pos hv, if_true]
    by_cases hp : s.Phase = 2
    · simp only [if_pos hp, bindS]
      rw [show ((0 : Int) != 0) = false from rfl, cond_false, land_e h.1]; rfl
    · simp only [if_neg hp]; rfl
  · simp only [if_neg hv]; rfl

theorem barred_e {s : Sender} (h : Fit s) : sender_Barred s = some (if Valid s then (if s.Phase = 2 then (if s.Bar = true then ({ s with Bar := false }, 0) else (Sender.z, 20)) else (Sender.z, 20)) else (Sender.z, 8)) := by
  unfold sender_Barred
  rw [open_e h]
  by_cases hv : Valid s
  · simp only [if_pos hv, if_true]
    by_cases hp : s.Phase = 2
    · simp only [if_pos hp, bindS]
      cases hb : s.Bar <;> simp [hb]
    · simp only [if_neg hp]; rfl
  · simp only [if_neg hv]; rfl
end Go.AX.Z.TN.S

/-! (TNV) -/

set_option linter.unusedVariables false
set_option linter.unusedSimpArgs false
namespace Go.AX.Z.TN.S
open Go.AX

/-! ## Removing -/

def okW (w : Window) : Prop := 0 ≤ w.Start ∧ w.Start < 4096
instance (w : Window) : Decidable (okW w) := by unfold okW; infer_instance
theorem wcheck_e (w : Window) : window_Check w = some (if okW w then 0 else 8) := by
  unfold window_Check window_number
  by_cases h : okW w
  · have e : (decide (0 ≤ w.Start) && decide (w.Start < 4096)) = true := by simpa using (show 0 ≤ w.Start ∧ w.Start < 4096 from h)
    rw [bindS, e, if_pos h]; rfl
  · have e : (decide (0 ≤ w.Start) && decide (w.Start < 4096)) = false := by
      simp only [Bool.and_eq_false_iff, decide_eq_false_iff_not]; unfold okW at h; omega
    rw [bindS, e, if_neg h]; rfl

def hasB (w : Window) (n : Int) : Bool :=
  decide (okW w ∧ 0 ≤ n ∧ n < 4096 ∧ dist w.Start n < 64) && (band .u64 (w.Bits.fdiv (2 ^ (min (dist w.Start n).toNat 64))) 1 == 1)
theorem whas_e (w : Window) (n : Int) : window_Has w n = some (hasB w n) := by
  unfold window_Has window_check
  rw [wcheck_e, bindS]
  by_cases h : okW w
  · rw [if_pos h]
    unfold window_number
    by_cases hn : 0 ≤ n ∧ n < 4096
    · have e : (decide (0 ≤ n) && decide (n < 4096)) = true := by simpa using hn
      rw [show ((0 : Int) != 0) = false from rfl, cond_false, bindS, e]
      simp only [Bool.not_true, cond_false, bindS]
      rw [show ((0 : Int) != 0) = false from rfl, cond_false, dist_e, bindS]
      unfold hasB
      by_cases hd : dist w.Start n < 64
      · have := (dist_nn w.Start n).1
        rw [decide_eq_true hd, cond_true, chk_d (by omega), bindS, bindS, decide_eq_true ⟨h, hn.1, hn.2, hd⟩, Bool.true_and]
      · rw [decide_eq_false hd, cond_false, bindS, decide_eq_false (fun q => hd q.2.2.2), Bool.false_and]
    · have e : (decide (0 ≤ n) && decide (n < 4096)) = false := by
        simp only [Bool.and_eq_false_iff, decide_eq_false_iff_not]; omega
      rw [show ((0 : Int) != 0) = false from rfl, cond_false, bindS, e]
      unfold hasB
      rw [decide_eq_false (fun q => hn ⟨q.2.1, q.2.2.1⟩)]; rfl
  · rw [if_neg h]
    unfold hasB
    rw [decide_eq_false (fun q => h q.1)]; rfl

def pA (w : Window) (x : Unacked) : Bool := decide (0 < x.Tries) && hasB w x.Frame.Head.Seq
theorem acked1_e (x : Unacked) (w : Window) : sender_Acked_1 x w = some (pA w x) := by
  unfold sender_Acked_1 pA
  cases h : decide (0 < x.Tries)
  · rfl
  · rw [cond_true, whas_e]; rfl
theorem rem_e (x : Unacked) (w : Window) (l : List Int) (h : l.length ≤ 100000) : sender_remove_1_4 x w l = some (pA w x, if pA w x = true then l ++ [x.Frame.Head.Seq] else l) := by
  unfold sender_remove_1_4
  rw [acked1_e, bindS]
  cases pA w x
  · rfl
  · rw [cond_true, chk_d (by omega), bindS]; rfl

/-- Where the first element is that p holds of. -/
def ff (p : Unacked → Bool) : Nat → List Unacked → Option (Nat × Unacked)
  | _, [] => none
  | i, x :: l => if p x = true then some (i, x) else ff p (i + 1) l

theorem ff_none {p : Unacked → Bool} : ∀ {l : List Unacked} {i : Nat}, ff p i l = none → l.filter (fun x => !p x) = l ∧ l.filter p = []
  | [], _, _ => ⟨rfl, rfl⟩
  | x :: l, i, h => by
    unfold ff at h
    by_cases hx : p x = true
    · rw [if_pos hx] at h; cases h
    · rw [if_neg hx] at h
      obtain ⟨h1, h2⟩ := ff_none h
      rw [Bool.not_eq_true] at hx
      simp [hx, h1, h2]
theorem ff_some {p : Unacked → Bool} : ∀ {l : List Unacked} {i j : Nat} {x : Unacked}, ff p i l = some (j, x) → ∃ a b, l = a ++ x :: b ∧ j = i + a.length ∧ p x = true ∧ ∀ y ∈ a, p y = false
  | [], i, j, x, h => by simp [ff] at h
  | y :: l, i, j, x, h => by
    unfold ff at h
    by_cases hx : p y = true
    · rw [if_pos hx] at h; cases h; exact ⟨[], l, rfl, rfl, hx, by simp⟩
    · rw [if_neg hx] at h
      obtain ⟨a, b, rfl, rfl, h3, h4⟩ := ff_some h
      rw [Bool.not_eq_true] at hx
      exact ⟨y :: a, b, rfl, by simp; omega, h3, by intro z hz; rcases List.mem_cons.1 hz with rfl | hz; exact hx; exact h4 z hz⟩

theorem index_loop (L : List Unacked) (w : Window) (hL : L.length ≤ 100000) : ∀ (l : List Unacked) (i n : Nat), L.drop i = l → l.length < n →
    slices_IndexFunc_api_Unacked_api_Unacked_2_L2 L w n ([], (i : Int)) = some (match ff (pA w) i l with | some (j, x) => Ex.ret ((j : Int), [x.Frame.Head.Seq]) | none => Ex.go [])
  | [], i, n + 1, h, hn => by
    rw [slices_IndexFunc_api_Unacked_api_Unacked_2_L2, ge_dec (drop_n h)]; rfl
  | x :: l, i, n + 1, h, hn => by
    obtain ⟨h1, h2, h3⟩ := drop_c h
    rw [slices_IndexFunc_api_Unacked_api_Unacked_2_L2, lt_dec h3]
    have ih := index_loop L w hL l (i + 1) n h2 (by simpa using hn)
    simp only [cond_true, idxN, h1, bindS]
    rw [rem_e x w [] (by simp), bindS]
    unfold ff
    cases hx : pA w x
    · simp only [cond_false, Bool.false_eq_true, if_false, wrapN (show i < _ by omega)]; exact ih
    · simp only [cond_true, if_true, List.nil_append]

theorem del_loop (w : Window) : ∀ (l cur : List Unacked) (nums : List Int) (i j n : Nat), cur.drop j = l → i ≤ j → j ≤ cur.length → cur.length ≤ 50000 → nums.length ≤ j → l.length < n →
    ∃ cur' i', slices_DeleteFunc_api_Unacked_api_Unacked_2_L2 w n (cur, nums, (i : Int), (j : Int)) = some (cur', ((i' : Nat) : Int), nums ++ seqs (l.filter (pA w))) ∧ cur'.length = cur.length ∧ i' ≤ cur.length ∧ cur'.take i' = cur.take i ++ l.filter (fun x => !pA w x)
  | [], cur, nums, i, j, n + 1, h, hij, hj, hc, hm, hn => by
    refine ⟨cur, i, ?_, rfl, by omega, by simp⟩
    rw [slices_DeleteFunc_api_Unacked_api_Unacked_2_L2, ge_dec (drop_n h)]
    simp [seqs]
  | x :: l, cur, nums, i, j, n + 1, h, hij, hj, hc, hm, hn => by
    obtain ⟨h1, h2, h3⟩ := drop_c h
    simp only [List.length_cons] at hn
    have hi : i < cur.length := by omega
    rw [slices_DeleteFunc_api_Unacked_api_Unacked_2_L2, lt_dec h3]
    simp only [cond_true, idxN, h1, bindS]
    rw [rem_e x w nums (by omega), bindS]
    cases hx : pA w x
    · simp only [Bool.not_false, cond_true, Bool.false_eq_true, if_false]
      have hg : cur[i]? = some cur[i] := by simp [hi]
      rw [hg, bindS, wrapN (by omega), wrapN (by omega), show (i : Int).toNat = i by omega]
      have hd : (cur.set i x).drop (j + 1) = l := by rw [drop_set_lt x (by omega)]; exact h2
      obtain ⟨cur', i', e1, e2, e3, e4⟩ := del_loop w l (cur.set i x) nums (i + 1) (j + 1) n hd (by omega) (by simp; omega) (by simpa using hc) (by omega) (by omega)
      refine ⟨cur', i', ?_, by simpa using e2, by simpa using e3, ?_⟩
      · rw [e1]; simp [hx]
      · rw [e4, take_set_succ x hi]; simp [hx]
    · simp only [Bool.not_true, cond_false, if_true]
      rw [wrapN (by omega)]
      obtain ⟨cur', i', e1, e2, e3, e4⟩ := del_loop w l cur (nums ++ [x.Frame.Head.Seq]) i (j + 1) n h2 (by omega) (by omega) hc (by simp; omega) (by omega)
      refine ⟨cur', i', ?_, e2, e3, ?_⟩
      · rw [e1]; simp [hx, seqs]
      · rw [e4]; simp [hx]

theorem filter_pre {p : Unacked → Bool} {a : List Unacked} (h : ∀ y ∈ a, p y = false) : a.filter p = [] ∧ a.filter (fun x => !p x) = a :=
  ⟨List.filter_eq_nil_iff.2 fun y hy => by simp [h y hy], List.filter_eq_self.2 fun y hy => by simp [h y hy]⟩

theorem delete_e (w : Window) (L : List Unacked) (hL : L.length ≤ 50000) : slices_DeleteFunc_api_Unacked_api_Unacked_2 w L = some (L.filter (fun x => !pA w x), seqs (L.filter (pA w))) := by
  unfold slices_DeleteFunc_api_Unacked_api_Unacked_2 slices_IndexFunc_api_Unacked_api_Unacked_2
  have := index_loop L w (by omega) L 0 big rfl (big_lt (by omega))
  simp only [Int.ofNat_zero, Int.natCast_zero] at this
  rw [this, bindS]
  cases hf : ff (pA w) 0 L with
  | none =>
    obtain ⟨h1, h2⟩ := ff_none hf
    rw [h1, h2]
    rfl
  | some q =>
    obtain ⟨j, x⟩ := q
    obtain ⟨a, b, h1, h2, h3, h4⟩ := ff_some hf
    rw [Nat.zero_add] at h2
    subst h2
    obtain ⟨f1, f2⟩ := filter_pre h4
    simp only [Ex.k_ret', bindS]
    have hne : (((a.length : Nat) : Int) == -1) = false := by
      simp
    rw [hne, cond_false]
    have hlen : L.length = a.length + (b.length + 1) := by rw [h1]; simp
    rw [wrapN (by omega)]
    have hd : L.drop (a.length + 1) = b := by rw [h1]; simp
    obtain ⟨cur', i', e1, e2, e3, e4⟩ := del_loop w b L [x.Frame.Head.Seq] a.length (a.length + 1) big hd (by omega) (by omega) hL (by simp) (big_lt (by omega))
    rw [e1, bindS]
    have hc : chk (decide (0 ≤ ((i' : Nat) : Int)) && decide (((i' : Nat) : Int) ≤ (cur'.length : Int))) = some () := chk_t (by simp; omega)
    simp only [hc, bindS, show ((i' : Nat) : Int).toNat = i' by omega]
    rw [e4, h1]
    simp [f1, f2, h3, seqs]

theorem remove_e (s : Sender) (w : Window) (h : s.Out.length ≤ 50000) : sender_remove_2 s w = some (seqs (s.Out.filter (pA w)), s.Out.filter (fun x => !pA w x)) := by
  unfold sender_remove_2
  rw [delete_e w s.Out h]; rfl

def ackS (s : Sender) (w : Window) : Sender := { s with Out := (s.Out.filter (fun x => !pA w x)).map unfly }
theorem acked_e {s : Sender} (h : Fit s) (hl : s.Out.length ≤ 50000) (w : Window) : sender_Acked s w = some (if Valid s then (if okW w then (if s.Phase = 2 then (seqs (s.Out.filter (pA w)), ackS s w, 0) else ([], Sender.z, 20)) else ([], Sender.z, 2)) else ([], Sender.z, 8)) := by
  unfold sender_Acked
  rw [wcheck_e, bindS, open_e h]
  by_cases hv : Valid s
  · simp only [if_pos hv]
    by_cases hw : okW w
    · simp only [if_pos hw]
      by_cases hp : s.Phase = 2
      · rw [show ((0 : Int) == 0) = true from rfl]
        simp only [if_pos hp, if_true, bindS]
        rw [show ((0 : Int) != 0) = false from rfl, cond_false, remove_e s w hl, bindS, land_e (by have := List.length_filter_le (fun x => !pA w x) s.Out; simp only; omega)]
        rfl
      · simp only [if_neg hp]; rfl
    · simp only [if_neg hw]; rfl
  · simp only [if_neg hv]; rfl

/-! Expire -/

def pX (lim life now : Int) (x : Unacked) : Bool := (!x.Flying) && ((x.Tries == lim) || (decide ((IntKind.wrap .i64 (x.At + life)) ≤ now)))
theorem remX_e (x : Unacked) (s : Sender) (t : Int) (l : List Int) (h : l.length ≤ 100000) : sender_remove_1_2 x s t l = some (pX s.Limit s.Life t x, if pX s.Limit s.Life t x = true then l ++ [x.Frame.Head.Seq] else l) := by
  unfold sender_remove_1_2 sender_Expire_1
  rw [bindS]
  show (bif pX s.Limit s.Life t x then _ else _) = _
  cases hx : pX s.Limit s.Life t x
  · simp only [cond_false, Bool.false_eq_true, if_false]; rw [show ((!x.Flying) && ((x.Tries == s.Limit) || (decide ((IntKind.wrap .i64 (x.At + s.Life)) ≤ t)))) = false from hx]
  · rw [cond_true, chk_d (by omega), bindS]; rw [show ((!x.Flying) && ((x.Tries == s.Limit) || (decide ((IntKind.wrap .i64 (x.At + s.Life)) ≤ t)))) = true from hx]; rfl

theorem indexX_loop (s : Sender) (t : Int) (hL : s.Out.length ≤ 100000) : ∀ (l : List Unacked) (i n : Nat), s.Out.drop i = l → l.length < n →
    slices_IndexFunc_api_Unacked_api_Unacked_L2 s t n ([], (i : Int)) = some (match ff (pX s.Limit s.Life t) i l with | some (j, x) => Ex.ret ((j : Int), [x.Frame.Head.Seq]) | none => Ex.go [])
  | [], i, n + 1, h, hn => by
    rw [slices_IndexFunc_api_Unacked_api_Unacked_L2, ge_dec (drop_n h)]; rfl
  | x :: l, i, n + 1, h, hn => by
    obtain ⟨h1, h2, h3⟩ := drop_c h
    rw [slices_IndexFunc_api_Unacked_api_Unacked_L2, lt_dec h3]
    have ih := indexX_loop s t hL l (i + 1) n h2 (by simpa using hn)
    simp only [cond_true, idxN, h1, bindS]
    rw [remX_e x s t [] (by simp), bindS]
    unfold ff
    cases hx : pX s.Limit s.Life t x
    · simp only [cond_false, Bool.false_eq_true, if_false, wrapN (show i < _ by omega)]; exact ih
    · simp only [cond_true, if_true, List.nil_append]

theorem delX_loop (t lim life : Int) : ∀ (l cur : List Unacked) (S : Sender) (nums : List Int) (i j n : Nat), S.Limit = lim → S.Life = life → cur.drop j = l → i ≤ j → j ≤ cur.length → cur.length ≤ 50000 → nums.length ≤ j → l.length < n →
    ∃ cur' i' o, slices_DeleteFunc_api_Unacked_api_Unacked_L2 t n (cur, S, nums, (i : Int), (j : Int)) = some (cur', ((i' : Nat) : Int), { S with Out := o }, nums ++ seqs (l.filter (pX lim life t))) ∧ cur'.length = cur.length ∧ i' ≤ cur.length ∧ cur'.take i' = cur.take i ++ l.filter (fun x => !pX lim life t x)
  | [], cur, S, nums, i, j, n + 1, e1, e2, h, hij, hj, hc, hm, hn => by
    refine ⟨cur, i, S.Out, ?_, rfl, by omega, by simp⟩
    rw [slices_DeleteFunc_api_Unacked_api_Unacked_L2, ge_dec (drop_n h)]
    simp [seqs]
  | x :: l, cur, S, nums, i, j, n + 1, q1, q2, h, hij, hj, hc, hm, hn => by
    obtain ⟨h1, h2, h3⟩ := drop_c h
    simp only [List.length_cons] at hn
    have hi : i < cur.length := by omega
    rw [slices_DeleteFunc_api_Unacked_api_Unacked_L2, lt_dec h3]
    simp only [cond_true, idxN, h1, bindS]
    rw [remX_e x { S with Out := cur } t nums (by omega), bindS]
    subst q1; subst q2
    cases hx : pX S.Limit S.Life t x
    · simp only [Bool.not_false, cond_true, Bool.false_eq_true, if_false]
      have hg : cur[i]? = some cur[i] := by simp [hi]
      rw [hg, bindS, wrapN (by omega), wrapN (by omega), show (i : Int).toNat = i by omega]
      have hd : (cur.set i x).drop (j + 1) = l := by rw [drop_set_lt x (by omega)]; exact h2
      obtain ⟨cur', i', o, e1, e2, e3, e4⟩ := delX_loop t S.Limit S.Life l (cur.set i x) { S with Out := cur } nums (i + 1) (j + 1) n rfl rfl hd (by omega) (by simp; omega) (by simpa using hc) (by omega) (by omega)
      refine ⟨cur', i', o, ?_, by simpa using e2, by simpa using e3, ?_⟩
      · rw [e1]; simp [hx]
      · rw [e4, take_set_succ x hi]; simp [hx]
    · simp only [Bool.not_true, cond_false, if_true]
      rw [wrapN (by omega)]
      obtain ⟨cur', i', o, e1, e2, e3, e4⟩ := delX_loop t S.Limit S.Life l cur { S with Out := cur } (nums ++ [x.Frame.Head.Seq]) i (j + 1) n rfl rfl h2 (by omega) (by omega) hc (by simp; omega) (by omega)
      refine ⟨cur', i', o, ?_, e2, e3, ?_⟩
      · rw [e1]; simp [hx, seqs]
      · rw [e4]; simp [hx]

theorem deleteX_e (s : Sender) (t : Int) (hL : s.Out.length ≤ 50000) : ∃ o, slices_DeleteFunc_api_Unacked_api_Unacked s t = some (s.Out.filter (fun x => !pX s.Limit s.Life t x), { s with Out := o }, seqs (s.Out.filter (pX s.Limit s.Life t))) := by
  unfold slices_DeleteFunc_api_Unacked_api_Unacked slices_IndexFunc_api_Unacked_api_Unacked
  have := indexX_loop s t (by omega) s.Out 0 big rfl (big_lt (by omega))
  simp only [Int.ofNat_zero, Int.natCast_zero] at this
  rw [this, bindS]
  cases hf : ff (pX s.Limit s.Life t) 0 s.Out with
  | none =>
    obtain ⟨h1, h2⟩ := ff_none hf
    refine ⟨s.Out, ?_⟩
    rw [h1, h2]
    rfl
  | some q =>
    obtain ⟨j, x⟩ := q
    obtain ⟨a, b, h1, h2, h3, h4⟩ := ff_some hf
    rw [Nat.zero_add] at h2
    subst h2
    obtain ⟨f1, f2⟩ := filter_pre h4
    simp only [Ex.k_ret', bindS]
    have hne : (((a.length : Nat) : Int) == -1) = false := by
      simp
    rw [hne, cond_false]
    have hlen : s.Out.length = a.length + (b.length + 1) := by rw [h1]; simp
    rw [wrapN (by omega)]
    have hd : s.Out.drop (a.length + 1) = b := by rw [h1]; simp
    obtain ⟨cur', i', o, e1, e2, e3, e4⟩ := delX_loop t s.Limit s.Life b s.Out s [x.Frame.Head.Seq] a.length (a.length + 1) big rfl rfl hd (by omega) (by omega) hL (by simp) (big_lt (by omega))
    refine ⟨o, ?_⟩
    rw [e1, bindS]
    have hc : chk (decide (0 ≤ ((i' : Nat) : Int)) && decide (((i' : Nat) : Int) ≤ (cur'.length : Int))) = some () := chk_t (by simp; omega)
    simp only [hc, bindS, show ((i' : Nat) : Int).toNat = i' by omega]
    have hta : s.Out.take a.length = a := by rw [h1]; simp
    rw [e4, hta]
    have g1 : s.Out.filter (fun x => !pX s.Limit s.Life t x) = a ++ b.filter (fun x => !pX s.Limit s.Life t x) := by
      conv => lhs; rw [h1]
      simp [f2, h3]
    have g2 : seqs (s.Out.filter (pX s.Limit s.Life t)) = [x.Frame.Head.Seq] ++ seqs (b.filter (pX s.Limit s.Life t)) := by
      conv => lhs; rw [h1]
      simp [f1, h3, seqs]
    rw [g1, g2]

def expN (s : Sender) (t : Int) : List Int := seqs (s.Out.filter (pX s.Limit s.Life t))
def expS (s : Sender) (t : Int) : Sender := { s with Bar := (s.Bar || (decide (0 < (((expN s t).length : Nat) : Int)))), Out := s.Out.filter (fun x => !pX s.Limit s.Life t x) }
theorem expire_e {s : Sender} (h : Fit s) (hl : s.Out.length ≤ 50000) (t : Int) : sender_Expire s t = some (if Valid s then (if 0 ≤ t ∧ t ≤ 1099511627776 then (if s.Phase = 2 then (expN s t, expS s t, 0) else ([], Sender.z, 20)) else ([], Sender.z, 2)) else ([], Sender.z, 8)) := by
  unfold sender_Expire
  simp only [sender_within, bindS]
  rw [open_e h]
  by_cases hv : Valid s
  · simp only [if_pos hv]
    by_cases hn : 0 ≤ t ∧ t ≤ 1099511627776
    · have e1 : (decide (0 ≤ t) && decide (t ≤ 1099511627776)) = true := by simp [hn]
      simp only [e1, if_true, if_pos hn]
      by_cases hp : s.Phase = 2
      · simp only [if_pos hp, bindS]
        obtain ⟨o, ho⟩ := deleteX_e s t hl
        unfold sender_remove
        rw [show ((0 : Int) != 0) = false from rfl, cond_false, ho]; rfl
      · simp only [if_neg hp]; rfl
    · have e1 : (decide (0 ≤ t) && decide (t ≤ 1099511627776)) = false := by
        simp only [Bool.and_eq_false_iff, decide_eq_false_iff_not]; omega
      simp only [e1, if_neg hn]; rfl
  · simp only [if_neg hv]; rfl
end Go.AX.Z.TN.S

/-! (TNA) -/

set_option linter.unusedVariables false
set_option linter.unusedSimpArgs false
namespace Go.AX.Z.TN.R
open Go.AX

def OkE (st sz last : Int) (h : HeldSeq) : Prop := (0 ≤ h.n ∧ h.n < 4096) ∧ (0 ≤ h.At ∧ h.At ≤ 1099511627776) ∧ last < dist st h.n ∧ dist st h.n < sz
instance (st sz last : Int) (h : HeldSeq) : Decidable (OkE st sz last h) := by unfold OkE; infer_instance
def OkL (st sz : Int) : Int → List HeldSeq → Prop
  | _, [] => True
  | last, h :: l => OkE st sz last h ∧ OkL st sz (dist st h.n) l
def decL (st sz : Int) : (last : Int) → (l : List HeldSeq) → Decidable (OkL st sz last l)
  | _, [] => .isTrue trivial
  | last, h :: l => by
    have := decL st sz (dist st h.n) l
    unfold OkL; infer_instance
instance (st sz last : Int) (l : List HeldSeq) : Decidable (OkL st sz last l) := decL st sz last l
def HeadOk (b : Reorder) : Prop := (0 ≤ b.Start ∧ b.Start < 4096) ∧ 1 ≤ b.Size ∧ b.Size ≤ 64 ∧ 0 ≤ b.Hold ∧ b.Hold ≤ 16777216 ∧ (0 ≤ b.Seen.Start ∧ b.Seen.Start < 4096)
instance (b : Reorder) : Decidable (HeadOk b) := by unfold HeadOk; infer_instance
def VR (b : Reorder) : Prop := HeadOk b ∧ OkL b.Start b.Size 0 b.Held
instance (b : Reorder) : Decidable (VR b) := by unfold VR; infer_instance

theorem check_loop (b : Reorder) (hs : b.Held.length < 4611686018427387904) : ∀ (l : List HeldSeq) (i n : Nat) (last : Int), b.Held.drop i = l → l.length < n →
    reorder_Check_L2 b n (last, (i : Int)) = some (if OkL b.Start b.Size last l then Ex.go () else Ex.ret 8)
  | [], i, n + 1, last, h, hn => by
    rw [reorder_Check_L2, ge_dec (drop_n h)]
    simp [OkL]
  | x :: l, i, n + 1, last, h, hn => by
    obtain ⟨h1, h2, h3⟩ := drop_c h
    simp only [List.length_cons] at hn
    rw [reorder_Check_L2, lt_dec h3]
    simp only [cond_true, idxN, h1, bindS, dist_e, reorder_number, reorder_moment]
    have key : ((bif !(decide (0 ≤ x.n) && decide (x.n < 4096)) then some true else some (!(decide (0 ≤ x.At) && decide (x.At ≤ 1099511627776)))).bind fun x25 =>
        bif ((x25 || decide (dist b.Start x.n ≤ last)) || decide (b.Size ≤ dist b.Start x.n)) then some (Ex.ret 8) else reorder_Check_L2 b n (dist b.Start x.n, IntKind.wrap .i64 ((i : Int) + 1))) =
        if OkE b.Start b.Size last x then reorder_Check_L2 b n (dist b.Start x.n, IntKind.wrap .i64 ((i : Int) + 1)) else some (Ex.ret 8) := by
      by_cases ho : OkE b.Start b.Size last x
      · rw [if_pos ho]
        obtain ⟨⟨a1, a2⟩, ⟨a3, a4⟩, a5, a6⟩ := ho
        rw [decide_eq_true a1, decide_eq_true a2, decide_eq_true a3, decide_eq_true a4, decide_eq_false (by omega), decide_eq_false (by omega)]; rfl
      · rw [if_neg ho]
        by_cases h1 : 0 ≤ x.n ∧ x.n < 4096
        · rw [show (!(decide (0 ≤ x.n) && decide (x.n < 4096))) = false by simp; omega, cond_false, bindS]
          have : ((!(decide (0 ≤ x.At) && decide (x.At ≤ 1099511627776)) || decide (dist b.Start x.n ≤ last)) || decide (b.Size ≤ dist b.Start x.n)) = true := by
            simp only [Bool.or_eq_true, Bool.not_eq_true', Bool.and_eq_false_iff, decide_eq_true_eq, decide_eq_false_iff_not]
            unfold OkE at ho
            omega
          rw [this, cond_true]
        · rw [show (!(decide (0 ≤ x.n) && decide (x.n < 4096))) = true by simp; omega, cond_true, bindS]; rfl
    refine key.trans ?_
    by_cases ho : OkE b.Start b.Size last x
    · rw [if_pos ho, wrapN (by omega), check_loop b hs l (i + 1) n _ h2 (by omega)]
      congr 1
      simp only [OkL, ho, true_and]
    · rw [if_neg ho, if_neg (fun q => ho q.1)]

theorem check_e (b : Reorder) (hs : b.Held.length < 4611686018427387904) : reorder_Check b = some (if VR b then 0 else 8) := by
  unfold reorder_Check window_Check window_number reorder_number
  rw [bindS, bindS]
  have hl := check_loop b hs b.Held 0 big 0 rfl (big_lt hs)
  simp only [Int.natCast_zero] at hl
  by_cases h : HeadOk b
  · obtain ⟨⟨a1, a2⟩, a3, a4, a5, a6, a7, a8⟩ := h
    rw [decide_eq_true a1, decide_eq_true a2, decide_eq_false (by omega), decide_eq_false (by omega), decide_eq_false (by omega), decide_eq_false (by omega), decide_eq_true a7, decide_eq_true a8]
    simp only [Bool.and_self, Bool.not_true, Bool.or_self, cond_false, bindS]
    rw [show ((0 : Int) != 0) = false from rfl, cond_false, hl, bindS]
    by_cases ho : OkL b.Start b.Size 0 b.Held
    · rw [if_pos ho, if_pos ⟨⟨⟨a1, a2⟩, a3, a4, a5, a6, a7, a8⟩, ho⟩]; rfl
    · rw [if_neg ho, if_neg (fun q => ho q.2)]; rfl
  · rw [if_neg (fun q => h q.1)]
    by_cases h1 : (((((!(decide (0 ≤ b.Start) && decide (b.Start < 4096))) || decide (b.Size < 1)) || decide (64 < b.Size)) || decide (b.Hold < 0)) || decide (16777216 < b.Hold)) = true
    · rw [h1, cond_true, bindS]; rfl
    · rw [Bool.not_eq_true] at h1
      rw [h1, cond_false]
      simp only [Bool.or_eq_false_iff, Bool.not_eq_false', Bool.and_eq_true, decide_eq_true_eq, decide_eq_false_iff_not] at h1
      have : (decide (0 ≤ b.Seen.Start) && decide (b.Seen.Start < 4096)) = false := by
        simp only [Bool.and_eq_false_iff, decide_eq_false_iff_not]
        unfold HeadOk at h
        omega
      rw [this]; rfl

/-! ## Copies, comparisons -/

def Fit (l : List HeldSeq) : Prop := l.length ≤ 1000 ∧ ∀ x ∈ l, x.Frame.Body.length ≤ 2400

theorem twin_loop (L : List HeldSeq) (hs : L.length ≤ 1000) : ∀ (l acc : List HeldSeq) (i n : Nat), L.drop i = l → l.length < n → (∀ x ∈ l, x.Frame.Body.length ≤ 2400) → acc.length + l.length ≤ 1000 →
    reorder_twin_L2 L n (acc, (i : Int)) = some (acc ++ l)
  | [], acc, i, n + 1, h, hn, hb, ha => by
    rw [reorder_twin_L2, ge_dec (drop_n h)]; simp
  | x :: l, acc, i, n + 1, h, hn, hb, ha => by
    obtain ⟨h1, h2, h3⟩ := drop_c h
    simp only [List.length_cons] at ha hn
    have hx := hb x (by simp)
    rw [reorder_twin_L2, lt_dec h3]
    simp only [cond_true, idxN, h1, bindS, header_Twin]
    rw [chk_d (by omega), bindS, bindS, chk_d (by omega), bindS, wrapN (by omega), twin_loop L hs l _ (i + 1) n h2 (by omega) (fun y hy => hb y (by simp [hy])) (by simp; omega)]
    simp
theorem twin_e (l : List HeldSeq) (h : Fit l) : reorder_twin l = some l := by
  unfold reorder_twin
  have := twin_loop l h.1 l [] 0 big rfl (big_lt (by have := h.1; omega)) h.2 (by simpa using h.1)
  simp only [Int.natCast_zero, List.nil_append] at this
  rw [this, bindS]
end Go.AX.Z.TN.R

/-! (TNB) -/

set_option linter.unusedVariables false
set_option linter.unusedSimpArgs false
namespace Go.AX.Z.TN.R
open Go.AX

def Sortd (S : Int) (l : List HeldSeq) : Prop := l.Pairwise (fun x y => dist S x.n < dist S y.n) ∧ ∀ x ∈ l, 0 ≤ x.n ∧ x.n < 4096
theorem okL_s {st sz : Int} : ∀ {l : List HeldSeq} {last : Int}, OkL st sz last l → Sortd st l ∧ ∀ x ∈ l, last < dist st x.n ∧ dist st x.n < sz ∧ 0 ≤ x.At ∧ x.At ≤ 1099511627776
  | [], last, _ => ⟨⟨.nil, by simp⟩, by simp⟩
  | h :: l, last, ho => by
    obtain ⟨⟨a1, a2, a3, a4⟩, h2⟩ := ho
    obtain ⟨⟨i1, i2⟩, i3⟩ := okL_s h2
    refine ⟨⟨List.pairwise_cons.2 ⟨fun y hy => (i3 y hy).1, i1⟩, fun x hx => ?_⟩, fun x hx => ?_⟩
    · rcases List.mem_cons.1 hx with rfl | hx
      · exact a1
      · exact i2 x hx
    · rcases List.mem_cons.1 hx with rfl | hx
      · exact ⟨a3, a4, a2⟩
      · have := i3 x hx; exact ⟨by omega, this.2⟩
theorem Sortd.tail {S : Int} {h : HeldSeq} {l : List HeldSeq} (hs : Sortd S (h :: l)) : Sortd S l := ⟨(List.pairwise_cons.1 hs.1).2, fun x hx => hs.2 x (by simp [hx])⟩
theorem Sortd.drop {S : Int} {l : List HeldSeq} (hs : Sortd S l) (i : Nat) : Sortd S (l.drop i) := ⟨hs.1.sublist (List.drop_sublist _ _), fun x hx => hs.2 x (List.mem_of_mem_drop hx)⟩
theorem Sortd.idx {S : Int} {l : List HeldSeq} (hs : Sortd S l) {i j : Nat} {x y : HeldSeq} (hij : i < j) (hx : l[i]? = some x) (hy : l[j]? = some y) : dist S x.n < dist S y.n := by
  obtain ⟨h1, e1⟩ := List.getElem?_eq_some_iff.1 hx
  obtain ⟨h2, e2⟩ := List.getElem?_eq_some_iff.1 hy
  have := List.pairwise_iff_getElem.1 hs.1 i j h1 h2 hij
  rw [e1, e2] at this; exact this

theorem at_dist {S n m : Int} (hn : 0 ≤ n ∧ n < 4096) (hm : 0 ≤ m ∧ m < 4096) : n = (S + m) % 4096 ↔ dist S n = m := by
  unfold dist; omega

def Cut (S t : Int) (l : List HeldSeq) (i : Nat) : Prop := i ≤ l.length ∧ (∀ k x, k < i → l[k]? = some x → dist S x.n < t) ∧ (∀ k x, i ≤ k → l[k]? = some x → t ≤ dist S x.n)

theorem bs_loop (b : Reorder) (L : List HeldSeq) (hL : L.length ≤ 1000) (t : Int) (ht : 0 ≤ t ∧ t < 4096) (hs : Sortd b.Start L) : ∀ (m i j n : Nat), j - i ≤ m → i ≤ j → j ≤ L.length → m < n → (∀ k x, k < i → L[k]? = some x → dist b.Start x.n < t) → (∀ k x, j ≤ k → L[k]? = some x → t ≤ dist b.Start x.n) →
    ∃ r : Nat, slices_BinarySearchFunc_api_HeldSeq_api_HeldSeq_int_L2 L t b n ((i : Int), (j : Int)) = some (r : Int) ∧ Cut b.Start t L r
  | 0, i, j, n + 1, hm, hij, hj, hn, h1, h2 => by
    have e : i = j := by omega
    subst e
    rw [slices_BinarySearchFunc_api_HeldSeq_api_HeldSeq_int_L2, decide_eq_false (by simp), cond_false]
    exact ⟨i, rfl, hj, h1, h2⟩
  | m + 1, i, j, n + 1, hm, hij, hj, hn, h1, h2 => by
    rw [slices_BinarySearchFunc_api_HeldSeq_api_HeldSeq_int_L2]
    by_cases hlt : i < j
    · have ehe : IntKind.wrap .i64 ((IntKind.wrap .u64 (IntKind.wrap .i64 ((i : Int) + (j : Int)))).fdiv (2 ^ (min 1 64))) = (((i + j) / 2 : Nat) : Int) := by
        rw [wrapI (i := (i : Int) + (j : Int)) (by omega) (by omega)]
        have : IntKind.wrap .u64 ((i : Int) + (j : Int)) = (i : Int) + (j : Int) := by
          rw [wrapU]; omega
        rw [this, show ((2 : Int) ^ (min 1 64)) = 2 from rfl, Int.fdiv_eq_ediv_of_nonneg _ (by decide), wrapI (by omega) (by omega)]; omega
      have hh : (i + j) / 2 < L.length := by omega
      obtain ⟨x, hx⟩ : ∃ x, L[(i + j) / 2]? = some x := ⟨_, List.getElem?_eq_getElem hh⟩
      have hd := dist_nn b.Start x.Frame.Head.Seq
      rw [decide_eq_true (by simp; omega), cond_true]
      simp only [ehe]
      rw [idxN, hx, bindS]
      unfold reorder_place_1
      rw [dist_e, bindS, bindS, wrapI (by omega) (by omega)]
      by_cases hxt : dist b.Start x.n < t
      · rw [decide_eq_true (by show dist b.Start x.Frame.Head.Seq - t < 0; have : dist b.Start x.Frame.Head.Seq < t := hxt; omega), cond_true, wrapN (by omega)]
        refine bs_loop b L hL t ht hs m ((i + j) / 2 + 1) j n (by omega) (by omega) hj (by omega) (fun k y hk hy => ?_) h2
        rcases Nat.lt_or_ge k ((i + j) / 2) with q | q
        · have := hs.idx q hy hx; omega
        · have : k = (i + j) / 2 := by omega
          subst this; rw [hx] at hy; cases hy; exact hxt
      · rw [decide_eq_false (by show ¬ dist b.Start x.Frame.Head.Seq - t < 0; have : ¬ dist b.Start x.Frame.Head.Seq < t := hxt; omega), cond_false]
        refine bs_loop b L hL t ht hs m i ((i + j) / 2) n (by omega) (by omega) (by omega) (by omega) h1 (fun k y hk hy => ?_)
        rcases Nat.lt_or_ge ((i + j) / 2) k with q | q
        · have := hs.idx q hx hy; omega
        · have : k = (i + j) / 2 := by omega
          subst this; rw [hx] at hy; cases hy; omega
    · have e : i = j := by omega
      subst e
      rw [decide_eq_false (by simp), cond_false]
      exact ⟨i, rfl, hj, h1, h2⟩

theorem place_e (b : Reorder) (hL : b.Held.length ≤ 1000) (hs : Sortd b.Start b.Held) (n : Int) : ∃ r : Nat, reorder_place b n = some ((r : Int), decide (∃ x ∈ b.Held, dist b.Start x.n = dist b.Start n)) ∧ Cut b.Start (dist b.Start n) b.Held r := by
  unfold reorder_place slices_BinarySearchFunc_api_HeldSeq_api_HeldSeq_int
  obtain ⟨r, e1, e2⟩ := bs_loop b b.Held hL (dist b.Start n) (dist_nn _ _) hs b.Held.length 0 b.Held.length big (by omega) (by omega) (Nat.le_refl _) (big_lt (by omega)) (fun k x hk => by omega) (fun k x hk hx => by have := (List.getElem?_eq_some_iff.1 hx).1; omega)
  simp only [Int.natCast_zero] at e1
  rw [dist_e, bindS, e1, bindS]
  refine ⟨r, ?_, e2⟩
  obtain ⟨c1, c2, c3⟩ := e2
  by_cases hr : r < b.Held.length
  · obtain ⟨x, hx⟩ : ∃ x, b.Held[r]? = some x := ⟨_, List.getElem?_eq_getElem hr⟩
    have hd := dist_nn b.Start x.Frame.Head.Seq
    have hd2 := dist_nn b.Start n
    rw [lt_dec hr, cond_true, idxN, hx, bindS]
    unfold reorder_place_1
    rw [dist_e, bindS, bindS, wrapI (by omega) (by omega), bindS]
    show some (_, _) = _
    congr 2
    rw [Bool.eq_iff_iff, decide_eq_true_eq, beq_iff_eq]
    constructor
    · intro h
      exact ⟨x, List.mem_of_getElem? hx, by show dist b.Start x.Frame.Head.Seq = _; omega⟩
    · rintro ⟨y, hy, h⟩
      obtain ⟨k, hk⟩ := List.mem_iff_getElem?.1 hy
      have hxr := c3 r x (Nat.le_refl _) hx
      rcases Nat.lt_trichotomy k r with q | q | q
      · have := c2 k y q hk; omega
      · subst q; rw [hx] at hk; cases hk
        show dist b.Start x.Frame.Head.Seq - _ = 0
        have : dist b.Start x.Frame.Head.Seq = dist b.Start n := h
        omega
      · have := hs.idx q hx hk; omega
  · rw [ge_dec (by omega), cond_false, bindS]
    show some (_, _) = _
    congr 2
    symm
    rw [decide_eq_false_iff_not]
    rintro ⟨y, hy, h⟩
    obtain ⟨k, hk⟩ := List.mem_iff_getElem?.1 hy
    have hkl := (List.getElem?_eq_some_iff.1 hk).1
    have := c2 k y (by omega) hk
    omega

def relF (S : Int) : Int → List HeldSeq → Int × List Frame × List HeldSeq
  | m, [] => (m, [], [])
  | m, h :: r => if dist S h.n = m then ((relF S (m + 1) r).1, h.Frame :: (relF S (m + 1) r).2.1, (relF S (m + 1) r).2.2) else (m, [], h :: r)

theorem relF_len (S : Int) : ∀ (l : List HeldSeq) (m : Int), (relF S m l).2.1.length + (relF S m l).2.2.length = l.length ∧ (relF S m l).1 = m + (relF S m l).2.1.length
  | [], m => by simp [relF]
  | h :: r, m => by
    unfold relF
    have := relF_len S r (m + 1)
    split
    · simp only [List.length_cons]; omega
    · simp
theorem L5_e (S : Int) : ∀ (l : List HeldSeq) (m : Int) (n : Nat) (b : Reorder) (out : List Frame), Sortd S l → 0 ≤ m → (∀ x ∈ l, m ≤ dist S x.n) → b.Start = (S + m) % 4096 → l.length < n → out.length + l.length ≤ 1000 →
    reorder_move_L5 n (b, l, out) = some ({ b with Start := (S + (relF S m l).1) % 4096 }, (relF S m l).2.2, out ++ (relF S m l).2.1)
  | [], m, n + 1, b, out, hs, h0, hm, hb, hn, ho => by
    rw [reorder_move_L5]
    simp only [List.length_nil, Int.natCast_zero, relF, List.append_nil]
    rw [decide_eq_false (by omega), cond_false, bindS, cond_false, ← hb]
  | h :: r, m, n + 1, b, out, hs, h0, hm, hb, hn, ho => by
    have hd := dist_nn S h.n
    have hh := hm h (by simp)
    have hr := hs.2 h (by simp)
    rw [reorder_move_L5]
    simp only [List.length_cons] at hn ho ⊢
    rw [decide_eq_true (by omega), cond_true, idx0, List.getElem?_cons_zero, bindS, bindS]
    have hiff : (h.Frame.Head.Seq == b.Start) = decide (dist S h.n = m) := by
      rw [Bool.eq_iff_iff, beq_iff_eq, decide_eq_true_eq, hb]
      exact at_dist hr ⟨h0, by omega⟩
    rw [hiff]
    unfold relF
    by_cases he : dist S h.n = m
    · rw [decide_eq_true he, cond_true, if_pos he, bindS, chk_d (by omega), bindS, add_e, bindS, chk_d (by omega), bindS, List.drop_succ_cons, List.drop_zero]
      have hp := (List.pairwise_cons.1 hs.1).1
      rw [L5_e S r (m + 1) n _ _ hs.tail (by omega) (fun y hy => by have := hp y hy; omega) (by simp only [hb]; omega) (by omega) (by simp; omega)]
      simp
    · rw [decide_eq_false he, cond_false, if_neg he, ← hb]; simp

theorem L2_e (b : Reorder) (i : Nat) (hi : i ≤ b.Held.length) (hL : b.Held.length ≤ 1000) : ∀ (d k n : Nat) (out : List Frame), k + d = i → d < n → out.length ≤ k → reorder_move_L2 b n (out, i, (i : Int), (k : Int)) = some (out ++ ((b.Held.take i).drop k).map (·.Frame))
  | 0, k, n + 1, out, hk, hn, ho => by
    rw [reorder_move_L2, decide_eq_false (by simp only; omega), cond_false, List.drop_of_length_le (by rw [List.length_take]; omega)]
    simp
  | d + 1, k, n + 1, out, hk, hn, ho => by
    obtain ⟨x, hx⟩ : ∃ x, b.Held[k]? = some x := ⟨_, List.getElem?_eq_getElem (by omega)⟩
    rw [reorder_move_L2, decide_eq_true (by simp only; omega), cond_true, chk_t (by simp only [decide_eq_true_eq] <;> omega), bindS]
    simp only
    rw [idxN, hx, bindS, chk_d (by omega), bindS, wrapN (by omega), L2_e b i hi hL d (k + 1) n _ (by omega) (by omega) (by simp; omega)]
    have : (b.Held.take i).drop k = x :: (b.Held.take i).drop (k + 1) := by
      have hlt : k < (b.Held.take i).length := by rw [List.length_take]; omega
      rw [List.drop_eq_getElem_cons hlt]
      congr 1
      have := (List.getElem?_eq_some_iff.1 hx).2
      rw [List.getElem_take, this]
    rw [this]; simp

def mv (S t : Int) (l : List HeldSeq) (i : Nat) : Int × List Frame × List HeldSeq := ((relF S t (l.drop i)).1, (l.take i).map (·.Frame) ++ (relF S t (l.drop i)).2.1, (relF S t (l.drop i)).2.2)

theorem cut_drop {S t : Int} {l : List HeldSeq} {i : Nat} (h : Cut S t l i) : ∀ x ∈ l.drop i, t ≤ dist S x.n := by
  intro x hx
  obtain ⟨k, hk⟩ := List.mem_iff_getElem?.1 hx
  rw [List.getElem?_drop] at hk
  exact h.2.2 (i + k) x (by omega) hk
theorem cut_take {S t : Int} {l : List HeldSeq} {i : Nat} (h : Cut S t l i) : ∀ x ∈ l.take i, dist S x.n < t := by
  intro x hx
  obtain ⟨k, hk⟩ := List.mem_iff_getElem?.1 hx
  rw [List.getElem?_take] at hk
  split at hk
  · rename_i hki; exact h.2.1 k x hki hk
  · cases hk

theorem move_e (b : Reorder) (hL : b.Held.length ≤ 1000) (hs : Sortd b.Start b.Held) (to : Int) (ht : 0 ≤ to ∧ to < 4096) : ∃ i : Nat, Cut b.Start (dist b.Start to) b.Held i ∧
    reorder_move b to = some ((mv b.Start (dist b.Start to) b.Held i).2.1, { b with Start := (b.Start + (mv b.Start (dist b.Start to) b.Held i).1) % 4096 }, (mv b.Start (dist b.Start to) b.Held i).2.2) := by
  obtain ⟨i, e1, e2⟩ := place_e b hL hs to
  refine ⟨i, e2, ?_⟩
  have hi := e2.1
  have hd := dist_nn b.Start to
  unfold reorder_move
  have h2 := L2_e b i hi hL i 0 big [] (by omega) (big_lt (by omega)) (by simp)
  simp only [Int.natCast_zero, List.nil_append, List.drop_zero] at h2
  simp only [e1, bindS, Int.toNat_natCast]
  rw [chk_t (by simp; omega), bindS, h2, bindS, bindS]
  have h5 := L5_e b.Start (b.Held.drop i) (dist b.Start to) big { b with Start := to } ((b.Held.take i).map (·.Frame)) (hs.drop i) hd.1 (cut_drop e2) (by simp only; unfold dist; omega) (big_lt (by simp; omega)) (by simp; omega)
  rw [h5, bindS]; rfl


end Go.AX.Z.TN.R

/-! (TNC) -/

set_option linter.unusedVariables false
set_option linter.unusedSimpArgs false
namespace Go.AX.Z.TN.R
open Go.AX

theorem number_e (n : Int) : reorder_number n = some (decide (0 ≤ n ∧ n < 4096)) := by
  unfold reorder_number; congr 1
  rw [Bool.eq_iff_iff]; simp
theorem moment_e (n : Int) : reorder_moment n = some (decide (0 ≤ n ∧ n ≤ 1099511627776)) := by
  unfold reorder_moment; congr 1
  rw [Bool.eq_iff_iff]; simp
theorem VR.sortd {b : Reorder} (h : VR b) : Sortd b.Start b.Held := (okL_s h.2).1
theorem VR.held {b : Reorder} (h : VR b) : ∀ x ∈ b.Held, 0 < dist b.Start x.n ∧ dist b.Start x.n < b.Size ∧ 0 ≤ x.At ∧ x.At ≤ 1099511627776 := (okL_s h.2).2

def due (hold now : Int) (x : HeldSeq) : Bool := decide (x.At + hold ≤ now)
/-- The last one that is due. -/
def ld (hold now : Int) (l : List HeldSeq) : Option HeldSeq := (l.filter (due hold now)).getLast?
theorem ld_mem {hold now : Int} {l : List HeldSeq} {x : HeldSeq} (h : ld hold now l = some x) : x ∈ l ∧ due hold now x = true := by
  have := List.mem_of_getLast? h
  exact List.mem_filter.1 this
theorem ld_snoc (hold now : Int) (l : List HeldSeq) (x : HeldSeq) : ld hold now (l ++ [x]) = if due hold now x = true then some x else ld hold now l := by
  unfold ld
  rw [List.filter_append, List.filter_cons, List.filter_nil]
  split
  · simp
  · simp
theorem ld_cons (hold now : Int) (x : HeldSeq) (l : List HeldSeq) : ld hold now (x :: l) = match ld hold now l with | some y => some y | none => if due hold now x = true then some x else none := by
  unfold ld
  rw [List.filter_cons]
  split
  · rename_i h
    cases hl : (l.filter (due hold now)).getLast? with
    | none =>
      have : l.filter (due hold now) = [] := List.getLast?_eq_none_iff.1 hl
      rw [this]; rfl
    | some y =>
      rw [List.getLast?_cons, hl]; rfl
  · cases hl : (l.filter (due hold now)).getLast? with
    | none => rfl
    | some y => rfl

theorem exp0_e (b : Reorder) (now : Int) (hv : VR b) : ∀ c, c ≤ b.Held.length → reorder_Expire_L0 b now b.Held c = match ld b.Hold now (b.Held.take c) with
    | some x => ((window_Add x.Frame.Head.Seq 1).bind fun y => ((reorder_move { b with Held := b.Held } y).bind fun z => some (Ex.ret (z.1, { z.2.1 with Held := z.2.2 }, 0))))
    | none => some (Ex.go ())
  | 0, _ => by rw [reorder_Expire_L0, List.take_zero]; rfl
  | c + 1, hc => by
    have hlt : c < b.Held.length := by omega
    obtain ⟨x, hx⟩ : ∃ x, b.Held[c]? = some x := ⟨_, List.getElem?_eq_getElem hlt⟩
    have e : b.Held.take (c + 1) = b.Held.take c ++ [x] := by
      rw [List.take_add_one, hx]; rfl
    have hb := hv.held x (List.mem_of_getElem? hx)
    have hh := hv.1
    rw [reorder_Expire_L0, hx, bindS, e, ld_snoc, wrapI (i := x.At + b.Hold) (by unfold HeadOk at hh; omega) (by unfold HeadOk at hh; omega)]
    unfold due
    by_cases hd : x.At + b.Hold ≤ now
    · rw [decide_eq_true hd, cond_true, if_pos rfl]
    · rw [decide_eq_false hd, cond_false, if_neg (by decide), exp0_e b now hv c (by omega)]

theorem report_e (b : Reorder) (hL : b.Held.length ≤ 1000) : reorder_Report b = some (if VR b then (b.Seen, 0) else (Window.z, 8)) := by
  unfold reorder_Report
  rw [check_e b (by omega), bindS]
  by_cases hv : VR b
  · rw [if_pos hv, if_pos hv]; rfl
  · rw [if_neg hv, if_neg hv]; rfl

def okN (n : Int) : Prop := 0 ≤ n ∧ n < 4096
instance (n : Int) : Decidable (okN n) := by unfold okN; infer_instance
theorem wnumber_e (n : Int) : window_number n = some (decide (0 ≤ n ∧ n < 4096)) := by
  unfold window_number; congr 1
  rw [Bool.eq_iff_iff]; simp
theorem wcheck_e {w : Window} {n : Int} (hw : okN w.Start) (hn : okN n) : window_check w n = some 0 := by
  unfold window_check window_Check
  rw [wnumber_e, bindS, decide_eq_true (show 0 ≤ w.Start ∧ w.Start < 4096 from hw), Bool.not_true, cond_false, bindS, wnumber_e, bne_self_eq_false, cond_false, bindS, decide_eq_true (show 0 ≤ n ∧ n < 4096 from hn)]; rfl
/-- Marked. -/
def mrk (B d : Int) : Int := bor .u64 B (IntKind.wrap .u64 (1 * 2 ^ (min (d).toNat 64)))
theorem mark_e {w : Window} {n : Int} (hw : okN w.Start) (hn : okN n) (hd : dist w.Start n < 64) : window_Mark w n = some ({ w with Bits := mrk w.Bits (dist w.Start n) }, 0) := by
  unfold window_Mark
  have := dist_nn w.Start n
  rw [wcheck_e hw hn, bindS, bne_self_eq_false, cond_false, dist_e, bindS, decide_eq_false (by omega), cond_false, chk_d (by omega), bindS]; rfl
theorem sorted_len {S : Int} : ∀ {l : List HeldSeq} {lo hi : Int}, Sortd S l → (∀ x ∈ l, lo < dist S x.n ∧ dist S x.n < hi) → lo < hi → (l.length : Int) < hi - lo
  | [], lo, hi, _, _, h => by simp; omega
  | x :: l, lo, hi, hs, hb, h => by
    have hp := (List.pairwise_cons.1 hs.1).1
    have hx := hb x (by simp)
    have := sorted_len (lo := dist S x.n) (hi := hi) hs.tail (fun y hy => ⟨hp y hy, (hb y (by simp [hy])).2⟩) hx.2
    simp only [List.length_cons]; omega
theorem held_len {b : Reorder} (hv : VR b) : b.Held.length ≤ 70 := by
  have ho := hv.1
  unfold HeadOk at ho
  have := sorted_len (lo := 0) (hi := b.Size) hv.sortd (fun x hx => by have := hv.held x hx; omega) (by omega)
  omega


theorem ins_e (l : List HeldSeq) (i : Nat) (hi : i ≤ l.length) (hL : l.length ≤ 1000) (x : HeldSeq) : slices_Insert_api_HeldSeq_api_HeldSeq (i : Int) l [x] = some (l.take i ++ [x] ++ l.drop i) := by
  unfold slices_Insert_api_HeldSeq_api_HeldSeq
  rw [chk_t (by simp; omega), bindS, show (((([x] : List HeldSeq).length : Nat) : Int) == 0) = false from rfl, cond_false]
  by_cases h : i = l.length
  · subst h
    rw [beq_self_eq_true, cond_true, chk_d (by simp; omega), bindS, List.take_length, List.drop_length, List.append_nil]
  · rw [show (((i : Int)) == ((l.length : Nat) : Int)) = false by rw [beq_eq_false_iff_ne]; omega, cond_false, chk_t (by simp; omega), bindS, Int.toNat_natCast]

theorem ins_sorted {S d : Int} {l : List HeldSeq} {i : Nat} (hs : Sortd S l) (hc : Cut S d l i) {x : HeldSeq} (hx : dist S x.n = d) (hn : okN x.n) (hf : ¬ ∃ y ∈ l, dist S y.n = d) : Sortd S (l.take i ++ [x] ++ l.drop i) := by
  refine ⟨?_, fun y hy => ?_⟩
  · rw [List.append_assoc, List.pairwise_append]
    refine ⟨hs.1.sublist (List.take_sublist _ _), ?_, fun y hy z hz => ?_⟩
    · rw [List.singleton_append, List.pairwise_cons]
      refine ⟨fun y hy => ?_, hs.1.sublist (List.drop_sublist _ _)⟩
      have h1 := cut_drop hc y hy
      have h2 : dist S y.n ≠ d := fun e => hf ⟨y, List.mem_of_mem_drop hy, e⟩
      omega
    · have h1 := cut_take hc y hy
      rcases List.mem_cons.1 hz with rfl | hz
      · omega
      · have := cut_drop hc z hz; omega
  · simp only [List.mem_append, List.mem_singleton] at hy
    rcases hy with (hy | rfl) | hy
    · exact hs.2 y (List.mem_of_mem_take hy)
    · exact hn
    · exact hs.2 y (List.mem_of_mem_drop hy)


/-! ## Moving, as a function -/

theorem cut_filter {S t : Int} : ∀ {l : List HeldSeq} {i : Nat}, Cut S t l i → l.take i = l.filter (fun x => decide (dist S x.n < t)) ∧ l.drop i = l.filter (fun x => !decide (dist S x.n < t))
  | [], i, h => by simp
  | x :: l, 0, h => by
    have h1 : ∀ y ∈ x :: l, ¬ dist S y.n < t := fun y hy => by
      obtain ⟨k, hk⟩ := List.mem_iff_getElem?.1 hy
      have := h.2.2 k y (Nat.zero_le _) hk
      omega
    refine ⟨?_, ?_⟩
    · rw [List.take_zero]; exact (List.filter_eq_nil_iff.2 fun y hy => by simpa using h1 y hy).symm
    · rw [List.drop_zero]; exact (List.filter_eq_self.2 fun y hy => by simpa using h1 y hy).symm
  | x :: l, i + 1, h => by
    have hx : dist S x.n < t := h.2.1 0 x (by omega) rfl
    have h' : Cut S t l i := ⟨by have := h.1; simp at this; omega, fun k y hk hy => h.2.1 (k + 1) y (by omega) (by simpa using hy), fun k y hk hy => h.2.2 (k + 1) y (by omega) (by simpa using hy)⟩
    obtain ⟨e1, e2⟩ := cut_filter h'
    simp [hx, e1, e2]

def pre (b : Reorder) (t : Int) : List HeldSeq := b.Held.filter fun x => decide (dist b.Start x.n < t)
def post (b : Reorder) (t : Int) : List HeldSeq := b.Held.filter fun x => !decide (dist b.Start x.n < t)
/-- What moving gives. -/
def mvF (b : Reorder) (t : Int) : List Frame × Reorder :=
  ((pre b t).map (·.Frame) ++ (relF b.Start t (post b t)).2.1, { b with Start := (b.Start + (relF b.Start t (post b t)).1) % 4096, Held := (relF b.Start t (post b t)).2.2 })
theorem mvF_e (b : Reorder) (hL : b.Held.length ≤ 1000) (hs : Sortd b.Start b.Held) (to : Int) (ht : 0 ≤ to ∧ to < 4096) :
    ∃ z, reorder_move b to = some z ∧ z.1 = (mvF b (dist b.Start to)).1 ∧ { z.2.1 with Held := z.2.2 } = (mvF b (dist b.Start to)).2 := by
  obtain ⟨i, hc, e⟩ := move_e b hL hs to ht
  obtain ⟨e1, e2⟩ := cut_filter hc
  refine ⟨_, e, ?_, ?_⟩
  · simp only [mvF, mv, pre, post, e1, e2]
  · simp only [mvF, mv, pre, post, e1, e2]
theorem relF_len2 (S : Int) (l : List HeldSeq) (m : Int) : (relF S m l).2.1.length ≤ l.length ∧ (relF S m l).2.2.length ≤ l.length := by
  have := relF_len S l m
  omega
theorem mvF_len (b : Reorder) (t : Int) : (mvF b t).1.length ≤ b.Held.length + b.Held.length ∧ (mvF b t).2.Held.length ≤ b.Held.length := by
  have h1 : (pre b t).length ≤ b.Held.length := List.length_filter_le _ _
  have h2 : (post b t).length ≤ b.Held.length := List.length_filter_le _ _
  have h3 := relF_len2 b.Start (post b t) t
  simp only [mvF, List.length_append, List.length_map]
  omega
theorem relF_mem (S : Int) : ∀ (l : List HeldSeq) (m : Int), (∀ f ∈ (relF S m l).2.1, ∃ x ∈ l, f = x.Frame) ∧ ∀ x ∈ (relF S m l).2.2, x ∈ l
  | [], m => by simp [relF]
  | h :: r, m => by
    unfold relF
    obtain ⟨a, b⟩ := relF_mem S r (m + 1)
    split
    · refine ⟨fun f hf => ?_, fun x hx => List.mem_cons_of_mem _ (b x hx)⟩
      rcases List.mem_cons.1 hf with rfl | hf
      · exact ⟨h, by simp, rfl⟩
      · obtain ⟨x, hx, e⟩ := a f hf; exact ⟨x, List.mem_cons_of_mem _ hx, e⟩
    · simp
theorem mvF_mem (b : Reorder) (t : Int) : (∀ f ∈ (mvF b t).1, ∃ x ∈ b.Held, f = x.Frame) ∧ ∀ x ∈ (mvF b t).2.Held, x ∈ b.Held := by
  have hp : ∀ x ∈ post b t, x ∈ b.Held := fun x hx => (List.mem_filter.1 hx).1
  obtain ⟨a, c⟩ := relF_mem b.Start (post b t) t
  refine ⟨fun f hf => ?_, fun x hx => hp x (c x hx)⟩
  simp only [mvF, List.mem_append, List.mem_map] at hf
  rcases hf with ⟨x, hx, rfl⟩ | hf
  · exact ⟨x, (List.mem_filter.1 hx).1, rfl⟩
  · obtain ⟨x, hx, e⟩ := a f hf; exact ⟨x, hp x hx, e⟩

/-! ## Bar, Expire -/

abbrev Res := List Frame × Reorder × Int
def barF (b : Reorder) (n : Int) : Res :=
  if VR b then (if okN n then (if 2048 ≤ dist b.Start n then ([], b, 0) else ((mvF b (dist b.Start n)).1, (mvF b (dist b.Start n)).2, 0)) else ([], Reorder.z, 2)) else ([], Reorder.z, 8)
theorem bar_e (b : Reorder) (hf : Fit b.Held) (n : Int) : reorder_Bar b n = some (barF b n) := by
  unfold reorder_Bar barF
  have hL := hf.1
  rw [check_e b (by omega), bindS]
  by_cases hv : VR b
  · rw [if_pos hv, if_pos hv, bne_self_eq_false, cond_false, number_e, bindS]
    by_cases hn : okN n
    · rw [if_pos hn, decide_eq_true (show 0 ≤ n ∧ n < 4096 from hn), Bool.not_true, cond_false, twin_e _ hf, bindS, dist_e, bindS]
      by_cases hd : 2048 ≤ dist b.Start n
      · rw [decide_eq_true hd, cond_true, if_pos hd]
      · obtain ⟨z, z1, z2, z3⟩ := mvF_e b hL hv.sortd n hn
        rw [decide_eq_false hd, cond_false, if_neg hd, show ({ b with Held := b.Held } : Reorder) = b from rfl, z1, bindS, z2, ← z3]
    · rw [if_neg hn, decide_eq_false (show ¬ (0 ≤ n ∧ n < 4096) from hn)]; rfl
  · rw [if_neg hv, if_neg hv]; rfl

def expF (b : Reorder) (now : Int) : Res :=
  if VR b then (if 0 ≤ now ∧ now ≤ 1099511627776 then (match ld b.Hold now b.Held with | some x => ((mvF b (dist b.Start ((x.n + 1) % 4096))).1, (mvF b (dist b.Start ((x.n + 1) % 4096))).2, 0) | none => ([], b, 0)) else ([], Reorder.z, 2)) else ([], Reorder.z, 8)
theorem expire_e (b : Reorder) (hf : Fit b.Held) (now : Int) : reorder_Expire b now = some (expF b now) := by
  unfold reorder_Expire expF
  have hL := hf.1
  rw [check_e b (by omega), bindS]
  by_cases hv : VR b
  · rw [if_pos hv, if_pos hv, bne_self_eq_false, cond_false, moment_e, bindS]
    by_cases hn : 0 ≤ now ∧ now ≤ 1099511627776
    · rw [if_pos hn, decide_eq_true hn, Bool.not_true, cond_false, twin_e _ hf, bindS, chk_d (by omega), bindS, exp0_e b now hv _ (Nat.le_refl _), List.take_length]
      cases hld : ld b.Hold now b.Held with
      | none => rfl
      | some x =>
        obtain ⟨z, z1, z2, z3⟩ := mvF_e b hL hv.sortd ((x.n + 1) % 4096) (by omega)
        simp only
        rw [add_e, bindS, show ({ b with Held := b.Held } : Reorder) = b from rfl, show (x.Frame.Head.Seq + 1) % 4096 = (x.n + 1) % 4096 from rfl, z1, bindS, bindS, Ex.k_ret', z2, ← z3]
    · rw [if_neg hn, decide_eq_false hn]; rfl
  · rw [if_neg hv, if_neg hv]; rfl

/-! ## Put -/

def noteF (w : Window) (n : Int) : Window :=
  if 2048 ≤ dist w.Start n then w else
  if 64 ≤ dist w.Start n then { Bits := mrk (w.Bits.fdiv (2 ^ (min (dist w.Start n - 63).toNat 64))) 63, Start := (n + (-63)) % 4096 }
  else { w with Bits := mrk w.Bits (dist w.Start n) }
theorem note_e {w : Window} {n : Int} (hw : okN w.Start) (hn : okN n) : reorder_note w n = some (noteF w n) := by
  unfold reorder_note noteF
  have hd := dist_nn w.Start n
  rw [dist_e, bindS]
  by_cases h : 2048 ≤ dist w.Start n
  · rw [decide_eq_true h, cond_true, if_pos h]
  · rw [decide_eq_false h, cond_false, if_neg h]
    by_cases h2 : 64 ≤ dist w.Start n
    · have hx : okN ((n + (-63)) % 4096) := by unfold okN; omega
      have e1 : dist w.Start ((n + (-63)) % 4096) = dist w.Start n - 63 := by unfold dist at h h2 ⊢; omega
      have e2 : dist ((n + (-63)) % 4096) n = 63 := by unfold okN at hn; unfold dist; omega
      have hm : window_Move w ((n + (-63)) % 4096) = some ({ Window.z with Bits := (w.Bits).fdiv (2 ^ (min (dist w.Start n - 63).toNat 64)), Start := (n + (-63)) % 4096 }, 0) := by
        unfold window_Move
        rw [wcheck_e hw hx, bindS, bne_self_eq_false, cond_false, dist_e, e1, bindS, decide_eq_true (by omega), cond_true, chk_d (by omega), bindS]
      rw [decide_eq_true h2, cond_true, if_pos h2, add_e, bindS, hm, bindS, bindS, mark_e (w := { Window.z with Bits := (w.Bits).fdiv (2 ^ (min (dist w.Start n - 63).toNat 64)), Start := (n + (-63)) % 4096 }) hx hn (by simp only [e2]; omega), bindS]
      simp only [e2]
    · rw [decide_eq_false h2, cond_false, if_neg h2, bindS, mark_e hw hn (by omega), bindS]

def insF (b : Reorder) (x : HeldSeq) : List HeldSeq := pre b (dist b.Start x.n) ++ [x] ++ post b (dist b.Start x.n)
def toF (b : Reorder) (n : Int) : Int := if b.Size ≤ dist b.Start n then (n + (1 - b.Size)) % 4096 else b.Start
def putB (b : Reorder) (x : HeldSeq) : Reorder := { b with Held := insF b x, Seen := noteF b.Seen x.n }
def putF (b : Reorder) (f : Frame) (now : Int) : Res :=
  if VR b then (if (0 ≤ now ∧ now ≤ 1099511627776) ∧ okN f.Head.Seq then
    (if 2048 ≤ dist b.Start f.Head.Seq ∨ ∃ x ∈ b.Held, dist b.Start x.n = dist b.Start f.Head.Seq then ([], Reorder.z, 21) else
      ((mvF (putB b ⟨now, f⟩) (dist b.Start (toF b f.Head.Seq))).1, (mvF (putB b ⟨now, f⟩) (dist b.Start (toF b f.Head.Seq))).2, 0))
    else ([], Reorder.z, 2)) else ([], Reorder.z, 8)
theorem insF_sorted {b : Reorder} {x : HeldSeq} (hs : Sortd b.Start b.Held) (hL : b.Held.length ≤ 1000) (hn : okN x.n) (hf : ¬ ∃ y ∈ b.Held, dist b.Start y.n = dist b.Start x.n) : Sortd b.Start (insF b x) := by
  obtain ⟨i, e, hc⟩ := place_e b hL hs x.n
  obtain ⟨e1, e2⟩ := cut_filter hc
  have := ins_sorted hs hc rfl hn hf
  unfold insF pre post
  rw [← e1, ← e2]; exact this
theorem insF_len (b : Reorder) (x : HeldSeq) : (insF b x).length ≤ b.Held.length + b.Held.length + 1 := by
  have h1 : (pre b (dist b.Start x.n)).length ≤ b.Held.length := List.length_filter_le _ _
  have h2 : (post b (dist b.Start x.n)).length ≤ b.Held.length := List.length_filter_le _ _
  simp only [insF, List.length_append, List.length_cons, List.length_nil]; omega
theorem put_e (b : Reorder) (hf : Fit b.Held) (f : Frame) (hfb : f.Body.length ≤ 2400) (now : Int) : reorder_Put b f now = some (putF b f now) := by
  unfold reorder_Put putF
  have hL := hf.1
  rw [check_e b (by omega), bindS]
  by_cases hv : VR b
  · have h70 := held_len hv
    have ho := hv.1
    unfold HeadOk at ho
    rw [if_pos hv, if_pos hv, bne_self_eq_false, cond_false, moment_e, bindS]
    by_cases hn : 0 ≤ now ∧ now ≤ 1099511627776
    · rw [decide_eq_true hn, Bool.not_true, cond_false, number_e, bindS, bindS]
      by_cases hq : okN f.Head.Seq
      · obtain ⟨i, pe, hc⟩ := place_e b hL hv.sortd f.Head.Seq
        obtain ⟨c1, c2⟩ := cut_filter hc
        rw [decide_eq_true (show 0 ≤ f.Head.Seq ∧ f.Head.Seq < 4096 from hq), Bool.not_true, cond_false, if_pos ⟨hn, hq⟩, dist_e, bindS, pe, bindS]
        by_cases hd : 2048 ≤ dist b.Start f.Head.Seq ∨ ∃ x ∈ b.Held, dist b.Start x.n = dist b.Start f.Head.Seq
        · have : ((decide (2048 ≤ dist b.Start f.Head.Seq)) || (decide (∃ x ∈ b.Held, dist b.Start x.n = dist b.Start f.Head.Seq))) = true := by simpa using hd
          simp only [this, cond_true, if_pos hd]
        · have : ((decide (2048 ≤ dist b.Start f.Head.Seq)) || (decide (∃ x ∈ b.Held, dist b.Start x.n = dist b.Start f.Head.Seq))) = false := by
            rw [Bool.eq_false_iff]; simpa using hd
          simp only [this, cond_false, if_neg hd]
          have hi := hc.1
          have hw : okN b.Seen.Start := ho.2.2.2.2.2
          rw [note_e hw hq, bindS, twin_e _ hf, bindS]
          unfold header_Twin
          rw [chk_d (by omega), bindS, bindS, ins_e _ _ hi hL, bindS]
          have hil : b.Held.take i ++ [({ HeldSeq.z with At := now, Frame := f } : HeldSeq)] ++ b.Held.drop i = insF b ⟨now, f⟩ := by
            unfold insF pre post; rw [c1, c2]
          have hto : (bif decide (b.Size ≤ dist b.Start f.Head.Seq) then ((window_Add f.Head.Seq (IntKind.wrap .i64 (1 - b.Size))).bind fun x78 => some x78) else some b.Start) = some (toF b f.Head.Seq) := by
            unfold toF
            by_cases hz : b.Size ≤ dist b.Start f.Head.Seq
            · rw [decide_eq_true hz, cond_true, if_pos hz, wrapI (by omega) (by omega), add_e, bindS]
            · rw [decide_eq_false hz, cond_false, if_neg hz]
          have hti : 0 ≤ toF b f.Head.Seq ∧ toF b f.Head.Seq < 4096 := by unfold toF; split <;> omega
          have hnf : ¬ ∃ y ∈ b.Held, dist b.Start y.n = dist b.Start (⟨now, f⟩ : HeldSeq).n := fun h => hd (.inr h)
          have hsr := insF_sorted (x := ⟨now, f⟩) hv.sortd hL hq hnf
          have hil2 := insF_len b ⟨now, f⟩
          rw [hto, bindS, hil]
          obtain ⟨z, z1, z2, z3⟩ := mvF_e (putB b ⟨now, f⟩) (by simp only [putB]; omega) hsr (toF b f.Head.Seq) hti
          rw [show ({ b with Held := insF b ⟨now, f⟩, Seen := noteF b.Seen f.Head.Seq } : Reorder) = putB b ⟨now, f⟩ from rfl, z1, bindS, z2]
          show some (_, ({ z.2.1 with Held := z.2.2 } : Reorder), (0 : Int)) = _
          rw [z3]; rfl
      · rw [decide_eq_false (show ¬ (0 ≤ f.Head.Seq ∧ f.Head.Seq < 4096) from hq), if_neg (fun h => hq h.2)]; rfl
    · rw [decide_eq_false hn, if_neg (fun h => hn h.1)]; rfl
  · rw [if_neg hv, if_neg hv]; rfl
end Go.AX.Z.TN.R

/-! (TNE) -/

set_option linter.unusedVariables false
set_option linter.unusedSimpArgs false
namespace Go.AX.Z.TN
open Go.AX

namespace S
abbrev RI := List Int × Sender × Int
def expR (s : Sender) (t : Int) : RI := if Valid s then (if 0 ≤ t ∧ t ≤ 1099511627776 then (if s.Phase = 2 then (expN s t, expS s t, 0) else ([], Sender.z, 20)) else ([], Sender.z, 2)) else ([], Sender.z, 8)
def closeR (s : Sender) : RI := if Valid s then (seqs s.Out, closeS s, 0) else ([], Sender.z, 8)
def offR (s : Sender) (n : Int) : Frame × Sender × Int := if Valid s then (if 0 ≤ n ∧ n ≤ 1099511627776 then (if s.Phase = 2 then (if s.Out ≠ [] ∧ n < lastAt s then (Frame.z, Sender.z, 20) else if s.Size ≤ dist (startOf s) s.Next then (Frame.z, Sender.z, 22) else (offF s Frame.z, offS s Frame.z n, 0)) else (Frame.z, Sender.z, 20)) else (Frame.z, Sender.z, 2)) else (Frame.z, Sender.z, 8)
def pickS (s : Sender) (k : Int) : Sender := { s with Out := (pickR s.Limit k 0 s.Out).1 }
def pikR (s : Sender) (k : Int) : List Frame × Sender × Int := if Valid s then (if 0 ≤ k then (if s.Phase = 2 then ((pickR s.Limit k 0 s.Out).2, pickS s k, 0) else ([], Sender.z, 20)) else ([], Sender.z, 2)) else ([], Sender.z, 8)
def lostS (s : Sender) : Sender := { s with Out := s.Out.map unfly }
def lostR (s : Sender) : Sender × Int := if Valid s then (if s.Phase = 2 then (lostS s, 0) else (Sender.z, 20)) else (Sender.z, 8)
def barS (s : Sender) : Sender := { s with Bar := false }
def barR (s : Sender) : Sender × Int := if Valid s then (if s.Phase = 2 then (if s.Bar = true then (barS s, 0) else (Sender.z, 20)) else (Sender.z, 20)) else (Sender.z, 8)
def ackR (s : Sender) (w : Window) : RI := if Valid s then (if okW w then (if s.Phase = 2 then (seqs (s.Out.filter (pA w)), ackS s w, 0) else ([], Sender.z, 20)) else ([], Sender.z, 2)) else ([], Sender.z, 8)
def startR (s : Sender) : Int := if Valid s then startOf s else 0
def PA (s : Sender) (n : Int) : Prop := (s.Out.length : Int) ≤ n ∧ n ≤ 1000 ∧ ∀ x ∈ s.Out, x.Frame.Body = []
theorem PA.fit {s : Sender} {n : Int} (h : PA s n) : Fit s := ⟨by have := h.1; have := h.2.1; omega, fun x hx => by rw [h.2.2 x hx]; simp⟩
theorem PA.len {s : Sender} {n : Int} (h : PA s n) : s.Out.length ≤ 50000 := by have := h.1; have := h.2.1; omega
theorem PA.z {n : Int} (h0 : 0 ≤ n) (h : n ≤ 1000) : PA Sender.z n := ⟨by simpa [Sender.z] using h0, h, by simp [Sender.z]⟩
theorem PA.nn {s : Sender} {n : Int} (h : PA s n) : 0 ≤ n := by have := h.1; omega
theorem start_r {s : Sender} {n : Int} (h : PA s n) : sender_Start s = some (startR s) := by
  unfold sender_Start startR
  rw [check_e s h.fit.len, bindS]
  by_cases hv : Valid s
  · rw [if_pos hv, if_pos hv, start_e]; rfl
  · rw [if_neg hv, if_neg hv]; rfl
theorem exp_p {s : Sender} {n : Int} (h : PA s n) (t : Int) : PA (expR s t).2.1 n ∧ ((expR s t).1.length : Int) ≤ n := by
  have hl : ∀ p : Unacked → Bool, ((s.Out.filter p).length : Int) ≤ n := fun p => by have := List.length_filter_le p s.Out; have := h.1; omega
  unfold expR
  split
  · split
    · split
      · refine ⟨⟨hl _, h.2.1, fun x hx => h.2.2 x (List.mem_filter.1 hx).1⟩, by simpa [expN, seqs] using hl _⟩
      · exact ⟨.z h.nn h.2.1, by simpa using h.nn⟩
    · exact ⟨.z h.nn h.2.1, by simpa using h.nn⟩
  · exact ⟨.z h.nn h.2.1, by simpa using h.nn⟩
theorem close_p {s : Sender} {n : Int} (h : PA s n) : PA (closeR s).2.1 n ∧ ((closeR s).1.length : Int) ≤ n := by
  unfold closeR
  split
  · exact ⟨⟨by simpa [closeS] using h.nn, h.2.1, by simp [closeS]⟩, by simpa [seqs] using h.1⟩
  · exact ⟨.z h.nn h.2.1, by simpa using h.nn⟩
theorem off_p {s : Sender} {n : Int} (h : PA s n) (hn : n < 1000) (t : Int) : PA (offR s t).2.1 (n + 1) := by
  have z : PA Sender.z (n + 1) := .z (by have := h.nn; omega) (by omega)
  unfold offR
  split
  · split
    · split
      · split
        · exact z
        · split
          · exact z
          · refine ⟨by have := h.1; simp [offS]; omega, by omega, fun x hx => ?_⟩
            simp only [offS, List.mem_append, List.mem_singleton] at hx
            rcases hx with hx | rfl
            · exact h.2.2 x hx
            · rfl
      · exact z
    · exact z
  · exact z
theorem pickR_body0 (lim k : Int) : ∀ (c : Nat) (l : List Unacked), (∀ y ∈ l, y.Frame.Body = []) → (∀ y ∈ (pickR lim k c l).1, y.Frame.Body = []) ∧ (∀ f ∈ (pickR lim k c l).2, f.Body = []) ∧ (pickR lim k c l).1.length = l.length ∧ (pickR lim k c l).2.length ≤ l.length
  | _, [], _ => by simp [pickR]
  | c, x :: l, h => by
    have hx := h x (by simp)
    have hl : ∀ y ∈ l, y.Frame.Body = [] := fun y hy => h y (by simp [hy])
    unfold pickR
    split
    · exact ⟨h, by simp, rfl, by simp⟩
    · split
      · obtain ⟨a, b, c1, d⟩ := pickR_body0 lim k c l hl
        exact ⟨fun y hy => by rcases List.mem_cons.1 hy with rfl | hy; exact hx; exact a y hy, b, by simp [c1], by simp; omega⟩
      · obtain ⟨a, b, c1, d⟩ := pickR_body0 lim k (c + 1) l hl
        refine ⟨fun y hy => by rcases List.mem_cons.1 hy with rfl | hy; exact hx; exact a y hy, fun f hf => by rcases List.mem_cons.1 hf with rfl | hf; exact hx; exact b f hf, by simp [c1], by simp; omega⟩
theorem pick_p {s : Sender} {n : Int} (h : PA s n) (k : Int) : PA (pikR s k).2.1 n ∧ ((pikR s k).1.length : Int) ≤ n ∧ ∀ f ∈ (pikR s k).1, f.Body = [] := by
  have z : PA Sender.z n := .z h.nn h.2.1
  have hb := pickR_body0 s.Limit k 0 s.Out h.2.2
  unfold pikR
  split
  · split
    · split
      · exact ⟨⟨by have := h.1; simp only [pickS]; omega, h.2.1, hb.1⟩, by have := h.1; simp only; omega, hb.2.1⟩
      · exact ⟨z, by simpa using h.nn, by simp⟩
    · exact ⟨z, by simpa using h.nn, by simp⟩
  · exact ⟨z, by simpa using h.nn, by simp⟩
theorem lost_p {s : Sender} {n : Int} (h : PA s n) : PA (lostR s).1 n := by
  have z : PA Sender.z n := .z h.nn h.2.1
  unfold lostR
  split
  · split
    · refine ⟨by simpa [lostS] using h.1, h.2.1, fun x hx => ?_⟩
      simp only [lostS, List.mem_map] at hx
      obtain ⟨y, hy, rfl⟩ := hx; exact h.2.2 y hy
    · exact z
  · exact z
theorem bar_p {s : Sender} {n : Int} (h : PA s n) : PA (barR s).1 n := by
  have z : PA Sender.z n := .z h.nn h.2.1
  unfold barR
  split
  · split
    · split
      · exact h
      · exact z
    · exact z
  · exact z
theorem ack_p {s : Sender} {n : Int} (h : PA s n) (w : Window) : PA (ackR s w).2.1 n ∧ ((ackR s w).1.length : Int) ≤ n := by
  have z : PA Sender.z n := .z h.nn h.2.1
  have hl : ∀ p : Unacked → Bool, ((s.Out.filter p).length : Int) ≤ n := fun p => by have := List.length_filter_le p s.Out; have := h.1; omega
  unfold ackR
  split
  · split
    · split
      · refine ⟨⟨by simpa [ackS] using hl _, h.2.1, fun x hx => ?_⟩, by simpa [seqs] using hl _⟩
        simp only [ackS, List.mem_map] at hx
        obtain ⟨y, hy, rfl⟩ := hx; exact h.2.2 y (List.mem_filter.1 hy).1
      · exact ⟨z, by simpa using h.nn⟩
    · exact ⟨z, by simpa using h.nn⟩
  · exact ⟨z, by simpa using h.nn⟩
end S

namespace R
def repR (b : Reorder) : Window × Int := if VR b then (b.Seen, 0) else (Window.z, 8)
def PB (b : Reorder) : Prop := b.Held.length ≤ 200 ∧ ∀ x ∈ b.Held, x.Frame.Body = []
theorem PB.fit {b : Reorder} (h : PB b) : Fit b.Held := ⟨by have := h.1; omega, fun x hx => by rw [h.2 x hx]; simp⟩
theorem PB.z : PB Reorder.z := ⟨by simp [Reorder.z], by simp [Reorder.z]⟩
theorem mvF_p {b : Reorder} (h : b.Held.length ≤ 200 ∧ ∀ x ∈ b.Held, x.Frame.Body = []) (t : Int) : PB (mvF b t).2 ∧ (mvF b t).1.length ≤ 400 ∧ ∀ f ∈ (mvF b t).1, f.Body = [] := by
  obtain ⟨a, c⟩ := mvF_len b t
  obtain ⟨d, e⟩ := mvF_mem b t
  exact ⟨⟨by omega, fun x hx => h.2 x (e x hx)⟩, by omega, fun f hf => by obtain ⟨x, hx, rfl⟩ := d f hf; exact h.2 x hx⟩
theorem bar_p {b : Reorder} (h : PB b) (n : Int) : PB (barF b n).2.1 ∧ (barF b n).1.length ≤ 400 := by
  unfold barF
  split
  · split
    · split
      · exact ⟨h, by simp⟩
      · exact ⟨(mvF_p h _).1, (mvF_p h _).2.1⟩
    · exact ⟨.z, by simp⟩
  · exact ⟨.z, by simp⟩
theorem exp_p {b : Reorder} (h : PB b) (n : Int) : PB (expF b n).2.1 ∧ (expF b n).1.length ≤ 400 := by
  unfold expF
  split
  · split
    · split
      · exact ⟨(mvF_p h _).1, (mvF_p h _).2.1⟩
      · exact ⟨h, by simp⟩
    · exact ⟨.z, by simp⟩
  · exact ⟨.z, by simp⟩
theorem put_p {b : Reorder} (h : PB b) (f : Frame) (hf : f.Body = []) (n : Int) : PB (putF b f n).2.1 ∧ (putF b f n).1.length ≤ 400 := by
  unfold putF
  split
  · rename_i hv
    have h70 := held_len hv
    split
    · split
      · exact ⟨.z, by simp⟩
      · have hl := insF_len b ⟨n, f⟩
        have hp : (putB b ⟨n, f⟩).Held.length ≤ 200 ∧ ∀ x ∈ (putB b ⟨n, f⟩).Held, x.Frame.Body = [] := by
          refine ⟨by simp only [putB]; omega, fun x hx => ?_⟩
          simp only [putB, insF, List.mem_append, List.mem_singleton] at hx
          rcases hx with (hx | rfl) | hx
          · exact h.2 x (List.mem_filter.1 hx).1
          · exact hf
          · exact h.2 x (List.mem_filter.1 hx).1
        exact ⟨(mvF_p hp _).1, (mvF_p hp _).2.1⟩
    · exact ⟨.z, by simp⟩
  · exact ⟨.z, by simp⟩
end R
end Go.AX.Z.TN

/-! (TNG) -/

set_option linter.unusedVariables false
set_option linter.unusedSimpArgs false
set_option maxRecDepth 20000
namespace Go.AX.Z.TN
open Go.AX

abbrev SS := Session_session
def keepF (e : Int) (s : SS) : SS := { s with err := if s.err = 0 then e else s.err }
theorem keep_e (e : Int) (s : SS) (d : List Bool) : session_session_keep e s d = some (keepF e s) := by
  unfold session_session_keep keepF
  by_cases h : s.err = 0
  · rw [h, if_pos rfl]; rfl
  · rw [show (s.err == 0) = false by simpa using h, if_neg h]; rfl

def idxs (p : SessionPlan) (l : List Int) : List Int := l.map fun n => dist p.Start n
theorem indices_loop (s : SS) (L : List Int) (hL : L.length ≤ 100000) : ∀ (l acc : List Int) (i n : Nat), L.drop i = l → l.length < n → acc.length + l.length ≤ 100000 →
    session_session_indices_L2 L s n (acc, (i : Int)) = some (acc ++ idxs s.plan l)
  | [], acc, i, n + 1, h, hn, ha => by
    rw [session_session_indices_L2, ge_dec (drop_n h)]; simp [idxs]
  | x :: l, acc, i, n + 1, h, hn, ha => by
    obtain ⟨h1, h2, h3⟩ := drop_c h
    simp only [List.length_cons] at ha hn
    rw [session_session_indices_L2, lt_dec h3]
    simp only [cond_true, idxN, h1, bindS, dist_e]
    rw [chk_d (by omega), bindS, wrapN (by omega), indices_loop s L hL l _ (i + 1) n h2 (by omega) (by simp; omega)]
    simp [idxs]
theorem indices_e (s : SS) (d : List Bool) (l : List Int) (h : l.length ≤ 100000) : session_session_indices s d l = some (idxs s.plan l) := by
  unfold session_session_indices
  have := indices_loop s l h l [] 0 big rfl (big_lt (by omega)) (by simpa using h)
  simp only [Int.natCast_zero, List.nil_append] at this
  rw [this]; rfl

def rel (p : SessionPlan) (l : List Frame) : List Int := l.map fun f => dist p.Start f.Head.Seq
theorem released_loop (s : SS) (L : List Frame) (hL : L.length ≤ 100000) : ∀ (l : List Frame) (acc : List Int) (i n : Nat), L.drop i = l → l.length < n → acc.length + l.length ≤ 2000000000 →
    session_session_released_L2 L s n (acc, (i : Int)) = some (acc ++ rel s.plan l)
  | [], acc, i, n + 1, h, hn, ha => by
    rw [session_session_released_L2, ge_dec (drop_n h)]; simp [rel]
  | x :: l, acc, i, n + 1, h, hn, ha => by
    obtain ⟨h1, h2, h3⟩ := drop_c h
    simp only [List.length_cons] at ha hn
    rw [session_session_released_L2, lt_dec h3]
    simp only [cond_true, idxN, h1, bindS, dist_e]
    rw [chk_d (by omega), bindS, wrapN (by omega), released_loop s L hL l _ (i + 1) n h2 (by omega) (by simp; omega)]
    simp [rel]
theorem released_e (l : List Frame) (s : SS) (d : List Bool) (h : l.length ≤ 100000) (hd : s.out.Delivered.length ≤ 1000000000) : session_session_released l s d = some (s.out.Delivered ++ rel s.plan l) := by
  unfold session_session_released
  have := released_loop s l h l s.out.Delivered 0 big rfl (big_lt (by omega)) (by omega)
  simp only [Int.natCast_zero] at this
  rw [this]; rfl

def drawF : List Bool → Bool × List Bool
  | [] => (false, [])
  | b :: l => (b, l)
theorem draw_e (d : List Bool) : session_Run_1 d = some (drawF d) := by
  unfold session_Run_1 drawF
  cases d with
  | nil => rfl
  | cons b l =>
    have : (((b :: l).length : Int) == 0) = false := by rw [beq_eq_false_iff_ne]; simp; omega
    rw [this, cond_false, idx0, List.getElem?_cons_zero, bindS, chk_d (by simp; omega), bindS]; rfl

structure Wt (N : Nat) (s : SS) : Prop where
  A : S.PA s.sides.Sender s.accepted
  B : R.PB s.sides.Reorder
  D : s.out.Delivered.length ≤ N
  K : s.out.Acked.length ≤ N
  X : s.out.Dropped.length ≤ N
  N : N ≤ 900000000
  acc : s.accepted ≤ 200
  many : s.many ≤ 200
theorem Wt.keep {N : Nat} {s : SS} (h : Wt N s) (e : Int) : Wt N (keepF e s) := ⟨h.A, h.B, h.D, h.K, h.X, h.N, h.acc, h.many⟩
theorem Wt.mono {N M : Nat} {s : SS} (h : Wt N s) (hm : N ≤ M) (hM : M ≤ 900000000) : Wt M s := ⟨h.A, h.B, Nat.le_trans h.D hm, Nat.le_trans h.K hm, Nat.le_trans h.X hm, hM, h.acc, h.many⟩
theorem Wt.upA {N : Nat} {s : SS} (h : Wt N s) {A : Sender} (hA : S.PA A s.accepted) : Wt N { s with sides.Sender := A } := ⟨hA, h.B, h.D, h.K, h.X, h.N, h.acc, h.many⟩
theorem rel_len (p : SessionPlan) (l : List Frame) : (rel p l).length = l.length := by simp [rel]
theorem idxs_len (p : SessionPlan) (l : List Int) : (idxs p l).length = l.length := by simp [idxs]

def moveF (to : Int) (s : SS) : SS :=
  { keepF (R.barF s.sides.Reorder to).2.2 s with sides.Reorder := (R.barF s.sides.Reorder to).2.1, out.Delivered := s.out.Delivered ++ rel s.plan (R.barF s.sides.Reorder to).1 }
theorem move_e {N : Nat} {s : SS} (h : Wt N s) (hN : N ≤ 899000000) (to : Int) (d : List Bool) : (∃ r, session_session_move to s d = some r ∧ { r.1 with out.Delivered := r.2 } = moveF to s ∧ r.2 = (moveF to s).out.Delivered) ∧ Wt (N + 1000) (moveF to s) := by
  obtain ⟨b1, b2⟩ := R.bar_p h.B to
  have hD := h.D
  constructor
  · unfold session_session_move
    rw [R.bar_e _ h.B.fit, bindS, keep_e, bindS, released_e _ _ _ (by omega) (by simp only; omega), bindS]
    exact ⟨_, rfl, rfl, rfl⟩
  · refine ⟨h.A, b1, ?_, by have := h.K; simp only [moveF]; show s.out.Acked.length ≤ _; omega, by have := h.X; show s.out.Dropped.length ≤ _; omega, by omega, h.acc, h.many⟩
    simp only [moveF, List.length_append, rel_len]; omega

def offL (now : Int) : Nat → SS → SS
  | 0, s => s
  | n + 1, s => if s.accepted < s.many ∧ s.err = 0 then
      (if (S.offR s.sides.Sender now).2.2 = 22 then s else
        offL now n { keepF (S.offR s.sides.Sender now).2.2 s with accepted := s.accepted + 1, sides.Sender := (S.offR s.sides.Sender now).2.1 }) else s
theorem off_ok {s : Sender} {n : Int} (h : S.PA s n) (hn : n < 1000) (t : Int) : sender_Offer s Frame.z t = some (S.offR s t) :=
  S.offer_e h.fit Frame.z (by simp [Frame.z]) t (by have := h.1; omega)
theorem offer_loop (now : Int) (s0 : SS) (d : List Bool) : ∀ (m n k : Nat) (N : Nat) (s : SS), Wt N s → s.many - s.accepted ≤ m → m < n → m ≤ k → s.out = s0.out →
    (∃ o, session_session_offer_L2 now s0 d n s = some o ∧ (o = Ex.ret (offL now k s) ∨ o = Ex.go (offL now k s))) ∧ Wt N (offL now k s)  := by
  intro m n k
  induction k generalizing m n with
  | zero =>
    intro N s h hm hn hk ho
    obtain ⟨n, rfl⟩ : ∃ q, n = q + 1 := ⟨n - 1, by omega⟩
    refine ⟨?_, h⟩
    rw [session_session_offer_L2, decide_eq_false (by omega), Bool.false_and, cond_false]
    exact ⟨_, rfl, .inr rfl⟩
  | succ k ih =>
    intro N s h hm hn hk ho
    obtain ⟨n, rfl⟩ : ∃ q, n = q + 1 := ⟨n - 1, by omega⟩
    rw [session_session_offer_L2]
    unfold offL
    by_cases hc : s.accepted < s.many ∧ s.err = 0
    · have hcb : (decide (s.accepted < s.many) && (s.err == 0)) = true := by simpa using hc
      have ha := h.acc
      have hma := h.many
      rw [hcb, cond_true, if_pos hc, off_ok h.A (by omega), bindS]
      by_cases h22 : (S.offR s.sides.Sender now).2.2 = 22
      · rw [show ((S.offR s.sides.Sender now).2.2 == 22) = true by simpa using h22, cond_true, if_pos h22]
        exact ⟨⟨_, rfl, .inl rfl⟩, h⟩
      · rw [show ((S.offR s.sides.Sender now).2.2 == 22) = false by simpa using h22, cond_false, if_neg h22, keep_e, bindS]
        have e : ({ s with out.Acked := s0.out.Acked, out.Delivered := s0.out.Delivered, out.Dropped := s0.out.Dropped } : SS) = s := by rw [← ho]
        rw [e]
        obtain ⟨m, rfl⟩ : ∃ q, m = q + 1 := ⟨m - 1, by omega⟩
        have hA := S.off_p h.A (by omega) now
        have hnn := h.A.nn
        have hw : Wt N { keepF (S.offR s.sides.Sender now).2.2 s with accepted := s.accepted + 1, sides.Sender := (S.offR s.sides.Sender now).2.1 } := ⟨hA, h.B, h.D, h.K, h.X, h.N, by simp only; omega, h.many⟩
        have ew : IntKind.wrap .i64 ((keepF (S.offR s.sides.Sender now).2.2 s).accepted + 1) = s.accepted + 1 := wrapI (by simp only [keepF]; omega) (by simp only [keepF]; omega)
        rw [ew]
        exact ih m n N _ hw (by simp only [keepF]; omega) (by omega) (by omega) ho
    · have hcb : (decide (s.accepted < s.many) && (s.err == 0)) = false := by rw [Bool.eq_false_iff]; simpa using hc
      rw [hcb, cond_false, if_neg hc]
      exact ⟨⟨_, rfl, .inr rfl⟩, h⟩
theorem offer_e {N : Nat} {s : SS} (h : Wt N s) (h0 : 0 ≤ s.accepted) (now : Int) (d : List Bool) : session_session_offer now s d = some (offL now 200 s) ∧ Wt N (offL now 200 s) := by
  have hma := h.many
  obtain ⟨⟨o, e, ho⟩, hw⟩ := offer_loop now s d 200 big 200 N s h (by omega) (big_lt (by omega)) (Nat.le_refl _) rfl
  refine ⟨?_, hw⟩
  unfold session_session_offer
  rw [e, bindS]
  rcases ho with rfl | rfl <;> rfl

def putsF (now : Int) : List Frame → SS → List Bool → SS × List Bool
  | [], s, d => (s, d)
  | f :: l, s, d => if (drawF d).1 = true then putsF now l s (drawF d).2 else
      if (R.putF s.sides.Reorder f now).2.2 = 0 then putsF now l { s with sides.Reorder := (R.putF s.sides.Reorder f now).2.1, out.Delivered := s.out.Delivered ++ rel s.plan (R.putF s.sides.Reorder f now).1 } (drawF d).2
      else putsF now l s (drawF d).2
theorem send_loop (x : List Frame × Sender × Int) (now : Int) (s0 : SS) (hx : x.1.length ≤ 1000) : ∀ (l : List Frame) (i n : Nat) (N : Nat) (s : SS) (d : List Bool) (D : List Int), x.1.drop i = l → l.length < n → (∀ f ∈ l, f.Body = []) → Wt N { s with out.Delivered := D } → N + 1000 * l.length ≤ 899000000 → s.out.Acked = s0.out.Acked → s.out.Dropped = s0.out.Dropped →
    (∃ r, session_session_send_L3 x now s0 n (s, d, D, (i : Int)) = some r ∧ { r.1 with out.Delivered := r.2.2 } = (putsF now l { s with out.Delivered := D } d).1 ∧ r.2.1 = (putsF now l { s with out.Delivered := D } d).2 ∧ r.2.2 = (putsF now l { s with out.Delivered := D } d).1.out.Delivered) ∧ Wt (N + 1000 * l.length) (putsF now l { s with out.Delivered := D } d).1 := by
  intro l
  induction l with
  | nil =>
    intro i n N s d D h hn hb hw hN h1 h2
    obtain ⟨n, rfl⟩ : ∃ q, n = q + 1 := ⟨n - 1, by simp at hn; omega⟩
    refine ⟨?_, by simpa [putsF] using hw⟩
    rw [session_session_send_L3, ge_dec (drop_n h), cond_false]
    exact ⟨_, rfl, rfl, rfl, rfl⟩
  | cons f l ih =>
    intro i n N s d D h hn hb hw hN h1 h2
    obtain ⟨n, rfl⟩ : ∃ q, n = q + 1 := ⟨n - 1, by simp at hn; omega⟩
    obtain ⟨q1, q2, q3⟩ := drop_c h
    simp only [List.length_cons] at hn hN
    have hbl : ∀ g ∈ l, g.Body = [] := fun g hg => hb g (by simp [hg])
    have hf := hb f (by simp)
    have hN' : N + 1000 ≤ 900000000 := by omega
    have hN3 : N ≤ N + 1000 := by omega
    rw [session_session_send_L3, lt_dec q3]
    simp only [cond_true, idxN, q1, bindS, draw_e, putsF]
    rw [wrapN (by omega)]
    by_cases hd : (drawF d).1 = true
    · rw [hd, cond_true, if_pos rfl]
      obtain ⟨a, b⟩ := ih (i + 1) n N s (drawF d).2 D q2 (by omega) hbl hw (by omega) h1 h2
      exact ⟨a, b.mono (by simp; omega) (by simp; omega)⟩
    · rw [Bool.not_eq_true] at hd
      have hp := R.put_e s.sides.Reorder hw.B.fit f (by rw [hf]; simp) now
      rw [hd, cond_false, if_neg (by decide), hp, bindS]
      by_cases he : (R.putF s.sides.Reorder f now).2.2 = 0
      · obtain ⟨p1, p2⟩ := R.put_p hw.B f hf now
        have hD := hw.D
        simp only at p1 p2 hD
        rw [show ((R.putF s.sides.Reorder f now).2.2 == 0) = true by simpa using he, cond_true, if_pos he]
        rw [← h1, ← h2, released_e _ _ _ (by omega) (by simp only; omega), bindS]
        have hw' : Wt (N + 1000) { ({ s with sides.Reorder := (R.putF s.sides.Reorder f now).2.1 } : SS) with out.Delivered := D ++ rel s.plan (R.putF s.sides.Reorder f now).1 } := by
          refine ⟨hw.A, p1, ?_, Nat.le_trans hw.K hN3, Nat.le_trans hw.X hN3, hN', hw.acc, hw.many⟩
          simp only [List.length_append, rel_len]; omega
        have := ih (i + 1) n (N + 1000) { s with out.Delivered := D, sides.Reorder := (R.putF s.sides.Reorder f now).2.1 } (drawF d).2 (D ++ rel s.plan (R.putF s.sides.Reorder f now).1) q2 (by omega) hbl hw' (by omega) h1 h2
        obtain ⟨a, b⟩ := this
        exact ⟨a, b.mono (by simp; omega) (by simp; omega)⟩
      · rw [show ((R.putF s.sides.Reorder f now).2.2 == 0) = false by simpa using he, cond_false, if_neg he]
        obtain ⟨a, b⟩ := ih (i + 1) n N s (drawF d).2 D q2 (by omega) hbl hw (by omega) h1 h2
        exact ⟨a, b.mono (by simp; omega) (by simp; omega)⟩

def sendF (now : Int) (s : SS) (d : List Bool) : SS × List Bool :=
  putsF now (S.pikR s.sides.Sender s.plan.Burst).1 { keepF (S.pikR s.sides.Sender s.plan.Burst).2.2 s with sides.Sender := (S.pikR s.sides.Sender s.plan.Burst).2.1 } d
theorem send_e {N : Nat} {s : SS} (h : Wt N s) (hN : N ≤ 898000000) (now : Int) (d : List Bool) :
    (∃ r, session_session_send now s d = some r ∧ r.1 = ((S.pikR s.sides.Sender s.plan.Burst).1.length : Int) ∧ { r.2.1 with out.Delivered := r.2.2.2 } = (sendF now s d).1 ∧ r.2.2.1 = (sendF now s d).2 ∧ r.2.2.2 = (sendF now s d).1.out.Delivered) ∧ Wt (N + 250000) (sendF now s d).1 := by
  obtain ⟨a1, a2, a3⟩ := S.pick_p h.A s.plan.Burst
  have hl := h.acc
  have hw : Wt N { keepF (S.pikR s.sides.Sender s.plan.Burst).2.2 s with sides.Sender := (S.pikR s.sides.Sender s.plan.Burst).2.1 } := (h.keep _).upA a1
  obtain ⟨⟨r, e1, e2, e3, e4⟩, e5⟩ := send_loop (S.pikR s.sides.Sender s.plan.Burst) now s (by omega) (S.pikR s.sides.Sender s.plan.Burst).1 0 big N { keepF (S.pikR s.sides.Sender s.plan.Burst).2.2 s with sides.Sender := (S.pikR s.sides.Sender s.plan.Burst).2.1 } d s.out.Delivered List.drop_zero (big_lt (by clear hw; omega)) a3 hw (by clear hw; omega) rfl rfl
  refine ⟨?_, e5.mono (by omega) (by omega)⟩
  unfold session_session_send
  rw [show sender_Pick s.sides.Sender s.plan.Burst = some (S.pikR s.sides.Sender s.plan.Burst) from S.pick_e h.A.fit _, bindS, keep_e, bindS]
  simp only [Int.natCast_zero] at e1
  rw [e1, bindS]
  exact ⟨_, rfl, rfl, e2, e3, e4⟩

def repF (s : SS) (d : List Bool) : SS × List Bool :=
  if (drawF d).1 = true then ({ keepF (S.lostR s.sides.Sender).2 s with sides.Sender := (S.lostR s.sides.Sender).1 }, (drawF d).2)
  else ({ keepF (S.ackR s.sides.Sender (R.repR s.sides.Reorder).1).2.2 (keepF (R.repR s.sides.Reorder).2 s) with sides.Sender := (S.ackR s.sides.Sender (R.repR s.sides.Reorder).1).2.1, out.Acked := s.out.Acked ++ idxs s.plan (S.ackR s.sides.Sender (R.repR s.sides.Reorder).1).1 }, (drawF d).2)
theorem report_e {N : Nat} {s : SS} (h : Wt N s) (hN : N ≤ 899000000) (d : List Bool) :
    (∃ r, session_session_report s d = some r ∧ { r.1 with out.Acked := r.2.2 } = (repF s d).1 ∧ r.2.1 = (repF s d).2 ∧ r.2.2 = (repF s d).1.out.Acked) ∧ Wt (N + 1000) (repF s d).1 := by
  have hK := h.K
  have ha := h.acc
  unfold session_session_report repF
  rw [draw_e, bindS]
  by_cases hd : (drawF d).1 = true
  · rw [hd, cond_true, if_pos rfl, show sender_Lost s.sides.Sender = some (S.lostR s.sides.Sender) from S.lost_e h.A.fit, bindS, keep_e, bindS]
    exact ⟨⟨_, rfl, rfl, rfl, rfl⟩, ((h.keep _).upA (S.lost_p h.A)).mono (by omega) (by omega)⟩
  · rw [Bool.not_eq_true] at hd
    obtain ⟨a1, a2⟩ := S.ack_p h.A (R.repR s.sides.Reorder).1
    rw [hd, cond_false, if_neg (by decide), show reorder_Report s.sides.Reorder = some (R.repR s.sides.Reorder) from R.report_e _ h.B.fit.1, bindS, keep_e, bindS]
    rw [show sender_Acked (keepF (R.repR s.sides.Reorder).2 s).sides.Sender (R.repR s.sides.Reorder).1 = some (S.ackR s.sides.Sender (R.repR s.sides.Reorder).1) from S.acked_e h.A.fit h.A.len _, bindS, keep_e, bindS, indices_e _ _ _ (by omega), bindS, chk_d (by rw [idxs_len]; omega), bindS]
    refine ⟨⟨_, rfl, rfl, rfl, rfl⟩, ?_⟩
    refine ⟨a1, h.B, by have := h.D; exact Nat.le_trans this (by omega), ?_, by have := h.X; exact Nat.le_trans this (by omega), by omega, ha, h.many⟩
    simp only [List.length_append, idxs_len]; omega
end Go.AX.Z.TN

/-! (TNH) -/

set_option linter.unusedVariables false
set_option linter.unusedSimpArgs false
set_option maxRecDepth 20000
namespace Go.AX.Z.TN
open Go.AX

structure Sm (s t : SS) : Prop where
  plan : t.plan = s.plan
  many : t.many = s.many
  rounds : t.out.Rounds = s.out.Rounds
theorem Sm.refl (s : SS) : Sm s s := ⟨rfl, rfl, rfl⟩
theorem Sm.trans {s t u : SS} (h : Sm s t) (g : Sm t u) : Sm s u := ⟨g.plan.trans h.plan, g.many.trans h.many, g.rounds.trans h.rounds⟩
theorem offL_sm (now : Int) : ∀ (n : Nat) (s : SS), Sm s (offL now n s) ∧ (offL now n s).out = s.out ∧ (0 ≤ s.accepted → 0 ≤ (offL now n s).accepted)
  | 0, s => ⟨.refl s, rfl, id⟩
  | n + 1, s => by
    unfold offL
    split
    · split
      · exact ⟨.refl s, rfl, id⟩
      · obtain ⟨a, b, c⟩ := offL_sm now n { keepF (S.offR s.sides.Sender now).2.2 s with accepted := s.accepted + 1, sides.Sender := (S.offR s.sides.Sender now).2.1 }
        exact ⟨⟨a.plan, a.many, a.rounds⟩, b, fun h => c (by simp only; omega)⟩
    · exact ⟨.refl s, rfl, id⟩
theorem putsF_sm (now : Int) : ∀ (l : List Frame) (s : SS) (d : List Bool), Sm s (putsF now l s d).1 ∧ (putsF now l s d).1.out.Acked = s.out.Acked ∧ (putsF now l s d).1.out.Dropped = s.out.Dropped ∧ (putsF now l s d).1.accepted = s.accepted
  | [], s, d => ⟨.refl s, rfl, rfl, rfl⟩
  | f :: l, s, d => by
    unfold putsF
    split
    · exact putsF_sm now l s _
    · split
      · obtain ⟨a, b, c, e⟩ := putsF_sm now l { s with sides.Reorder := (R.putF s.sides.Reorder f now).2.1, out.Delivered := s.out.Delivered ++ rel s.plan (R.putF s.sides.Reorder f now).1 } (drawF d).2
        exact ⟨⟨a.plan, a.many, a.rounds⟩, b, c, e⟩
      · exact putsF_sm now l s _
theorem sendF_sm (now : Int) (s : SS) (d : List Bool) : Sm s (sendF now s d).1 ∧ (sendF now s d).1.out.Acked = s.out.Acked ∧ (sendF now s d).1.out.Dropped = s.out.Dropped ∧ (sendF now s d).1.accepted = s.accepted := by
  obtain ⟨a, b, c, e⟩ := putsF_sm now (S.pikR s.sides.Sender s.plan.Burst).1 { keepF (S.pikR s.sides.Sender s.plan.Burst).2.2 s with sides.Sender := (S.pikR s.sides.Sender s.plan.Burst).2.1 } d
  exact ⟨⟨a.plan, a.many, a.rounds⟩, b, c, e⟩
theorem repF_sm (s : SS) (d : List Bool) : Sm s (repF s d).1 ∧ (repF s d).1.out.Delivered = s.out.Delivered ∧ (repF s d).1.out.Dropped = s.out.Dropped ∧ (repF s d).1.accepted = s.accepted := by
  unfold repF
  split
  · exact ⟨⟨rfl, rfl, rfl⟩, rfl, rfl, rfl⟩
  · exact ⟨⟨rfl, rfl, rfl⟩, rfl, rfl, rfl⟩

def rxF (now : Int) (s : SS) : SS :=
  { keepF (R.expF s.sides.Reorder now).2.2 s with sides.Reorder := (R.expF s.sides.Reorder now).2.1, out.Delivered := s.out.Delivered ++ rel s.plan (R.expF s.sides.Reorder now).1, out.Rounds := s.out.Rounds + 1 }
def rpF (n : Nat) (q : SS × List Bool) : SS × List Bool := if 0 < n then repF q.1 q.2 else q
def restF (now : Int) (s : SS) (d : List Bool) : SS × List Bool :=
  let t := offL now 200 s
  let q := rpF (S.pikR t.sides.Sender t.plan.Burst).1.length (sendF now t d)
  (rxF now q.1, q.2)

def code (now : Int) (s : SS) (d : List Bool) (K0 D0 X0 : List Int) : Option (Session_session × List Bool × List Int × List Int × List Int) :=
    ((session_session_offer now s d).bind fun x45 =>
    ((session_session_send now { x45 with out.Acked := K0, out.Delivered := D0, out.Dropped := X0 } d).bind fun x46 =>
    ((
      bif decide (0 < x46.1) then
        ((session_session_report { x46.2.1 with out.Acked := K0, out.Delivered := x46.2.2.2, out.Dropped := X0 } x46.2.2.1).bind fun x48 =>
        some (x48.1, x48.2.1, x48.2.2))
      else
        some (x46.2.1, x46.2.2.1, K0)).bind fun d47 =>
    ((reorder_Expire d47.1.sides.Reorder now).bind fun x49 =>
    ((session_session_keep x49.2.2 { d47.1 with out.Acked := d47.2.2, out.Delivered := x46.2.2.2, out.Dropped := X0 } d47.2.1).bind fun x50 =>
    ((session_session_released x49.1 { x50 with out.Acked := d47.2.2, out.Delivered := x46.2.2.2, out.Dropped := X0, sides.Reorder := x49.2.1 } d47.2.1).bind fun x51 =>
    some ({ x50 with out.Acked := d47.2.2, out.Delivered := x46.2.2.2, out.Dropped := X0, out.Rounds := IntKind.wrap .i64 (x50.out.Rounds + 1), sides.Reorder := x49.2.1 }, d47.2.1, x51, d47.2.2, X0)))))))

abbrev full (r : Session_session × List Bool × List Int × List Int × List Int) : SS := { r.1 with out.Delivered := r.2.2.1, out.Acked := r.2.2.2.1, out.Dropped := r.2.2.2.2 }
def Gv (c : Option (Session_session × List Bool × List Int × List Int × List Int)) (q : SS × List Bool) : Prop := ∃ r, c = some r ∧ full r = q.1 ∧ r.2.1 = q.2

theorem tail_e {N : Nat} {now : Int} {s : SS} (h : Wt N s) (hN : N ≤ 899000000) (hr : 0 ≤ s.out.Rounds ∧ s.out.Rounds ≤ 2000) (y : SS) (d : List Bool) (K0 D0 X0 : List Int) (hy : { y with out.Acked := K0, out.Delivered := D0, out.Dropped := X0 } = s) :
    Gv ((reorder_Expire y.sides.Reorder now).bind fun x49 =>
    ((session_session_keep x49.2.2 { y with out.Acked := K0, out.Delivered := D0, out.Dropped := X0 } d).bind fun x50 =>
    ((session_session_released x49.1 { x50 with out.Acked := K0, out.Delivered := D0, out.Dropped := X0, sides.Reorder := x49.2.1 } d).bind fun x51 =>
    some ({ x50 with out.Acked := K0, out.Delivered := D0, out.Dropped := X0, out.Rounds := IntKind.wrap .i64 (x50.out.Rounds + 1), sides.Reorder := x49.2.1 }, d, x51, K0, X0)))) (rxF now s, d) ∧ Wt (N + 1000) (rxF now s) := by
  subst hy
  obtain ⟨p1, p2⟩ := R.exp_p h.B now
  have hD := h.D
  simp only at p1 p2 hD hr
  constructor
  · rw [R.expire_e y.sides.Reorder h.B.fit, bindS, keep_e, bindS, released_e _ _ _ (by omega) (by simp only; omega), bindS]
    refine ⟨_, rfl, ?_, rfl⟩
    have : IntKind.wrap .i64 (y.out.Rounds + 1) = y.out.Rounds + 1 := wrapI (by omega) (by omega)
    simp only [full, keepF, rxF]
    rw [this]
  · refine ⟨h.A, p1, ?_, Nat.le_trans h.K (Nat.le_add_right _ _), Nat.le_trans h.X (Nat.le_add_right _ _), by omega, h.acc, h.many⟩
    simp only [rxF, List.length_append, rel_len]; omega

theorem code_e {N : Nat} {now : Int} {s : SS} (h : Wt N s) (h0 : 0 ≤ s.accepted) (hN : N ≤ 898000000) (hr : 0 ≤ s.out.Rounds ∧ s.out.Rounds ≤ 2000) (d : List Bool) :
    Gv (code now s d s.out.Acked s.out.Delivered s.out.Dropped) (restF now s d) ∧ Wt (N + 252000) (restF now s d).1 := by
  obtain ⟨o1, o2⟩ := offer_e h h0 now d
  obtain ⟨m1, m2, m3⟩ := offL_sm now 200 s
  unfold code
  rw [o1, bindS]
  have e : ({ offL now 200 s with out.Acked := s.out.Acked, out.Delivered := s.out.Delivered, out.Dropped := s.out.Dropped } : SS) = offL now 200 s := by rw [← m2]
  rw [e]
  obtain ⟨⟨r, r1, r2, r3, r4, r5⟩, w⟩ := send_e o2 hN now d
  obtain ⟨k1, k2, k3, k4⟩ := sendF_sm now (offL now 200 s) d
  rw [r1, bindS]
  have hD : (sendF now (offL now 200 s) d).1.out.Delivered = r.2.2.2 := r5.symm
  have hK : r.2.1.out.Acked = s.out.Acked := by
    have : ({ r.2.1 with out.Delivered := r.2.2.2 } : SS).out.Acked = _ := (congrArg (fun z : SS => z.out.Acked) r3).trans (k2.trans (by rw [m2]))
    exact this
  have hX : r.2.1.out.Dropped = s.out.Dropped := by
    have : ({ r.2.1 with out.Delivered := r.2.2.2 } : SS).out.Dropped = _ := (congrArg (fun z : SS => z.out.Dropped) r3).trans (k3.trans (by rw [m2]))
    exact this
  have e2 : ({ r.2.1 with out.Acked := s.out.Acked, out.Delivered := r.2.2.2, out.Dropped := s.out.Dropped } : SS) = (sendF now (offL now 200 s) d).1 := by
    rw [← r3, ← hK, ← hX]
  have hrr : (sendF now (offL now 200 s) d).1.out.Rounds = s.out.Rounds := k1.rounds.trans m1.rounds
  rw [r2]
  unfold restF rpF
  by_cases hn : 0 < (S.pikR (offL now 200 s).sides.Sender (offL now 200 s).plan.Burst).1.length
  · rw [decide_eq_true (by omega), cond_true]
    simp only [if_pos hn]
    rw [e2, r4]
    obtain ⟨⟨q, q1, q2, q3, q4⟩, w2⟩ := report_e w (by omega) (sendF now (offL now 200 s) d).2
    obtain ⟨j1, j2, j3, j4⟩ := repF_sm (sendF now (offL now 200 s) d).1 (sendF now (offL now 200 s) d).2
    rw [q1, bindS, bindS]
    have hD2 : q.1.out.Delivered = r.2.2.2 := by
      have : ({ q.1 with out.Acked := q.2.2 } : SS).out.Delivered = _ := (congrArg (fun z : SS => z.out.Delivered) q2).trans (j2.trans hD)
      exact this
    have hX2 : q.1.out.Dropped = s.out.Dropped := by
      have : ({ q.1 with out.Acked := q.2.2 } : SS).out.Dropped = _ := (congrArg (fun z : SS => z.out.Dropped) q2).trans (j3.trans (k3.trans (by rw [m2])))
      exact this
    have e3 : ({ q.1 with out.Acked := q.2.2, out.Delivered := r.2.2.2, out.Dropped := s.out.Dropped } : SS) = (repF (sendF now (offL now 200 s) d).1 (sendF now (offL now 200 s) d).2).1 := by
      rw [← q2, ← hD2, ← hX2]
    have := tail_e (now := now) w2 (by omega) (by rw [j1.rounds, hrr]; exact hr) q.1 q.2.1 q.2.2 r.2.2.2 s.out.Dropped e3
    rw [← q3]
    exact ⟨this.1, this.2.mono (by omega) (by omega)⟩
  · rw [decide_eq_false (by omega), cond_false]
    simp only [if_neg hn]
    rw [bindS]
    have := tail_e (now := now) w (by omega) (by rw [hrr]; exact hr) r.2.1 r.2.2.1 s.out.Acked r.2.2.2 s.out.Dropped e2
    rw [r4] at this ⊢
    exact ⟨this.1, this.2.mono (by omega) (by omega)⟩

def exF (now : Int) (s : SS) : SS :=
  { keepF (S.expR s.sides.Sender now).2.2 s with sides.Sender := (S.expR s.sides.Sender now).2.1, out.Dropped := s.out.Dropped ++ idxs s.plan (S.expR s.sides.Sender now).1 }
def bdF (s : SS) : SS := { keepF (S.barR s.sides.Sender).2 s with sides.Sender := (S.barR s.sides.Sender).1 }
def barrF (s : SS) (d : List Bool) : SS × List Bool :=
  if s.sides.Sender.Bar = true then (if (drawF d).1 = true then (s, (drawF d).2) else (bdF (moveF (S.startR s.sides.Sender) s), (drawF d).2)) else (s, d)
def nowF (s : SS) : Int := s.out.Rounds * s.plan.Round
def roundF (s : SS) (d : List Bool) : SS × List Bool := restF (nowF s) (barrF (exF (nowF s) s) d).1 (barrF (exF (nowF s) s) d).2

theorem exF_w {N : Nat} {s : SS} (h : Wt N s) (hN : N ≤ 899000000) (now : Int) : Wt (N + 1000) (exF now s) := by
  obtain ⟨a1, a2⟩ := S.exp_p h.A now
  have ha := h.acc
  have hX := h.X
  refine ⟨a1, h.B, Nat.le_trans h.D (Nat.le_add_right _ _), Nat.le_trans h.K (Nat.le_add_right _ _), ?_, by omega, h.acc, h.many⟩
  simp only [exF, List.length_append, idxs_len]; omega

theorem bindGv {A : Option (Session_session × List Int)} {K : Session_session × List Int → Option (Session_session × List Bool × List Int × List Int × List Int)} {Q : SS × List Bool} {v : Session_session × List Int} (h : A = some v) (g : Gv (K v) Q) : Gv (A.bind K) Q := by
  subst h; exact g

theorem round_e {N : Nat} {s : SS} (h : Wt N s) (h0 : 0 ≤ s.accepted) (hN : N ≤ 897000000) (hr : 0 ≤ s.out.Rounds ∧ s.out.Rounds ≤ 2000) (hp : 0 ≤ s.plan.Round ∧ s.plan.Round ≤ 1000000) (d : List Bool) :
    Gv (session_session_round s d) (roundF s d) ∧ Wt (N + 256000) (roundF s d).1 := by
  have hw1 := exF_w h (by omega) (nowF s)
  obtain ⟨a1, a2⟩ := S.exp_p h.A (nowF s)
  have hX := h.X
  have ha := h.acc
  have hnow : IntKind.wrap .i64 (s.out.Rounds * s.plan.Round) = nowF s := by
    have h1 : 0 ≤ s.out.Rounds * s.plan.Round := Int.mul_nonneg hr.1 hp.1
    have h2 : s.out.Rounds * s.plan.Round ≤ 2000 * 1000000 := Int.mul_le_mul hr.2 hp.2 hp.1 (by omega)
    exact wrapI (by omega) (by omega)
  unfold session_session_round
  rw [hnow, show sender_Expire s.sides.Sender (nowF s) = some (S.expR s.sides.Sender (nowF s)) from S.expire_e h.A.fit h.A.len _, bindS, keep_e, bindS, indices_e _ _ _ (by omega), bindS, chk_d (by rw [idxs_len]; omega), bindS]
  unfold roundF barrF
  show Gv (bif (exF (nowF s) s).sides.Sender.Bar then _ else _) _ ∧ _
  cases hb : (exF (nowF s) s).sides.Sender.Bar with
  | false =>
    rw [cond_false, if_neg (by decide)]
    have := code_e (now := nowF s) (s := exF (nowF s) s) hw1 h0 (by omega) hr d
    exact ⟨this.1, this.2.mono (by omega) (by omega)⟩
  | true =>
    rw [cond_true, if_pos rfl, draw_e, bindS]
    cases hd : (drawF d).1 with
    | true =>
      rw [if_pos rfl, Bool.not_true, cond_false, bindS]
      have := code_e (now := nowF s) (s := exF (nowF s) s) hw1 h0 (by omega) hr (drawF d).2
      exact ⟨this.1, this.2.mono (by omega) (by omega)⟩
    | false =>
      rw [if_neg (by decide), Bool.not_false, cond_true]
      obtain ⟨⟨m, m1, m2, m3⟩, w2⟩ := move_e hw1 (by omega) (S.startR (exF (nowF s) s).sides.Sender) (drawF d).2
      have w3 : Wt (N + 1000 + 1000) (bdF (moveF (S.startR (exF (nowF s) s).sides.Sender) (exF (nowF s) s))) := (w2.keep _).upA (S.bar_p w2.A)
      have hS : m.1.sides.Sender = (moveF (S.startR (exF (nowF s) s).sides.Sender) (exF (nowF s) s)).sides.Sender := by
        have := congrArg (fun z : SS => z.sides.Sender) m2; exact this
      have hfix : ({ m.1 with out.Acked := s.out.Acked, out.Delivered := m.2, out.Dropped := s.out.Dropped ++ idxs s.plan (S.expR s.sides.Sender (nowF s)).1 } : SS) = moveF (S.startR (exF (nowF s) s).sides.Sender) (exF (nowF s) s) := by
        have q1 : m.1.out.Acked = s.out.Acked := by
          have := congrArg (fun z : SS => z.out.Acked) m2; exact this
        have q2 : m.1.out.Dropped = s.out.Dropped ++ idxs s.plan (S.expR s.sides.Sender (nowF s)).1 := by
          have := congrArg (fun z : SS => z.out.Dropped) m2; exact this
        rw [← m2, ← q1, ← q2]
      have key : ((((sender_Start (S.expR s.sides.Sender (nowF s)).2.1).bind fun x41 =>
        ((session_session_move x41 { keepF (S.expR s.sides.Sender (nowF s)).2.2 s with out.Acked := s.out.Acked, out.Delivered := s.out.Delivered, out.Dropped := (s.out.Dropped ++ idxs s.plan (S.expR s.sides.Sender (nowF s)).1), sides.Sender := (S.expR s.sides.Sender (nowF s)).2.1 } (drawF d).2).bind fun x42 =>
        ((sender_Barred x42.1.sides.Sender).bind fun x43 =>
        ((session_session_keep x43.2 { x42.1 with out.Acked := s.out.Acked, out.Delivered := x42.2, out.Dropped := (s.out.Dropped ++ idxs s.plan (S.expR s.sides.Sender (nowF s)).1), sides.Sender := x43.1 } (drawF d).2).bind fun x44 =>
        some (x44, x42.2)))))) : Option (Session_session × List Int)) = some (bdF (moveF (S.startR (exF (nowF s) s).sides.Sender) (exF (nowF s) s)), m.2) := by
        rw [S.start_r a1, bindS]
        show ((session_session_move (S.startR (exF (nowF s) s).sides.Sender) (exF (nowF s) s) (drawF d).2).bind _) = _
        rw [m1, bindS, hS, show sender_Barred (moveF (S.startR (exF (nowF s) s).sides.Sender) (exF (nowF s) s)).sides.Sender = some (S.barR (moveF (S.startR (exF (nowF s) s).sides.Sender) (exF (nowF s) s)).sides.Sender) from S.barred_e w2.A.fit, bindS, keep_e, bindS]
        unfold bdF
        rw [← hfix]; rfl
      have := code_e (now := nowF s) (s := bdF (moveF (S.startR (exF (nowF s) s).sides.Sender) (exF (nowF s) s))) w3 h0 (by omega) hr (drawF d).2
      refine ⟨bindGv key ?_, this.2.mono (by omega) (by omega)⟩
      have g := this.1
      unfold code at g
      rw [m3]
      exact g
end Go.AX.Z.TN

/-! (TNJ) -/

set_option linter.unusedVariables false
set_option linter.unusedSimpArgs false
set_option maxRecDepth 20000
namespace Go.AX.Z.TN
open Go.AX

/-! ## The end, the beginning, a run -/

def rng (a m : Int) : List Int := (List.range (m - a).toNat).map fun (i : Nat) => a + (i : Int)
theorem rng_cons {a m : Int} (h : a < m) : rng a m = a :: rng (a + 1) m := by
  unfold rng
  have : (m - a).toNat = (m - (a + 1)).toNat + 1 := by omega
  rw [this, List.range_succ_eq_map, List.map_cons, List.map_map]
  congr 1
  · simp
  · apply List.map_congr_left
    intro i _
    simp only [Function.comp]; omega
theorem rng_nil {a m : Int} (h : m ≤ a) : rng a m = [] := by
  unfold rng
  have : (m - a).toNat = 0 := by omega
  rw [this]; rfl
theorem rng_len (a m : Int) : (rng a m).length = (m - a).toNat := by simp [rng]
theorem close_loop (s : SS) (hm : s.many ≤ 200) : ∀ (k n : Nat) (a : Int) (acc : List Int), (s.many - a).toNat = k → k < n → 0 ≤ a → acc.length + k ≤ 1000000000 → session_session_close_L4 s n (acc, a) = some (acc ++ rng a s.many) := by
  intro k
  induction k with
  | zero =>
    intro n a acc hk hn ha hc
    obtain ⟨n, rfl⟩ : ∃ q, n = q + 1 := ⟨n - 1, by omega⟩
    rw [session_session_close_L4, decide_eq_false (by simp only; omega), cond_false, rng_nil (by omega), List.append_nil]
  | succ k ih =>
    intro n a acc hk hn ha hc
    obtain ⟨n, rfl⟩ : ∃ q, n = q + 1 := ⟨n - 1, by omega⟩
    rw [session_session_close_L4, decide_eq_true (by simp only; omega), cond_true]
    simp only
    rw [chk_d (by omega), bindS, wrapI (by omega) (by omega), ih n (a + 1) _ (by omega) (by omega) (by omega) (by simp; omega), rng_cons (a := a) (by omega)]
    simp

def clF (s : SS) : SS := { keepF (S.closeR s.sides.Sender).2.2 s with sides.Sender := (S.closeR s.sides.Sender).2.1, out.Dropped := s.out.Dropped ++ idxs s.plan (S.closeR s.sides.Sender).1 ++ rng s.accepted s.many }
def closeF (s : SS) : SS := moveF (S.closeR s.sides.Sender).2.1.Next (clF s)
theorem close_e {N : Nat} {s : SS} (h : Wt N s) (h0 : 0 ≤ s.accepted) (hN : N ≤ 898000000) (d : List Bool) :
    (∃ r, session_session_close s d = some r ∧ { r.1 with out.Delivered := r.2.1, out.Dropped := r.2.2 } = closeF s ∧ r.2.1 = (closeF s).out.Delivered ∧ r.2.2 = (closeF s).out.Dropped) ∧ Wt (N + 2000) (closeF s) := by
  obtain ⟨a1, a2⟩ := S.close_p h.A
  have ha := h.acc
  have hm := h.many
  have hX := h.X
  have hw : Wt (N + 1000) (clF s) := by
    refine ⟨a1, h.B, Nat.le_trans h.D (Nat.le_add_right _ _), Nat.le_trans h.K (Nat.le_add_right _ _), ?_, by omega, h.acc, h.many⟩
    simp only [clF, List.length_append, idxs_len, rng_len]; omega
  obtain ⟨⟨m, m1, m2, m3⟩, w2⟩ := move_e hw (by omega) (S.closeR s.sides.Sender).2.1.Next d
  refine ⟨?_, w2.mono (by omega) (by omega)⟩
  unfold session_session_close
  rw [show sender_Close s.sides.Sender = some (S.closeR s.sides.Sender) from S.close_e h.A.fit, bindS, keep_e, bindS, indices_e _ _ _ (by omega), bindS, chk_d (by rw [idxs_len]; omega), bindS, close_loop (keepF (S.closeR s.sides.Sender).2.2 s) hm _ big (keepF (S.closeR s.sides.Sender).2.2 s).accepted _ rfl (big_lt (by simp only [keepF]; omega)) h0 (by simp only [List.length_append, idxs_len, keepF]; omega), bindS]
  show ∃ r, ((session_session_move (S.closeR s.sides.Sender).2.1.Next (clF s) d).bind _) = _ ∧ _
  rw [m1, bindS]
  have hX2 : m.1.out.Dropped = (clF s).out.Dropped := by
    have := congrArg (fun z : SS => z.out.Dropped) m2; exact this
  refine ⟨_, rfl, ?_, m3, rfl⟩
  show ({ m.1 with out.Delivered := m.2, out.Dropped := (clF s).out.Dropped } : SS) = closeF s
  unfold closeF
  rw [← m2, ← hX2]

def PlanOk (p : SessionPlan) : Prop := (0 ≤ p.Start ∧ p.Start ≤ 4095) ∧ (1 ≤ p.Size ∧ p.Size ≤ 64) ∧ (1 ≤ p.Limit ∧ p.Limit ≤ 16) ∧ (1 ≤ p.Burst ∧ p.Burst ≤ 64) ∧ (1 ≤ p.Life ∧ p.Life ≤ 1073741824) ∧ (0 ≤ p.Hold ∧ p.Hold ≤ 16777216) ∧ (1 ≤ p.Round ∧ p.Round ≤ 1000000)
instance (p : SessionPlan) : Decidable (PlanOk p) := by unfold PlanOk; infer_instance
theorem plan_e (p : SessionPlan) : session_Check p = some (if PlanOk p then 0 else 8) := by
  unfold session_Check
  simp only [session_within, bindS]
  have b1 : ∀ (a b : Bool), (bif a then some b else some false) = some (a && b) := by intro a b; cases a <;> rfl
  simp only [b1, bindS]
  by_cases h : PlanOk p
  · obtain ⟨⟨a1, a2⟩, ⟨a3, a4⟩, ⟨a5, a6⟩, ⟨a7, a8⟩, ⟨a9, a10⟩, ⟨a11, a12⟩, a13, a14⟩ := h
    rw [if_pos ⟨⟨a1, a2⟩, ⟨a3, a4⟩, ⟨a5, a6⟩, ⟨a7, a8⟩, ⟨a9, a10⟩, ⟨a11, a12⟩, a13, a14⟩]
    simp only [a1, a2, a3, a4, a5, a6, a7, a8, a9, a10, a11, a12, a13, a14, decide_true, Bool.and_self, Bool.not_true, Bool.or_self, cond_false]
  · rw [if_neg h]
    cases hc : (!((((decide (0 ≤ p.Start) && decide (p.Start ≤ 4095)) && (decide (1 ≤ p.Size) && decide (p.Size ≤ 64))) && (decide (1 ≤ p.Limit) && decide (p.Limit ≤ 16))) && (decide (1 ≤ p.Burst) && decide (p.Burst ≤ 64))) || !(((decide (1 ≤ p.Life) && decide (p.Life ≤ 1073741824)) && (decide (0 ≤ p.Hold) && decide (p.Hold ≤ 16777216))) && (decide (1 ≤ p.Round) && decide (p.Round ≤ 1000000))))
    · exfalso
      apply h
      simp only [Bool.or_eq_false_iff, Bool.not_eq_false', Bool.and_eq_true, decide_eq_true_eq] at hc
      unfold PlanOk; omega
    · rfl

def A0 (p : SessionPlan) : Sender := { Sender.z with Life := p.Life, Limit := p.Limit, Next := p.Start, Phase := 2, Size := p.Size, Token := 1 }
def B0 (p : SessionPlan) : Reorder := { Reorder.z with Hold := p.Hold, Seen := { Window.z with Start := p.Start }, Size := p.Size, Start := p.Start }
def init (p : SessionPlan) (many : Int) : SS := { Session_session.z with many := many, plan := p }
theorem A0_valid {p : SessionPlan} (hp : PlanOk p) (t ph sz : Int) (ht : 0 ≤ t ∧ t ≤ 255) (hph : 0 ≤ ph ∧ ph ≤ 2) (hsz : if ph = 0 then sz = 0 else 1 ≤ sz ∧ sz ≤ 64) : S.Valid { A0 p with Token := t, Phase := ph, Size := sz } := by
  obtain ⟨h1, h2, h3, h4, h5, h6, h7⟩ := hp
  have e : S.startOf { A0 p with Token := t, Phase := ph, Size := sz } = p.Start := rfl
  refine ⟨by simp [A0, Sender.z], hph.2, ht, h1, h3, h5, hsz, fun _ => ⟨rfl, rfl⟩, ?_, trivial⟩
  rw [e]
  show dist p.Start p.Start ≤ sz
  have : dist p.Start p.Start = 0 := by unfold dist; simp
  rw [this]
  split at hsz <;> omega
theorem begin_e {p : SessionPlan} (hp : PlanOk p) (many : Int) (d : List Bool) : session_session_begin (init p many) d = some { init p many with sides := ⟨A0 p, B0 p⟩ } := by
  have v0 : S.Valid (S.newS 0 p.Start p.Limit p.Life) := A0_valid hp 0 0 0 (by omega) (by omega) rfl
  have f0 := S.newS_fit 0 p.Start p.Limit p.Life
  have k1 : S.tok (S.newS 0 p.Start p.Limit p.Life) = 1 := by
    show IntKind.wrap .i64 ((0 : Int).tmod 255 + 1) = 1; decide
  obtain ⟨h1, h2, h3, h4, h5, h6, h7⟩ := hp
  have hp : PlanOk p := ⟨h1, h2, h3, h4, h5, h6, h7⟩
  have e1 : S.askS (S.newS 0 p.Start p.Limit p.Life) p.Size = { A0 p with Token := 1, Phase := 1 } := by
    unfold S.askS; rw [k1]; rfl
  have v1 : S.Valid ({ A0 p with Token := 1, Phase := 1 } : Sender) := A0_valid hp 1 1 p.Size (by omega) (by omega) h2
  have hb : R.VR (B0 p) := ⟨⟨⟨h1.1, by show p.Start < 4096; omega⟩, h2.1, h2.2, h6.1, h6.2, h1.1, by show p.Start < 4096; omega⟩, trivial⟩
  unfold session_session_begin
  rw [show (init p many).plan = p from rfl, S.new_e, if_pos v0, bindS, keep_e, bindS]
  simp only
  rw [S.ask_e f0, if_pos v0, if_pos h2, if_neg (show ¬ (S.newS 0 p.Start p.Limit p.Life).Phase = 2 from (by decide : ¬ (0 : Int) = 2)), bindS, keep_e, bindS]
  simp only
  rw [e1, S.answer_e ⟨by simp [A0, Sender.z], by simp [A0, Sender.z]⟩, if_pos v1, if_pos rfl, if_pos ⟨k1, rfl⟩, if_neg (by rintro ⟨_, q⟩; exact q ⟨h2.1, Int.le_refl _⟩), bindS, keep_e, bindS]
  unfold reorder_New
  rw [show ({ Reorder.z with Hold := p.Hold, Seen := { Window.z with Start := p.Start }, Size := p.Size, Start := p.Start } : Reorder) = B0 p from rfl, R.check_e _ (by simp [B0, Reorder.z]), if_pos hb, bindS, bne_self_eq_false, cond_false, bindS, keep_e, bindS]
  rfl

def runL : Nat → SS → List Bool → SS × List Bool
  | 0, s, d => (s, d)
  | n + 1, s, d => if s.err = 0 ∧ (s.accepted < s.many ∨ s.sides.Sender.Out ≠ [] ∨ s.sides.Sender.Bar = true) then
      (if s.out.Rounds = 2000 then (closeF s, d) else runL n (roundF s d).1 (roundF s d).2) else (s, d)

theorem restF_sm (now : Int) (s : SS) (d : List Bool) : (restF now s d).1.plan = s.plan ∧ (restF now s d).1.many = s.many ∧ (restF now s d).1.out.Rounds = s.out.Rounds + 1 ∧ (0 ≤ s.accepted → 0 ≤ (restF now s d).1.accepted) := by
  obtain ⟨m1, m2, m3⟩ := offL_sm now 200 s
  obtain ⟨k1, k2, k3, k4⟩ := sendF_sm now (offL now 200 s) d
  have hs := m1.trans k1
  have q : Sm s (rpF (S.pikR (offL now 200 s).sides.Sender (offL now 200 s).plan.Burst).1.length (sendF now (offL now 200 s) d)).1 ∧ (rpF (S.pikR (offL now 200 s).sides.Sender (offL now 200 s).plan.Burst).1.length (sendF now (offL now 200 s) d)).1.accepted = (sendF now (offL now 200 s) d).1.accepted := by
    unfold rpF
    split
    · obtain ⟨j1, j2, j3, j4⟩ := repF_sm (sendF now (offL now 200 s) d).1 (sendF now (offL now 200 s) d).2
      exact ⟨hs.trans j1, j4⟩
    · exact ⟨hs, rfl⟩
  refine ⟨q.1.plan, q.1.many, ?_, fun h => ?_⟩
  · show (rpF _ _).1.out.Rounds + 1 = _
    rw [q.1.rounds]
  · show 0 ≤ (rpF _ _).1.accepted
    rw [q.2, k4]; exact m3 h
theorem roundF_sm (s : SS) (d : List Bool) : (roundF s d).1.plan = s.plan ∧ (roundF s d).1.many = s.many ∧ (roundF s d).1.out.Rounds = s.out.Rounds + 1 ∧ (0 ≤ s.accepted → 0 ≤ (roundF s d).1.accepted) := by
  have hb : (barrF (exF (nowF s) s) d).1.plan = s.plan ∧ (barrF (exF (nowF s) s) d).1.many = s.many ∧ (barrF (exF (nowF s) s) d).1.out.Rounds = s.out.Rounds ∧ (barrF (exF (nowF s) s) d).1.accepted = s.accepted := by
    unfold barrF
    split
    · split
      · exact ⟨rfl, rfl, rfl, rfl⟩
      · exact ⟨rfl, rfl, rfl, rfl⟩
    · exact ⟨rfl, rfl, rfl, rfl⟩
  obtain ⟨a, b, c, e⟩ := restF_sm (nowF s) (barrF (exF (nowF s) s) d).1 (barrF (exF (nowF s) s) d).2
  exact ⟨a.trans hb.1, b.trans hb.2.1, c.trans (by rw [hb.2.2.1]), fun h => e (by rw [hb.2.2.2]; exact h)⟩

theorem run_loop (many : Int) (hm : 0 ≤ many ∧ many ≤ 200) : ∀ (k n N : Nat) (s : SS) (d : List Bool) (x : SS) (D K X : List Int), { x with out.Delivered := D, out.Acked := K, out.Dropped := X } = s → Wt N s → 0 ≤ s.accepted → s.many = many → 0 ≤ s.out.Rounds → s.out.Rounds + k = 2000 → (0 ≤ s.plan.Round ∧ s.plan.Round ≤ 1000000) → N + 256000 * k ≤ 800000000 → k < n →
    ∃ r, session_Run_L4 many n (x, d, D, K, X) = some r ∧ { r.1 with out.Delivered := r.2.2.1, out.Acked := r.2.2.2.1, out.Dropped := r.2.2.2.2 } = (runL (k + 1) s d).1 := by
  intro k
  induction k with
  | zero =>
    intro n N s d x D K X hx hw ha hmy hr hk hp hN hn
    obtain ⟨n, rfl⟩ : ∃ q, n = q + 1 := ⟨n - 1, by omega⟩
    rw [session_Run_L4]
    subst hx
    unfold runL
    by_cases hc : x.err = 0 ∧ (x.accepted < many ∨ x.sides.Sender.Out ≠ [] ∨ x.sides.Sender.Bar = true)
    · have hcb : ((x.err == 0) && (((decide (x.accepted < many)) || (decide (0 < ((x.sides.Sender.Out.length : Nat) : Int)))) || x.sides.Sender.Bar)) = true := by
        obtain ⟨h1, h2⟩ := hc
        rw [h1]
        rcases h2 with h2 | h2 | h2
        · simp [h2]
        · have : 0 < x.sides.Sender.Out.length := List.length_pos_iff.2 h2
          simp [this]
        · simp [h2]
      have hcs : ({ x with out.Delivered := D, out.Acked := K, out.Dropped := X } : SS).err = 0 ∧ (({ x with out.Delivered := D, out.Acked := K, out.Dropped := X } : SS).accepted < ({ x with out.Delivered := D, out.Acked := K, out.Dropped := X } : SS).many ∨ ({ x with out.Delivered := D, out.Acked := K, out.Dropped := X } : SS).sides.Sender.Out ≠ [] ∨ ({ x with out.Delivered := D, out.Acked := K, out.Dropped := X } : SS).sides.Sender.Bar = true) := by
        rw [hmy]; exact hc
      have hR : x.out.Rounds = 2000 := by simp only at hk; omega
      rw [if_pos hcs, if_pos hR]
      simp only [hcb, cond_true]
      rw [show (x.out.Rounds == 2000) = true by simpa using hR, cond_true]
      obtain ⟨⟨r, r1, r2, r3, r4⟩, w⟩ := close_e hw ha (by omega) d
      rw [r1, bindS]
      refine ⟨_, rfl, ?_⟩
      have hK : r.1.out.Acked = K := by
        have := congrArg (fun z : SS => z.out.Acked) r2; exact this
      simp only
      rw [← r2, ← hK]
    · have hcb : ((x.err == 0) && (((decide (x.accepted < many)) || (decide (0 < ((x.sides.Sender.Out.length : Nat) : Int)))) || x.sides.Sender.Bar)) = false := by
        rw [Bool.eq_false_iff]
        intro q
        apply hc
        simp only [Bool.and_eq_true, beq_iff_eq, Bool.or_eq_true, decide_eq_true_eq] at q
        refine ⟨q.1, ?_⟩
        rcases q.2 with (q | q) | q
        · exact .inl q
        · exact .inr (.inl (List.length_pos_iff.1 (by omega)))
        · exact .inr (.inr q)
      have hcs : ¬ (({ x with out.Delivered := D, out.Acked := K, out.Dropped := X } : SS).err = 0 ∧ (({ x with out.Delivered := D, out.Acked := K, out.Dropped := X } : SS).accepted < ({ x with out.Delivered := D, out.Acked := K, out.Dropped := X } : SS).many ∨ ({ x with out.Delivered := D, out.Acked := K, out.Dropped := X } : SS).sides.Sender.Out ≠ [] ∨ ({ x with out.Delivered := D, out.Acked := K, out.Dropped := X } : SS).sides.Sender.Bar = true)) := by
        rw [hmy]; exact hc
      rw [if_neg hcs]
      simp only [hcb, cond_false]
      exact ⟨_, rfl, rfl⟩
  | succ k ih =>
    intro n N s d x D K X hx hw ha hmy hr hk hp hN hn
    obtain ⟨n, rfl⟩ : ∃ q, n = q + 1 := ⟨n - 1, by omega⟩
    rw [session_Run_L4]
    subst hx
    unfold runL
    by_cases hc : x.err = 0 ∧ (x.accepted < many ∨ x.sides.Sender.Out ≠ [] ∨ x.sides.Sender.Bar = true)
    · have hcb : ((x.err == 0) && (((decide (x.accepted < many)) || (decide (0 < ((x.sides.Sender.Out.length : Nat) : Int)))) || x.sides.Sender.Bar)) = true := by
        obtain ⟨h1, h2⟩ := hc
        rw [h1]
        rcases h2 with h2 | h2 | h2
        · simp [h2]
        · have : 0 < x.sides.Sender.Out.length := List.length_pos_iff.2 h2
          simp [this]
        · simp [h2]
      have hcs : ({ x with out.Delivered := D, out.Acked := K, out.Dropped := X } : SS).err = 0 ∧ (({ x with out.Delivered := D, out.Acked := K, out.Dropped := X } : SS).accepted < ({ x with out.Delivered := D, out.Acked := K, out.Dropped := X } : SS).many ∨ ({ x with out.Delivered := D, out.Acked := K, out.Dropped := X } : SS).sides.Sender.Out ≠ [] ∨ ({ x with out.Delivered := D, out.Acked := K, out.Dropped := X } : SS).sides.Sender.Bar = true) := by
        rw [hmy]; exact hc
      have hR : x.out.Rounds ≠ 2000 := by simp only at hk; omega
      rw [if_pos hcs, if_neg hR]
      simp only [hcb, cond_true]
      rw [show (x.out.Rounds == 2000) = false by simpa using hR, cond_false]
      obtain ⟨⟨r, r1, r2, r3⟩, w⟩ := round_e hw ha (by omega) ⟨hr, by simp only at hk ⊢; omega⟩ hp d
      obtain ⟨z1, z2, z3, z4⟩ := roundF_sm ({ x with out.Delivered := D, out.Acked := K, out.Dropped := X } : SS) d
      have r1' : session_session_round { x with out.Acked := K, out.Delivered := D, out.Dropped := X } d = some r := r1
      rw [r1', bindS]
      have := ih n (N + 256000) (roundF ({ x with out.Delivered := D, out.Acked := K, out.Dropped := X } : SS) d).1 r.2.1 r.1 r.2.2.1 r.2.2.2.1 r.2.2.2.2 r2 w (z4 ha) (z2.trans hmy) (by rw [z3]; simp only at hr ⊢; omega) (by rw [z3]; simp only at hk ⊢; omega) (by rw [z1]; exact hp) (by omega) (by omega)
      rw [r3] at this
      rw [r3]
      exact this
    · have hcb : ((x.err == 0) && (((decide (x.accepted < many)) || (decide (0 < ((x.sides.Sender.Out.length : Nat) : Int)))) || x.sides.Sender.Bar)) = false := by
        rw [Bool.eq_false_iff]
        intro q
        apply hc
        simp only [Bool.and_eq_true, beq_iff_eq, Bool.or_eq_true, decide_eq_true_eq] at q
        refine ⟨q.1, ?_⟩
        rcases q.2 with (q | q) | q
        · exact .inl q
        · exact .inr (.inl (List.length_pos_iff.1 (by omega)))
        · exact .inr (.inr q)
      have hcs : ¬ (({ x with out.Delivered := D, out.Acked := K, out.Dropped := X } : SS).err = 0 ∧ (({ x with out.Delivered := D, out.Acked := K, out.Dropped := X } : SS).accepted < ({ x with out.Delivered := D, out.Acked := K, out.Dropped := X } : SS).many ∨ ({ x with out.Delivered := D, out.Acked := K, out.Dropped := X } : SS).sides.Sender.Out ≠ [] ∨ ({ x with out.Delivered := D, out.Acked := K, out.Dropped := X } : SS).sides.Sender.Bar = true)) := by
        rw [hmy]; exact hc
      rw [if_neg hcs]
      simp only [hcb, cond_false]
      exact ⟨_, rfl, rfl⟩

def start (p : SessionPlan) (many : Int) : SS := { init p many with sides := ⟨A0 p, B0 p⟩ }
def runF (p : SessionPlan) (many : Int) (d : List Bool) : SessionResult × Int :=
  if PlanOk p then (if 0 ≤ many ∧ many ≤ 200 then
    (if (runL 2001 (start p many) d).1.err = 0 then ((runL 2001 (start p many) d).1.out, 0) else (SessionResult.z, (runL 2001 (start p many) d).1.err))
    else (SessionResult.z, 4)) else (SessionResult.z, 8)
theorem run_e (p : SessionPlan) (many : Int) (d : List Bool) : session_Run p many d = some (runF p many d) := by
  unfold session_Run runF
  rw [plan_e, bindS]
  by_cases hp : PlanOk p
  · rw [if_pos hp, if_pos hp, bne_self_eq_false, cond_false]
    simp only [session_within, bindS]
    by_cases hm : 0 ≤ many ∧ many ≤ 200
    · rw [if_pos hm, show (!(decide (0 ≤ many) && decide (many ≤ 200))) = false by simp [hm], cond_false]
      rw [show ({ Session_session.z with many := many, out.Acked := ([] : List Int), out.Delivered := ([] : List Int), out.Dropped := ([] : List Int), plan := p } : SS) = init p many from rfl, begin_e hp, bindS]
      have hw : Wt 0 (start p many) := ⟨⟨by simp [start, init, A0, Sender.z, Session_session.z], by simp [start, init, Session_session.z], by simp [start, A0, Sender.z]⟩, ⟨by simp [start, B0, Reorder.z], by simp [start, B0, Reorder.z]⟩, by simp [start, init, Session_session.z, SessionResult.z], by simp [start, init, Session_session.z, SessionResult.z], by simp [start, init, Session_session.z, SessionResult.z], by omega, by simp [start, init, Session_session.z], hm.2⟩
      obtain ⟨r, r1, r2⟩ := run_loop many hm 2000 big 0 (start p many) d (start p many) [] [] [] rfl hw (Int.le_refl _) rfl (Int.le_refl _) rfl (by have := hp.2.2.2.2.2.2; show 0 ≤ p.Round ∧ p.Round ≤ 1000000; omega) (by omega) (big_lt (by omega))
      rw [show ({ init p many with sides := ⟨A0 p, B0 p⟩ } : SS) = start p many from rfl, r1, bindS]
      have he : r.1.err = (runL 2001 (start p many) d).1.err := by
        have := congrArg (fun z : SS => z.err) r2; exact this
      rw [he]
      by_cases h0 : (runL 2001 (start p many) d).1.err = 0
      · rw [if_pos h0, h0, bne_self_eq_false, cond_false]
        have := congrArg (fun z : SS => z.out) r2
        simp only at this
        rw [← this]
      · rw [if_neg h0, show ((runL 2001 (start p many) d).1.err != 0) = true by simpa using h0]; rfl
    · rw [if_neg hm, show (!(decide (0 ≤ many) && decide (many ≤ 200))) = true by simp; omega]; rfl
  · rw [if_neg hp, if_neg hp]; rfl
end Go.AX.Z.TN

/-! (TNL) -/

set_option linter.unusedVariables false
set_option linter.unusedSimpArgs false
set_option maxRecDepth 20000
namespace Go.AX.Z.TN
open Go.AX

theorem alive_e : hotspotlaw20_alive = some true := by decide +kernel

def Rd (d e : List Bool) : Prop := ∀ i, d.getD i false = e.getD i false
theorem Rd.draw {d e : List Bool} (h : Rd d e) : (drawF d).1 = (drawF e).1 ∧ Rd (drawF d).2 (drawF e).2 := by
  have g : ∀ l : List Bool, (drawF l).1 = l.getD 0 false ∧ ∀ i, (drawF l).2.getD i false = l.getD (i + 1) false := by
    intro l; cases l with
    | nil => exact ⟨rfl, fun i => by simp [drawF]⟩
    | cons b l => exact ⟨rfl, fun i => by simp [drawF]⟩
  exact ⟨by rw [(g d).1, (g e).1]; exact h 0, fun i => by rw [(g d).2, (g e).2]; exact h _⟩
def Rq (q r : SS × List Bool) : Prop := q.1 = r.1 ∧ Rd q.2 r.2
theorem putsF_d (now : Int) : ∀ (l : List Frame) (s : SS) (d e : List Bool), Rd d e → Rq (putsF now l s d) (putsF now l s e)
  | [], s, d, e, h => ⟨rfl, h⟩
  | f :: l, s, d, e, h => by
    obtain ⟨h1, h2⟩ := h.draw
    unfold putsF
    rw [h1]
    split
    · exact putsF_d now l s _ _ h2
    · split
      · exact putsF_d now l _ _ _ h2
      · exact putsF_d now l s _ _ h2
theorem repF_d (s : SS) (d e : List Bool) (h : Rd d e) : Rq (repF s d) (repF s e) := by
  obtain ⟨h1, h2⟩ := h.draw
  unfold repF
  rw [h1]
  split
  · exact ⟨rfl, h2⟩
  · exact ⟨rfl, h2⟩
theorem rpF_d (n : Nat) {q r : SS × List Bool} (h : Rq q r) : Rq (rpF n q) (rpF n r) := by
  unfold rpF
  split
  · rw [h.1]; exact repF_d _ _ _ h.2
  · exact h
theorem restF_d (now : Int) (s : SS) {d e : List Bool} (h : Rd d e) : Rq (restF now s d) (restF now s e) := by
  have := rpF_d (S.pikR (offL now 200 s).sides.Sender (offL now 200 s).plan.Burst).1.length (q := sendF now (offL now 200 s) d) (r := sendF now (offL now 200 s) e) (putsF_d now _ _ _ _ h)
  exact ⟨congrArg (rxF now) this.1, this.2⟩
theorem barrF_d (s : SS) {d e : List Bool} (h : Rd d e) : Rq (barrF s d) (barrF s e) := by
  obtain ⟨h1, h2⟩ := h.draw
  unfold barrF
  rw [h1]
  split
  · split
    · exact ⟨rfl, h2⟩
    · exact ⟨rfl, h2⟩
  · exact ⟨rfl, h⟩
theorem roundF_d (s : SS) {d e : List Bool} (h : Rd d e) : Rq (roundF s d) (roundF s e) := by
  obtain ⟨h1, h2⟩ := barrF_d (exF (nowF s) s) h
  unfold roundF
  rw [h1]; exact restF_d _ _ h2
theorem runL_d : ∀ (n : Nat) (s : SS) (d e : List Bool), Rd d e → (runL n s d).1 = (runL n s e).1
  | 0, s, d, e, h => rfl
  | n + 1, s, d, e, h => by
    obtain ⟨h1, h2⟩ := roundF_d s h
    unfold runL
    rw [h1]
    split
    · split
      · rfl
      · exact runL_d n _ _ _ h2
    · rfl
theorem runF_d (p : SessionPlan) (many : Int) {d e : List Bool} (h : Rd d e) : runF p many d = runF p many e := by
  unfold runF
  rw [runL_d 2001 _ d e h]

def Mod (r : SessionResult) : Prop := r.Delivered.length ≤ 900000000 ∧ r.Acked.length ≤ 900000000 ∧ r.Dropped.length ≤ 900000000
theorem runL_w : ∀ (k N : Nat) (s : SS) (d : List Bool), Wt N s → 0 ≤ s.accepted → 0 ≤ s.out.Rounds → s.out.Rounds + k = 2000 → (0 ≤ s.plan.Round ∧ s.plan.Round ≤ 1000000) → N + 256000 * k ≤ 800000000 → Wt 900000000 (runL (k + 1) s d).1 := by
  intro k
  induction k with
  | zero =>
    intro N s d hw ha hr hk hp hN
    unfold runL
    split
    · rw [if_pos (by omega)]
      exact (close_e hw ha (by omega) d).2.mono (by omega) (by omega)
    · exact hw.mono hw.N (Nat.le_refl _)
  | succ k ih =>
    intro N s d hw ha hr hk hp hN
    unfold runL
    split
    · rw [if_neg (by omega)]
      obtain ⟨z1, z2, z3, z4⟩ := roundF_sm s d
      exact ih (N + 256000) _ _ (round_e hw ha (by omega) ⟨hr, by omega⟩ hp d).2 (z4 ha) (by rw [z3]; omega) (by rw [z3]; omega) (by rw [z1]; exact hp) (by omega)
    · exact hw.mono hw.N (Nat.le_refl _)
theorem start_w (p : SessionPlan) (many : Int) (hm : many ≤ 200) : Wt 0 (start p many) := ⟨⟨by simp [start, init, A0, Sender.z, Session_session.z], by simp [start, init, Session_session.z], by simp [start, A0, Sender.z]⟩, ⟨by simp [start, B0, Reorder.z], by simp [start, B0, Reorder.z]⟩, by simp [start, init, Session_session.z, SessionResult.z], by simp [start, init, Session_session.z, SessionResult.z], by simp [start, init, Session_session.z, SessionResult.z], by omega, by simp [start, init, Session_session.z], hm⟩
theorem z_mod : Mod SessionResult.z := ⟨by simp [SessionResult.z], by simp [SessionResult.z], by simp [SessionResult.z]⟩
theorem run_mod (p : SessionPlan) (many : Int) (d : List Bool) : Mod (runF p many d).1 := by
  unfold runF
  split
  · rename_i hp
    split
    · rename_i hm
      split
      · have : Wt 900000000 (runL (2000 + 1) (start p many) d).1 := runL_w 2000 0 (start p many) d (start_w p many hm.2) (Int.le_refl _) (Int.le_refl _) (by show (0 : Int) + ((2000 : Nat) : Int) = 2000; omega) (by have := hp.2.2.2.2.2.2; show 0 ≤ p.Round ∧ p.Round ≤ 1000000; omega) (by decide)
        exact ⟨this.D, this.K, this.X⟩
      · exact z_mod
    · exact z_mod
  · exact z_mod

theorem ints_loop (a : List Int) (hs : a.length ≤ 900000000) : ∀ (l : List Int) (i n : Nat), a.drop i = l → l.length < n → hotspotref17_SameInts_L2 a a n (i : Int) = some (Ex.go ()) := by
  intro l
  induction l with
  | nil =>
    intro i n h hn
    obtain ⟨n, rfl⟩ : ∃ q, n = q + 1 := ⟨n - 1, by simp at hn; omega⟩
    rw [hotspotref17_SameInts_L2, ge_dec (drop_n h)]; rfl
  | cons x l ih =>
    intro i n h hn
    obtain ⟨n, rfl⟩ : ∃ q, n = q + 1 := ⟨n - 1, by simp at hn; omega⟩
    obtain ⟨h1, h2, h3⟩ := drop_c h
    simp only [List.length_cons] at hn
    rw [hotspotref17_SameInts_L2, lt_dec h3]
    simp only [cond_true, idxN, h1, bindS, bne_self_eq_false, cond_false]
    rw [wrapN (by omega)]
    exact ih (i + 1) n h2 (by omega)
theorem ints_e (a : List Int) (h : a.length ≤ 900000000) : hotspotref17_SameInts a a = some true := by
  unfold hotspotref17_SameInts
  have := ints_loop a h a 0 big rfl (big_lt (by omega))
  simp only [Int.natCast_zero] at this
  rw [bne_self_eq_false, cond_false, this, bindS]; rfl
theorem same_e (r : SessionResult) (h : Mod r) : hotspotref20_Same r r = some true := by
  unfold hotspotref20_Same
  rw [beq_self_eq_true, cond_true, ints_e _ h.1, bindS, bindS, cond_true, ints_e _ h.2.1, bindS, bindS, cond_true, ints_e _ h.2.2, bindS, bindS]

theorem draws_loop (a : List Bool) (hs : a.length ≤ 5000) : ∀ (l : List Bool) (i n : Nat), a.drop i = l → l.length < n → hotspotlaw20_SessionDraws_L4 a n (i : Int) = some () := by
  intro l
  induction l with
  | nil =>
    intro i n h hn
    obtain ⟨n, rfl⟩ : ∃ q, n = q + 1 := ⟨n - 1, by simp at hn; omega⟩
    rw [hotspotlaw20_SessionDraws_L4, ge_dec (drop_n h)]; rfl
  | cons x l ih =>
    intro i n h hn
    obtain ⟨n, rfl⟩ : ∃ q, n = q + 1 := ⟨n - 1, by simp at hn; omega⟩
    obtain ⟨h1, h2, h3⟩ := drop_c h
    simp only [List.length_cons] at hn
    rw [hotspotlaw20_SessionDraws_L4, lt_dec h3]
    simp only [cond_true, idxN, h1, bindS]
    rw [wrapN (by omega)]
    exact ih (i + 1) n h2 (by omega)
theorem drawsAll (p : SessionPlan) (many : Int) (d : List Bool) : hotspotlaw20_SessionDraws p many d = some true := by
  unfold hotspotlaw20_SessionDraws
  rw [alive_e, bindS]
  by_cases h : 5000 < d.length
  · rw [decide_eq_true (by omega : (5000 : Int) < (d.length : Int))]; rfl
  · have hl := draws_loop d (by omega) d 0 big rfl (big_lt (by omega))
    simp only [Int.natCast_zero] at hl
    have hR : Rd d (d ++ [false, false, false]) := by
      intro i
      simp only [List.getD_eq_getElem?_getD, List.getElem?_append]
      split
      · rfl
      · rename_i hi
        rw [List.getElem?_eq_none (by omega)]
        rcases Nat.lt_or_ge (i - d.length) 3 with h3 | h3
        · have : i - d.length = 0 ∨ i - d.length = 1 ∨ i - d.length = 2 := by omega
          rcases this with q | q | q <;> rw [q] <;> rfl
        · rw [List.getElem?_eq_none (by simpa using h3)]
    rw [decide_eq_false (by omega : ¬ (5000 : Int) < (d.length : Int)), Bool.not_true, Bool.or_self, cond_false, chk_d (by omega), bindS, run_e, bindS, bindS, chk_d (by omega), bindS, run_e, ← runF_d p many hR, bindS, hl, bindS, beq_self_eq_true, Bool.and_self, cond_true, same_e _ (run_mod p many d)]; rfl
end Go.AX.Z.TN

/-! (TNY) -/

set_option linter.unusedVariables false
namespace Go.AX.Z.TN
open Go.AX Go.Proofs

/-! ## Arguments, read -/

theorem ud3 : K.P.underlying 3 = some (.int .i64) := by kernel_rfl

def W_SessionPlan (B : Nat) (x : SessionPlan) : Prop := ((Lit.int .i64 x.Start).wf = true) ∧ ((Lit.int .i64 x.Size).wf = true) ∧ ((Lit.int .i64 x.Limit).wf = true) ∧ ((Lit.int .i64 x.Life).wf = true) ∧ ((Lit.int .i64 x.Hold).wf = true) ∧ ((Lit.int .i64 x.Burst).wf = true) ∧ ((Lit.int .i64 x.Round).wf = true)

theorem rd23 {B n : Nat} {l : List AV} (h : Ty K.P B n 23 l) : ∃ x : SessionPlan, l = e_SessionPlan x ∧ W_SessionPlan B x := by
  obtain ⟨m, h⟩ := ty_struct Try.underlying23 h
  have h' : TyAll (Ty K.P B m) [3, 3, 3, 3, 3, 3, 3] l := h
  obtain ⟨_, _, rfl, h0, _, _, rfl, h1, _, _, rfl, h2, _, _, rfl, h3, _, _, rfl, h4, _, _, rfl, h5, _, _, rfl, h6, rfl⟩ := h'
  obtain ⟨v0, rfl, w0⟩ := ty_int ud3 h0
  obtain ⟨v1, rfl, w1⟩ := ty_int ud3 h1
  obtain ⟨v2, rfl, w2⟩ := ty_int ud3 h2
  obtain ⟨v3, rfl, w3⟩ := ty_int ud3 h3
  obtain ⟨v4, rfl, w4⟩ := ty_int ud3 h4
  obtain ⟨v5, rfl, w5⟩ := ty_int ud3 h5
  obtain ⟨v6, rfl, w6⟩ := ty_int ud3 h6
  exact ⟨⟨v0, v1, v2, v3, v4, v5, v6⟩, rfl, ⟨w0, w1, w2, w3, w4, w5, w6⟩⟩

theorem ud4 : K.P.underlying 4 = some (.bool) := by kernel_rfl

theorem ud31 : K.P.underlying 31 = some (.slice 4) := by kernel_rfl

theorem rsl31 {B n : Nat} {x : AV} (h : Ty K.P B n 31 [x]) : ∃ l : (List Bool), x = S_vb l ∧ l.length ≤ B := by
  obtain ⟨l, rfl, h1⟩ := ty_slice_bools ud31 ud4 h
  exact ⟨l, rfl, h1⟩

end Go.AX.Z.TN

/-! (TNU) -/

/- How bulks bound what a reading holds. -/
namespace Go.Proofs.Ytpjogfcpmcbafaa.bulks
open Go.AX

theorem one_le {H : Type} (d : DataW H) : 1 ≤ Rows.uptoBulk d := by
  cases d with
  | lit l => cases l <;> simp [Rows.uptoBulk]
  | nil => simp [Rows.uptoBulk]
  | ptr d => simp [Rows.uptoBulk]
  | slice elems spare => simp [Rows.uptoBulk]
  | agg parts => simp [Rows.uptoBulk]
  | iface t d => simp [Rows.uptoBulk]
  | map entries => simp [Rows.uptoBulk]
  | held h => simp [Rows.uptoBulk]

theorem part_le {H : Type} {d : DataW H} {l : List (DataW H)} (h : d ∈ l) : Rows.uptoBulk d ≤ Rows.uptoBulkAll l := by
  induction l with
  | nil => cases h
  | cons x r ih =>
    simp only [Rows.uptoBulkAll]
    cases List.mem_cons.1 h with
    | inl e => subst e; omega
    | inr e => have := ih e; omega

theorem length_le {H : Type} (l : List (DataW H)) : l.length ≤ Rows.uptoBulkAll l := by
  induction l with
  | nil => simp [Rows.uptoBulkAll]
  | cons x r ih => have := one_le x; simp only [Rows.uptoBulkAll, List.length_cons]; omega

theorem bulk {H : Type} : Bulk (H := H) Rows.uptoBulk where
  ptr d := by simp [Rows.uptoBulk]
  elems es sp d h := by have := part_le h; simp only [Rows.uptoBulk]; omega
  len es sp := by have := length_le es; simp only [Rows.uptoBulk]; omega
  agg ds d h := by have := part_le h; simp only [Rows.uptoBulk]; omega
  str bs := by simp [Rows.uptoBulk]

theorem bound {H : Type} {l : List (DataW H)} (hk : Rows.uptoSmall H l = true) : Rows.uptoBulkAll l ≤ 1048576 := by
  have := of_decide_eq_true hk
  exact this

end Go.Proofs.Ytpjogfcpmcbafaa.bulks

/-! (TNTSessionDraws) -/

/- SessionDraws: the law returns true whatever its arguments. -/
namespace Go.Proofs.Ytpjogfcpmcbafaa.sessionDraws
open Go.ChangeShapes Go.WideShapes Go.ChangeAt Go.RowKit Go.AX Go.AX.Z Go.AX.Z.TN

theorem own : ownKnob Try.prog.godebug = none := by kernel_rfl
theorem laid : laidOutB K.P = true := by kernel_rfl
theorem par : parB K.P Try.f8.params.toList = true := by kernel_rfl

theorem law (B : Nat) (xs : List AV) (h : TyArgs K.P B Try.f8.params.toList xs) : SndP K 8 xs (.v (.bool true)) := by
  have h' : TyArgs K.P B [23, 3, 31] xs := h
  obtain ⟨_, _, rfl, h0, _, _, rfl, h1, _, _, rfl, h2, rfl⟩ := h'
  obtain ⟨_, _, rfl, qp0⟩ := tyV_ty Try.underlying23 h0
  obtain ⟨p0, rfl, wp0⟩ := rd23 qp0
  obtain ⟨p1, rfl, wp1⟩ := tyV_int ud3 h1
  obtain ⟨_, qp2⟩ := tyV_one ud31 h2
  obtain ⟨p2, rfl, wp2⟩ := rsl31 qp2
  exact hotspotlaw20_SessionDraws_p p0 p1 p2 (drawsAll p0 p1 p2)

set_option maxRecDepth 100000 in
theorem lifted (os : Os) (started : os.Started) (H : Type) (enc : TypeId × Value → H) :
    ReturnsInHanded {} Try.checked os 8 .any (Rows.sessionDrawsSpec.pre6 enc Try.prog Try.f8 Rows.sessionDrawsRow.domain false) (Rows.sessionDrawsSpec.post enc Try.prog Try.f8 false true false false) := by
  refine returnsInHanded_of_change (C := Try.checked) own started (by kernel_rfl) Try.func8
    (ChangeSpec.witness6 (enc := enc) (C := Try.checked) false ⟨#[], #[.agg #[.int .i64 0, .int .i64 0, .int .i64 0, .int .i64 0, .int .i64 0, .int .i64 0, .int .i64 0], .int .i64 0, .slice none 0 0], []⟩ 8 (by kernel_rfl) (by kernel_rfl) (by kernel_rfl) (by kernel_rfl)) ?_
  intro W base args ds gs before hval hW hcnd _
  exact law_contract (C := K) (f := 8) ⟨Try.f8, Try.func8, rfl, by decide +kernel⟩ (fn := Try.f8) (tb := 4) (B := Rows.uptoBulkAll ds) (bk := Rows.uptoBulk) rfl laid par rfl Try.underlying4 (law _) rfl
    (fun ds hds => by match ds, hds with | [d1, d2, d3], _ => rfl) bulks.bulk hval hW (fun d hd => bulks.part_le hd)

theorem over : Rows.SessionDrawsSaid :=
  OpenClaim.holds_of_wide 8 Try.f8 rfl rfl rfl rfl rfl rfl rfl ⟨rfl, rfl, rfl, rfl, rfl⟩ rfl rfl rfl rfl rfl (by kernel_rfl) Try.func8 (by kernel_rfl)
    (of_decide_eq_true (by kernel_rfl)) (by unfold Func.isWrapper; first | (rw [if_pos (by decide +kernel)]; kernel_rfl) | (rw [if_neg (by decide +kernel)]; exact ⟨rfl, rfl⟩))
    (fun os started H enc _ => lifted os started H enc)

end Go.Proofs.Ytpjogfcpmcbafaa.sessionDraws
