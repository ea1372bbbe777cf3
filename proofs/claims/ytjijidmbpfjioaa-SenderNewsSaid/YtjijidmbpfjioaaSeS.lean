/- A part of the proof: SeS. -/
import Derived.Test.YtjijidmbpfjioaaAxZb
namespace Go.AX.SE

abbrev vi (a : Int) : AV := .v (.int .i64 a)
abbrev vu (a : Int) : AV := .v (.int .u8 a)
abbrev vq (a : Int) : AV := .v (.int .u64 a)
abbrev vh (a : Int) : AV := .v (.int .u16 a)
abbrev vw (a : Int) : AV := .v (.int .u32 a)
abbrev vb (b : Bool) : AV := .v (.bool b)
abbrev vnil : AV := .v (.slice none 0 0)

structure A6 where
  a : Int
  b : Int
  c : Int
  d : Int
  e : Int
  f : Int
  deriving DecidableEq, Repr

def A6.z : A6 := ⟨0, 0, 0, 0, 0, 0⟩

def ad (x : A6) : List AV := [vu x.a, vu x.b, vu x.c, vu x.d, vu x.e, vu x.f]

theorem ad_len (x : A6) : (ad x).length = 6 := rfl
theorem ad_take (x : A6) : (ad x).take 6 = ad x := rfl
theorem ad_all (x : A6) (y : A6) : putAt (ad x) 0 (ad y) = ad y := rfl
theorem ad_g_a (x : A6) : (ad x)[0]? = some (vu x.a) := rfl
theorem ad_s_a (x : A6) (v : Int) : (ad x).set 0 (vu v) = ad { x with a := v } := rfl
theorem ad_g_b (x : A6) : (ad x)[1]? = some (vu x.b) := rfl
theorem ad_s_b (x : A6) (v : Int) : (ad x).set 1 (vu v) = ad { x with b := v } := rfl
theorem ad_g_c (x : A6) : (ad x)[2]? = some (vu x.c) := rfl
theorem ad_s_c (x : A6) (v : Int) : (ad x).set 2 (vu v) = ad { x with c := v } := rfl
theorem ad_g_d (x : A6) : (ad x)[3]? = some (vu x.d) := rfl
theorem ad_s_d (x : A6) (v : Int) : (ad x).set 3 (vu v) = ad { x with d := v } := rfl
theorem ad_g_e (x : A6) : (ad x)[4]? = some (vu x.e) := rfl
theorem ad_s_e (x : A6) (v : Int) : (ad x).set 4 (vu v) = ad { x with e := v } := rfl
theorem ad_g_f (x : A6) : (ad x)[5]? = some (vu x.f) := rfl
theorem ad_s_f (x : A6) (v : Int) : (ad x).set 5 (vu v) = ad { x with f := v } := rfl
theorem ad_fz (x : A6) (o : Nat → Ob) (n : Nat) : (ad x).map (fz o (n + 1)) = ad x := rfl
attribute [go_sem] ad_len ad_take ad_all ad_g_a ad_s_a ad_g_b ad_s_b ad_g_c ad_s_c ad_g_d ad_s_d ad_g_e ad_s_e ad_g_f ad_s_f ad_fz

structure Hd where
  kind : Int
  sub : Int
  toDs : Bool
  fromDs : Bool
  more : Bool
  retry : Bool
  sleep : Bool
  moreData : Bool
  prot : Bool
  dur : Int
  a1 : A6
  a2 : A6
  a3 : A6
  a4 : A6
  seq : Int
  frag : Int
  tid : Int
  ack : Int
  amsdu : Bool
  eosp : Bool
  deriving DecidableEq, Repr

def Hd.z : Hd := ⟨0, 0, false, false, false, false, false, false, false, 0, A6.z, A6.z, A6.z, A6.z, 0, 0, 0, 0, false, false⟩

def hd (x : Hd) : List AV := [vu x.kind, vu x.sub, vb x.toDs, vb x.fromDs, vb x.more, vb x.retry, vb x.sleep, vb x.moreData, vb x.prot, vi x.dur] ++ ad x.a1 ++ ad x.a2 ++ ad x.a3 ++ ad x.a4 ++ [vi x.seq, vi x.frag, vi x.tid, vu x.ack, vb x.amsdu, vb x.eosp]

theorem hd_len (x : Hd) : (hd x).length = 40 := rfl
theorem hd_take (x : Hd) : (hd x).take 40 = hd x := rfl
theorem hd_all (x : Hd) (y : Hd) : putAt (hd x) 0 (hd y) = hd y := rfl
theorem hd_g_kind (x : Hd) : (hd x)[0]? = some (vu x.kind) := rfl
theorem hd_s_kind (x : Hd) (v : Int) : (hd x).set 0 (vu v) = hd { x with kind := v } := rfl
theorem hd_g_sub (x : Hd) : (hd x)[1]? = some (vu x.sub) := rfl
theorem hd_s_sub (x : Hd) (v : Int) : (hd x).set 1 (vu v) = hd { x with sub := v } := rfl
theorem hd_g_toDs (x : Hd) : (hd x)[2]? = some (vb x.toDs) := rfl
theorem hd_s_toDs (x : Hd) (v : Bool) : (hd x).set 2 (vb v) = hd { x with toDs := v } := rfl
theorem hd_g_fromDs (x : Hd) : (hd x)[3]? = some (vb x.fromDs) := rfl
theorem hd_s_fromDs (x : Hd) (v : Bool) : (hd x).set 3 (vb v) = hd { x with fromDs := v } := rfl
theorem hd_g_more (x : Hd) : (hd x)[4]? = some (vb x.more) := rfl
theorem hd_s_more (x : Hd) (v : Bool) : (hd x).set 4 (vb v) = hd { x with more := v } := rfl
theorem hd_g_retry (x : Hd) : (hd x)[5]? = some (vb x.retry) := rfl
theorem hd_s_retry (x : Hd) (v : Bool) : (hd x).set 5 (vb v) = hd { x with retry := v } := rfl
theorem hd_g_sleep (x : Hd) : (hd x)[6]? = some (vb x.sleep) := rfl
theorem hd_s_sleep (x : Hd) (v : Bool) : (hd x).set 6 (vb v) = hd { x with sleep := v } := rfl
theorem hd_g_moreData (x : Hd) : (hd x)[7]? = some (vb x.moreData) := rfl
theorem hd_s_moreData (x : Hd) (v : Bool) : (hd x).set 7 (vb v) = hd { x with moreData := v } := rfl
theorem hd_g_prot (x : Hd) : (hd x)[8]? = some (vb x.prot) := rfl
theorem hd_s_prot (x : Hd) (v : Bool) : (hd x).set 8 (vb v) = hd { x with prot := v } := rfl
theorem hd_g_dur (x : Hd) : (hd x)[9]? = some (vi x.dur) := rfl
theorem hd_s_dur (x : Hd) (v : Int) : (hd x).set 9 (vi v) = hd { x with dur := v } := rfl
theorem hd_d_a1 (x : Hd) : ((hd x).drop 10).take 6 = ad x.a1 := rfl
theorem hd_p_a1 (x : Hd) (v : A6) : putAt (hd x) 10 (ad v) = hd { x with a1 := v } := rfl
theorem hd_d_a2 (x : Hd) : ((hd x).drop 16).take 6 = ad x.a2 := rfl
theorem hd_p_a2 (x : Hd) (v : A6) : putAt (hd x) 16 (ad v) = hd { x with a2 := v } := rfl
theorem hd_d_a3 (x : Hd) : ((hd x).drop 22).take 6 = ad x.a3 := rfl
theorem hd_p_a3 (x : Hd) (v : A6) : putAt (hd x) 22 (ad v) = hd { x with a3 := v } := rfl
theorem hd_d_a4 (x : Hd) : ((hd x).drop 28).take 6 = ad x.a4 := rfl
theorem hd_p_a4 (x : Hd) (v : A6) : putAt (hd x) 28 (ad v) = hd { x with a4 := v } := rfl
theorem hd_g_seq (x : Hd) : (hd x)[34]? = some (vi x.seq) := rfl
theorem hd_s_seq (x : Hd) (v : Int) : (hd x).set 34 (vi v) = hd { x with seq := v } := rfl
theorem hd_g_frag (x : Hd) : (hd x)[35]? = some (vi x.frag) := rfl
theorem hd_s_frag (x : Hd) (v : Int) : (hd x).set 35 (vi v) = hd { x with frag := v } := rfl
theorem hd_g_tid (x : Hd) : (hd x)[36]? = some (vi x.tid) := rfl
theorem hd_s_tid (x : Hd) (v : Int) : (hd x).set 36 (vi v) = hd { x with tid := v } := rfl
theorem hd_g_ack (x : Hd) : (hd x)[37]? = some (vu x.ack) := rfl
theorem hd_s_ack (x : Hd) (v : Int) : (hd x).set 37 (vu v) = hd { x with ack := v } := rfl
theorem hd_g_amsdu (x : Hd) : (hd x)[38]? = some (vb x.amsdu) := rfl
theorem hd_s_amsdu (x : Hd) (v : Bool) : (hd x).set 38 (vb v) = hd { x with amsdu := v } := rfl
theorem hd_g_eosp (x : Hd) : (hd x)[39]? = some (vb x.eosp) := rfl
theorem hd_s_eosp (x : Hd) (v : Bool) : (hd x).set 39 (vb v) = hd { x with eosp := v } := rfl
theorem hd_fz (x : Hd) (o : Nat → Ob) (n : Nat) : (hd x).map (fz o (n + 1)) = hd x := rfl
theorem hd_kinds (x : Hd) : kindsOk [some .u8, some .u8, none, none, none, none, none, none, none, some .i64, some .u8, some .u8, some .u8, some .u8, some .u8, some .u8, some .u8, some .u8, some .u8, some .u8, some .u8, some .u8, some .u8, some .u8, some .u8, some .u8, some .u8, some .u8, some .u8, some .u8, some .u8, some .u8, some .u8, some .u8, some .i64, some .i64, some .i64, some .u8, none, none] (hd x) = true := rfl
theorem hd_eq (x y : Hd) : eqCells (hd x) (hd y) = decide (x = y) := by
  rw [Bool.eq_iff_iff]
  simp only [ad, hd, List.cons_append, List.nil_append, List.append_nil, eqCells, eqv, Bool.and_eq_true, beq_iff_eq, decide_eq_true_eq, and_true]
  constructor
  · intro h
    obtain ⟨v1, v2, v3, v4, v5, v6, v7, v8, v9, v10, ⟨v12, v13, v14, v15, v16, v17⟩, ⟨v19, v20, v21, v22, v23, v24⟩, ⟨v26, v27, v28, v29, v30, v31⟩, ⟨v33, v34, v35, v36, v37, v38⟩, v39, v40, v41, v42, v43, v44⟩ := x
    obtain ⟨v45', v46', v47', v48', v49', v50', v51', v52', v53', v54', ⟨v56', v57', v58', v59', v60', v61'⟩, ⟨v63', v64', v65', v66', v67', v68'⟩, ⟨v70', v71', v72', v73', v74', v75'⟩, ⟨v77', v78', v79', v80', v81', v82'⟩, v83', v84', v85', v86', v87', v88'⟩ := y
    simp_all
  · rintro rfl
    simp

attribute [go_sem] hd_len hd_take hd_all hd_g_kind hd_s_kind hd_g_sub hd_s_sub hd_g_toDs hd_s_toDs hd_g_fromDs hd_s_fromDs hd_g_more hd_s_more hd_g_retry hd_s_retry hd_g_sleep hd_s_sleep hd_g_moreData hd_s_moreData hd_g_prot hd_s_prot hd_g_dur hd_s_dur hd_d_a1 hd_p_a1 hd_d_a2 hd_p_a2 hd_d_a3 hd_p_a3 hd_d_a4 hd_p_a4 hd_g_seq hd_s_seq hd_g_frag hd_s_frag hd_g_tid hd_s_tid hd_g_ack hd_s_ack hd_g_amsdu hd_s_amsdu hd_g_eosp hd_s_eosp hd_fz hd_kinds hd_eq

structure Fh where
  h : Hd
  deriving DecidableEq, Repr

def Fh.z : Fh := ⟨Hd.z⟩

def fr (x : Fh) (body : AV) : List AV := hd x.h ++ [body]

theorem fr_len (x : Fh) (body : AV) : (fr x body).length = 41 := rfl
theorem fr_take (x : Fh) (body : AV) : (fr x body).take 41 = fr x body := rfl
theorem fr_all (x : Fh) (body : AV) (y : Fh) (body2 : AV) : putAt (fr x body) 0 (fr y body2) = fr y body2 := rfl
theorem fr_d_h (x : Fh) (body : AV) : (fr x body).take 40 = hd x.h := rfl
theorem fr_p_h (x : Fh) (body : AV) (v : Hd) : putAt (fr x body) 0 (hd v) = fr { x with h := v } body := rfl
theorem fr_g_h_kind (x : Fh) (body : AV) : (fr x body)[0]? = some (vu x.h.kind) := rfl
theorem fr_s_h_kind (x : Fh) (body : AV) (v : Int) : (fr x body).set 0 (vu v) = fr { x with h := { x.h with kind := v } } body := rfl
theorem fr_g_h_sub (x : Fh) (body : AV) : (fr x body)[1]? = some (vu x.h.sub) := rfl
theorem fr_s_h_sub (x : Fh) (body : AV) (v : Int) : (fr x body).set 1 (vu v) = fr { x with h := { x.h with sub := v } } body := rfl
theorem fr_g_h_toDs (x : Fh) (body : AV) : (fr x body)[2]? = some (vb x.h.toDs) := rfl
theorem fr_s_h_toDs (x : Fh) (body : AV) (v : Bool) : (fr x body).set 2 (vb v) = fr { x with h := { x.h with toDs := v } } body := rfl
theorem fr_g_h_fromDs (x : Fh) (body : AV) : (fr x body)[3]? = some (vb x.h.fromDs) := rfl
theorem fr_s_h_fromDs (x : Fh) (body : AV) (v : Bool) : (fr x body).set 3 (vb v) = fr { x with h := { x.h with fromDs := v } } body := rfl
theorem fr_g_h_more (x : Fh) (body : AV) : (fr x body)[4]? = some (vb x.h.more) := rfl
theorem fr_s_h_more (x : Fh) (body : AV) (v : Bool) : (fr x body).set 4 (vb v) = fr { x with h := { x.h with more := v } } body := rfl
theorem fr_g_h_retry (x : Fh) (body : AV) : (fr x body)[5]? = some (vb x.h.retry) := rfl
theorem fr_s_h_retry (x : Fh) (body : AV) (v : Bool) : (fr x body).set 5 (vb v) = fr { x with h := { x.h with retry := v } } body := rfl
theorem fr_g_h_sleep (x : Fh) (body : AV) : (fr x body)[6]? = some (vb x.h.sleep) := rfl
theorem fr_s_h_sleep (x : Fh) (body : AV) (v : Bool) : (fr x body).set 6 (vb v) = fr { x with h := { x.h with sleep := v } } body := rfl
theorem fr_g_h_moreData (x : Fh) (body : AV) : (fr x body)[7]? = some (vb x.h.moreData) := rfl
theorem fr_s_h_moreData (x : Fh) (body : AV) (v : Bool) : (fr x body).set 7 (vb v) = fr { x with h := { x.h with moreData := v } } body := rfl
theorem fr_g_h_prot (x : Fh) (body : AV) : (fr x body)[8]? = some (vb x.h.prot) := rfl
theorem fr_s_h_prot (x : Fh) (body : AV) (v : Bool) : (fr x body).set 8 (vb v) = fr { x with h := { x.h with prot := v } } body := rfl
theorem fr_g_h_dur (x : Fh) (body : AV) : (fr x body)[9]? = some (vi x.h.dur) := rfl
theorem fr_s_h_dur (x : Fh) (body : AV) (v : Int) : (fr x body).set 9 (vi v) = fr { x with h := { x.h with dur := v } } body := rfl
theorem fr_d_h_a1 (x : Fh) (body : AV) : ((fr x body).drop 10).take 6 = ad x.h.a1 := rfl
theorem fr_p_h_a1 (x : Fh) (body : AV) (v : A6) : putAt (fr x body) 10 (ad v) = fr { x with h := { x.h with a1 := v } } body := rfl
theorem fr_d_h_a2 (x : Fh) (body : AV) : ((fr x body).drop 16).take 6 = ad x.h.a2 := rfl
theorem fr_p_h_a2 (x : Fh) (body : AV) (v : A6) : putAt (fr x body) 16 (ad v) = fr { x with h := { x.h with a2 := v } } body := rfl
theorem fr_d_h_a3 (x : Fh) (body : AV) : ((fr x body).drop 22).take 6 = ad x.h.a3 := rfl
theorem fr_p_h_a3 (x : Fh) (body : AV) (v : A6) : putAt (fr x body) 22 (ad v) = fr { x with h := { x.h with a3 := v } } body := rfl
theorem fr_d_h_a4 (x : Fh) (body : AV) : ((fr x body).drop 28).take 6 = ad x.h.a4 := rfl
theorem fr_p_h_a4 (x : Fh) (body : AV) (v : A6) : putAt (fr x body) 28 (ad v) = fr { x with h := { x.h with a4 := v } } body := rfl
theorem fr_g_h_seq (x : Fh) (body : AV) : (fr x body)[34]? = some (vi x.h.seq) := rfl
theorem fr_s_h_seq (x : Fh) (body : AV) (v : Int) : (fr x body).set 34 (vi v) = fr { x with h := { x.h with seq := v } } body := rfl
theorem fr_g_h_frag (x : Fh) (body : AV) : (fr x body)[35]? = some (vi x.h.frag) := rfl
theorem fr_s_h_frag (x : Fh) (body : AV) (v : Int) : (fr x body).set 35 (vi v) = fr { x with h := { x.h with frag := v } } body := rfl
theorem fr_g_h_tid (x : Fh) (body : AV) : (fr x body)[36]? = some (vi x.h.tid) := rfl
theorem fr_s_h_tid (x : Fh) (body : AV) (v : Int) : (fr x body).set 36 (vi v) = fr { x with h := { x.h with tid := v } } body := rfl
theorem fr_g_h_ack (x : Fh) (body : AV) : (fr x body)[37]? = some (vu x.h.ack) := rfl
theorem fr_s_h_ack (x : Fh) (body : AV) (v : Int) : (fr x body).set 37 (vu v) = fr { x with h := { x.h with ack := v } } body := rfl
theorem fr_g_h_amsdu (x : Fh) (body : AV) : (fr x body)[38]? = some (vb x.h.amsdu) := rfl
theorem fr_s_h_amsdu (x : Fh) (body : AV) (v : Bool) : (fr x body).set 38 (vb v) = fr { x with h := { x.h with amsdu := v } } body := rfl
theorem fr_g_h_eosp (x : Fh) (body : AV) : (fr x body)[39]? = some (vb x.h.eosp) := rfl
theorem fr_s_h_eosp (x : Fh) (body : AV) (v : Bool) : (fr x body).set 39 (vb v) = fr { x with h := { x.h with eosp := v } } body := rfl
theorem fr_g_body (x : Fh) (body : AV) : (fr x body)[40]? = some body := rfl
theorem fr_s_body (x : Fh) (body : AV) (v : AV) : (fr x body).set 40 v = fr x v := rfl
theorem fr_fz (x : Fh) (body : AV) (o : Nat → Ob) (n : Nat) : (fr x body).map (fz o (n + 1)) = fr x (fz o (n + 1) body) := rfl

attribute [go_sem] fr_len fr_take fr_all fr_d_h fr_p_h fr_g_h_kind fr_s_h_kind fr_g_h_sub fr_s_h_sub fr_g_h_toDs fr_s_h_toDs fr_g_h_fromDs fr_s_h_fromDs fr_g_h_more fr_s_h_more fr_g_h_retry fr_s_h_retry fr_g_h_sleep fr_s_h_sleep fr_g_h_moreData fr_s_h_moreData fr_g_h_prot fr_s_h_prot fr_g_h_dur fr_s_h_dur fr_d_h_a1 fr_p_h_a1 fr_d_h_a2 fr_p_h_a2 fr_d_h_a3 fr_p_h_a3 fr_d_h_a4 fr_p_h_a4 fr_g_h_seq fr_s_h_seq fr_g_h_frag fr_s_h_frag fr_g_h_tid fr_s_h_tid fr_g_h_ack fr_s_h_ack fr_g_h_amsdu fr_s_h_amsdu fr_g_h_eosp fr_s_h_eosp fr_g_body fr_s_body fr_fz

structure Uh where
  at_ : Int
  tries : Int
  fly : Bool
  h : Hd
  deriving DecidableEq, Repr

def Uh.z : Uh := ⟨0, 0, false, Hd.z⟩

def un (x : Uh) (body : AV) : List AV := [vi x.at_, vi x.tries, vb x.fly] ++ hd x.h ++ [body]

theorem un_len (x : Uh) (body : AV) : (un x body).length = 44 := rfl
theorem un_take (x : Uh) (body : AV) : (un x body).take 44 = un x body := rfl
theorem un_all (x : Uh) (body : AV) (y : Uh) (body2 : AV) : putAt (un x body) 0 (un y body2) = un y body2 := rfl
theorem un_g_at_ (x : Uh) (body : AV) : (un x body)[0]? = some (vi x.at_) := rfl
theorem un_s_at_ (x : Uh) (body : AV) (v : Int) : (un x body).set 0 (vi v) = un { x with at_ := v } body := rfl
theorem un_g_tries (x : Uh) (body : AV) : (un x body)[1]? = some (vi x.tries) := rfl
theorem un_s_tries (x : Uh) (body : AV) (v : Int) : (un x body).set 1 (vi v) = un { x with tries := v } body := rfl
theorem un_g_fly (x : Uh) (body : AV) : (un x body)[2]? = some (vb x.fly) := rfl
theorem un_s_fly (x : Uh) (body : AV) (v : Bool) : (un x body).set 2 (vb v) = un { x with fly := v } body := rfl
theorem un_d_h (x : Uh) (body : AV) : ((un x body).drop 3).take 40 = hd x.h := rfl
theorem un_p_h (x : Uh) (body : AV) (v : Hd) : putAt (un x body) 3 (hd v) = un { x with h := v } body := rfl
theorem un_g_h_kind (x : Uh) (body : AV) : (un x body)[3]? = some (vu x.h.kind) := rfl
theorem un_s_h_kind (x : Uh) (body : AV) (v : Int) : (un x body).set 3 (vu v) = un { x with h := { x.h with kind := v } } body := rfl
theorem un_g_h_sub (x : Uh) (body : AV) : (un x body)[4]? = some (vu x.h.sub) := rfl
theorem un_s_h_sub (x : Uh) (body : AV) (v : Int) : (un x body).set 4 (vu v) = un { x with h := { x.h with sub := v } } body := rfl
theorem un_g_h_toDs (x : Uh) (body : AV) : (un x body)[5]? = some (vb x.h.toDs) := rfl
theorem un_s_h_toDs (x : Uh) (body : AV) (v : Bool) : (un x body).set 5 (vb v) = un { x with h := { x.h with toDs := v } } body := rfl
theorem un_g_h_fromDs (x : Uh) (body : AV) : (un x body)[6]? = some (vb x.h.fromDs) := rfl
theorem un_s_h_fromDs (x : Uh) (body : AV) (v : Bool) : (un x body).set 6 (vb v) = un { x with h := { x.h with fromDs := v } } body := rfl
theorem un_g_h_more (x : Uh) (body : AV) : (un x body)[7]? = some (vb x.h.more) := rfl
theorem un_s_h_more (x : Uh) (body : AV) (v : Bool) : (un x body).set 7 (vb v) = un { x with h := { x.h with more := v } } body := rfl
theorem un_g_h_retry (x : Uh) (body : AV) : (un x body)[8]? = some (vb x.h.retry) := rfl
theorem un_s_h_retry (x : Uh) (body : AV) (v : Bool) : (un x body).set 8 (vb v) = un { x with h := { x.h with retry := v } } body := rfl
theorem un_g_h_sleep (x : Uh) (body : AV) : (un x body)[9]? = some (vb x.h.sleep) := rfl
theorem un_s_h_sleep (x : Uh) (body : AV) (v : Bool) : (un x body).set 9 (vb v) = un { x with h := { x.h with sleep := v } } body := rfl
theorem un_g_h_moreData (x : Uh) (body : AV) : (un x body)[10]? = some (vb x.h.moreData) := rfl
theorem un_s_h_moreData (x : Uh) (body : AV) (v : Bool) : (un x body).set 10 (vb v) = un { x with h := { x.h with moreData := v } } body := rfl
theorem un_g_h_prot (x : Uh) (body : AV) : (un x body)[11]? = some (vb x.h.prot) := rfl
theorem un_s_h_prot (x : Uh) (body : AV) (v : Bool) : (un x body).set 11 (vb v) = un { x with h := { x.h with prot := v } } body := rfl
theorem un_g_h_dur (x : Uh) (body : AV) : (un x body)[12]? = some (vi x.h.dur) := rfl
theorem un_s_h_dur (x : Uh) (body : AV) (v : Int) : (un x body).set 12 (vi v) = un { x with h := { x.h with dur := v } } body := rfl
theorem un_d_h_a1 (x : Uh) (body : AV) : ((un x body).drop 13).take 6 = ad x.h.a1 := rfl
theorem un_p_h_a1 (x : Uh) (body : AV) (v : A6) : putAt (un x body) 13 (ad v) = un { x with h := { x.h with a1 := v } } body := rfl
theorem un_d_h_a2 (x : Uh) (body : AV) : ((un x body).drop 19).take 6 = ad x.h.a2 := rfl
theorem un_p_h_a2 (x : Uh) (body : AV) (v : A6) : putAt (un x body) 19 (ad v) = un { x with h := { x.h with a2 := v } } body := rfl
theorem un_d_h_a3 (x : Uh) (body : AV) : ((un x body).drop 25).take 6 = ad x.h.a3 := rfl
theorem un_p_h_a3 (x : Uh) (body : AV) (v : A6) : putAt (un x body) 25 (ad v) = un { x with h := { x.h with a3 := v } } body := rfl
theorem un_d_h_a4 (x : Uh) (body : AV) : ((un x body).drop 31).take 6 = ad x.h.a4 := rfl
theorem un_p_h_a4 (x : Uh) (body : AV) (v : A6) : putAt (un x body) 31 (ad v) = un { x with h := { x.h with a4 := v } } body := rfl
theorem un_g_h_seq (x : Uh) (body : AV) : (un x body)[37]? = some (vi x.h.seq) := rfl
theorem un_s_h_seq (x : Uh) (body : AV) (v : Int) : (un x body).set 37 (vi v) = un { x with h := { x.h with seq := v } } body := rfl
theorem un_g_h_frag (x : Uh) (body : AV) : (un x body)[38]? = some (vi x.h.frag) := rfl
theorem un_s_h_frag (x : Uh) (body : AV) (v : Int) : (un x body).set 38 (vi v) = un { x with h := { x.h with frag := v } } body := rfl
theorem un_g_h_tid (x : Uh) (body : AV) : (un x body)[39]? = some (vi x.h.tid) := rfl
theorem un_s_h_tid (x : Uh) (body : AV) (v : Int) : (un x body).set 39 (vi v) = un { x with h := { x.h with tid := v } } body := rfl
theorem un_g_h_ack (x : Uh) (body : AV) : (un x body)[40]? = some (vu x.h.ack) := rfl
theorem un_s_h_ack (x : Uh) (body : AV) (v : Int) : (un x body).set 40 (vu v) = un { x with h := { x.h with ack := v } } body := rfl
theorem un_g_h_amsdu (x : Uh) (body : AV) : (un x body)[41]? = some (vb x.h.amsdu) := rfl
theorem un_s_h_amsdu (x : Uh) (body : AV) (v : Bool) : (un x body).set 41 (vb v) = un { x with h := { x.h with amsdu := v } } body := rfl
theorem un_g_h_eosp (x : Uh) (body : AV) : (un x body)[42]? = some (vb x.h.eosp) := rfl
theorem un_s_h_eosp (x : Uh) (body : AV) (v : Bool) : (un x body).set 42 (vb v) = un { x with h := { x.h with eosp := v } } body := rfl
theorem un_g_body (x : Uh) (body : AV) : (un x body)[43]? = some body := rfl
theorem un_s_body (x : Uh) (body : AV) (v : AV) : (un x body).set 43 v = un x v := rfl
theorem un_d_frame (x : Uh) (body : AV) : ((un x body).drop 3).take 41 = fr ⟨x.h⟩ body := rfl
theorem un_p_frame (x : Uh) (body : AV) (y : Fh) (b : AV) : putAt (un x body) 3 (fr y b) = un { x with h := y.h } b := rfl
theorem un_fz (x : Uh) (body : AV) (o : Nat → Ob) (n : Nat) : (un x body).map (fz o (n + 1)) = un x (fz o (n + 1) body) := rfl

attribute [go_sem] un_len un_take un_all un_g_at_ un_s_at_ un_g_tries un_s_tries un_g_fly un_s_fly un_d_h un_p_h un_g_h_kind un_s_h_kind un_g_h_sub un_s_h_sub un_g_h_toDs un_s_h_toDs un_g_h_fromDs un_s_h_fromDs un_g_h_more un_s_h_more un_g_h_retry un_s_h_retry un_g_h_sleep un_s_h_sleep un_g_h_moreData un_s_h_moreData un_g_h_prot un_s_h_prot un_g_h_dur un_s_h_dur un_d_h_a1 un_p_h_a1 un_d_h_a2 un_p_h_a2 un_d_h_a3 un_p_h_a3 un_d_h_a4 un_p_h_a4 un_g_h_seq un_s_h_seq un_g_h_frag un_s_h_frag un_g_h_tid un_s_h_tid un_g_h_ack un_s_h_ack un_g_h_amsdu un_s_h_amsdu un_g_h_eosp un_s_h_eosp un_g_body un_s_body un_d_frame un_p_frame un_fz

structure Sd where
  tid : Int
  phase : Int
  token : Int
  next : Int
  size : Int
  limit : Int
  life : Int
  bar : Bool
  deriving DecidableEq, Repr

def Sd.z : Sd := ⟨0, 0, 0, 0, 0, 0, 0, false⟩

def sd (x : Sd) (out : AV) : List AV := [vi x.tid, vu x.phase, vi x.token, vi x.next, vi x.size, vi x.limit, vi x.life, out, vb x.bar]

theorem sd_len (x : Sd) (out : AV) : (sd x out).length = 9 := rfl
theorem sd_take (x : Sd) (out : AV) : (sd x out).take 9 = sd x out := rfl
theorem sd_all (x : Sd) (out : AV) (y : Sd) (out2 : AV) : putAt (sd x out) 0 (sd y out2) = sd y out2 := rfl
theorem sd_g_tid (x : Sd) (out : AV) : (sd x out)[0]? = some (vi x.tid) := rfl
theorem sd_s_tid (x : Sd) (out : AV) (v : Int) : (sd x out).set 0 (vi v) = sd { x with tid := v } out := rfl
theorem sd_g_phase (x : Sd) (out : AV) : (sd x out)[1]? = some (vu x.phase) := rfl
theorem sd_s_phase (x : Sd) (out : AV) (v : Int) : (sd x out).set 1 (vu v) = sd { x with phase := v } out := rfl
theorem sd_g_token (x : Sd) (out : AV) : (sd x out)[2]? = some (vi x.token) := rfl
theorem sd_s_token (x : Sd) (out : AV) (v : Int) : (sd x out).set 2 (vi v) = sd { x with token := v } out := rfl
theorem sd_g_next (x : Sd) (out : AV) : (sd x out)[3]? = some (vi x.next) := rfl
theorem sd_s_next (x : Sd) (out : AV) (v : Int) : (sd x out).set 3 (vi v) = sd { x with next := v } out := rfl
theorem sd_g_size (x : Sd) (out : AV) : (sd x out)[4]? = some (vi x.size) := rfl
theorem sd_s_size (x : Sd) (out : AV) (v : Int) : (sd x out).set 4 (vi v) = sd { x with size := v } out := rfl
theorem sd_g_limit (x : Sd) (out : AV) : (sd x out)[5]? = some (vi x.limit) := rfl
theorem sd_s_limit (x : Sd) (out : AV) (v : Int) : (sd x out).set 5 (vi v) = sd { x with limit := v } out := rfl
theorem sd_g_life (x : Sd) (out : AV) : (sd x out)[6]? = some (vi x.life) := rfl
theorem sd_s_life (x : Sd) (out : AV) (v : Int) : (sd x out).set 6 (vi v) = sd { x with life := v } out := rfl
theorem sd_g_out (x : Sd) (out : AV) : (sd x out)[7]? = some out := rfl
theorem sd_s_out (x : Sd) (out : AV) (v : AV) : (sd x out).set 7 v = sd x v := rfl
theorem sd_g_bar (x : Sd) (out : AV) : (sd x out)[8]? = some (vb x.bar) := rfl
theorem sd_s_bar (x : Sd) (out : AV) (v : Bool) : (sd x out).set 8 (vb v) = sd { x with bar := v } out := rfl
theorem sd_fz (x : Sd) (out : AV) (o : Nat → Ob) (n : Nat) : (sd x out).map (fz o (n + 1)) = sd x (fz o (n + 1) out) := rfl

attribute [go_sem] sd_len sd_take sd_all sd_g_tid sd_s_tid sd_g_phase sd_s_phase sd_g_token sd_s_token sd_g_next sd_s_next sd_g_size sd_s_size sd_g_limit sd_s_limit sd_g_life sd_s_life sd_g_out sd_s_out sd_g_bar sd_s_bar sd_fz

structure Ask where
  token : Int
  tid : Int
  size : Int
  start : Int
  deriving DecidableEq, Repr

def Ask.z : Ask := ⟨0, 0, 0, 0⟩

def ak (x : Ask) : List AV := [vi x.token, vi x.tid, vi x.size, vi x.start]

theorem ak_len (x : Ask) : (ak x).length = 4 := rfl
theorem ak_take (x : Ask) : (ak x).take 4 = ak x := rfl
theorem ak_all (x : Ask) (y : Ask) : putAt (ak x) 0 (ak y) = ak y := rfl
theorem ak_g_token (x : Ask) : (ak x)[0]? = some (vi x.token) := rfl
theorem ak_s_token (x : Ask) (v : Int) : (ak x).set 0 (vi v) = ak { x with token := v } := rfl
theorem ak_g_tid (x : Ask) : (ak x)[1]? = some (vi x.tid) := rfl
theorem ak_s_tid (x : Ask) (v : Int) : (ak x).set 1 (vi v) = ak { x with tid := v } := rfl
theorem ak_g_size (x : Ask) : (ak x)[2]? = some (vi x.size) := rfl
theorem ak_s_size (x : Ask) (v : Int) : (ak x).set 2 (vi v) = ak { x with size := v } := rfl
theorem ak_g_start (x : Ask) : (ak x)[3]? = some (vi x.start) := rfl
theorem ak_s_start (x : Ask) (v : Int) : (ak x).set 3 (vi v) = ak { x with start := v } := rfl
theorem ak_fz (x : Ask) (o : Nat → Ob) (n : Nat) : (ak x).map (fz o (n + 1)) = ak x := rfl
attribute [go_sem] ak_len ak_take ak_all ak_g_token ak_s_token ak_g_tid ak_s_tid ak_g_size ak_s_size ak_g_start ak_s_start ak_fz

structure Ans where
  token : Int
  tid : Int
  status : Int
  size : Int
  deriving DecidableEq, Repr

def Ans.z : Ans := ⟨0, 0, 0, 0⟩

def an (x : Ans) : List AV := [vi x.token, vi x.tid, vi x.status, vi x.size]

theorem an_len (x : Ans) : (an x).length = 4 := rfl
theorem an_take (x : Ans) : (an x).take 4 = an x := rfl
theorem an_all (x : Ans) (y : Ans) : putAt (an x) 0 (an y) = an y := rfl
theorem an_g_token (x : Ans) : (an x)[0]? = some (vi x.token) := rfl
theorem an_s_token (x : Ans) (v : Int) : (an x).set 0 (vi v) = an { x with token := v } := rfl
theorem an_g_tid (x : Ans) : (an x)[1]? = some (vi x.tid) := rfl
theorem an_s_tid (x : Ans) (v : Int) : (an x).set 1 (vi v) = an { x with tid := v } := rfl
theorem an_g_status (x : Ans) : (an x)[2]? = some (vi x.status) := rfl
theorem an_s_status (x : Ans) (v : Int) : (an x).set 2 (vi v) = an { x with status := v } := rfl
theorem an_g_size (x : Ans) : (an x)[3]? = some (vi x.size) := rfl
theorem an_s_size (x : Ans) (v : Int) : (an x).set 3 (vi v) = an { x with size := v } := rfl
theorem an_fz (x : Ans) (o : Nat → Ob) (n : Nat) : (an x).map (fz o (n + 1)) = an x := rfl
attribute [go_sem] an_len an_take an_all an_g_token an_s_token an_g_tid an_s_tid an_g_status an_s_status an_g_size an_s_size an_fz

structure Win where
  start : Int
  bits : Int
  deriving DecidableEq, Repr

def Win.z : Win := ⟨0, 0⟩

def wn (x : Win) : List AV := [vi x.start, vq x.bits]

theorem wn_len (x : Win) : (wn x).length = 2 := rfl
theorem wn_take (x : Win) : (wn x).take 2 = wn x := rfl
theorem wn_all (x : Win) (y : Win) : putAt (wn x) 0 (wn y) = wn y := rfl
theorem wn_g_start (x : Win) : (wn x)[0]? = some (vi x.start) := rfl
theorem wn_s_start (x : Win) (v : Int) : (wn x).set 0 (vi v) = wn { x with start := v } := rfl
theorem wn_g_bits (x : Win) : (wn x)[1]? = some (vq x.bits) := rfl
theorem wn_s_bits (x : Win) (v : Int) : (wn x).set 1 (vq v) = wn { x with bits := v } := rfl
theorem wn_fz (x : Win) (o : Nat → Ob) (n : Nat) : (wn x).map (fz o (n + 1)) = wn x := rfl
attribute [go_sem] wn_len wn_take wn_all wn_g_start wn_s_start wn_g_bits wn_s_bits wn_fz

end Go.AX.SE

