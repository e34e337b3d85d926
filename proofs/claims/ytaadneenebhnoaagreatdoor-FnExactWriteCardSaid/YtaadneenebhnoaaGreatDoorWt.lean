/- Proof: plain laws: what is written. No condition. -/
import Derived.Test.YtaadneenebhnoaaGreatDoorNk
import Derived.Lib.Join
import Derived.Lib.ItoaLen
import Derived.Lib.ItoaNum
import Derived.Test.YtaadneenebhnoaaGreatDoorTk
set_option autoImplicit true
set_option relaxedAutoImplicit true
set_option linter.unusedSimpArgs false
set_option linter.unusedVariables false
namespace Go.Pv
set_option maxRecDepth 100000
set_option maxHeartbeats 4000000
set_option linter.unusedSimpArgs false
set_option linter.unusedVariables false
/-- texts as lists of bytes -/
def mkB (l : List UInt8) : ByteArray := ⟨l.toArray⟩
theorem ze0 (l : List UInt8) : bl (mkB l) = l := by simp [bl, mkB]
theorem zjm (s : ByteArray) : mkB (bl s) = s := zkt (ze0 _)
theorem zk0 (a b : List UInt8) : mkB a ++ mkB b = mkB (a ++ b) := zkt (by rw [zvY, ze0, ze0, ze0])
theorem mk_size (l : List UInt8) : (mkB l).size = l.length := by rw [← bl_len, ze0]
theorem app_mk (s : ByteArray) (b : List UInt8) : s ++ mkB b = mkB (bl s ++ b) := by rw [← zk0, zjm]
theorem mk_app' (a : List UInt8) (s : ByteArray) : mkB a ++ s = mkB (a ++ bl s) := by rw [← zk0, zjm]
/-- blanks with a comma ahead -/
def cm (l : List UInt8) : List UInt8 := l.flatMap fun b => if b = 32 then [44, 32] else [b]
def jn (es : List (List UInt8)) : List UInt8 := Lib.join es [44, 32]
def sgn (op : Int) : List UInt8 := if op = 19 then [43] else if op = 20 then [45] else if op = 21 then [42] else if op = 22 then [60] else [61, 61]
def at0 (es : List (List UInt8)) (i : Nat) : List UInt8 := (es[i]?).getD []
def exT (op : Int) (s : List UInt8) (n : Int) (es bs : List (List UInt8)) : List UInt8 :=
 if op = 10 then (if n < 0 then [40] ++ Lib.itoa n ++ [41] else Lib.itoa n) else
 if op = 11 then [34] ++ s ++ [34] else
 if op = 12 then [116, 114, 117, 101] else
 if op = 13 then [102, 97, 108, 115, 101] else
 if op = 14 then [110, 117, 108, 108] else
 if op = 15 then [117, 110, 100, 101, 102, 105, 110, 101, 100] else
 if op = 16 then s else
 if op = 17 then [40] ++ at0 es 0 ++ [41, 46] ++ s else
 if op = 18 then [40] ++ at0 es 0 ++ [41, 40] ++ jn (es.drop 1) ++ [41] else
 if op = 24 then [33, 40] ++ at0 es 0 ++ [41] else
 if op = 25 then [123] ++ jn es ++ [125] else
 if op = 26 then s ++ [58, 32] ++ at0 es 0 else
 if op = 27 then [102, 117, 110, 99, 116, 105, 111, 110, 40] ++ cm s ++ [41, 32] ++ at0 bs 0 else
 [40] ++ at0 es 0 ++ [32] ++ sgn op ++ [32] ++ at0 es 1 ++ [41]
def stT (op : Int) (s : List UInt8) (es bs : List (List UInt8)) : List UInt8 :=
 if op = 2 then [108, 101, 116, 32] ++ s ++ [32, 61, 32] ++ at0 es 0 ++ [59] else
 if op = 3 then s ++ [32, 61, 32] ++ at0 es 0 ++ [59] else
 if op = 4 then [40] ++ at0 es 0 ++ [41, 46] ++ s ++ [32, 61, 32] ++ at0 es 1 ++ [59] else
 if op = 5 then [105, 102, 32, 40] ++ at0 es 0 ++ [41, 32] ++ at0 bs 1 ++ (if es.length = 3 then [32, 101, 108, 115, 101, 32] ++ at0 bs 2 else []) else
 if op = 6 then [119, 104, 105, 108, 101, 32, 40] ++ at0 es 0 ++ [41, 32] ++ at0 bs 1 else
 if op = 7 then [114, 101, 116, 117, 114, 110, 32] ++ at0 es 0 ++ [59] else
 if op = 8 then [112, 114, 105, 110, 116, 32] ++ at0 es 0 ++ [59] else
 at0 es 0 ++ [59]
mutual
def tE : T_Node → List UInt8
 | ⟨op, s, n, ks⟩ => exT op (bl s) n (tEL ks) (tBL ks)
def tS : T_Node → List UInt8
 | ⟨op, s, _, ks⟩ => stT op (bl s) (tEL ks) (tBL ks)
def tB : T_Node → List UInt8
 | ⟨_, _, _, ks⟩ => [123, 10] ++ (tSL ks ++ [125])
def tEL : List T_Node → List (List UInt8)
 | [] => []
 | x :: l => tE x :: tEL l
def tBL : List T_Node → List (List UInt8)
 | [] => []
 | x :: l => tB x :: tBL l
def tSL : List T_Node → List UInt8
 | [] => []
 | x :: l => tS x ++ 10 :: tSL l
end
theorem zk1 : ∀ l, tEL l = l.map tE
 | [] => by simp [tEL]
 | x :: l => by simp [tEL, zk1 l]
theorem zk2 : ∀ l, tBL l = l.map tB
 | [] => by simp [tBL]
 | x :: l => by simp [tBL, zk2 l]
theorem zu6 : ∀ a b, tSL (a ++ b) = tSL a ++ tSL b
 | [], b => by simp [tSL]
 | x :: a, b => by simp [tSL, zu6 a b]
theorem zov (x : T_Node) : tE x = exT x.op_ (bl x.s_) x.n_ (x.kids_.map tE) (x.kids_.map tB) := by cases x; simp [tE, zk1, zk2]
theorem zsf (x : T_Node) : tS x = stT x.op_ (bl x.s_) (x.kids_.map tE) (x.kids_.map tB) := by cases x; simp [tS, zk1, zk2]
theorem zsg (x : T_Node) : tB x = [123, 10] ++ (tSL x.kids_ ++ [125]) := by cases x; simp [tB]
theorem zsh (l : List UInt8) : (cm l).length ≤ 2 * l.length := by
 induction l with
 | nil => simp [cm]
 | cons b l ih =>
  have e : cm (b :: l) = (if b = 32 then [44, 32] else [b]) ++ cm l := by simp [cm]
  rw [e, List.length_append]
  split <;> simp <;> omega
theorem zpO (x : List UInt8) (l : List (List UInt8)) : Lib.lens (x :: l) = x.length + Lib.lens l := by simp [Lib.lens]
theorem zxn (es : List (List UInt8)) : (jn es).length ≤ Lib.lens es + 2 * es.length := by
 cases es with
 | nil => simp [jn, Lib.join_nil]
 | cons x r =>
  unfold jn
  rw [Lib.join_length]; simp; omega
theorem zu7 (op : Int) : (sgn op).length ≤ 2 := by
 unfold sgn
 repeat' split
 all_goals simp
/-- how long the texts may be -/
def bnd (x : T_Node) : Prop := (tE x).length ≤ 64 * wN x + 40 ∧ (tS x).length ≤ 64 * wN x + 40 ∧ (tB x).length ≤ 64 * wN x + 40
theorem zhj : ∀ {l : List T_Node}, (∀ x ∈ l, bnd x) → (tSL l).length ≤ 64 * sN l
 | [], _ => by simp [tSL]
 | x :: l, h => by
  have h1 := h x (by simp)
  have h2 := zhj (l := l) (fun y hy => h y (by simp [hy]))
  unfold bnd at h1
  simp [tSL, sN]; omega
theorem zmn : ∀ {l : List T_Node}, (∀ x ∈ l, bnd x) → Lib.lens (l.map tE) + 24 * l.length ≤ 64 * sN l
 | [], _ => by simp [sN, Lib.lens]
 | x :: l, h => by
  have h1 := h x (by simp)
  have h2 := zmn (l := l) (fun y hy => h y (by simp [hy]))
  unfold bnd at h1
  rw [List.map_cons, zpO]
  simp [sN]; omega
theorem znL {l : List T_Node} (h : ∀ x ∈ l, bnd x) : (jn (l.map tE)).length ≤ 64 * sN l := by
 have h1 := zxn (l.map tE)
 have h2 := zmn h
 simp at h1; omega
theorem zhk (n : Int) (h0 : -2147483647 ≤ n) (h1 : n ≤ 2147483647) : (Lib.itoa n).length ≤ 21 := Lib.itoa_length_le n (by omega) (by omega)
theorem znM {x : T_Node} (h : okB x = true) : (x.op_ = 10 → -2147483647 ≤ x.n_ ∧ x.n_ ≤ 2147483647) ∧ ∀ y ∈ x.kids_, okB y = true := by
 rw [zkF] at h
 simp only [Bool.and_eq_true, List.all_eq_true] at h
 refine ⟨fun e => ?_, h.2⟩
 have := h.1.2.2
 unfold numB at this
 rw [if_pos e] at this
 simpa using this
theorem zfh {c : Prop} [Decidable c] {a b : List UInt8} {n : Nat} (h1 : c → a.length ≤ n) (h2 : b.length ≤ n) : (if c then a else b).length ≤ n := by
 by_cases h : c
 ·rw [if_pos h]; exact h1 h
 ·rw [if_neg h]; exact h2
theorem zhL : ∀ (m : Nat) (x : T_Node), wN x < m → okB x = true → bnd x := by
 intro m
 induction m with
 | zero => intro x h; omega
 | succ m ih =>
  intro x hx ho
  obtain ⟨hn, hk⟩ := znM ho
  have hw := zfV x
  have hb : ∀ y ∈ x.kids_, bnd y := fun y hy => ih y (by have := zc2 hy; omega) (hk y hy)
  have hS := zhj hb
  have hj := znL hb
  have hsz := bl_len x.s_
  have hcm := zsh (bl x.s_)
  have h01 : (at0 (x.kids_.map tE) 0).length + (at0 (x.kids_.map tE) 1).length ≤ 64 * sN x.kids_ := by
   clear hS hj hsz hcm hw hx hk hn
   generalize x.kids_ = ks at *
   rcases ks with _ | ⟨a, _ | ⟨b, l⟩⟩
   ·simp [at0]
   ·have ha := hb a (by simp)
    unfold bnd at ha
    simp [at0, sN]; omega
   ·have ha := hb a (by simp)
    have hb' := hb b (by simp)
    unfold bnd at ha hb'
    simp [at0, sN]; omega
  have h012 : (at0 (x.kids_.map tE) 0).length + (at0 (x.kids_.map tB) 1).length + (at0 (x.kids_.map tB) 2).length ≤ 64 * sN x.kids_ := by
   clear hS hj hsz hcm hw hx hk hn h01
   generalize x.kids_ = ks at *
   rcases ks with _ | ⟨a, _ | ⟨b, _ | ⟨c, l⟩⟩⟩
   ·simp [at0]
   ·have ha := hb a (by simp)
    unfold bnd at ha
    simp [at0, sN]; omega
   ·have ha := hb a (by simp)
    have hb' := hb b (by simp)
    unfold bnd at ha hb'
    simp [at0, sN]; omega
   ·have ha := hb a (by simp)
    have hb' := hb b (by simp)
    have hc := hb c (by simp)
    unfold bnd at ha hb' hc
    simp [at0, sN]; omega
  have hb0 : (at0 (x.kids_.map tB) 0).length ≤ 64 * sN x.kids_ := by
   clear hS hj hsz hcm hw hx hk hn h01 h012
   generalize x.kids_ = ks at *
   rcases ks with _ | ⟨a, l⟩
   ·simp [at0]
   ·have ha := hb a (by simp)
    unfold bnd at ha
    simp [at0, sN]; omega
  have hj1 : (at0 (x.kids_.map tE) 0).length + (jn ((x.kids_.map tE).drop 1)).length ≤ 64 * sN x.kids_ := by
   clear hS hj hsz hcm hw hx hk hn h01 h012 hb0
   generalize x.kids_ = ks at *
   rcases ks with _ | ⟨a, l⟩
   ·simp [at0, jn, Lib.join_nil]
   ·have ha := hb a (by simp)
    have := znL (l := l) (fun y hy => hb y (by simp [hy]))
    unfold bnd at ha
    simp [at0, sN]; omega
  have hsg := zu7 x.op_
  have hit : x.op_ = 10 → (Lib.itoa x.n_).length ≤ 21 := fun e => zhk _ (hn e).1 (hn e).2
  refine ⟨?_, ?_, ?_⟩
  ·rw [zov]
   clear hb hk hx ih
   unfold exT
   refine zfh (fun c => ?_) ?_
   ·have := hit c
    refine zfh (fun _ => ?_) ?_
    ·simp only [List.length_append, List.length_cons, List.length_nil]; omega
    ·omega
   repeat' (refine zfh (fun _ => ?_) ?_)
   all_goals (try simp only [List.length_append, List.length_cons, List.length_nil]) <;> omega
  ·rw [zsf]
   clear hb hk hx ih
   unfold stT
   refine zfh (fun _ => ?_) ?_
   ·simp only [List.length_append, List.length_cons, List.length_nil]; omega
   refine zfh (fun _ => ?_) ?_
   ·simp only [List.length_append, List.length_cons, List.length_nil]; omega
   refine zfh (fun _ => ?_) ?_
   ·simp only [List.length_append, List.length_cons, List.length_nil]; omega
   refine zfh (fun _ => ?_) ?_
   ·have : (if (x.kids_.map tE).length = 3 then [32, 101, 108, 115, 101, 32] ++ at0 (x.kids_.map tB) 2 else []).length ≤ 6 + (at0 (x.kids_.map tB) 2).length := zfh (fun _ => by simp; omega) (by simp)
    rw [List.length_append]
    simp only [List.length_append, List.length_cons, List.length_nil] at this ⊢; omega
   repeat' (refine zfh (fun _ => ?_) ?_)
   all_goals (try simp only [List.length_append, List.length_cons, List.length_nil]) <;> omega
  ·rw [zsg]; simp; omega
end Go.Pv

namespace Go.Pv
set_option maxRecDepth 100000
set_option maxHeartbeats 4000000
set_option linter.unusedSimpArgs false
set_option linter.unusedVariables false
/-- numbers in decimal digits -/
def digs (u : Nat) : List UInt8 := if u = 0 then [] else Lib.decDigits u
theorem zj5 (u : Nat) (h : u ≠ 0) : digs u = digs (u / 10) ++ [UInt8.ofNat (48 + u % 10)] := by
 unfold digs
 rw [if_neg h]
 by_cases h1 : u < 10
 ·rw [Lib.decDigits, dif_pos h1, if_pos (by omega), Nat.mod_eq_of_lt h1]; rfl
 ·rw [Lib.decDigits, dif_neg h1, if_neg (by omega)]
theorem zjj (d : Nat) (h : d < 10) : UInt8.ofNat (IntKind.u8.wrap (IntKind.i64.wrap (48 + (d : Int)))).toNat = UInt8.ofNat (48 + d) := by
 rw [zao _ (by omega) (by omega)]
 have : IntKind.u8.wrap (48 + (d : Int)) = ((48 + d : Nat) : Int) := by
  have : d = 0 ∨ d = 1 ∨ d = 2 ∨ d = 3 ∨ d = 4 ∨ d = 5 ∨ d = 6 ∨ d = 7 ∨ d = 8 ∨ d = 9 := by omega
  rcases this with rfl | rfl | rfl | rfl | rfl | rfl | rfl | rfl | rfl | rfl <;> rfl
 rw [this]; rfl
theorem zu0 (b : UInt8) (l : List UInt8) : (⟨#[b]⟩ : ByteArray) ++ mkB l = mkB (b :: l) := zk0 [b] l
theorem zu1 {α : Type} {b : UInt8} {l : List UInt8} {k : ByteArray → Option α} (h : l.length ≤ 9223372036854775000) : bS (cat (⟨#[b]⟩ : ByteArray) (mkB l)) k = k (mkB (b :: l)) := by
 rw [zmq (by show 1 + _ ≤ _; rw [mk_size]; omega), zu0]
theorem zj6 (neg b : Bool) : ∀ (n u : Nat) (l : List UInt8), (digs u).length < n → u ≤ 9223372036854775000 → l.length + (digs u).length ≤ 1000 →
  zap n (if neg = true then -(u : Int) else (u : Int)) b (mkB l) = some (mkB (digs u ++ l)) := by
 intro n
 induction n with
 | zero => intro u l h; omega
 | succ n ih =>
  intro u l h hu hl
  have hz : (mkB l).size = l.length := mk_size l
  simp only [zap]
  by_cases h0 : u = 0
  ·subst h0
   rw [if_pos (by cases neg <;> simp)]
   simp [digs]
  ·have hd : (digs u).length = (digs (u / 10)).length + 1 := by rw [zj5 u h0]; simp
   rw [if_neg (by cases neg <;> simp <;> omega)]
   have key : ∀ x : Int, x = (if neg = true then -((u / 10 : Nat) : Int) else ((u / 10 : Nat) : Int)) → zap n x b (mkB (UInt8.ofNat (48 + u % 10) :: l)) = some (mkB (digs u ++ l)) := by
    intro x hx
    subst hx
    rw [ih (u / 10) _ (by omega) (by omega) (by simp only [List.length_cons]; omega), zj5 u h0]
    simp
   have hcast : ((u / 10 : Nat) : Int) = (u : Int) / 10 := by omega
   cases neg with
   | false =>
    simp only [Bool.false_eq_true, if_false] at key ⊢
    have t1 : Int.tmod (u : Int) 10 = ((u % 10 : Nat) : Int) := by rw [Int.tmod_eq_emod_of_nonneg (by omega)]; omega
    have t2 : Int.tdiv (u : Int) 10 = ((u / 10 : Nat) : Int) := by rw [Int.tdiv_eq_ediv_of_nonneg (by omega)]; omega
    rw [t1, t2, if_neg (by omega), zjj _ (by omega), zu1 (by omega), zao _ (by omega) (by omega)]
    exact key _ rfl
   | true =>
    simp only [if_true] at key ⊢
    have t1 : Int.tmod (-(u : Int)) 10 = -((u % 10 : Nat) : Int) := by rw [Int.neg_tmod, Int.tmod_eq_emod_of_nonneg (by omega)]; omega
    have t2 : Int.tdiv (-(u : Int)) 10 = -((u / 10 : Nat) : Int) := by rw [Int.neg_tdiv, Int.tdiv_eq_ediv_of_nonneg (by omega)]; omega
    rw [t1, t2]
    have w0 : IntKind.i64.wrap (0 - -((u % 10 : Nat) : Int)) = ((u % 10 : Nat) : Int) := by rw [zao _ (by omega) (by omega)]; omega
    rw [w0, zao (-((u / 10 : Nat) : Int)) (by omega) (by omega)]
    by_cases h9 : u % 10 = 0
    ·rw [if_neg (by omega)]
     have e : -((u % 10 : Nat) : Int) = ((u % 10 : Nat) : Int) := by omega
     rw [e, zjj _ (by omega), zu1 (by omega)]
     exact key _ rfl
    ·rw [if_pos (by omega), zjj _ (by omega), zu1 (by omega)]
     exact key _ rfl
theorem zsa (n : Int) (h0 : -2147483647 ≤ n) (h1 : n ≤ 2147483647) : zbz n = some (mkB (Lib.itoa n)) := by
 unfold zbz
 by_cases hz : n = 0
 ·subst hz
  have : Lib.itoa 0 = [48] := by unfold Lib.itoa; rw [if_neg (by omega), Lib.decDigits, dif_pos (by decide)]; rfl
  rw [if_pos rfl, this]; rfl
 ·rw [if_neg hz]
  have hlen := zhk n h0 h1
  have hd : digs n.natAbs = Lib.decDigits n.natAbs := by unfold digs; rw [if_neg (by omega)]
  have hdl : (Lib.decDigits n.natAbs).length ≤ (Lib.itoa n).length := by
   unfold Lib.itoa
   split
   ·simp
   ·rw [show n.toNat = n.natAbs by omega]; exact Nat.le_refl _
  by_cases hn : n < 0
  ·have hi : Lib.itoa n = 45 :: Lib.decDigits n.natAbs := by unfold Lib.itoa; rw [if_pos hn]
   have := zj6 true (decide (n < 0)) FU n.natAbs [] (by rw [hd]; unfold FU; omega) (by omega) (by rw [hd]; simp; omega)
   simp only [if_true, List.append_nil, show (-(n.natAbs : Int)) = n by omega] at this
   rw [show (⟨#[]⟩ : ByteArray) = mkB [] from rfl, this, zg, if_pos (by simpa using hn), zu1 (by rw [hd]; omega), hd, hi]
  ·have hi : Lib.itoa n = Lib.decDigits n.natAbs := by unfold Lib.itoa; rw [if_neg hn, show n.toNat = n.natAbs by omega]
   have := zj6 false (decide (n < 0)) FU n.natAbs [] (by rw [hd]; unfold FU; omega) (by omega) (by rw [hd]; simp; omega)
   simp only [Bool.false_eq_true, if_false, List.append_nil, show ((n.natAbs : Nat) : Int) = n by omega] at this
   rw [show (⟨#[]⟩ : ByteArray) = mkB [] from rfl, this, zg, if_neg (by simpa using hn), hd, hi]
end Go.Pv

namespace Go.Pv
set_option maxRecDepth 100000
set_option maxHeartbeats 4000000
set_option linter.unusedSimpArgs false
set_option linter.unusedVariables false
/-- names with blanks between, and with commas -/
theorem jn2 (x y : List UInt8) (r : List (List UInt8)) (sep : List UInt8) : Lib.join (x :: y :: r) sep = x ++ sep ++ Lib.join (y :: r) sep := by simp [Lib.join, List.intercalate]
theorem zxl (a b : List UInt8) : cm (a ++ b) = cm a ++ cm b := by simp [cm]
theorem zsc : ∀ {l : List UInt8}, (∀ b ∈ l, b ≠ 32) → cm l = l
 | [], _ => rfl
 | b :: l, h => by
  have e : cm (b :: l) = (if b = 32 then [44, 32] else [b]) ++ cm l := by simp [cm]
  rw [e, if_neg (h b (by simp)), zsc (fun x hx => h x (by simp [hx]))]; rfl
theorem zpM (s : ByteArray) : splitL s ≠ [] := by
 intro h
 have hlen : (splitL s).length = Lib.countB s ⟨#[32]⟩ + 1 := Lib.splitB_all ⟨#[32]⟩ (by decide) 0 _ s rfl
 rw [h] at hlen; simp at hlen
theorem zpN (s : ByteArray) (a : Nat) : bl (s.extract a s.size) = (bl s).drop a := by
 rw [ziG, List.take_of_length_le (by rw [List.length_drop, bl_len]; exact Nat.le_refl _)]
theorem znI (s : ByteArray) : ∀ (m a : Nat), a + m = s.size + 1 → Lib.join ((splitL (s.extract a s.size)).map bl) [44, 32] = cm ((bl s).drop a) := by
 intro m
 induction m using Nat.strongRecOn with
 | ind m ih =>
  intro a ha
  by_cases c : ∀ k, a ≤ k → s.data.toList[k]? ≠ some 32
  ·rw [zhK s a c, List.map_singleton, Lib.join_one, zpN, zsc]
   intro b hb e
   subst e
   obtain ⟨k, hk⟩ := List.getElem?_of_mem hb
   rw [List.getElem?_drop] at hk
   exact c (a + k) (by omega) hk
  ·have : ∃ p, a ≤ p ∧ s.data.toList[p]? = some 32 ∧ ∀ k, a ≤ k → k < p → s.data.toList[k]? ≠ some 32 := by
    obtain ⟨p, hp⟩ := Classical.not_forall.1 c
    have hp1 : a ≤ p := Decidable.byContradiction fun h => hp fun h' => absurd h' h
    have hp2 : s.data.toList[p]? = some 32 := Classical.byContradiction fun h => hp fun _ => h
    clear hp
    induction p using Nat.strongRecOn with
    | ind p ihp =>
     by_cases d : ∃ k, a ≤ k ∧ k < p ∧ s.data.toList[k]? = some 32
     ·obtain ⟨k, h1, h2, h3⟩ := d
      exact ihp k h2 h1 h3
     ·exact ⟨p, hp1, hp2, fun k h1 h2 h3 => d ⟨k, h1, h2, h3⟩⟩
   obtain ⟨p, hp1, hp2, hp3⟩ := this
   have hps : p < s.size := by have := (List.getElem?_eq_some_iff.1 hp2).1; rw [zmm] at this; exact this
   rw [zgD s a p hp1 hp3 hp2]
   obtain ⟨y, r, hyr⟩ : ∃ y r, splitL (s.extract (p + 1) s.size) = y :: r := List.exists_cons_of_ne_nil (zpM _)
   have hr := ih (s.size - p) (by omega) (p + 1) (by omega)
   rw [hyr] at hr ⊢
   simp only [List.map_cons] at hr ⊢
   rw [jn2, hr]
   have h1 : (bl s).drop a = bl (s.extract a p) ++ 32 :: (bl s).drop (p + 1) := by
    have h2 : (bl s).drop p = 32 :: (bl s).drop (p + 1) := drop_some hp2
    rw [ziG, ← h2]
    have h3 : (bl s).drop p = ((bl s).drop a).drop (p - a) := by rw [List.drop_drop]; congr 1; omega
    rw [h3, List.take_append_drop]
   have h4 : cm (bl (s.extract a p)) = bl (s.extract a p) := by
    apply zsc
    intro b hb e
    subst e
    obtain ⟨k, hk⟩ := List.getElem?_of_mem hb
    rw [ziG] at hk
    have hk2 : k < p - a := by
     have := (List.getElem?_eq_some_iff.1 hk).1
     rw [List.length_take] at this; omega
    rw [List.getElem?_take_of_lt hk2, List.getElem?_drop] at hk
    exact hp3 (a + k) (by omega) (by omega) hk
   rw [h1, zxl, h4]
   have h5 : cm (32 :: (bl s).drop (p + 1)) = [44, 32] ++ cm ((bl s).drop (p + 1)) := by simp [cm]
   rw [h5, List.append_assoc]
theorem znJ (s : ByteArray) : jn ((wordsL s).map bl) = cm (bl s) := by
 unfold jn wordsL
 split
 ·rename_i h; subst h; rfl
 ·have := znI s (s.size + 1) 0 (by omega)
  have he : s.extract 0 s.size = s := by simp
  rw [he] at this
  simpa using this
end Go.Pv

namespace Go.Pv
set_option maxRecDepth 100000
set_option maxHeartbeats 4000000
set_option linter.unusedSimpArgs false
set_option linter.unusedVariables false
/-- the reference's text of a node is the text -/
theorem zbb (a : Array UInt8) : (⟨a⟩ : ByteArray) = mkB a.toList := by simp [mkB]
theorem zbN {α : Type} {a b : List UInt8} {k : ByteArray → Option α} (h : a.length + b.length ≤ 9223372036854775807) : bS (cat (mkB a) (mkB b)) k = k (mkB (a ++ b)) := by
 rw [zmq (by rw [mk_size, mk_size]; exact h), zk0]
theorem zcp {τ : Type} (a : τ) (l : List τ) : getI (a :: l) 0 = some a := zU (i := 0) rfl
theorem zfW {τ : Type} (a b : τ) (l : List τ) : getI (a :: b :: l) 1 = some b := zU (i := 1) rfl
theorem zmo {τ : Type} (a b c : τ) (l : List τ) : getI (a :: b :: c :: l) 2 = some c := zU (i := 2) rfl
theorem zsi {τ : Type} (a b c d : τ) (l : List τ) : getI (a :: b :: c :: d :: l) 3 = some d := zU (i := 3) rfl
theorem zvC {τ : Type} (a b c d e : τ) (l : List τ) : getI (a :: b :: c :: d :: e :: l) 4 = some e := zU (i := 4) rfl
theorem zfX : ∀ l, tSL l = l.flatMap fun x => tS x ++ [10]
 | [] => by simp [tSL]
 | x :: l => by simp [tSL, zfX l]
theorem zow (L : Nat → ByteArray → Int → Option ByteArray) (xs : List T_Node) (g : T_Node → List UInt8) (s0 : List UInt8) (hB : xs.length ≤ 4194303) (hs : s0.length + (xs.flatMap g).length ≤ 9223372036854775807)
  (h0 : ∀ n s, L (n + 1) s (xs.length : Int) = some s)
  (h1 : ∀ n (i : Nat) x s, xs[i]? = some x → L (n + 1) s (i : Int) = bS (cat s (mkB (g x))) fun s' => L n s' (IntKind.i64.wrap ((i : Int) + 1))) : L FU (mkB s0) 0 = some (mkB (s0 ++ xs.flatMap g)) := by
 have key : ∀ (n k : Nat) (acc : List UInt8), k ≤ xs.length → xs.length - k < n → acc.length + ((xs.drop k).flatMap g).length ≤ 9223372036854775807 → L n (mkB acc) (k : Int) = some (mkB (acc ++ (xs.drop k).flatMap g)) := by
  intro n
  induction n with
  | zero => intro k acc hk hn; omega
  | succ n ih =>
   intro k acc hk hn hl
   by_cases c : k < xs.length
   ·obtain ⟨x, hx⟩ := zbV c
    rw [drop_some hx, List.flatMap_cons, List.length_append] at hl
    rw [h1 n k x _ hx, zbN (by omega), wrI (by omega), ih (k + 1) _ (by omega) (by omega) (by rw [List.length_append]; omega), drop_some hx, List.flatMap_cons, List.append_assoc]
   ·have : k = xs.length := by omega
    subst this
    rw [h0 n]; simp
 have := key FU 0 s0 (by omega) (by unfold FU; omega) (by simpa using hs)
 simpa using this
/-- what the kids of a right node are -/
theorem zc3 {op : Int} {s : ByteArray} {n : Int} {ks : List T_Node} (h : okB ⟨op, s, n, ks⟩ = true) : shapeD (midB op) op ks = true ∧ (∀ y ∈ ks, okB y = true) := by
 rw [zkF] at h
 simp only [Bool.and_eq_true, List.all_eq_true] at h
 exact ⟨h.1.1, h.2⟩
theorem len1 {τ : Type} {l : List τ} (h : l.length = 1) : ∃ a, l = [a] := by
 match l, h with
 | [a], _ => exact ⟨a, rfl⟩
theorem len2 {τ : Type} {l : List τ} (h : l.length = 2) : ∃ a b, l = [a, b] := by
 match l, h with
 | [a, b], _ => exact ⟨a, b, rfl⟩
theorem len3 {τ : Type} {l : List τ} (h : l.length = 3) : ∃ a b c, l = [a, b, c] := by
 match l, h with
 | [a, b, c], _ => exact ⟨a, b, c, rfl⟩
theorem zh3 {op : Int} {ks : List T_Node} (h : shapeD (midB op) op ks = true) (c : one8 op) : ∃ a, ks = [a] ∧ isExp a = true := by
 have h1 : op ≠ 1 := by unfold one8 at c; omega
 unfold shapeD at h
 rw [if_neg h1, if_pos c] at h
 simp only [Bool.and_eq_true, decide_eq_true_eq] at h
 obtain ⟨a, rfl⟩ := len1 h.1
 exact ⟨a, rfl, by simpa using h.2⟩
theorem zox {op : Int} {ks : List T_Node} (h : shapeD (midB op) op ks = true) (c : zf8 op) : ∃ a b, ks = [a, b] ∧ isExp a = true ∧ isExp b = true := by
 have h1 : op ≠ 1 := by unfold zf8 at c; omega
 have h2 : ¬ one8 op := by unfold zf8 at c; unfold one8; omega
 unfold shapeD at h
 rw [if_neg h1, if_neg h2, if_pos c] at h
 simp only [Bool.and_eq_true, decide_eq_true_eq] at h
 obtain ⟨a, b, rfl⟩ := len2 h.1
 exact ⟨a, b, rfl, by simpa using h.2⟩
theorem k_if {ks : List T_Node} (h : shapeD (midB 5) 5 ks = true) : ∃ a b l, ks = a :: b :: l ∧ isExp a = true ∧ b.op_ = 1 ∧ (l = [] ∨ ∃ c, l = [c] ∧ c.op_ = 1) := by
 simp [shapeD, ifK] at h
 obtain ⟨⟨h1, h2⟩, h3, h4⟩ := h
 match ks, h1, h2 with
 | [a, b], _, _ => exact ⟨a, b, [], rfl, by simpa using h3, by simpa [isOp] using h4, .inl rfl⟩
 | [a, b, c], _, _ =>
  simp [isOp] at h3 h4
  exact ⟨a, b, [c], rfl, h3, h4.1, .inr ⟨c, rfl, h4.2⟩⟩
theorem k_wh {ks : List T_Node} (h : shapeD (midB 6) 6 ks = true) : ∃ a b, ks = [a, b] ∧ isExp a = true ∧ b.op_ = 1 := by
 simp [shapeD, ifK] at h
 obtain ⟨h1, h3, h4⟩ := h
 obtain ⟨a, b, rfl⟩ := len2 h1
 simp [isOp] at h3 h4
 exact ⟨a, b, rfl, h3, h4⟩
theorem zsj {ks : List T_Node} (h : shapeD (midB 18) 18 ks = true) : ∃ a l, ks = a :: l ∧ isExp a = true ∧ ∀ y ∈ l, isExp y = true := by
 simp [shapeD] at h
 obtain ⟨h1, h2⟩ := h
 match ks, h1 with
 | a :: l, _ =>
  simp at h2
  exact ⟨a, l, rfl, h2⟩
theorem zvD {ks : List T_Node} (h : shapeD (midB 25) 25 ks = true) : ∀ y ∈ ks, y.op_ = 26 := by
 simp [shapeD, isOp] at h
 exact h
theorem zvE {ks : List T_Node} (h : shapeD (midB 27) 27 ks = true) : ∃ a, ks = [a] ∧ a.op_ = 1 := by
 simp [shapeD] at h
 obtain ⟨a, rfl⟩ := len1 h.1
 exact ⟨a, rfl, by simpa [isOp] using h.2⟩
theorem zoy {ks : List T_Node} (h : shapeD (midB 1) 1 ks = true) : ∀ y ∈ ks, isStm y = true := by
 simp [shapeD] at h
 exact h
/-- what is gone on with tells the texts of smaller nodes -/
def GE (R : Int → ByteArray → Int → List T_Node → Option ByteArray) (W : Nat) : Prop := ∀ y : T_Node, wN y < W → okB y = true → isExp y = true → R y.op_ y.s_ y.n_ y.kids_ = some (mkB (tE y))
def GS (R : Int → ByteArray → Int → List T_Node → Option ByteArray) (W : Nat) : Prop := ∀ y : T_Node, wN y < W → okB y = true → isStm y = true → R y.op_ y.s_ y.n_ y.kids_ = some (mkB (tS y ++ [10]))
theorem zj7 {op : Int} {s : ByteArray} {n : Int} {ks : List T_Node} {y : T_Node} (h : y ∈ ks) : 1 + wN y + s.size ≤ wN ⟨op, s, n, ks⟩ := by
 have := zc2 h
 simp only [wN]; omega
theorem zoz (R : Int → ByteArray → Int → List T_Node → Option ByteArray) (W : Nat) (x : T_Node) (h : okB x = true) (h1 : x.op_ = 1) (hw : wN x ≤ W) (hW : W ≤ 1048576) (hR : GS R W) :
  zbB R x.op_ x.s_ x.n_ x.kids_ = some (mkB (tB x)) := by
 obtain ⟨op, s, n, ks⟩ := x
 obtain ⟨hs, ho⟩ := zc3 h
 subst h1
 have hst := zoy hs
 have hl := zdn ks
 have hwk : sN ks ≤ wN ⟨1, s, n, ks⟩ := by simp [wN]
 have hb : (tSL ks).length ≤ 64 * sN ks := zhj fun y hy => zhL _ y (Nat.lt_succ_self _) (ho y hy)
 unfold zbB
 have := zow (fun m t i => Ls_l13Block_0 R m t i 1 s n ks) ks (fun x => tS x ++ [10]) [123, 10] (by omega) (by rw [← zfX]; simp; omega)
  (by intro m t; simp only [Ls_l13Block_0]; rw [if_neg (by omega)])
  (by
   intro m i x t hx
   have hm := List.mem_of_getElem? hx
   have hkw := zj7 (op := 1) (s := s) (n := n) hm
   simp only [Ls_l13Block_0]
   rw [if_pos (ltI hx), zU hx, zg, hR x (by omega) (ho x hm) (hst x hm), zg])
 rw [show (⟨#[123, 10]⟩ : ByteArray) = mkB [123, 10] from rfl, this, zg, ← zfX, show (⟨#[125]⟩ : ByteArray) = mkB [125] from rfl, zbN (by simp; omega), zsg, List.append_assoc]
def jt (r : List (List UInt8)) : List UInt8 := r.flatMap fun y => [44, 32] ++ y
theorem zu8 (x : List UInt8) (r : List (List UInt8)) : jn (x :: r) = x ++ jt r := by
 unfold jn jt
 induction r generalizing x with
 | nil => rw [Lib.join_one]; simp
 | cons y r ih => rw [jn2, ih y]; simp
theorem zsk (R : Int → ByteArray → Int → List T_Node → Option ByteArray) (W : Nat) (op : Int) (s : ByteArray) (n : Int) (ks : List T_Node) (fr : Nat) (hf : fr ≤ ks.length) (hw : sN ks ≤ W) (hW : W ≤ 1048576) (ho : ∀ y ∈ ks, okB y = true)
  (hk : ∀ y ∈ ks.drop fr, isExp y = true ∨ y.op_ = 26) (hR : GE R W) : Fs_l13List R op s n ks fr = some (mkB (jn ((ks.drop fr).map tE))) := by
 have hl := zdn ks
 have key : ∀ (m i : Nat) (acc : List UInt8), fr ≤ i → i ≤ ks.length → ks.length - i < m → acc.length + 64 * sN (ks.drop i) ≤ 9223372036854775000 →
   zan R m fr (mkB acc) i op s n ks = some (mkB (acc ++ if i = fr then jn ((ks.drop i).map tE) else jt ((ks.drop i).map tE))) := by
  intro m
  induction m with
  | zero => intro i acc h1 h2 h3; omega
  | succ m ih =>
   intro i acc h1 h2 h3 h4
   simp only [zan]
   by_cases c : i < ks.length
   ·obtain ⟨x, hx⟩ := zbV c
    have hm := List.mem_of_getElem? hx
    have hd : x ∈ ks.drop fr := by
     rw [List.mem_iff_getElem?]
     exact ⟨i - fr, by rw [List.getElem?_drop, show fr + (i - fr) = i by omega]; exact hx⟩
    have hxw := zc2 hm
    have hxo := ho x hm
    have hbx := zhL _ x (Nat.lt_succ_self _) hxo
    rw [drop_some hx] at h4
    simp only [sN] at h4
    unfold bnd at hbx
    rw [if_pos (ltI hx)]
    have hnext : ∀ a2 : List UInt8, a2.length ≤ acc.length + 2 + (tE x).length → zan R m fr (mkB a2) (IntKind.i64.wrap ((i : Int) + 1)) op s n ks = some (mkB (a2 ++ jt ((ks.drop (i + 1)).map tE))) := by
     intro a2 ha2
     rw [wrI (by omega), ih (i + 1) a2 (by omega) (by omega) (by omega) (by omega), if_neg (by omega)]
    have hE : ∀ a1 : List UInt8, a1.length ≤ acc.length + 2 →
      (if x.op_ = 26 then bS (cat (mkB a1) x.s_) fun s1 => bS (cat s1 ⟨#[58, 32]⟩) fun s2 => bS (getI x.kids_ 0) fun e => bS (R e.op_ e.s_ e.n_ e.kids_) fun r => bS (cat s2 r) fun s3 => zan R m fr s3 (IntKind.i64.wrap ((i : Int) + 1)) op s n ks
       else bS (R x.op_ x.s_ x.n_ x.kids_) fun r => bS (cat (mkB a1) r) fun s3 => zan R m fr s3 (IntKind.i64.wrap ((i : Int) + 1)) op s n ks) = some (mkB (a1 ++ tE x ++ jt ((ks.drop (i + 1)).map tE))) := by
     intro a1 ha1
     by_cases c26 : x.op_ = 26
     ·rw [if_pos c26]
      obtain ⟨op', s', n', ks'⟩ := x
      simp only at c26
      subst c26
      obtain ⟨hs', ho'⟩ := zc3 hxo
      obtain ⟨a, rfl, ha⟩ := zh3 hs' (by unfold one8; omega)
      obtain ⟨sl, rfl⟩ : ∃ sl, s' = mkB sl := ⟨bl s', (zjm s').symm⟩
      have haw := zj7 (op := 26) (s := mkB sl) (n := n') (ks := [a]) (y := a) (by simp)
      have hte : tE ⟨26, mkB sl, n', [a]⟩ = sl ++ [58, 32] ++ tE a := by rw [zov]; simp [exT, at0, ze0]
      rw [hte] at hbx hnext ⊢
      simp only [List.length_append, List.length_cons, List.length_nil] at hbx hnext
      simp only
      rw [zbN (by omega), show (⟨#[58, 32]⟩ : ByteArray) = mkB [58, 32] from rfl]
      rw [zbN (by simp only [List.length_append, List.length_cons, List.length_nil]; omega), zcp, zg, hR a (by omega) (ho' a (by simp)) ha, zg, zbN (by simp only [List.length_append, List.length_cons, List.length_nil]; omega)]
      rw [hnext _ (by simp only [List.length_append, List.length_cons, List.length_nil]; omega)]
      simp
     ·rw [if_neg c26]
      rw [hR x (by omega) hxo ((hk x hd).resolve_right c26), zg, zbN (by omega), hnext _ (by simp only [List.length_append]; omega)]
    by_cases c2 : i = fr
    ·subst c2
     rw [if_neg (by omega), zU hx, zg]
     have := hE acc (by omega)
     rw [this, if_pos rfl, drop_some hx, List.map_cons, zu8]
     simp
    ·rw [if_pos (by omega), show (⟨#[44, 32]⟩ : ByteArray) = mkB [44, 32] from rfl, zbN (by simp only [List.length_cons, List.length_nil]; omega), zU hx, zg]
     have := hE (acc ++ [44, 32]) (by simp)
     rw [this, if_neg c2, drop_some hx, List.map_cons]
     simp [jt]
   ·have : i = ks.length := by omega
    subst this
    rw [if_neg (by omega)]
    simp [jn, jt, Lib.join_nil]
 unfold Fs_l13List
 have h5 : sN (ks.drop fr) ≤ sN ks := by
  have := znF (ks.take fr) (ks.drop fr)
  rw [List.take_append_drop] at this; omega
 have := key FU fr [] (Nat.le_refl _) hf (by unfold FU; omega) (by simp; omega)
 rw [if_pos rfl, List.nil_append] at this
 rw [show (⟨#[]⟩ : ByteArray) = mkB [] from rfl, this, zg]
theorem znN (op : Int) (s : ByteArray) (n : Int) (ks : List T_Node) (hs : s.size ≤ 1048576) : zbe FU (mkB []) 0 op s n ks = some (mkB (cm (bl s))) := by
 have key : ∀ (m i : Nat) (acc : List UInt8), i ≤ s.size → s.size - i < m → acc.length + 2 * (s.size - i) ≤ 9223372036854775000 → zbe m (mkB acc) i op s n ks = some (mkB (acc ++ cm ((bl s).drop i))) := by
  intro m
  induction m with
  | zero => intro i acc h1 h2; omega
  | succ m ih =>
   intro i acc h1 h2 h3
   simp only [zbe]
   by_cases c : i < s.size
   ·obtain ⟨b, hb⟩ := zbV (xs := bl s) (i := i) (by rw [bl_len]; exact c)
    have hex : ByteArray.extract s (i : Int).toNat (((i + 1 : Nat) : Int)).toNat = mkB [b] := by
     apply zkt
     rw [ziG, ze0, Int.toNat_natCast, Int.toNat_natCast, drop_some hb, show i + 1 - i = 1 by omega]; simp
    rw [if_pos (by omega), zaD hb, zg, wrI (by omega), hex]
    have hc : ((b.toNat : Int) = 32) = (b = 32) := propext ⟨fun h => UInt8.toNat_inj.1 (by show b.toNat = 32; omega), fun h => by subst h; rfl⟩
    have hcm : cm ((bl s).drop i) = (if b = 32 then [44, 32] else [b]) ++ cm ((bl s).drop (i + 1)) := by rw [drop_some hb]; simp [cm]
    rw [hcm]
    simp only [hc]
    by_cases d : b = 32
    ·rw [if_pos d, if_pos d, show (⟨#[44]⟩ : ByteArray) = mkB [44] from rfl, zbN (by simp only [List.length_cons, List.length_nil]; omega), if_pos (by omega), if_pos (by omega), if_pos ⟨by omega, by omega⟩, zbN (by simp only [List.length_append, List.length_cons, List.length_nil]; omega),
      ih (i + 1) _ (by omega) (by omega) (by simp only [List.length_append, List.length_cons, List.length_nil]; omega)]
     subst d; simp
    ·rw [if_neg d, if_neg d, if_pos (by omega), if_pos (by omega), if_pos ⟨by omega, by omega⟩, zbN (by simp only [List.length_append, List.length_cons, List.length_nil]; omega),
      ih (i + 1) _ (by omega) (by omega) (by simp only [List.length_append, List.length_cons, List.length_nil]; omega)]
     simp
   ·rw [if_neg (by omega), List.drop_eq_nil_of_le (by rw [bl_len]; omega)]
    simp [cm]
 have := key FU 0 [] (by omega) (by unfold FU; omega) (by simp; omega)
 simpa using this
theorem ze1 {x : T_Node} (h : okB x = true) (hW : wN x ≤ 1048576) : (tE x).length ≤ 67108904 ∧ (tS x).length ≤ 67108904 ∧ (tB x).length ≤ 67108904 := by
 have := zhL _ x (Nat.lt_succ_self _) h
 unfold bnd at this; omega
theorem zoA {x : T_Node} (h : isExp x = true) : x.op_ = 10 ∨ x.op_ = 11 ∨ x.op_ = 12 ∨ x.op_ = 13 ∨ x.op_ = 14 ∨ x.op_ = 15 ∨ x.op_ = 16 ∨ x.op_ = 17 ∨ x.op_ = 18 ∨ (zf8 x.op_ ∧ x.op_ ≠ 4) ∨ x.op_ = 24 ∨ x.op_ = 25 ∨ x.op_ = 27 := by
 unfold isExp at h
 simp only [Bool.and_eq_true, decide_eq_true_eq, Bool.not_eq_true', decide_eq_false_iff_not] at h
 unfold zf8; omega
theorem znO (RS RE : Int → ByteArray → Int → List T_Node → Option ByteArray) (x : T_Node) (ho : okB x = true) (hx : isExp x = true) (hW : wN x ≤ 1048576) (hE : GE RE (wN x)) (hS : GS RS (wN x)) :
  zaG RS RE x.op_ x.s_ x.n_ x.kids_ = some (mkB (tE x)) := by
 have hops := zoA hx
 have hz := ze1 ho hW
 have hnum := znM ho
 obtain ⟨op, s, n, ks⟩ := x
 obtain ⟨sl, rfl⟩ : ∃ sl, s = mkB sl := ⟨bl s, (zjm s).symm⟩
 obtain ⟨hsh, hok⟩ := zc3 ho
 have hkz : ∀ y ∈ ks, wN y < wN ⟨op, mkB sl, n, ks⟩ ∧ okB y = true := fun y hy => ⟨by have := zj7 (op := op) (s := mkB sl) (n := n) hy; omega, hok y hy⟩
 have hsz : (mkB sl).size + sN ks = wN ⟨op, mkB sl, n, ks⟩ := by simp [wN]
 rw [mk_size] at hsz
 simp only at hops hnum ⊢
 have hte : tE ⟨op, mkB sl, n, ks⟩ = exT op sl n (ks.map tE) (ks.map tB) := by rw [zov, ze0]
 rw [hte] at hz ⊢
 replace hz := hz.1
 clear hte ho hx
 rcases hops with rfl | rfl | rfl | rfl | rfl | rfl | rfl | rfl | rfl | h | rfl | rfl | rfl
 ·have hd := zsa n (hnum.1 rfl).1 (hnum.1 rfl).2
  have hi := zhk n (hnum.1 rfl).1 (hnum.1 rfl).2
  by_cases c : n < 0
  ·unfold zaG exT
   rw [if_pos rfl, if_pos c, hd, zg, if_pos rfl, if_pos c, show (⟨#[40]⟩ : ByteArray) = mkB [40] from rfl, zbN (by simp only [List.length_append, List.length_cons, List.length_nil]; omega), show (⟨#[41]⟩ : ByteArray) = mkB [41] from rfl, zbN (by simp only [List.length_append, List.length_cons, List.length_nil]; omega)]
  ·unfold zaG exT
   rw [if_pos rfl, if_neg c, hd, zg, if_pos rfl, if_neg c]
 ·simp only [exT, reduceIte, Int.reduceEq, List.length_append, List.length_cons, List.length_nil] at hz
  simp (disch := (simp only [List.length_append, List.length_cons, List.length_nil]; omega)) only [zaG, exT, reduceIte, Int.reduceEq, zg, zbb, zbN]
 ·rfl
 ·rfl
 ·rfl
 ·rfl
 ·simp only [zaG, exT, reduceIte, Int.reduceEq]
 ·obtain ⟨a, rfl, ha⟩ := zh3 hsh (by unfold one8; omega)
  have h1 := hE a (hkz a (by simp)).1 (hkz a (by simp)).2 ha
  simp only [exT, reduceIte, Int.reduceEq, at0, List.map_cons, List.getElem?_cons_zero, Option.getD_some, List.length_append, List.length_cons, List.length_nil] at hz
  simp (disch := (simp only [List.length_append, List.length_cons, List.length_nil]; omega)) only [zaG, exT, reduceIte, Int.reduceEq, zg, zbb, zbN, zcp, h1, at0, List.map_cons, List.getElem?_cons_zero, Option.getD_some]
 ·obtain ⟨a, l, rfl, ha, hl⟩ := zsj hsh
  have h1 := hE a (hkz a (by simp)).1 (hkz a (by simp)).2 ha
  have h2 := zsk RE (wN ⟨18, mkB sl, n, a :: l⟩) 18 (mkB sl) n (a :: l) 1 (by simp) (by omega) hW hok (by simpa using fun y hy => .inl (hl y hy)) hE
  simp only [List.drop_succ_cons, List.drop_zero] at h2
  simp only [exT, reduceIte, Int.reduceEq, at0, List.map_cons, List.getElem?_cons_zero, Option.getD_some, List.length_append, List.length_cons, List.length_nil, List.drop_succ_cons, List.drop_zero] at hz
  have h2' : Fs_l13List RE 18 (mkB sl) n (a :: l) 1 = some (mkB (jn (l.map tE))) := h2
  simp (disch := (simp only [List.length_append, List.length_cons, List.length_nil]; omega)) only [zaG, exT, reduceIte, Int.reduceEq, zg, zbb, zbN, zcp, h1, h2', at0, List.map_cons, List.getElem?_cons_zero, Option.getD_some, List.drop_succ_cons, List.drop_zero]
 ·obtain ⟨a, b, rfl, ha, hb⟩ := zox hsh h.1
  have h1 := hE a (hkz a (by simp)).1 (hkz a (by simp)).2 ha
  have h2 := hE b (hkz b (by simp)).1 (hkz b (by simp)).2 hb
  have h3 : op = 19 ∨ op = 20 ∨ op = 21 ∨ op = 22 ∨ op = 23 := by have := h.1; have := h.2; unfold zf8 at *; omega
  have w0 : IntKind.i64.wrap 0 = 0 := by decide
  have w1 : IntKind.i64.wrap 1 = 1 := by decide
  have w2 : IntKind.i64.wrap 2 = 2 := by decide
  have w3 : IntKind.i64.wrap 3 = 3 := by decide
  have w4 : IntKind.i64.wrap 4 = 4 := by decide
  rcases h3 with rfl | rfl | rfl | rfl | rfl <;>
  ·simp only [exT, sgn, reduceIte, Int.reduceEq, at0, List.map_cons, List.getElem?_cons_zero, List.getElem?_cons_succ, Option.getD_some, List.length_append, List.length_cons, List.length_nil] at hz
   simp (disch := (simp only [List.length_append, List.length_cons, List.length_nil]; omega)) only [zaG, exT, sgn, zes, reduceIte, Int.reduceEq, Int.reduceSub, w0, w1, w2, w3, w4, zg, zbb, zbN, zcp, zfW, zmo, zsi, zvC, h1, h2, at0, List.map_cons, List.getElem?_cons_zero, List.getElem?_cons_succ, Option.getD_some]
 ·obtain ⟨a, rfl, ha⟩ := zh3 hsh (by unfold one8; omega)
  have h1 := hE a (hkz a (by simp)).1 (hkz a (by simp)).2 ha
  simp only [exT, reduceIte, Int.reduceEq, at0, List.map_cons, List.getElem?_cons_zero, Option.getD_some, List.length_append, List.length_cons, List.length_nil] at hz
  simp (disch := (simp only [List.length_append, List.length_cons, List.length_nil]; omega)) only [zaG, exT, reduceIte, Int.reduceEq, zg, zbb, zbN, zcp, h1, at0, List.map_cons, List.getElem?_cons_zero, Option.getD_some]
 ·have hl := zvD hsh
  have h2 := zsk RE (wN ⟨25, mkB sl, n, ks⟩) 25 (mkB sl) n ks 0 (by simp) (by omega) hW hok (by simpa using fun y hy => .inr (hl y hy)) hE
  have h2' : Fs_l13List RE 25 (mkB sl) n ks 0 = some (mkB (jn (ks.map tE))) := by simpa using h2
  simp only [exT, reduceIte, Int.reduceEq, List.length_append, List.length_cons, List.length_nil] at hz
  simp (disch := (simp only [List.length_append, List.length_cons, List.length_nil]; omega)) only [zaG, exT, reduceIte, Int.reduceEq, zg, zbb, zbN, h2']
 ·obtain ⟨a, rfl, ha⟩ := zvE hsh
  have h1 := zoz RS (wN ⟨27, mkB sl, n, [a]⟩) a (hkz a (by simp)).2 ha (by have := (hkz a (by simp)).1; omega) hW hS
  have h2 := znN 27 (mkB sl) n [a] (by rw [mk_size]; omega)
  rw [ze0] at h2
  simp only [exT, reduceIte, Int.reduceEq, at0, List.map_cons, List.getElem?_cons_zero, Option.getD_some, List.length_append, List.length_cons, List.length_nil] at hz
  simp (disch := (simp only [List.length_append, List.length_cons, List.length_nil]; omega)) only [zaG, exT, reduceIte, Int.reduceEq, zg, zbb, zbN, zcp, h1, h2, at0, List.map_cons, List.getElem?_cons_zero, Option.getD_some]
end Go.Pv

namespace Go.Pv
set_option maxRecDepth 100000
set_option maxHeartbeats 4000000
set_option linter.unusedSimpArgs false
set_option linter.unusedVariables false
/-- the reference's texts: all of them -/
theorem GS.mono {R : Int → ByteArray → Int → List T_Node → Option ByteArray} {W W' : Nat} (h : GS R W) (hw : W' ≤ W) : GS R W' := fun y hy => h y (by omega)
theorem zu9 (RS : Int → ByteArray → Int → List T_Node → Option ByteArray) (W : Nat) (hW : W ≤ 1048576) (hS : GS RS W) : ∀ (m : Nat) (x : T_Node), wN x < m → wN x ≤ W → okB x = true → isExp x = true → Fs_l13Exprn RS m x.op_ x.s_ x.n_ x.kids_ = some (mkB (tE x)) := by
 intro m
 induction m with
 | zero => intro x h; omega
 | succ m ih =>
  intro x h1 h2 h3 h4
  exact znO RS (Fs_l13Exprn RS m) x h3 h4 (by omega) (fun y hy hy2 hy3 => ih y (by omega) (by omega) hy2 hy3) (hS.mono h2)
theorem zoB {x : T_Node} (h : isStm x = true) : x.op_ = 2 ∨ x.op_ = 3 ∨ x.op_ = 4 ∨ x.op_ = 5 ∨ x.op_ = 6 ∨ x.op_ = 7 ∨ x.op_ = 8 ∨ x.op_ = 9 := by
 unfold isStm at h
 simp only [Bool.and_eq_true, decide_eq_true_eq] at h
 omega
theorem znP (RS : Int → ByteArray → Int → List T_Node → Option ByteArray) (x : T_Node) (ho : okB x = true) (hx : isStm x = true) (hW : wN x ≤ 1048576) (hS : GS RS (wN x)) :
  Ss_l13Stmt RS x.op_ x.s_ x.n_ x.kids_ = some (mkB (tS x ++ [10])) := by
 have hops := zoB hx
 have hz := ze1 ho hW
 obtain ⟨op, s, n, ks⟩ := x
 obtain ⟨sl, rfl⟩ : ∃ sl, s = mkB sl := ⟨bl s, (zjm s).symm⟩
 obtain ⟨hsh, hok⟩ := zc3 ho
 have hkz : ∀ y ∈ ks, wN y < wN ⟨op, mkB sl, n, ks⟩ ∧ okB y = true := fun y hy => ⟨by have := zj7 (op := op) (s := mkB sl) (n := n) hy; omega, hok y hy⟩
 have hR : ∀ y ∈ ks, isExp y = true → ze4 RS y.op_ y.s_ y.n_ y.kids_ = some (mkB (tE y)) := fun y hy he =>
  zu9 RS _ hW hS FU y (by have := (hkz y hy).1; unfold FU; omega) (by have := (hkz y hy).1; omega) (hkz y hy).2 he
 have hB : ∀ y ∈ ks, y.op_ = 1 → zbB RS y.op_ y.s_ y.n_ y.kids_ = some (mkB (tB y)) := fun y hy h1 =>
  zoz RS _ y (hkz y hy).2 h1 (by have := (hkz y hy).1; omega) hW hS
 simp only at hops ⊢
 have hts : tS ⟨op, mkB sl, n, ks⟩ = stT op sl (ks.map tE) (ks.map tB) := by rw [zsf, ze0]
 rw [hts] at hz ⊢
 replace hz := hz.2.1
 clear hts ho hx
 have one : one8 op → Ss_l13Stmt RS op (mkB sl) n ks = some (mkB (stT op sl (ks.map tE) (ks.map tB) ++ [10])) := by
  intro h1
  obtain ⟨a, rfl, ha⟩ := zh3 hsh h1
  have h2 := hR a (by simp) ha
  have h3 : op = 2 ∨ op = 3 ∨ op = 7 ∨ op = 8 ∨ op = 9 := by unfold one8 at h1; omega
  rcases h3 with rfl | rfl | rfl | rfl | rfl <;>
  ·simp only [stT, reduceIte, Int.reduceEq, at0, List.map_cons, List.getElem?_cons_zero, Option.getD_some, List.length_append, List.length_cons, List.length_nil] at hz
   unfold Ss_l13Stmt
   rw [if_pos (by simp)]
   simp (disch := (simp only [List.length_append, List.length_cons, List.length_nil]; omega)) only [stT, reduceIte, Int.reduceEq, zg, zbb, zbN, zcp, h2, at0, List.map_cons, List.getElem?_cons_zero, Option.getD_some]
   try simp
 rcases hops with rfl | rfl | rfl | rfl | rfl | rfl | rfl | rfl
 ·exact one (by unfold one8; omega)
 ·exact one (by unfold one8; omega)
 ·obtain ⟨a, b, rfl, ha, hb⟩ := zox hsh (by unfold zf8; omega)
  have h2 := hR a (by simp) ha
  have h3 := hR b (by simp) hb
  simp only [stT, reduceIte, Int.reduceEq, at0, List.map_cons, List.getElem?_cons_zero, List.getElem?_cons_succ, Option.getD_some, List.length_append, List.length_cons, List.length_nil] at hz
  unfold Ss_l13Stmt
  rw [if_pos (by simp)]
  simp (disch := (simp only [List.length_append, List.length_cons, List.length_nil]; omega)) only [stT, reduceIte, Int.reduceEq, zg, zbb, zbN, zcp, zfW, h2, h3, at0, List.map_cons, List.getElem?_cons_zero, List.getElem?_cons_succ, Option.getD_some]
  try simp
 ·obtain ⟨a, b, l, rfl, ha, hb, hl⟩ := k_if hsh
  have h2 := hR a (by simp) ha
  have h3 := hB b (by simp) hb
  rcases hl with rfl | ⟨c, rfl, hc⟩
  ·simp only [stT, reduceIte, Int.reduceEq, at0, List.map_cons, List.map_nil, List.getElem?_cons_zero, List.getElem?_cons_succ, Option.getD_some, List.length_append, List.length_cons, List.length_nil] at hz
   unfold Ss_l13Stmt
   rw [if_pos (by simp)]
   have e3 : ¬ ((([a, b] : List T_Node).length : Nat) : Int) = 3 := by simp
   simp (disch := (simp only [List.length_append, List.length_cons, List.length_nil]; omega)) only [stT, reduceIte, Int.reduceEq, if_neg e3, zg, zbb, zbN, zcp, zfW, h2, h3, at0, List.map_cons, List.map_nil, List.getElem?_cons_zero, List.getElem?_cons_succ, Option.getD_some]
   simp
  ·have h4 := hB c (by simp) hc
   simp [stT, at0] at hz
   unfold Ss_l13Stmt
   rw [if_pos (by simp)]
   have e3 : ((([a, b, c] : List T_Node).length : Nat) : Int) = 3 := by simp
   simp (disch := (simp only [List.length_append, List.length_cons, List.length_nil]; omega)) only [stT, reduceIte, Int.reduceEq, if_pos e3, zg, zbb, zbN, zcp, zfW, zmo, h2, h3, h4, at0, List.map_cons, List.map_nil, List.getElem?_cons_zero, List.getElem?_cons_succ, Option.getD_some]
   simp
 ·obtain ⟨a, b, rfl, ha, hb⟩ := k_wh hsh
  have h2 := hR a (by simp) ha
  have h3 := hB b (by simp) hb
  simp only [stT, reduceIte, Int.reduceEq, at0, List.map_cons, List.getElem?_cons_zero, List.getElem?_cons_succ, Option.getD_some, List.length_append, List.length_cons, List.length_nil] at hz
  unfold Ss_l13Stmt
  rw [if_pos (by simp)]
  simp (disch := (simp only [List.length_append, List.length_cons, List.length_nil]; omega)) only [stT, reduceIte, Int.reduceEq, zg, zbb, zbN, zcp, zfW, h2, h3, at0, List.map_cons, List.getElem?_cons_zero, List.getElem?_cons_succ, Option.getD_some]
  try simp
 ·exact one (by unfold one8; omega)
 ·exact one (by unfold one8; omega)
 ·exact one (by unfold one8; omega)
theorem zva : ∀ (m : Nat) (x : T_Node), wN x < m → wN x ≤ 1048576 → okB x = true → isStm x = true → Fs_l13Stmtn m x.op_ x.s_ x.n_ x.kids_ = some (mkB (tS x ++ [10])) := by
 intro m
 induction m with
 | zero => intro x h; omega
 | succ m ih =>
  intro x h1 h2 h3 h4
  exact znP (Fs_l13Stmtn m) x h3 h4 h2 (fun y hy hy2 hy3 => ih y (by omega) (by omega) hy2 hy3)
/-- what is written -/
def zk3 (x : T_Node) : ByteArray := if zhN x = true then mkB (tSL x.kids_) else ⟨#[]⟩
theorem zmp {x : T_Node} (h : zhN x = true) : okB x = true ∧ x.op_ = 1 := by
 unfold zhN at h
 simp only [Bool.and_eq_true, decide_eq_true_eq] at h
 exact ⟨h.2, h.1.1⟩
theorem zvb (op : Int) (s : ByteArray) (n : Int) (ks : List T_Node) (hw : s.size + sN ks ≤ 1048576) : zfq op s n ks = some (zk3 ⟨op, s, n, ks⟩) := by
 unfold zfq zk3
 rw [(zlE op s n ks hw).1, zg]
 by_cases c : zhN ⟨op, s, n, ks⟩ = true
 ·rw [if_pos c, if_pos c]
  obtain ⟨ho, h1⟩ := zmp c
  simp only at h1
  subst h1
  obtain ⟨hs, hok⟩ := zc3 ho
  have hst := zoy hs
  have hl := zdn ks
  have hb : (tSL ks).length ≤ 64 * sN ks := zhj fun y hy => zhL _ y (Nat.lt_succ_self _) (hok y hy)
  have := zow (fun m t i => Ls_Write_0 m t i 1 s n ks) ks (fun x => tS x ++ [10]) [] (by omega) (by rw [← zfX]; simp; omega)
   (by intro m t; simp only [Ls_Write_0]; rw [if_neg (by omega)])
   (by
    intro m i x t hx
    have hm := List.mem_of_getElem? hx
    have hkw := zc2 hm
    have e : Fs_l13Stmt x.op_ x.s_ x.n_ x.kids_ = some (mkB (tS x ++ [10])) := zva FU x (by unfold FU; omega) (by omega) (hok x hm) (hst x hm)
    simp only [Ls_Write_0]
    rw [if_pos (ltI hx), zU hx, zg, e, zg])
  rw [show (⟨#[]⟩ : ByteArray) = mkB [] from rfl, this, zg, ← zfX, List.nil_append]
 ·rw [if_neg c, if_neg c]
end Go.Pv

namespace Go.Pv
set_option maxRecDepth 100000
set_option maxHeartbeats 4000000
set_option linter.unusedSimpArgs false
set_option linter.unusedVariables false
/-- the program's texts -/
def GEi (R : Int → ByteArray → Int → List T_Node → Option ByteArray) (W : Nat) : Prop := ∀ y : T_Node, wN y < W → okB y = true → (isExp y = true ∨ y.op_ = 26) → R y.op_ y.s_ y.n_ y.kids_ = some (mkB (tE y))
def GT (R : List T_Node → Option ByteArray) (W : Nat) : Prop := ∀ ks : List T_Node, (∀ y ∈ ks, okB y = true) → (∀ y ∈ ks, isStm y = true) → sN ks < W → R ks = some (mkB (tSL ks))
theorem zou (R : List T_Node → Option ByteArray) (W : Nat) (x : T_Node) (h : okB x = true) (h1 : x.op_ = 1) (hw : wN x < W) (hW : W ≤ 1048577) (hR : GT R W) :
  zbi R x.op_ x.s_ x.n_ x.kids_ = some (mkB (tB x)) := by
 have hz := ze1 h (by omega)
 have hx := zfV x
 obtain ⟨op, s, n, ks⟩ := x
 obtain ⟨hs, ho⟩ := zc3 h
 subst h1
 rw [zsg] at hz ⊢
 simp only at hx hz ⊢
 simp at hz
 unfold zbi
 rw [hR ks ho (zoy hs) (by omega), zg, show (⟨#[123, 10]⟩ : ByteArray) = mkB [123, 10] from rfl, zbN (by simp; omega), show (⟨#[125]⟩ : ByteArray) = mkB [125] from rfl, zbN (by simp; omega), List.append_assoc]
theorem zjk {α β : Type} (g : α → β) : ∀ (l : List α) (s : List β), l.foldl (fun s x => s ++ [g x]) s = s ++ l.map g
 | [], s => by simp
 | x :: l, s => by rw [List.foldl_cons, zjk g l]; simp
theorem zmk (R : Int → ByteArray → Int → List T_Node → Option ByteArray) (W : Nat) (ks : List T_Node) (hw : sN ks ≤ W) (hW : W ≤ 1048576) (ho : ∀ y ∈ ks, okB y = true) (hk : ∀ y ∈ ks, isExp y = true ∨ y.op_ = 26) (hR : GEi R W) :
  zdZ R ks = some (mkB (jn (ks.map tE))) := by
 have hl := zdn ks
 unfold zdZ
 have := zd0 (fun m (t : List ByteArray) i => Li_joined_0 R m t ks ks.length i) ks (fun s x => s ++ [mkB (tE x)]) (fun s => s) [] (by omega)
  (by intro m s _; simp only [Li_joined_0]; rw [if_neg (by omega)])
  (by
   intro m i x s hx hs
   have hm := List.mem_of_getElem? hx
   have hkw := zc2 hm
   have hi := ltN hx
   rw [zjk] at hs
   have hsl : s.length ≤ ks.length := by rw [hs]; simp; omega
   simp only [Li_joined_0]
   rw [if_pos (ltI hx), zU hx, zg, hR x (by omega) (ho x hm) (hk x hm), zg, if_pos (zhl (by simp only [zlG]; omega)), wrI (by omega)])
 rw [zjk, List.nil_append] at this
 rw [this, zg]
 unfold Fstrings_Join
 have e : (ks.map fun x => mkB (tE x)).map (·.data.toList) = ks.map tE := by simp [mkB]
 have hb := znL (l := ks) fun y hy => zhL _ y (Nat.lt_succ_self _) (ho y hy)
 unfold jn at hb
 have hc : joinC (ks.map fun x => mkB (tE x)) ⟨#[44, 32]⟩ := by
  unfold joinC
  rw [e]
  exact ⟨by simp; omega, by show (Lib.join _ [44, 32]).length ≤ _; omega⟩
 rw [if_pos hc, zg]
 unfold zlu
 rw [e]; rfl
theorem zxj (n : Int) (h0 : -2147483647 ≤ n) (h1 : n ≤ 2147483647) : zb2 n = some (mkB (Lib.itoa n)) := by
 unfold zb2
 rw [if_pos ⟨by omega, by omega⟩]; rfl
theorem znH (RS : List T_Node → Option ByteArray) (RE : Int → ByteArray → Int → List T_Node → Option ByteArray) (x : T_Node) (ho : okB x = true) (hx : isExp x = true ∨ x.op_ = 26) (hW : wN x ≤ 1048576) (hE : GEi RE (wN x)) (hS : GT RS (wN x)) :
  zV RS RE x.op_ x.s_ x.n_ x.kids_ = some (mkB (tE x)) := by
 have hops : x.op_ = 26 ∨ _ := hx.symm.imp id zoA
 have hz := ze1 ho hW
 have hnum := znM ho
 obtain ⟨op, s, n, ks⟩ := x
 obtain ⟨sl, rfl⟩ : ∃ sl, s = mkB sl := ⟨bl s, (zjm s).symm⟩
 obtain ⟨hsh, hok⟩ := zc3 ho
 have hkz : ∀ y ∈ ks, wN y < wN ⟨op, mkB sl, n, ks⟩ ∧ okB y = true := fun y hy => ⟨by have := zj7 (op := op) (s := mkB sl) (n := n) hy; omega, hok y hy⟩
 have hsz : (mkB sl).size + sN ks = wN ⟨op, mkB sl, n, ks⟩ := by simp [wN]
 rw [mk_size] at hsz
 simp only at hops hnum ⊢
 have hte : tE ⟨op, mkB sl, n, ks⟩ = exT op sl n (ks.map tE) (ks.map tB) := by rw [zov, ze0]
 rw [hte] at hz ⊢
 replace hz := hz.1
 clear hte ho hx
 have w0 : IntKind.i64.wrap 0 = 0 := by decide
 have w1 : IntKind.i64.wrap 1 = 1 := by decide
 have w2 : IntKind.i64.wrap 2 = 2 := by decide
 have w3 : IntKind.i64.wrap 3 = 3 := by decide
 have w4 : IntKind.i64.wrap 4 = 4 := by decide
 rcases hops with rfl | rfl | rfl | rfl | rfl | rfl | rfl | rfl | rfl | rfl | h | rfl | rfl | rfl
 ·obtain ⟨a, rfl, ha⟩ := zh3 hsh (by unfold one8; omega)
  have h1 := hE a (hkz a (by simp)).1 (hkz a (by simp)).2 (.inl ha)
  simp only [exT, reduceIte, Int.reduceEq, at0, List.map_cons, List.getElem?_cons_zero, Option.getD_some, List.length_append, List.length_cons, List.length_nil] at hz
  simp (disch := (simp only [List.length_append, List.length_cons, List.length_nil]; omega)) only [zV, zu, exT, reduceIte, Int.reduceEq, zg, zbb, zbN, zcp, h1, at0, List.map_cons, List.getElem?_cons_zero, Option.getD_some]
 ·have hd := zxj n (hnum.1 rfl).1 (hnum.1 rfl).2
  have hi := zhk n (hnum.1 rfl).1 (hnum.1 rfl).2
  by_cases c : n < 0
  ·unfold zV exT
   rw [if_pos rfl, if_pos c, hd, zg, if_pos rfl, if_pos c, show (⟨#[40]⟩ : ByteArray) = mkB [40] from rfl, zbN (by simp only [List.length_append, List.length_cons, List.length_nil]; omega), show (⟨#[41]⟩ : ByteArray) = mkB [41] from rfl, zbN (by simp only [List.length_append, List.length_cons, List.length_nil]; omega)]
  ·unfold zV exT
   rw [if_pos rfl, if_neg c, hd, zg, if_pos rfl, if_neg c]
 ·simp only [exT, reduceIte, Int.reduceEq, List.length_append, List.length_cons, List.length_nil] at hz
  simp (disch := (simp only [List.length_append, List.length_cons, List.length_nil]; omega)) only [zV, exT, reduceIte, Int.reduceEq, zg, zbb, zbN]
 ·simp only [zV, exT, reduceIte, Int.reduceEq, Int.reduceSub, w0, zcp, zg]; rfl
 ·simp only [zV, exT, reduceIte, Int.reduceEq, Int.reduceSub, w1, zfW, zg]; rfl
 ·simp only [zV, exT, reduceIte, Int.reduceEq, Int.reduceSub, w2, zmo, zg]; rfl
 ·simp only [zV, exT, reduceIte, Int.reduceEq, Int.reduceSub, w3, zsi, zg]; rfl
 ·simp only [zV, exT, reduceIte, Int.reduceEq]
 ·obtain ⟨a, rfl, ha⟩ := zh3 hsh (by unfold one8; omega)
  have h1 := hE a (hkz a (by simp)).1 (hkz a (by simp)).2 (.inl ha)
  simp only [exT, reduceIte, Int.reduceEq, at0, List.map_cons, List.getElem?_cons_zero, Option.getD_some, List.length_append, List.length_cons, List.length_nil] at hz
  simp (disch := (simp only [List.length_append, List.length_cons, List.length_nil]; omega)) only [zV, zu, exT, reduceIte, Int.reduceEq, zg, zbb, zbN, zcp, h1, at0, List.map_cons, List.getElem?_cons_zero, Option.getD_some]
 ·obtain ⟨a, l, rfl, ha, hl⟩ := zsj hsh
  have h1 := hE a (hkz a (by simp)).1 (hkz a (by simp)).2 (.inl ha)
  have hsl : sN l ≤ sN (a :: l) := by simp only [sN]; omega
  have h2 := zmk RE (wN ⟨18, mkB sl, n, a :: l⟩) l (by omega) hW (fun y hy => hok y (by simp [hy])) (fun y hy => .inl (hl y hy)) hE
  have e1 : List.take ((a :: l).length - 1) l = l := by simp
  simp only [exT, reduceIte, Int.reduceEq, at0, List.map_cons, List.getElem?_cons_zero, Option.getD_some, List.length_append, List.length_cons, List.length_nil, List.drop_succ_cons, List.drop_zero] at hz
  have e2 : 1 ≤ (a :: l).length ∧ (a :: l).length ≤ (a :: l).length ∧ (a :: l).length ≤ (a :: l).length := ⟨by simp, Nat.le_refl _, Nat.le_refl _⟩
  simp (disch := (simp only [List.length_append, List.length_cons, List.length_nil]; omega)) only [zV, zu, exT, reduceIte, Int.reduceEq, zg, zbb, zbN, zcp, h1, if_pos e2, e1, h2, at0, List.map_cons, List.getElem?_cons_zero, Option.getD_some, List.drop_succ_cons, List.drop_zero]
 ·obtain ⟨a, b, rfl, ha, hb⟩ := zox hsh h.1
  have h1 := hE a (hkz a (by simp)).1 (hkz a (by simp)).2 (.inl ha)
  have h2 := hE b (hkz b (by simp)).1 (hkz b (by simp)).2 (.inl hb)
  have h3 : op = 19 ∨ op = 20 ∨ op = 21 ∨ op = 22 ∨ op = 23 := by have := h.1; have := h.2; unfold zf8 at *; omega
  rcases h3 with rfl | rfl | rfl | rfl | rfl <;>
  ·simp only [exT, sgn, reduceIte, Int.reduceEq, at0, List.map_cons, List.getElem?_cons_zero, List.getElem?_cons_succ, Option.getD_some, List.length_append, List.length_cons, List.length_nil] at hz
   simp (disch := (simp only [List.length_append, List.length_cons, List.length_nil]; omega)) only [zV, zu, exT, sgn, reduceIte, Int.reduceEq, Int.reduceSub, w0, w1, w2, w3, w4, zg, zbb, zbN, zcp, zfW, zmo, zsi, zvC, h1, h2, at0, List.map_cons, List.getElem?_cons_zero, List.getElem?_cons_succ, Option.getD_some]
   simp
 ·obtain ⟨a, rfl, ha⟩ := zh3 hsh (by unfold one8; omega)
  have h1 := hE a (hkz a (by simp)).1 (hkz a (by simp)).2 (.inl ha)
  simp only [exT, reduceIte, Int.reduceEq, at0, List.map_cons, List.getElem?_cons_zero, Option.getD_some, List.length_append, List.length_cons, List.length_nil] at hz
  simp (disch := (simp only [List.length_append, List.length_cons, List.length_nil]; omega)) only [zV, zu, exT, reduceIte, Int.reduceEq, zg, zbb, zbN, zcp, h1, at0, List.map_cons, List.getElem?_cons_zero, Option.getD_some]
 ·have hl := zvD hsh
  have h2 := zmk RE (wN ⟨25, mkB sl, n, ks⟩) ks (by omega) hW hok (fun y hy => .inr (hl y hy)) hE
  simp only [exT, reduceIte, Int.reduceEq, List.length_append, List.length_cons, List.length_nil] at hz
  simp (disch := (simp only [List.length_append, List.length_cons, List.length_nil]; omega)) only [zV, exT, reduceIte, Int.reduceEq, zg, zbb, zbN, h2]
 ·obtain ⟨a, rfl, ha⟩ := zvE hsh
  have h1 := zou RS (wN ⟨27, mkB sl, n, [a]⟩) a (hkz a (by simp)).2 ha (hkz a (by simp)).1 (by omega) hS
  have hms := mk_size sl
  have h2 : Fi_namesOf 27 (mkB sl) n [a] = some (wordsL (mkB sl)) := zjG 27 n (mkB sl) [a] (by omega)
  have hjn := znJ (mkB sl)
  rw [ze0] at hjn
  have hcm := zsh sl
  have h3 : Fstrings_Join (wordsL (mkB sl)) (mkB [44, 32]) = some (mkB (cm sl)) := by
   unfold Fstrings_Join
   have hwl := zjl (mkB sl)
   have hj2 : Lib.join ((wordsL (mkB sl)).map (·.data.toList)) [44, 32] = cm sl := hjn
   have hc : joinC (wordsL (mkB sl)) (mkB [44, 32]) := by
    unfold joinC
    exact ⟨by omega, by show (Lib.join _ [44, 32]).length ≤ _; rw [hj2]; omega⟩
   rw [if_pos hc]
   show some (mkB (Lib.join _ [44, 32])) = _
   rw [hj2]
  simp only [exT, reduceIte, Int.reduceEq, at0, List.map_cons, List.getElem?_cons_zero, Option.getD_some, List.length_append, List.length_cons, List.length_nil] at hz
  simp (disch := (simp only [List.length_append, List.length_cons, List.length_nil]; omega)) only [zV, exT, reduceIte, Int.reduceEq, zg, zbb, zbN, zcp, h1, h2, h3, at0, List.map_cons, List.getElem?_cons_zero, Option.getD_some]
theorem GT.mono {R : List T_Node → Option ByteArray} {W W' : Nat} (h : GT R W) (hw : W' ≤ W) : GT R W' := fun ks h1 h2 h3 => h ks h1 h2 (by omega)
theorem zu2 (RS : List T_Node → Option ByteArray) (W : Nat) (hW : W ≤ 1048576) (hS : GT RS W) : ∀ (m : Nat) (x : T_Node), wN x < m → wN x ≤ W → okB x = true → (isExp x = true ∨ x.op_ = 26) → Fi_exprTextn RS m x.op_ x.s_ x.n_ x.kids_ = some (mkB (tE x)) := by
 intro m
 induction m with
 | zero => intro x h; omega
 | succ m ih =>
  intro x h1 h2 h3 h4
  exact znH RS (Fi_exprTextn RS m) x h3 h4 (by omega) (fun y hy hy2 hy3 => ih y (by omega) (by omega) hy2 hy3) (hS.mono h2)
theorem zxk (RS : List T_Node → Option ByteArray) (x : T_Node) (ho : okB x = true) (hx : isStm x = true) (hW : wN x ≤ 1048576) (hS : GT RS (wN x)) :
  Fi_statement RS x.op_ x.s_ x.n_ x.kids_ = some (mkB (tS x)) := by
 have hops := zoB hx
 have hz := ze1 ho hW
 obtain ⟨op, s, n, ks⟩ := x
 obtain ⟨sl, rfl⟩ : ∃ sl, s = mkB sl := ⟨bl s, (zjm s).symm⟩
 obtain ⟨hsh, hok⟩ := zc3 ho
 have hkz : ∀ y ∈ ks, wN y < wN ⟨op, mkB sl, n, ks⟩ ∧ okB y = true := fun y hy => ⟨by have := zj7 (op := op) (s := mkB sl) (n := n) hy; omega, hok y hy⟩
 have hR : ∀ y ∈ ks, isExp y = true → zfv RS y.op_ y.s_ y.n_ y.kids_ = some (mkB (tE y)) := fun y hy he =>
  zu2 RS _ hW hS FU y (by have := (hkz y hy).1; unfold FU; omega) (by have := (hkz y hy).1; omega) (hkz y hy).2 (.inl he)
 have hB : ∀ y ∈ ks, y.op_ = 1 → zbi RS y.op_ y.s_ y.n_ y.kids_ = some (mkB (tB y)) := fun y hy h1 =>
  zou RS _ y (hkz y hy).2 h1 (hkz y hy).1 (by omega) hS
 simp only at hops ⊢
 have hts : tS ⟨op, mkB sl, n, ks⟩ = stT op sl (ks.map tE) (ks.map tB) := by rw [zsf, ze0]
 rw [hts] at hz ⊢
 replace hz := hz.2.1
 clear hts ho hx
 have one : one8 op → Fi_statement RS op (mkB sl) n ks = some (mkB (stT op sl (ks.map tE) (ks.map tB))) := by
  intro h1
  obtain ⟨a, rfl, ha⟩ := zh3 hsh h1
  have h2 := hR a (by simp) ha
  have h3 : op = 2 ∨ op = 3 ∨ op = 7 ∨ op = 8 ∨ op = 9 := by unfold one8 at h1; omega
  rcases h3 with rfl | rfl | rfl | rfl | rfl <;>
  ·simp only [stT, reduceIte, Int.reduceEq, at0, List.map_cons, List.getElem?_cons_zero, Option.getD_some, List.length_append, List.length_cons, List.length_nil] at hz
   simp (disch := (simp only [List.length_append, List.length_cons, List.length_nil]; omega)) only [Fi_statement, zK, stT, reduceIte, Int.reduceEq, zg, zbb, zbN, zcp, h2, at0, List.map_cons, List.getElem?_cons_zero, Option.getD_some]
 rcases hops with rfl | rfl | rfl | rfl | rfl | rfl | rfl | rfl
 ·exact one (by unfold one8; omega)
 ·exact one (by unfold one8; omega)
 ·obtain ⟨a, b, rfl, ha, hb⟩ := zox hsh (by unfold zf8; omega)
  have h2 := hR a (by simp) ha
  have h3 := hR b (by simp) hb
  simp only [stT, reduceIte, Int.reduceEq, at0, List.map_cons, List.getElem?_cons_zero, List.getElem?_cons_succ, Option.getD_some, List.length_append, List.length_cons, List.length_nil] at hz
  simp (disch := (simp only [List.length_append, List.length_cons, List.length_nil]; omega)) only [Fi_statement, zK, stT, reduceIte, Int.reduceEq, zg, zbb, zbN, zcp, zfW, h2, h3, at0, List.map_cons, List.getElem?_cons_zero, List.getElem?_cons_succ, Option.getD_some]
 ·obtain ⟨a, b, l, rfl, ha, hb, hl⟩ := k_if hsh
  have h2 := hR a (by simp) ha
  have h3 := hB b (by simp) hb
  rcases hl with rfl | ⟨c, rfl, hc⟩
  ·simp only [stT, reduceIte, Int.reduceEq, at0, List.map_cons, List.map_nil, List.getElem?_cons_zero, List.getElem?_cons_succ, Option.getD_some, List.length_append, List.length_cons, List.length_nil] at hz
   have e3 : ¬ ((([a, b] : List T_Node).length : Nat) : Int) = 3 := by simp
   simp (disch := (simp only [List.length_append, List.length_cons, List.length_nil]; omega)) only [Fi_statement, zK, stT, reduceIte, Int.reduceEq, if_neg e3, zg, zbb, zbN, zcp, zfW, h2, h3, at0, List.map_cons, List.map_nil, List.getElem?_cons_zero, List.getElem?_cons_succ, Option.getD_some]
   simp
  ·have h4 := hB c (by simp) hc
   simp [stT, at0] at hz
   have e3 : ((([a, b, c] : List T_Node).length : Nat) : Int) = 3 := by simp
   simp (disch := (simp only [List.length_append, List.length_cons, List.length_nil]; omega)) only [Fi_statement, zK, stT, reduceIte, Int.reduceEq, if_pos e3, zg, zbb, zbN, zcp, zfW, zmo, h2, h3, h4, at0, List.map_cons, List.map_nil, List.getElem?_cons_zero, List.getElem?_cons_succ, Option.getD_some]
   simp
 ·obtain ⟨a, b, rfl, ha, hb⟩ := k_wh hsh
  have h2 := hR a (by simp) ha
  have h3 := hB b (by simp) hb
  simp only [stT, reduceIte, Int.reduceEq, at0, List.map_cons, List.getElem?_cons_zero, List.getElem?_cons_succ, Option.getD_some, List.length_append, List.length_cons, List.length_nil] at hz
  simp (disch := (simp only [List.length_append, List.length_cons, List.length_nil]; omega)) only [Fi_statement, zK, stT, reduceIte, Int.reduceEq, zg, zbb, zbN, zcp, zfW, h2, h3, at0, List.map_cons, List.getElem?_cons_zero, List.getElem?_cons_succ, Option.getD_some]
 ·exact one (by unfold one8; omega)
 ·exact one (by unfold one8; omega)
 ·exact one (by unfold one8; omega)
theorem zgC : ∀ (l : List T_Node) (s : List Int), l.foldl (fun s x => s ++ zdM (mkB (tS x ++ [10]))) s = s ++ (tSL l).map fun b => (b.toNat : Int)
 | [], s => by simp [tSL]
 | x :: l, s => by
  rw [List.foldl_cons, zgC l]
  simp [tSL, zdM, mkB]
theorem zml (l : List UInt8) : znR (l.map fun b => (b.toNat : Int)) = mkB l := by
 unfold znR mkB
 simp [Function.comp_def]
theorem zsb : ∀ (m : Nat) (ks : List T_Node), (∀ y ∈ ks, okB y = true) → (∀ y ∈ ks, isStm y = true) → sN ks < m → sN ks ≤ 1048576 → Fi_statementsn m ks = some (mkB (tSL ks)) := by
 intro m
 induction m with
 | zero => intro ks _ _ h; omega
 | succ m ih =>
  intro ks ho hst h1 h2
  have hl := zdn ks
  show Si_statements (Fi_statementsn m) ks = _
  unfold Si_statements
  have := zd0 (fun q (t : List Int) i => Li_statements_0 (Fi_statementsn m) q t ks ks.length i) ks (fun s x => s ++ zdM (mkB (tS x ++ [10]))) (fun s => s) [] (by omega)
   (by intro q s _; simp only [Li_statements_0]; rw [if_neg (by omega)])
   (by
    intro q i x s hx hs
    have hm := List.mem_of_getElem? hx
    have hkw := zc2 hm
    have hi := ltN hx
    rw [zgC, List.nil_append] at hs
    have hb : (tSL (ks.take i)).length ≤ 64 * sN (ks.take i) := zhj fun y hy => zhL _ y (Nat.lt_succ_self _) (ho y (List.mem_of_mem_take hy))
    have htk := znG ks i
    have hsl : s.length ≤ 67108864 := by rw [hs]; simp; omega
    have hz := (ze1 (ho x hm) (by omega)).2.1
    have e : Fi_statement (Fi_statementsn m) x.op_ x.s_ x.n_ x.kids_ = some (mkB (tS x)) := zxk (Fi_statementsn m) x (ho x hm) (hst x hm) (by omega) (fun k2 g1 g2 g3 => ih k2 g1 g2 (by omega) (by omega))
    simp only [Li_statements_0]
    rw [if_pos (ltI hx), zU hx, zg, e, zg, show (⟨#[10]⟩ : ByteArray) = mkB [10] from rfl, zbN (by simp; omega), if_pos (zhl (by rw [mk_size]; simp only [zlG, List.length_append, List.length_cons, List.length_nil]; omega)), wrI (by omega)])
  rw [zgC, List.nil_append] at this
  rw [this, zg, zml]
theorem zu3 (op : Int) (s : ByteArray) (n : Int) (ks : List T_Node) (hw : s.size + sN ks ≤ 1048576) : zfw op s n ks = some (zk3 ⟨op, s, n, ks⟩) := by
 unfold zfw zk3
 rw [(zlE op s n ks hw).2, zg]
 by_cases c : zhN ⟨op, s, n, ks⟩ = true
 ·rw [if_pos c, if_pos c]
  obtain ⟨ho, h1⟩ := zmp c
  simp only at h1
  subst h1
  obtain ⟨hs, hok⟩ := zc3 ho
  have : Fi_statements ks = some (mkB (tSL ks)) := zsb FU ks hok (zoy hs) (by unfold FU; omega) (by omega)
  rw [this, zg]
 ·rw [if_neg c, if_neg c]
theorem zpL {op : Int} {s : ByteArray} {k : Int} {ks : List T_Node} (hs : s.size ≤ 9223372036854775807) (hl : ks.length ≤ 9223372036854775807) (ho : okL ks) : zcH op s k ks = some true := by
 obtain ⟨r, e, hr⟩ := zr8 FU op s k ks 1048576 hs hl ho (by omega) (by omega) (by unfold FU; omega)
 unfold zcH zhp
 rw [e, zg]
 by_cases c : r < 0
 ·rw [if_pos c]
 rw [if_neg c]
 obtain ⟨h1, h2⟩ := hr.resolve_left c
 have hw : s.size + sN ks ≤ 1048576 := by omega
 have e8 : Fw_toNode op s k ks = some (op, s, k, ks) := zr9 FU op s k ks (by unfold FU; omega) (by omega)
 have e11 : Fw_eqNode op s k ks op s k ks = some true := zr2 FU op s k ks (by unfold FU; omega) (by omega)
 rw [e8, zg]
 simp only
 rw [zvb op s k ks hw, zg, zu3 op s k ks hw, zg, if_pos rfl, e11, zg, if_pos rfl]
end Go.Pv
