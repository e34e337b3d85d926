/- Proof: plain laws: a node is right. No condition. -/
import Derived.Test.YtaadneenebhnoaaGreatDoorTk
set_option autoImplicit true
set_option relaxedAutoImplicit true
set_option linter.unusedSimpArgs false
set_option linter.unusedVariables false
namespace Go.Pv
set_option maxRecDepth 100000
set_option maxHeartbeats 4000000
set_option linter.unusedSimpArgs false
set_option linter.unusedVariables false
/-! trees: how many nodes, how deep -/
mutual
def szT : T_Node → Nat
 | ⟨_, _, _, ks⟩ => 1 + szL ks
def szL : List T_Node → Nat
 | [] => 0
 | x :: l => szT x + szL l
end
mutual
def dpT : T_Node → Nat
 | ⟨_, _, _, ks⟩ => dpL ks + 1
def dpL : List T_Node → Nat
 | [] => 0
 | x :: l => max (dpT x) (dpL l)
end
theorem zp4 (x : T_Node) : szT x = 1 + szL x.kids_ := by cases x; simp [szT]
theorem zp5 (x : T_Node) : dpT x = dpL x.kids_ + 1 := by cases x; simp [dpT]
mutual
theorem zv1 : ∀ x : T_Node, szT x ≤ 1 + wN x
 | ⟨_, s, _, ks⟩ => by have := zkC ks; simp only [szT, wN]; omega
theorem zkC : ∀ l : List T_Node, szL l ≤ sN l
 | [] => by simp [szL, sN]
 | x :: l => by have := zv1 x; have := zkC l; simp only [szL, sN]; omega
end
mutual
theorem zv2 : ∀ x : T_Node, dpT x ≤ 1 + wN x
 | ⟨_, s, _, ks⟩ => by have := zkD ks; simp only [dpT, wN]; omega
theorem zkD : ∀ l : List T_Node, dpL l ≤ sN l
 | [] => by simp [dpL, sN]
 | x :: l => by have := zv2 x; have := zkD l; simp only [dpL, sN]; omega
end
theorem zn4 (a b : List T_Node) : szL (a ++ b) = szL a + szL b := by
 induction a with
 | nil => simp [szL]
 | cons x l ih => simp [szL, ih]; omega
theorem zgP : ∀ (l : List T_Node) (t : Int), l.foldl (fun t x => t + (szT x : Int)) t = t + szL l
 | [], t => by simp [szL]
 | x :: l, t => by rw [List.foldl_cons, zgP l]; simp [szL]; omega
theorem zgQ : ∀ (l : List T_Node) (t : Nat), l.foldl (fun t x => ((max t.toNat (dpT x) : Nat) : Int)) (t : Int) = ((max t (dpL l) : Nat) : Int)
 | [], t => by simp [dpL]
 | x :: l, t => by
  rw [List.foldl_cons, Int.toNat_natCast, zgQ l]
  simp only [dpL, Nat.max_assoc]
theorem dpL_take (l : List T_Node) (i : Nat) : dpL (l.take i) ≤ dpL l := by
 induction l generalizing i with
 | nil => simp
 | cons x l ih =>
  cases i with
  | zero => simp [dpL]
  | succ i => simp only [List.take_succ_cons, dpL]; have := ih i; omega
theorem zp6 (l : List T_Node) (i : Nat) : szL (l.take i) ≤ szL l := by
 have := zn4 (l.take i) (l.drop i)
 rw [List.take_append_drop] at this; omega
theorem szL_mem {l : List T_Node} {x : T_Node} (h : x ∈ l) : szT x ≤ szL l := by
 induction l with
 | nil => cases h
 | cons y l ih =>
  simp only [szL]
  rcases List.mem_cons.1 h with rfl | h
  ·omega
  ·have := ih h; omega
theorem dpL_mem {l : List T_Node} {x : T_Node} (h : x ∈ l) : dpT x ≤ dpL l := by
 induction l with
 | nil => cases h
 | cons y l ih =>
  simp only [dpL]
  rcases List.mem_cons.1 h with rfl | h
  ·omega
  ·have := ih h; omega
theorem zjF {l : List T_Node} {i : Nat} {x : T_Node} (h : l[i]? = some x) : szL (l.take i) + szT x ≤ szL l := by
 have h1 := zp6 l (i + 1)
 rw [List.take_add_one, h, zn4] at h1
 simp only [Option.toList_some, szL] at h1; omega
theorem zv3 : ∀ (n : Nat) (op : Int) (s : ByteArray) (k : Int) (ks : List T_Node), sN ks < n → sN ks ≤ 1048576 → Fs_Sizen n op s k ks = some ((1 + szL ks : Nat) : Int) := by
 intro n
 induction n with
 | zero => intro op s k ks h; omega
 | succ n ih =>
  intro op s k ks h h1
  have hl := zdn ks
  have hs := zkC ks
  show Ss_Size (Fs_Sizen n) op s k ks = _
  unfold Ss_Size
  rw [zd0 (fun m t i => Ls_Size_0 (Fs_Sizen n) m t i op s k ks) ks (fun t x => t + (szT x : Int)) id 1 (by omega)
   (by intro m t _; simp only [Ls_Size_0]; rw [if_neg (by omega)]; rfl)
   (by
    intro m i x t hx ht
    have hm := zc2 (List.mem_of_getElem? hx)
    have hw := zfV x
    have hi := ltN hx
    have h2 := zjF hx
    rw [zgP] at ht
    simp only [Ls_Size_0]
    rw [if_pos (ltI hx), zU hx, zg, ih _ _ _ _ (by omega) (by omega), zg, wrI (by omega), ← zp4, zao _ (by omega) (by omega)]), zg]
  simp only [id, zgP]; congr 1
theorem zv4 : ∀ (n : Nat) (op : Int) (s : ByteArray) (k : Int) (ks : List T_Node), sN ks < n → sN ks ≤ 1048576 → Fi_Sizen n op s k ks = some ((1 + szL ks : Nat) : Int) := by
 intro n
 induction n with
 | zero => intro op s k ks h; omega
 | succ n ih =>
  intro op s k ks h h1
  have hl := zdn ks
  have hs := zkC ks
  show Si_Size (Fi_Sizen n) op s k ks = _
  unfold Si_Size
  rw [zd0 (fun m t i => Li_Size_0 (Fi_Sizen n) m t ks ks.length i) ks (fun t x => t + (szT x : Int)) id 1 (by omega)
   (by intro m t _; simp only [Li_Size_0]; rw [if_neg (by omega)]; rfl)
   (by
    intro m i x t hx ht
    have hm := zc2 (List.mem_of_getElem? hx)
    have hw := zfV x
    have hi := ltN hx
    have h2 := zjF hx
    rw [zgP] at ht
    simp only [Li_Size_0]
    rw [if_pos (ltI hx), zU hx, zg, ih _ _ _ _ (by omega) (by omega), zg, wrI (by omega), ← zp4, zao _ (by omega) (by omega)]), zg]
  simp only [id, zgP]; congr 1
theorem s_max (a b : Nat) : zfo (a : Int) (b : Int) = some ((max a b : Nat) : Int) := by
 unfold zfo
 split <;> (congr 1; omega)
theorem zv5 : ∀ (n : Nat) (op : Int) (s : ByteArray) (k : Int) (ks : List T_Node), sN ks < n → sN ks ≤ 1048576 → Fs_Deepn n op s k ks = some ((dpL ks + 1 : Nat) : Int) := by
 intro n
 induction n with
 | zero => intro op s k ks h; omega
 | succ n ih =>
  intro op s k ks h h1
  have hl := zdn ks
  have hs := zkD ks
  show Ss_Deep (Fs_Deepn n) op s k ks = _
  unfold Ss_Deep
  rw [zd0 (fun m t i => Ls_Deep_0 (Fs_Deepn n) m t i op s k ks) ks (fun t x => ((max t.toNat (dpT x) : Nat) : Int)) id 0 (by omega)
   (by intro m t _; simp only [Ls_Deep_0]; rw [if_neg (by omega)]; rfl)
   (by
    intro m i x t hx ht
    have hm := zc2 (List.mem_of_getElem? hx)
    have hw := zfV x
    have hi := ltN hx
    have ht' : t = ((max 0 (dpL (ks.take i)) : Nat) : Int) := by rw [ht]; exact zgQ _ 0
    simp only [Ls_Deep_0]
    rw [if_pos (ltI hx), zU hx, zg, ih _ _ _ _ (by omega) (by omega), zg, wrI (by omega), ← zp5, ht', s_max, zg, Int.toNat_natCast]), zg]
  have := zgQ ks 0
  rw [show ((0 : Nat) : Int) = 0 from rfl] at this
  simp only [id, this]
  rw [zao _ (by omega) (by omega)]
  congr 1
theorem zv6 : ∀ (n : Nat) (op : Int) (s : ByteArray) (k : Int) (ks : List T_Node), sN ks < n → sN ks ≤ 1048576 → Fi_Deepn n op s k ks = some ((dpL ks + 1 : Nat) : Int) := by
 intro n
 induction n with
 | zero => intro op s k ks h; omega
 | succ n ih =>
  intro op s k ks h h1
  have hl := zdn ks
  have hs := zkD ks
  show Si_Deep (Fi_Deepn n) op s k ks = _
  unfold Si_Deep
  rw [zd0 (fun m t i => Li_Deep_0 (Fi_Deepn n) m t ks ks.length i) ks (fun t x => ((max t.toNat (dpT x) : Nat) : Int)) id 0 (by omega)
   (by intro m t _; simp only [Li_Deep_0]; rw [if_neg (by omega)]; rfl)
   (by
    intro m i x t hx ht
    have hm := zc2 (List.mem_of_getElem? hx)
    have hw := zfV x
    have hi := ltN hx
    have ht' : t = ((max 0 (dpL (ks.take i)) : Nat) : Int) := by rw [ht]; exact zgQ _ 0
    simp only [Li_Deep_0]
    rw [if_pos (ltI hx), zU hx, zg, ih _ _ _ _ (by omega) (by omega), zg, wrI (by omega), ← zp5, ht', Int.toNat_natCast]
    split
    ·congr 1; omega
    ·congr 1; omega), zg]
  have := zgQ ks 0
  rw [show ((0 : Nat) : Int) = 0 from rfl] at this
  simp only [id, this]
  rw [zao _ (by omega) (by omega)]
  congr 1
/-! what kids a node may have -/
def isStm (x : T_Node) : Bool := decide (2 ≤ x.op_) && decide (x.op_ ≤ 9)
def isExp (x : T_Node) : Bool := (decide (10 ≤ x.op_) && decide (x.op_ ≤ 27)) && !decide (x.op_ = 26)
def isOp (k : Int) (x : T_Node) : Bool := decide (x.op_ = k)
theorem zm3 (a b c : Int) : zdo a b c = some (decide (b ≤ a) && decide (a ≤ c)) := by
 unfold zdo
 by_cases h : b ≤ a <;> simp [h]
theorem zeg (a b c : Int) : zaf a b c = some (decide (b ≤ a) && decide (a ≤ c)) := by
 unfold zaf
 by_cases h : b ≤ a <;> simp [h]
theorem zdX {τ : Type} (p q : τ → Bool) : ∀ l : List τ, (l.all fun x => p x && q x) = (l.all p && l.all q)
 | [] => rfl
 | x :: l => by simp only [List.all_cons, zdX p q l]; cases p x <;> cases q x <;> simp
theorem zsN (R : Int → ByteArray → Int → List T_Node → Option Bool) (A : T_Node → Bool) (op : Int) (s : ByteArray) (k : Int) (ks : List T_Node) (hB : ks.length ≤ 4194303) (hR : ∀ x ∈ ks, R x.op_ x.s_ x.n_ x.kids_ = some (A x)) :
  Ls_l13Kids_1 R FU ks.length 0 op s k ks = some (if (ks.all fun x => isStm x && A x) then .inr () else .inl false) :=
 zeS (fun m i => Ls_l13Kids_1 R m ks.length i op s k ks) ks _ (.inr ()) (.inl false) hB
  (by intro m; simp only [Ls_l13Kids_1]; rw [if_neg (by omega)])
  (by
   intro m i x hx hp
   have hi := ltN hx
   simp only [Bool.and_eq_true] at hp
   simp only [Ls_l13Kids_1]
   have h1 : (decide (2 ≤ x.op_) && decide (x.op_ ≤ 9)) = true := hp.1
   rw [if_pos (ltI hx), zU hx, zg, zm3, zg, if_pos h1, hR x (List.mem_of_getElem? hx), zg, if_pos hp.2, wrI (by omega)])
  (by
   intro m i x hx hp
   simp only [Ls_l13Kids_1]
   rw [if_pos (ltI hx), zU hx, zg, zm3, zg]
   by_cases c : isStm x = true
   ·have h1 : (decide (2 ≤ x.op_) && decide (x.op_ ≤ 9)) = true := c
    rw [if_pos h1, hR x (List.mem_of_getElem? hx), zg, if_neg (by simp [c] at hp; simp [hp])]
   ·have h1 : ¬ (decide (2 ≤ x.op_) && decide (x.op_ ≤ 9)) = true := c
    rw [if_neg h1])
theorem zsO (R : Int → ByteArray → Int → List T_Node → Option Bool) (A : T_Node → Bool) (op : Int) (s : ByteArray) (k : Int) (ks : List T_Node) (hB : ks.length ≤ 4194303) (hR : ∀ x ∈ ks, R x.op_ x.s_ x.n_ x.kids_ = some (A x)) :
  Ls_l13Kids_0 R FU ks.length 0 op s k ks = some (if (ks.all fun x => isOp 26 x && A x) then .inr () else .inl false) :=
 zeS (fun m i => Ls_l13Kids_0 R m ks.length i op s k ks) ks _ (.inr ()) (.inl false) hB
  (by intro m; simp only [Ls_l13Kids_0]; rw [if_neg (by omega)])
  (by
   intro m i x hx hp
   have hi := ltN hx
   simp only [Bool.and_eq_true, isOp, decide_eq_true_eq] at hp
   simp only [Ls_l13Kids_0]
   rw [if_pos (ltI hx), zU hx, zg, if_pos hp.1, hR x (List.mem_of_getElem? hx), zg, if_pos hp.2, wrI (by omega)])
  (by
   intro m i x hx hp
   simp only [Ls_l13Kids_0]
   rw [if_pos (ltI hx), zU hx, zg]
   by_cases c : x.op_ = 26
   ·rw [if_pos c, hR x (List.mem_of_getElem? hx), zg, if_neg (by simp [isOp, c] at hp; simp [hp])]
   ·rw [if_neg c])
theorem zkE (R : Int → ByteArray → Int → List T_Node → Option Bool) (A : T_Node → Bool) (op : Int) (s : ByteArray) (k : Int) (ks : List T_Node) (many : Nat) (hB : ks.length ≤ 4194303) (hR : ∀ x ∈ ks, R x.op_ x.s_ x.n_ x.kids_ = some (A x)) :
  zP R op s k ks many = some (((ks.take many).all fun x => isExp x && A x) && decide (many ≤ ks.length)) := by
 unfold zP
 have hl : (ks.take many).length = min many ks.length := List.length_take
 have tk : ∀ {i : Nat} {x : T_Node}, (ks.take many)[i]? = some x → ks[i]? = some x ∧ i < many := by
  intro i x h
  have hi := ltN h
  rw [List.getElem?_take] at h
  rw [hl] at hi
  rw [if_pos (by omega)] at h
  exact ⟨h, by omega⟩
 rw [zeS (fun m i => Ls_l13Exprs_0 R m many i op s k ks) (ks.take many) (fun x => isExp x && A x) (.inr ()) (.inl false) (by omega)
  (by
   intro m; rw [hl]; simp only [Ls_l13Exprs_0]
   by_cases c : ((min many ks.length : Nat) : Int) < (many : Int)
   ·rw [if_pos c, if_neg (by omega)]
   ·rw [if_neg c])
  (by
   intro m i x hx hp
   obtain ⟨h1, h2⟩ := tk hx
   have hi := ltN h1
   simp only [Bool.and_eq_true] at hp
   have hr := hR x (List.mem_of_getElem? h1)
   simp only [Ls_l13Exprs_0]
   rw [if_pos (by omega), if_pos (ltI h1), zU h1, zg, zm3, zg]
   by_cases c : (decide (10 ≤ x.op_) && decide (x.op_ ≤ 25)) = true
   ·rw [if_pos c, hr, zg, if_pos hp.2, wrI (by omega)]
   ·have hq := hp.1
    simp only [isExp, Bool.and_eq_true, decide_eq_true_eq, Bool.not_eq_true', decide_eq_false_iff_not] at hq c
    rw [if_neg (by simp only [Bool.and_eq_true, decide_eq_true_eq]; exact c), if_pos (by omega), hr, zg, if_pos hp.2, wrI (by omega)])
  (by
   intro m i x hx hp
   obtain ⟨h1, h2⟩ := tk hx
   have hr := hR x (List.mem_of_getElem? h1)
   simp only [Ls_l13Exprs_0]
   rw [if_pos (by omega), if_pos (ltI h1), zU h1, zg, zm3, zg]
   by_cases ce : isExp x = true
   ·have ha : ¬ A x = true := by simp [ce] at hp; simp [hp]
    by_cases c : (decide (10 ≤ x.op_) && decide (x.op_ ≤ 25)) = true
    ·rw [if_pos c, hr, zg, if_neg ha]
    ·simp only [isExp, Bool.and_eq_true, decide_eq_true_eq, Bool.not_eq_true', decide_eq_false_iff_not] at ce c
     rw [if_neg (by simp only [Bool.and_eq_true, decide_eq_true_eq]; exact c), if_pos (by omega), hr, zg, if_neg ha]
   ·simp only [isExp, Bool.and_eq_true, decide_eq_true_eq, Bool.not_eq_true', decide_eq_false_iff_not] at ce
    rw [if_neg (by simp only [Bool.and_eq_true, decide_eq_true_eq]; omega), if_neg (by omega)]), zg]
 cases ((ks.take many).all fun x => isExp x && A x) with
 | true => simp
 | false => simp
theorem zlx (R : Int → ByteArray → Int → List T_Node → Option Bool) (A : T_Node → Bool) (op : Int) (s : ByteArray) (k : Int) (ks : List T_Node) (fr : Nat) (hf : fr ≤ ks.length) (hB : ks.length ≤ 4194303) (hR : ∀ x ∈ ks, R x.op_ x.s_ x.n_ x.kids_ = some (A x)) :
  zby R op s k ks fr = some ((ks.drop fr).all fun x => isOp 1 x && A x) := by
 unfold zby
 rw [zli (fun m i => Ls_l13Blocks_0 R m i op s k ks) ks (fun x => isOp 1 x && A x) (.inr ()) (.inl false) hB
  (by intro m; simp only [Ls_l13Blocks_0]; rw [if_neg (by omega)])
  (by
   intro m i x hx hp
   have hi := ltN hx
   simp only [Bool.and_eq_true, isOp, decide_eq_true_eq] at hp
   simp only [Ls_l13Blocks_0]
   rw [if_pos (ltI hx), zU hx, zg, if_pos hp.1, hR x (List.mem_of_getElem? hx), zg, if_pos hp.2, wrI (by omega)])
  (by
   intro m i x hx hp
   simp only [Ls_l13Blocks_0]
   rw [if_pos (ltI hx), zU hx, zg]
   by_cases c : x.op_ = 1
   ·rw [if_pos c, hR x (List.mem_of_getElem? hx), zg, if_neg (by simp [isOp, c] at hp; simp [hp])]
   ·rw [if_neg c]) fr hf, zg]
 cases ((ks.drop fr).all fun x => isOp 1 x && A x) <;> simp
end Go.Pv

namespace Go.Pv
set_option maxRecDepth 100000
set_option maxHeartbeats 4000000
set_option linter.unusedSimpArgs false
set_option linter.unusedVariables false
theorem zaj {α : Type} {c d : Prop} [Decidable c] [Decidable d] (x z : α) : (if c then x else if d then x else z) = if c ∨ d then x else z := by
 by_cases h1 : c <;> by_cases h2 : d <;> simp [h1, h2]
abbrev one8 (op : Int) : Prop := ((((((op = 2 ∨ op = 3) ∨ op = 7) ∨ op = 8) ∨ op = 9) ∨ op = 17) ∨ op = 24) ∨ op = 26
abbrev zf8 (op : Int) : Prop := ((((op = 4 ∨ op = 19) ∨ op = 20) ∨ op = 21) ∨ op = 22) ∨ op = 23
def ifK (ks : List T_Node) : Bool := (ks.take 1).all isExp && (ks.drop 1).all (isOp 1)
/-- the kids that an op has; 'd': what else -/
def shapeD (d : Bool) (op : Int) (ks : List T_Node) : Bool :=
 if op = 1 then ks.all isStm else
 if one8 op then decide (ks.length = 1) && ks.all isExp else
 if zf8 op then decide (ks.length = 2) && ks.all isExp else
 if op = 5 then (decide (2 ≤ ks.length) && decide (ks.length ≤ 3)) && ifK ks else
 if op = 6 then decide (ks.length = 2) && ifK ks else
 if op = 18 then decide (1 ≤ ks.length) && ks.all isExp else
 if op = 25 then ks.all (isOp 26) else
 if op = 27 then decide (ks.length = 1) && ks.all (isOp 1) else
 d && decide (ks.length = 0)
theorem zv7 (A : T_Node → Bool) (p q : T_Node → Bool) (ks : List T_Node) : ((ks.take 1).all (fun x => p x && A x) && (ks.drop 1).all (fun x => q x && A x)) = (((ks.take 1).all p && (ks.drop 1).all q) && ks.all A) := by
 rw [zdX, zdX]
 have e : ks.all A = ((ks.take 1).all A && (ks.drop 1).all A) := by rw [← List.all_append, List.take_append_drop]
 rw [e]
 cases (ks.take 1).all p <;> cases (ks.take 1).all A <;> cases (ks.drop 1).all q <;> cases (ks.drop 1).all A <;> rfl
theorem decI (n m : Nat) : ((n : Int) = (m : Int)) = (n = m) := propext (by omega)
theorem zv8 (R : Int → ByteArray → Int → List T_Node → Option Bool) (A : T_Node → Bool) (op : Int) (s : ByteArray) (k : Int) (ks : List T_Node) (hB : ks.length ≤ 4194303) (hR : ∀ x ∈ ks, R x.op_ x.s_ x.n_ x.kids_ = some (A x)) :
  zc7 R op s k ks = some (shapeD true op ks && ks.all A) := by
 have e1 := zkE R A op s k ks 1 hB hR
 have e2 := zkE R A op s k ks 2 hB hR
 have e3 := zkE R A op s k ks ks.length hB hR
 rw [show ((1 : Nat) : Int) = 1 from rfl] at e1
 rw [show ((2 : Nat) : Int) = 2 from rfl] at e2
 unfold zc7 shapeD
 by_cases c1 : op = 1
 ·rw [if_pos c1, if_pos c1, zsN R A op s k ks hB hR, zg, zdX]
  cases ks.all isStm <;> cases ks.all A <;> rfl
 rw [if_neg c1, if_neg c1, zaj, zaj, zaj, zaj, zaj, zaj, zaj]
 by_cases c2 : one8 op
 ·rw [if_pos c2, if_pos c2]
  by_cases h : ks.length = 1
  ·rw [if_pos (by omega), e1, zg, List.take_of_length_le (by omega), zdX]
   simp [h]
  ·rw [if_neg (by omega)]; simp [h]
 rw [if_neg c2, if_neg c2, zaj, zaj, zaj, zaj, zaj]
 by_cases c3 : zf8 op
 ·rw [if_pos c3, if_pos c3]
  by_cases h : ks.length = 2
  ·rw [if_pos (by omega), e2, zg, List.take_of_length_le (by omega), zdX]
   simp [h]
  ·rw [if_neg (by omega)]; simp [h]
 rw [if_neg c3, if_neg c3]
 have hif : ∀ (h : 1 ≤ ks.length), (bS (zP R op s k ks 1) fun r46 => if r46 = true then bS (zby R op s k ks 1) fun r49 => some r49 else some false) = some (ifK ks && ks.all A) := by
  intro h
  have eb := zlx R A op s k ks 1 h hB hR
  rw [show ((1 : Nat) : Int) = 1 from rfl] at eb
  rw [e1, zg, eb]
  have := zv7 A isExp (isOp 1) ks
  unfold ifK
  rw [← this]
  cases ((ks.take 1).all fun x => isExp x && A x) <;> simp [h]
 by_cases c4 : op = 5
 ·rw [if_pos c4, if_pos c4, zm3, zg]
  by_cases h : 2 ≤ ks.length ∧ ks.length ≤ 3
  ·rw [if_pos (by simp; omega), hif (by omega)]
   simp [h.1, h.2]
  ·rw [if_neg (by simp; omega)]
   have : (decide (2 ≤ ks.length) && decide (ks.length ≤ 3)) = false := by simp; omega
   rw [this]; rfl
 rw [if_neg c4, if_neg c4]
 by_cases c5 : op = 6
 ·rw [if_pos c5, if_pos c5]
  by_cases h : ks.length = 2
  ·rw [if_pos (by omega), hif (by omega)]; simp [h]
  ·rw [if_neg (by omega)]; simp [h]
 rw [if_neg c5, if_neg c5]
 by_cases c6 : op = 18
 ·rw [if_pos c6, if_pos c6]
  by_cases h : 1 ≤ ks.length
  ·rw [if_pos (by omega), e3, zg, List.take_length, zdX]; simp [h]
  ·rw [if_neg (by omega)]; simp [h]
 rw [if_neg c6, if_neg c6]
 by_cases c7 : op = 25
 ·rw [if_pos c7, if_pos c7, zsO R A op s k ks hB hR, zg, zdX]
  cases ks.all (isOp 26) <;> cases ks.all A <;> rfl
 rw [if_neg c7, if_neg c7]
 by_cases c8 : op = 27
 ·rw [if_pos c8, if_pos c8]
  by_cases h : ks.length = 1
  ·have eb := zlx R A op s k ks 0 (by omega) hB hR
   rw [show ((0 : Nat) : Int) = 0 from rfl, List.drop_zero, zdX] at eb
   rw [if_pos (by omega), eb, zg]; simp [h]
  ·rw [if_neg (by omega)]; simp [h]
 rw [if_neg c8, if_neg c8]
 by_cases h : ks.length = 0
 ·have : ks = [] := List.length_eq_zero_iff.1 h
  subst this; rfl
 ·simp [h]
/-! the same of the program -/
theorem zv9 (ks : List T_Node) (hB : ks.length ≤ 4194303) : zcW ks = some (ks.all isStm) := by
 unfold zcW zaU zbf
 rw [zef (fun m i => Lslices_IndexFunc_Node_0 m ks ks.length i) ks (fun x => !isStm x) .inl (.inr ()) hB
  (by intro m; simp only [Lslices_IndexFunc_Node_0]; rw [if_neg (by omega)])
  (by
   intro m i x hx hp
   have hi := ltN hx
   have hp' : isStm x = true := by simpa using hp
   change (decide (2 ≤ x.op_) && decide (x.op_ ≤ 9)) = true at hp'
   simp only [Lslices_IndexFunc_Node_0]
   rw [if_pos (ltI hx), zU hx, zg, zbY, zch, zeg, zg, zg, zg, if_neg (by simp [hp']), wrI (by omega)])
  (by
   intro m i x hx hp
   have hp' : isStm x = false := by simpa using hp
   change (decide (2 ≤ x.op_) && decide (x.op_ ≤ 9)) = false at hp'
   simp only [Lslices_IndexFunc_Node_0]
   rw [if_pos (ltI hx), zU hx, zg, zbY, zch, zeg, zg, zg, zg, if_pos (by simp [hp'])]), zg]
 have e : ks.all isStm = !(ks.any fun x => !isStm x) := by rw [zff]; simp
 rw [e, zeT]
 cases ks.findIdx? fun x => !isStm x with
 | none => rfl
 | some i => simp
theorem zgR (x : T_Node) : zdd x.op_ x.s_ x.n_ x.kids_ = some (isExp x) := by
 unfold zdd isExp
 rw [zeg, zg]
 cases decide (10 ≤ x.op_) && decide (x.op_ ≤ 27) <;> simp
theorem zm4 (ks : List T_Node) (hB : ks.length ≤ 4194303) : zB ks = some (ks.all isExp) := by
 unfold zB zaB za2
 rw [zef (fun m i => Lslices_IndexFunc_Node_0_2 m ks ks.length i) ks (fun x => !isExp x) .inl (.inr ()) hB
  (by intro m; simp only [Lslices_IndexFunc_Node_0_2]; rw [if_neg (by omega)])
  (by
   intro m i x hx hp
   have hi := ltN hx
   simp only [Lslices_IndexFunc_Node_0_2]
   rw [if_pos (ltI hx), zU hx, zg, zbC, zgR, zg, zg, if_neg (by simpa using hp), wrI (by omega)])
  (by
   intro m i x hx hp
   simp only [Lslices_IndexFunc_Node_0_2]
   rw [if_pos (ltI hx), zU hx, zg, zbC, zgR, zg, zg, if_pos (by simpa using hp)]), zg]
 have e : ks.all isExp = !(ks.any fun x => !isExp x) := by rw [zff]; simp
 rw [e, zeT]
 cases ks.findIdx? fun x => !isExp x with
 | none => rfl
 | some i => simp
theorem zp7 (ks : List T_Node) (k : Int) (hB : ks.length ≤ 4194303) : zbQ ks k = some (ks.all (isOp k)) := by
 unfold zbQ zaC za3
 rw [zef (fun m i => Lslices_IndexFunc_Node_0_3 m ks ks.length i k) ks (fun x => !isOp k x) .inl (.inr ()) hB
  (by intro m; simp only [Lslices_IndexFunc_Node_0_3]; rw [if_neg (by omega)])
  (by
   intro m i x hx hp
   have hi := ltN hx
   have hp' : x.op_ = k := by simpa [isOp] using hp
   simp only [Lslices_IndexFunc_Node_0_3]
   rw [if_pos (ltI hx), zU hx, zg, zbD, zbZ, zg, zg]
   rw [if_neg (by simp [hp']), wrI (by omega)])
  (by
   intro m i x hx hp
   have hp' : ¬ x.op_ = k := by simpa [isOp] using hp
   simp only [Lslices_IndexFunc_Node_0_3]
   rw [if_pos (ltI hx), zU hx, zg, zbD, zbZ, zg, zg]
   rw [if_pos (by simp [hp'])]), zg]
 have e : ks.all (isOp k) = !(ks.any fun x => !isOp k x) := by rw [zff]; simp
 rw [e, zeT]
 cases ks.findIdx? fun x => !isOp k x with
 | none => rfl
 | some i => simp
def midB (op : Int) : Bool := decide (10 ≤ op) && decide (op ≤ 16)
theorem zwa (op : Int) (s : ByteArray) (k : Int) (ks : List T_Node) (hB : ks.length ≤ 4194303) : zeM op s k ks = some (shapeD (midB op) op ks) := by
 unfold zeM shapeD
 by_cases c1 : op = 1
 ·rw [if_pos c1, if_pos c1, zv9 ks hB, zg]
 rw [if_neg c1, if_neg c1, zaj, zaj, zaj, zaj, zaj, zaj, zaj]
 by_cases c2 : one8 op
 ·rw [if_pos c2, if_pos c2]
  by_cases h : ks.length = 1
  ·rw [if_pos (by omega), zm4 ks hB, zg]; simp [h]
  ·rw [if_neg (by omega)]; simp [h]
 rw [if_neg c2, if_neg c2, zaj, zaj, zaj, zaj, zaj]
 by_cases c3 : zf8 op
 ·rw [if_pos c3, if_pos c3]
  by_cases h : ks.length = 2
  ·rw [if_pos (by omega), zm4 ks hB, zg]; simp [h]
  ·rw [if_neg (by omega)]; simp [h]
 rw [if_neg c3, if_neg c3]
 by_cases c4 : op = 5
 ·rw [if_pos c4, if_pos c4, zeg, zg]
  by_cases h : 2 ≤ ks.length ∧ ks.length ≤ 3
  ·rw [if_pos (by simp; omega)]
   obtain ⟨x, hx⟩ := zbV (xs := ks) (i := 0) (by omega)
   have hg := zU hx
   rw [show ((0 : Nat) : Int) = 0 from rfl] at hg
   have ht : ks.take 1 = [x] := by
    match ks, hx with
    | y :: l, hx => simp at hx; subst hx; rfl
   rw [hg, zg, zgR, zg]
   unfold ifK
   rw [ht]
   cases hc : isExp x with
   | true =>
    rw [if_pos rfl, if_pos ⟨by omega, Nat.le_refl _, Nat.le_refl _⟩, zct, zg, zp7 _ _ (by rw [List.length_take, List.length_drop]; omega), zg]
    rw [List.take_of_length_le (by rw [List.length_drop]; omega)]
    simp [h.1, h.2, hc]
   | false => simp [hc]
  ·rw [if_neg (by simp; omega)]
   have : (decide (2 ≤ ks.length) && decide (ks.length ≤ 3)) = false := by simp; omega
   rw [this]; rfl
 rw [if_neg c4, if_neg c4]
 by_cases c5 : op = 6
 ·rw [if_pos c5, if_pos c5]
  by_cases h : ks.length = 2
  ·rw [if_pos (by omega)]
   match ks, h with
   | [x, y], _ =>
    have g0 : getI [x, y] 0 = some x := rfl
    have g1 : getI [x, y] 1 = some y := rfl
    rw [g0, zg, zgR, zg, g1, zg]
    unfold ifK
    cases hc : isExp x <;> simp [hc, isOp]
  ·rw [if_neg (by omega)]; simp [h]
 rw [if_neg c5, if_neg c5]
 by_cases c6 : op = 18
 ·rw [if_pos c6, if_pos c6]
  by_cases h : 1 ≤ ks.length
  ·rw [if_pos (by omega), zm4 ks hB, zg]; simp [h]
  ·rw [if_neg (by omega)]; simp [h]
 rw [if_neg c6, if_neg c6]
 by_cases c7 : op = 25
 ·rw [if_pos c7, if_pos c7, zct, zg, zp7 ks 26 hB, zg]
 rw [if_neg c7, if_neg c7]
 by_cases c8 : op = 27
 ·rw [if_pos c8, if_pos c8]
  by_cases h : ks.length = 1
  ·rw [if_pos (by omega)]
   match ks, h with
   | [x], _ =>
    have g0 : getI [x] 0 = some x := rfl
    rw [g0, zg]; simp [isOp]
  ·rw [if_neg (by omega)]; simp [h]
 rw [if_neg c8, if_neg c8, zeg, zg]
 unfold midB
 cases decide (10 ≤ op) && decide (op ≤ 16) with
 | true => by_cases h : ks.length = 0 <;> simp [h]
 | false => rfl
/-! names and texts -/
theorem zly (b : UInt8) : zeN (b.toNat : Int) = some (letB b) := zfU b
theorem zsP (b : UInt8) : zgK (b.toNat : Int) = some (digB b) := zhi b
theorem i_nm (b : UInt8) : zcX (b.toNat : Int) = some (nmB b) := by
 unfold zcX nmB
 rw [zly, zg]
 cases letB b with
 | true => rfl
 | false => simp [zsP]
theorem zwb (s : ByteArray) (hB : s.size ≤ 1048576) : ziA s 0 = some (runE nmB s 0 : Int) := by
 unfold ziA
 have := zgO (fun n k => Li_run_0 n s k) s nmB id (by omega)
  (by intro n; simp only [Li_run_0]; rw [if_neg (by omega)]; rfl)
  (by
   intro n k b hb hp
   have hk := ltN hb
   rw [bl_len] at hk
   simp only [Li_run_0]
   rw [if_pos (zfk hb), zaD hb, zg, i_nm, zg, if_pos hp, wrI (by omega)])
  (by
   intro n k b hb hp
   simp only [Li_run_0]
   rw [if_pos (zfk hb), zaD hb, zg, i_nm, zg, if_neg (by simp [hp])]; rfl) 0 (by omega)
 rw [show ((0 : Nat) : Int) = 0 from rfl] at this
 rw [this, zg]; rfl
theorem i_tx (b : UInt8) : zdv (b.toNat : Int) = some (txB b) := by
 have e1 : ((32 : Int) ≤ b.toNat) = (32 ≤ b.toNat) := propext (by omega)
 have e2 : ((b.toNat : Int) ≤ 126) = (b.toNat ≤ 126) := propext (by omega)
 have e3 : ((b.toNat : Int) = 34) = (b.toNat = 34) := propext (by omega)
 simp only [zdv, txB, e1, e2, e3]
 by_cases h1 : 32 ≤ b.toNat <;> by_cases h2 : b.toNat ≤ 126 <;> simp [h1, h2]
theorem zwc (s : ByteArray) (hB : s.size ≤ 1048576) : zft s 0 = some (runE txB s 0 : Int) := by
 unfold zft
 have := zgO (fun n k => Li_run_0_2 n s k) s txB id (by omega)
  (by intro n; simp only [Li_run_0_2]; rw [if_neg (by omega)]; rfl)
  (by
   intro n k b hb hp
   have hk := ltN hb
   rw [bl_len] at hk
   simp only [Li_run_0_2]
   rw [if_pos (zfk hb), zaD hb, zg, i_tx, zg, if_pos hp, wrI (by omega)])
  (by
   intro n k b hb hp
   simp only [Li_run_0_2]
   rw [if_pos (zfk hb), zaD hb, zg, i_tx, zg, if_neg (by simp [hp])]; rfl) 0 (by omega)
 rw [show ((0 : Nat) : Int) = 0 from rfl] at this
 rw [this, zg]; rfl
theorem zp8 {τ : Type} (p : τ → Bool) : ∀ l : List τ, decide ((l.takeWhile p).length = l.length) = l.all p
 | [] => rfl
 | x :: l => by
  rw [List.all_cons, List.takeWhile_cons]
  have := zp8 p l
  cases hp : p x with
  | true => simp at this ⊢; exact this
  | false => simp
theorem zlz (p : UInt8 → Bool) (s : ByteArray) : decide ((runE p s 0 : Int) = (s.size : Int)) = (bl s).all p := by
 rw [← zp8 p (bl s)]
 unfold runE
 rw [List.drop_zero, bl_len, decide_eq_decide]
 omega
theorem zp9 (s : ByteArray) (hB : s.size ≤ 1048576) : zeO s = some (zeZ (bl s)) := by
 unfold zeO zeZ
 rw [zeg, zg, bl_len]
 by_cases h : 1 ≤ s.size ∧ s.size ≤ 12
 ·rw [if_pos (by simp; omega)]
  obtain ⟨b, hb⟩ := zbV (xs := bl s) (i := 0) (by rw [bl_len]; omega)
  have hg := zaD hb
  rw [show ((0 : Nat) : Int) = 0 from rfl] at hg
  rw [hg, zg, zly, zg, zwb s hB, zg, zlz]
  have hm : hdB (bl s) = letB b := by
   cases hl : bl s with
   | nil => rw [hl] at hb; cases hb
   | cons x l => rw [hl] at hb; simp at hb; subst hb; rfl
  rw [hm, decide_eq_true h.2]
  cases letB b <;> simp
 ·rw [if_neg (by simp; omega)]
  by_cases h0 : s.size = 0
  ·have : bl s = [] := List.length_eq_zero_iff.1 ((bl_len s).trans h0)
   rw [this]; simp [hdB]
  ·have : ¬ s.size ≤ 12 := by omega
   simp [this]
theorem zm5 (xs : List ByteArray) (s : ByteArray) (hB : xs.length ≤ 4194303) : Fslices_Contains_string xs s = some (xs.any fun w => decide (s = w)) := by
 unfold Fslices_Contains_string zbE
 rw [zef (fun m i => Lslices_Index_string_0 m xs s xs.length i) xs (fun w => decide (s = w)) .inl (.inr ()) hB
  (by intro m; simp only [Lslices_Index_string_0]; rw [if_neg (by omega)])
  (by
   intro m i x hx hp
   have hi := ltN hx
   simp only [Lslices_Index_string_0]
   rw [if_pos (ltI hx), zU hx, zg, if_neg (by simpa using hp), wrI (by omega)])
  (by
   intro m i x hx hp
   simp only [Lslices_Index_string_0]
   rw [if_pos (ltI hx), zU hx, zg, if_pos (by simpa using hp)]), zg, zeT]
 cases xs.findIdx? fun w => decide (s = w) with
 | none => rfl
 | some i => simp
theorem zqa (s : ByteArray) : zeQ s = some (isW s) := by
 unfold zeQ
 have := zm5 wordsB s (by decide)
 show bS (Fslices_Contains_string wordsB s) _ = _
 rw [this]; rfl
theorem ziL (s : ByteArray) (hB : s.size ≤ 1048576) : zaq s = some (zcQ s false) := by
 unfold zaq zcQ
 rw [zp9 s hB, zg, zqa, zg]
 cases zeZ (bl s) <;> simp
end Go.Pv

namespace Go.Pv
set_option maxRecDepth 100000
set_option maxHeartbeats 4000000
set_option linter.unusedSimpArgs false
set_option linter.unusedVariables false
def zn5 (s : ByteArray) : Bool := (bl s).all txB && decide (s.size ≤ 30)
def namesAll (s : ByteArray) : Bool := (wordsL s).all fun w => zcQ w false
def numB (op n : Int) : Bool := if op = 10 then decide (-2147483647 ≤ n) && decide (n ≤ 2147483647) else decide (n = 0)
def textF (d : Bool) (op : Int) (s : ByteArray) : Bool :=
 if ((op = 2 ∨ op = 3) ∨ op = 16) ∨ op = 26 then zcQ s false else
 if op = 4 ∨ op = 17 then zcQ s true else
 if op = 11 then zn5 s else
 if op = 27 then namesAll s else d && decide (s = ⟨#[]⟩)
theorem zoP (s : ByteArray) (hB : s.size ≤ 1048576) : zda s = some (zn5 s) := by
 unfold zda zn5
 rw [zeS (fun m i => Ls_l13Text_0 m s i) (bl s) txB (.inr ()) (.inl false) (by rw [bl_len]; omega)
  (by intro m; rw [bl_len]; simp only [Ls_l13Text_0]; rw [if_neg (by omega)])
  (by
   intro m i b hb hp
   have hk := ltN hb
   rw [bl_len] at hk
   simp only [txB, Bool.and_eq_true, decide_eq_true_eq, Bool.not_eq_true', decide_eq_false_iff_not] at hp
   simp only [Ls_l13Text_0]
   rw [if_pos (zfk hb), zaD hb, zg, if_neg (by omega), if_neg (by omega), if_neg (by omega), wrI (by omega)])
  (by
   intro m i b hb hp
   simp only [Ls_l13Text_0]
   rw [if_pos (zfk hb), zaD hb, zg]
   by_cases c1 : (b.toNat : Int) < 32
   ·rw [if_pos c1]
   rw [if_neg c1]
   by_cases c2 : 126 < (b.toNat : Int)
   ·rw [if_pos c2]
   rw [if_neg c2]
   by_cases c3 : (b.toNat : Int) = 34
   ·rw [if_pos c3]
   ·exfalso
    have h1 : 32 ≤ b.toNat := by omega
    have h2 : b.toNat ≤ 126 := by omega
    have h3 : ¬ b.toNat = 34 := by omega
    simp [txB, h1, h2, h3] at hp), zg]
 cases (bl s).all txB with
 | true => simp only [if_true, Bool.true_and]; congr 1; rw [decide_eq_decide]; omega
 | false => rfl
theorem zm6 (s : ByteArray) (hs : s.size ≤ 1048576) (hne : s ≠ ⟨#[]⟩) : ∀ (m n i a : Nat), i + m = s.size + 1 → m < n → a ≤ i → i ≤ s.size → (∀ k, a ≤ k → k < i → s.data.toList[k]? ≠ some 32) →
  Ls_l13Names_0 n s a i = some (if ((splitL (s.extract a s.size)).all fun w => zcQ w false) then .inl () else .inr false) := by
 intro m
 induction m with
 | zero => intro n i a h1 h2 h3 h4; omega
 | succ m ih =>
  intro n i a h1 h2 h3 h4 h6
  obtain ⟨n, rfl⟩ : ∃ n', n = n' + 1 := ⟨n - 1, by omega⟩
  simp only [Ls_l13Names_0]
  rw [if_pos (by omega), if_neg hne]
  by_cases c : (i : Int) = s.size
  ·rw [if_pos c, if_pos (by omega), if_pos (by omega), if_pos ⟨by omega, by omega⟩]
   have he : ∀ k, a ≤ k → s.data.toList[k]? ≠ some 32 := by
    intro k hk
    by_cases hki : k < i
    ·exact h6 k hk hki
    ·rw [List.getElem?_eq_none (by rw [zmm]; omega)]; simp
   rw [zhK s a he]
   have hi : i = s.size := by omega
   simp only [Int.toNat_natCast]
   rw [zf6 _ _ (by rw [ByteArray.size_extract]; omega), zg, hi, wrI (by omega)]
   simp only [List.all_cons, List.all_nil, Bool.and_true]
   cases zcQ (s.extract a s.size) false with
   | true =>
    obtain ⟨n, rfl⟩ : ∃ n', n = n' + 1 := ⟨n - 1, by omega⟩
    simp only [if_true, Ls_l13Names_0]
    rw [if_neg (by omega)]
   | false => rfl
  ·rw [if_neg c]
   have hlt : i < s.data.toList.length := by rw [zmm]; omega
   rw [zxm, List.getElem?_eq_getElem hlt, zg]
   generalize hb : s.data.toList[i] = b
   have hbi : s.data.toList[i]? = some b := by rw [List.getElem?_eq_getElem hlt, hb]
   by_cases d : ((b.toNat : Nat) : Int) = 32
   ·rw [if_pos d, if_pos (by omega), if_pos (by omega), if_pos ⟨by omega, by omega⟩, wrI (by omega)]
    have hb32 : b = 32 := by
     apply UInt8.toNat_inj.1
     show b.toNat = 32
     omega
    subst hb32
    rw [zgD s a i h3 h6 hbi]
    simp only [Int.toNat_natCast, List.all_cons]
    rw [zf6 _ _ (by rw [ByteArray.size_extract]; omega), zg]
    by_cases hnb : zcQ (s.extract a i) false = true
    ·rw [if_pos hnb, ih n (i + 1) (i + 1) (by omega) (by omega) (by omega) (by omega) (by intro k hk1 hk2; omega)]
     simp only [hnb, Bool.true_and]
    ·rw [if_neg hnb]; simp [hnb]
   ·rw [if_neg d, wrI (by omega)]
    exact ih n (i + 1) a (by omega) (by omega) (by omega) (by omega) (by
     intro k hk1 hk2
     by_cases e : k = i
     ·subst e; rw [hbi]; intro e2; injection e2 with e2; subst e2; exact d (by decide)
     ·exact h6 k hk1 (by omega))
theorem zm7 (s : ByteArray) (hs : s.size ≤ 1048576) : zcM s = some (namesAll s) := by
 unfold zcM namesAll wordsL
 by_cases c : s = ⟨#[]⟩
 ·rw [if_pos c]
  subst c
  have h0 : ∀ n, Ls_l13Names_0 (n + 1) ⟨#[]⟩ 0 0 = some (.inl ()) := by
   intro n
   simp only [Ls_l13Names_0]
   rw [if_pos (by decide)]; simp only [if_true]
  have : Ls_l13Names_0 FU ⟨#[]⟩ 0 0 = some (.inl ()) := h0 4194303
  rw [this]; rfl
 ·rw [if_neg c]
  have := zm6 s hs c (s.size + 1) FU 0 0 (by omega) (by unfold FU; omega) (by omega) (by omega) (by intro k h1 h2; omega)
  have he : s.extract 0 s.size = s := by simp
  rw [he] at this
  rw [show ((0 : Nat) : Int) = 0 from rfl] at this
  rw [this, zg]
  cases (splitL s).all fun w => zcQ w false <;> rfl
theorem zjG (a b : Int) (s : ByteArray) (ks : List T_Node) (hs : s.size ≤ 1048576) : Fi_namesOf a s b ks = some (wordsL s) := by
 unfold Fi_namesOf wordsL
 split
 ·rfl
 ·unfold zcR
  rw [if_pos ⟨rfl, by omega⟩]; rfl
theorem zlA {s w : ByteArray} (h : w ∈ wordsL s) : w.size ≤ s.size := by
 unfold wordsL at h
 split at h
 ·cases h
 ·have key : ∀ (m a : Nat), a + m = s.size + 1 → ∀ w ∈ splitL (s.extract a s.size), w.size ≤ s.size := by
   intro m
   induction m using Nat.strongRecOn with
   | ind m ih =>
    intro a ha w hw
    by_cases c : ∀ k, a ≤ k → s.data.toList[k]? ≠ some 32
    ·rw [zhK s a c] at hw
     simp only [List.mem_singleton] at hw
     subst hw; rw [ByteArray.size_extract]; omega
    ·have : ∃ p, a ≤ p ∧ s.data.toList[p]? = some 32 ∧ ∀ k, a ≤ k → k < p → s.data.toList[k]? ≠ some 32 := by
      obtain ⟨p, hp⟩ := Classical.not_forall.1 c
      have hp1 : a ≤ p := Decidable.byContradiction fun h => hp fun h' => absurd h' h
      have hp2 : s.data.toList[p]? = some 32 := Classical.byContradiction fun h => hp fun _ => h
      clear hp
      induction p using Nat.strongRecOn with
      | ind p ihp =>
       by_cases d : ∃ k, a ≤ k ∧ k < p ∧ s.data.toList[k]? = some 32
       ·obtain ⟨k, h1, h2, h3⟩ := d
        exact ihp k h2 h1 h3
       ·exact ⟨p, hp1, hp2, fun k h1 h2 h3 => d ⟨k, h1, h2, h3⟩⟩
     obtain ⟨p, hp1, hp2, hp3⟩ := this
     rw [zgD s a p hp1 hp3 hp2] at hw
     have hps : p < s.size := by have := (List.getElem?_eq_some_iff.1 hp2).1; rw [zmm] at this; exact this
     rcases List.mem_cons.1 hw with rfl | hw
     ·rw [ByteArray.size_extract]; omega
     ·exact ih (s.size - p) (by omega) (p + 1) (by omega) w hw
  have he : s.extract 0 s.size = s := by simp
  have := key (s.size + 1) 0 (by omega) w
  rw [he] at this
  exact this h
theorem zlB (s : ByteArray) (hs : s.size ≤ 1048576) : zah (wordsL s) = some (!namesAll s) := by
 have hl := zjl s
 unfold zah za5
 have hpr : ∀ w ∈ wordsL s, zcj w = some (!zcQ w false) := by
  intro w hw
  unfold zcj
  rw [ziL w (Nat.le_trans (zlA hw) hs), zg]
 rw [zef (fun m i => Lslices_IndexFunc_string_0 m (wordsL s) (wordsL s).length i) (wordsL s) (fun w => !zcQ w false) .inl (.inr ()) (by omega)
  (by intro m; simp only [Lslices_IndexFunc_string_0]; rw [if_neg (by omega)])
  (by
   intro m i x hx hp
   have hi := ltN hx
   simp only [Lslices_IndexFunc_string_0]
   rw [if_pos (ltI hx), zU hx, zg, hpr x (List.mem_of_getElem? hx), zg, if_neg (by rw [hp]; simp), wrI (by omega)])
  (by
   intro m i x hx hp
   simp only [Lslices_IndexFunc_string_0]
   rw [if_pos (ltI hx), zU hx, zg, hpr x (List.mem_of_getElem? hx), zg, if_pos hp]), zg]
 have e : namesAll s = !((wordsL s).any fun w => !zcQ w false) := by unfold namesAll; rw [zff]; simp
 rw [e, zeT]
 cases (wordsL s).findIdx? fun w => !zcQ w false with
 | none => rfl
 | some i => simp
theorem i_num (op n : Int) : (if op = 10 then bS (zaf n (-2147483647) 2147483647) fun r => if r = true then some true else some (decide (n = 0)) else some (decide (n = 0))) = some (numB op n) := by
 unfold numB
 split
 ·rw [zeg, zg]
  by_cases h : -2147483647 ≤ n ∧ n ≤ 2147483647
  ·simp [h.1, h.2]
  ·have h0 : ¬ n = 0 := by omega
   have : (decide (-2147483647 ≤ n) && decide (n ≤ 2147483647)) = false := by simp; omega
   rw [this]; simp [h0]
 ·rfl
theorem zlC (s : ByteArray) : (zcQ s false || decide (s = zkZ)) = zcQ s true := by
 by_cases h : s = zkZ
 ·subst h; decide
 ·unfold zcQ; simp [h]
theorem zqb (op : Int) (s : ByteArray) (n : Int) (ks : List T_Node) (hs : s.size ≤ 1048576) : zdx op s n ks = some (textF true op s && numB op n) := by
 unfold zdx textF
 simp only [i_num]
 rw [zaj, zaj, zaj]
 by_cases c1 : ((op = 2 ∨ op = 3) ∨ op = 16) ∨ op = 26
 ·rw [if_pos c1, if_pos c1, ziL s hs, zg]
  cases zcQ s false <;> rfl
 rw [if_neg c1, if_neg c1, zaj]
 by_cases c2 : op = 4 ∨ op = 17
 ·rw [if_pos c2, if_pos c2, ziL s hs, zg, ← zlC]
  cases zcQ s false with
  | true => rfl
  | false =>
   by_cases h : s = zkZ
   ·have h' : s = ⟨#[112, 114, 111, 116, 111]⟩ := h
    rw [if_neg (by simp), if_pos h']; simp [h]
   ·have h' : ¬ s = ⟨#[112, 114, 111, 116, 111]⟩ := h
    rw [if_neg (by simp), if_neg h']; simp [h]
 rw [if_neg c2, if_neg c2]
 by_cases c3 : op = 11
 ·rw [if_pos c3, if_pos c3]
  unfold zn5
  by_cases h : s.size ≤ 30
  ·rw [if_pos (by omega), zwc s hs, zg, ← zlz txB s]
   by_cases h2 : (runE txB s 0 : Int) = s.size
   ·rw [if_pos h2]; simp [h, h2]
   ·rw [if_neg h2]; simp [h2]
  ·rw [if_neg (by omega)]; simp [h]
 rw [if_neg c3, if_neg c3]
 by_cases c4 : op = 27
 ·rw [if_pos c4, if_pos c4, zjG _ _ _ _ hs, zg, zlB s hs, zg]
  cases namesAll s <;> rfl
 rw [if_neg c4, if_neg c4]
 by_cases h : s = ⟨#[]⟩
 ·rw [if_pos h]; simp [h]
 ·rw [if_neg h]; simp [h]
mutual
def okB : T_Node → Bool
 | ⟨op, s, n, ks⟩ => shapeD (midB op) op ks && (textF true op s && numB op n) && zqc ks
def zqc : List T_Node → Bool
 | [] => true
 | x :: l => okB x && zqc l
end
theorem zlD : ∀ l : List T_Node, zqc l = l.all okB
 | [] => by simp [zqc]
 | x :: l => by simp [zqc, zlD l]
theorem zkF (x : T_Node) : okB x = (shapeD (midB x.op_) x.op_ x.kids_ && (textF true x.op_ x.s_ && numB x.op_ x.n_) && x.kids_.all okB) := by
 cases x; simp only [okB, zlD]
theorem zsQ : ∀ (m : Nat) (op : Int) (s : ByteArray) (n : Int) (ks : List T_Node), s.size + sN ks < m → s.size + sN ks ≤ 1048576 → Fi_allOkn m op s n ks = some (okB ⟨op, s, n, ks⟩) := by
 intro m
 induction m with
 | zero => intro op s n ks h; omega
 | succ m ih =>
  intro op s n ks h h1
  have hl := zdn ks
  have hk : ∀ x ∈ ks, zdy (Fi_allOkn m) x.op_ x.s_ x.n_ x.kids_ = some (!okB x) := by
   intro x hx
   have hm := zc2 hx
   have hw := zfV x
   unfold zdy
   rw [ih _ _ _ _ (by omega) (by omega), zg, zr6]
  show Si_allOk (Fi_allOkn m) op s n ks = _
  unfold Si_allOk
  rw [zwa op s n ks (by omega), zg, zqb op s n ks (by omega), zg]
  have e : Fslices_ContainsFunc_Node_4 (Fi_allOkn m) ks = some (!ks.all okB) := by
   unfold Fslices_ContainsFunc_Node_4 za6
   rw [zef (fun q i => Lslices_IndexFunc_Node_0_4 (Fi_allOkn m) q ks ks.length i) ks (fun x => !okB x) .inl (.inr ()) (by omega)
    (by intro q; simp only [Lslices_IndexFunc_Node_0_4]; rw [if_neg (by omega)])
    (by
     intro q i x hx hp
     have hi := ltN hx
     simp only [Lslices_IndexFunc_Node_0_4]
     rw [if_pos (ltI hx), zU hx, zg, hk x (List.mem_of_getElem? hx), zg, if_neg (by rw [hp]; simp), wrI (by omega)])
    (by
     intro q i x hx hp
     simp only [Lslices_IndexFunc_Node_0_4]
     rw [if_pos (ltI hx), zU hx, zg, hk x (List.mem_of_getElem? hx), zg, if_pos hp]), zg]
   have e2 : ks.all okB = !(ks.any fun x => !okB x) := by rw [zff]; simp
   rw [e2, zeT]
   cases ks.findIdx? fun x => !okB x with
   | none => rfl
   | some i => simp
  rw [e, zg, zkF]
  cases shapeD (midB op) op ks with
  | true => cases (textF true op s && numB op n) <;> simp
  | false => rfl
def rngB (op : Int) : Bool := decide (1 ≤ op) && decide (op ≤ 27)
theorem zm8 (op : Int) (ks : List T_Node) (s : ByteArray) : (shapeD true op ks && textF (rngB op) op s) = (shapeD (midB op) op ks && textF true op s) := by
 by_cases h : op = 1 ∨ one8 op ∨ zf8 op ∨ op = 5 ∨ op = 6 ∨ op = 18 ∨ op = 25 ∨ op = 27
 ·have h1 : shapeD true op ks = shapeD (midB op) op ks := by
   unfold shapeD
   by_cases c1 : op = 1
   ·rw [if_pos c1, if_pos c1]
   rw [if_neg c1, if_neg c1]
   by_cases c2 : one8 op
   ·rw [if_pos c2, if_pos c2]
   rw [if_neg c2, if_neg c2]
   by_cases c3 : zf8 op
   ·rw [if_pos c3, if_pos c3]
   rw [if_neg c3, if_neg c3]
   by_cases c4 : op = 5
   ·rw [if_pos c4, if_pos c4]
   rw [if_neg c4, if_neg c4]
   by_cases c5 : op = 6
   ·rw [if_pos c5, if_pos c5]
   rw [if_neg c5, if_neg c5]
   by_cases c6 : op = 18
   ·rw [if_pos c6, if_pos c6]
   rw [if_neg c6, if_neg c6]
   by_cases c7 : op = 25
   ·rw [if_pos c7, if_pos c7]
   rw [if_neg c7, if_neg c7]
   by_cases c8 : op = 27
   ·rw [if_pos c8, if_pos c8]
   ·exact absurd h (by simp [c1, c2, c3, c4, c5, c6, c7, c8])
  have h2 : rngB op = true := by
   unfold rngB
   simp only [Bool.and_eq_true, decide_eq_true_eq]
   unfold one8 zf8 at h
   omega
  rw [h1, h2]
 ·simp only [not_or] at h
  obtain ⟨c1, c2, c3, c4, c5, c6, c7, c8⟩ := h
  have hs : ∀ d, shapeD d op ks = (d && decide (ks.length = 0)) := by
   intro d
   unfold shapeD
   rw [if_neg c1, if_neg (by unfold one8; simp only [not_or]; exact c2), if_neg (by unfold zf8; simp only [not_or]; exact c3), if_neg c4, if_neg c5, if_neg c6, if_neg c7, if_neg c8]
  rw [hs, hs]
  by_cases hm : midB op = true
  ·have hr : rngB op = true := by
    unfold rngB; unfold midB at hm
    simp only [Bool.and_eq_true, decide_eq_true_eq] at hm ⊢
    omega
   rw [hm, hr]
  ·have hm' : midB op = false := by simpa using hm
   have hr : rngB op = false := by
    unfold rngB; unfold midB at hm
    simp only [Bool.and_eq_true, decide_eq_true_eq] at hm
    rw [Bool.eq_false_iff]
    simp only [ne_eq, Bool.and_eq_true, decide_eq_true_eq]
    omega
   have ht : textF false op s = false := by
    unfold midB at hm
    simp only [Bool.and_eq_true, decide_eq_true_eq] at hm
    unfold textF
    rw [if_neg (by omega), if_neg (by omega), if_neg (by omega), if_neg (by omega)]; rfl
   rw [hm', hr, ht]; simp
theorem zsR : ∀ (m : Nat) (op : Int) (s : ByteArray) (n : Int) (ks : List T_Node), s.size + sN ks < m → s.size + sN ks ≤ 1048576 → Fs_l13Okn m op s n ks = some (okB ⟨op, s, n, ks⟩) := by
 intro m
 induction m with
 | zero => intro op s n ks h; omega
 | succ m ih =>
  intro op s n ks h h1
  have hl := zdn ks
  have hk : ∀ x ∈ ks, Fs_l13Okn m x.op_ x.s_ x.n_ x.kids_ = some (okB x) := by
   intro x hx
   have hm := zc2 hx
   have hw := zfV x
   rw [ih _ _ _ _ (by omega) (by omega), zr6]
  show Ss_l13Ok (Fs_l13Okn m) op s n ks = _
  unfold Ss_l13Ok
  rw [zv8 (Fs_l13Okn m) okB op s n ks (by omega) hk, zg, zg, zf6 s false (by omega), zf6 s true (by omega), zoP s (by omega), zm7 s (by omega), zm3, zm3]
  simp only [zg]
  rw [zkF]
  have hst := zm8 op ks s
  have e : (shapeD (midB op) op ks && (textF true op s && numB op n) && ks.all okB) = ((shapeD true op ks && ks.all okB) && (textF (rngB op) op s && numB op n)) := by
   have : (shapeD (midB op) op ks && (textF true op s && numB op n) && ks.all okB) = ((shapeD (midB op) op ks && textF true op s) && numB op n && ks.all okB) := by
    cases shapeD (midB op) op ks <;> cases textF true op s <;> rfl
   rw [this, ← hst]
   cases shapeD true op ks <;> cases textF (rngB op) op s <;> cases numB op n <;> cases ks.all okB <;> rfl
  rw [e]
  cases (shapeD true op ks && ks.all okB) with
  | false => simp
  | true =>
   simp only [if_true, Bool.true_and]
   rw [zaj, zaj, zaj, zaj]
   rw [zaj, zaj, zaj, zaj]
   unfold textF
   have hc : (op = 17 ∨ op = 4) = (op = 4 ∨ op = 17) := propext ⟨Or.symm, Or.symm⟩
   by_cases c10 : op = 10
   ·subst c10
    simp only [numB, rngB]
    by_cases c0 : n = 0
    ·subst c0; simp
     split <;> simp_all
    ·simp [c0]
     split <;> simp_all
   ·have hnum : numB op n = decide (n = 0) := by unfold numB; rw [if_neg c10]
    rw [hnum]
    by_cases c0 : n = 0
    ·simp only [c0, if_true, c10, if_false, hc, decide_true, Bool.and_true]
     by_cases d1 : ((op = 2 ∨ op = 3) ∨ op = 16) ∨ op = 26
     ·rw [if_pos d1, if_pos d1]
     rw [if_neg d1, if_neg d1]
     by_cases d2 : op = 4 ∨ op = 17
     ·rw [if_pos d2, if_pos d2]
     rw [if_neg d2, if_neg d2]
     by_cases d3 : op = 11
     ·rw [if_pos d3, if_pos d3]
     rw [if_neg d3, if_neg d3]
     by_cases d4 : op = 27
     ·rw [if_pos d4, if_pos d4]
     rw [if_neg d4, if_neg d4]
     unfold rngB
     by_cases d5 : s = ⟨#[]⟩
     ·rw [if_pos d5]; simp [d5]
     ·rw [if_neg d5]; simp [d5]
    ·simp [c0, c10]
def zhN (x : T_Node) : Bool := decide (x.op_ = 1) && (decide (szT x ≤ 200) && decide (dpT x ≤ 20)) && okB x
theorem zlE (op : Int) (s : ByteArray) (k : Int) (ks : List T_Node) (hw : s.size + sN ks ≤ 1048576) : zeL op s k ks = some (zhN ⟨op, s, k, ks⟩) ∧ zeR op s k ks = some (zhN ⟨op, s, k, ks⟩) := by
 have a1 : Fs_Deep op s k ks = some ((dpL ks + 1 : Nat) : Int) := zv5 FU op s k ks (by unfold FU; omega) (by omega)
 have a2 : Fi_Deep op s k ks = some ((dpL ks + 1 : Nat) : Int) := zv6 FU op s k ks (by unfold FU; omega) (by omega)
 have a3 : Fs_Size op s k ks = some ((1 + szL ks : Nat) : Int) := zv3 FU op s k ks (by unfold FU; omega) (by omega)
 have a4 : Fi_Size op s k ks = some ((1 + szL ks : Nat) : Int) := zv4 FU op s k ks (by unfold FU; omega) (by omega)
 have a5 : Fs_l13Ok op s k ks = some (okB ⟨op, s, k, ks⟩) := zsR FU op s k ks (by unfold FU; omega) (by omega)
 have a6 : Fi_allOk op s k ks = some (okB ⟨op, s, k, ks⟩) := zsQ FU op s k ks (by unfold FU; omega) (by omega)
 unfold zeL zeR zhN
 rw [a1, a2, a3, a4, a5, a6]
 simp only [zg, szT, dpT]
 have e1 : (((1 + szL ks : Nat) : Int) ≤ 200) = (1 + szL ks ≤ 200) := propext (by omega)
 have e2 : (((dpL ks + 1 : Nat) : Int) ≤ 20) = (dpL ks + 1 ≤ 20) := propext (by omega)
 simp only [e1, e2]
 by_cases c1 : op = 1 <;> by_cases c2 : 1 + szL ks ≤ 200 <;> by_cases c3 : dpL ks + 1 ≤ 20 <;> cases okB ⟨op, s, k, ks⟩ <;> simp [c1, c2, c3]
end Go.Pv
