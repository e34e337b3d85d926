/- Proof: plain laws: a node is right, its functions. No condition. -/
import Derived.Test.YthddchcckpmgoaaDoorTk
set_option autoImplicit true
set_option relaxedAutoImplicit true
set_option linter.unusedSimpArgs false
set_option linter.unusedVariables false
namespace Go.Pv
set_option maxRecDepth 100000
set_option maxHeartbeats 4000000
set_option linter.unusedSimpArgs false
set_option linter.unusedVariables false
/-! trees: how many nodes, how deep -/
mutual
def szT : T_Node → Nat
  | ⟨_, _, _, ks⟩ => 1 + szL ks
def szL : List T_Node → Nat
  | [] => 0
  | x :: l => szT x + szL l
end
mutual
def dpT : T_Node → Nat
  | ⟨_, _, _, ks⟩ => dpL ks + 1
def dpL : List T_Node → Nat
  | [] => 0
  | x :: l => max (dpT x) (dpL l)
end
theorem szT_eq (x : T_Node) : szT x = 1 + szL x.kids_ := by cases x; simp [szT]
theorem dpT_eq (x : T_Node) : dpT x = dpL x.kids_ + 1 := by cases x; simp [dpT]
mutual
theorem szT_le : ∀ x : T_Node, szT x ≤ 1 + wN x
  | ⟨_, s, _, ks⟩ => by have := szL_le ks; simp only [szT, wN]; omega
theorem szL_le : ∀ l : List T_Node, szL l ≤ sN l
  | [] => by simp [szL, sN]
  | x :: l => by have := szT_le x; have := szL_le l; simp only [szL, sN]; omega
end
mutual
theorem dpT_le : ∀ x : T_Node, dpT x ≤ 1 + wN x
  | ⟨_, s, _, ks⟩ => by have := dpL_le ks; simp only [dpT, wN]; omega
theorem dpL_le : ∀ l : List T_Node, dpL l ≤ sN l
  | [] => by simp [dpL, sN]
  | x :: l => by have := dpT_le x; have := dpL_le l; simp only [dpL, sN]; omega
end
theorem szL_app (a b : List T_Node) : szL (a ++ b) = szL a + szL b := by
  induction a with
  | nil => simp [szL]
  | cons x l ih => simp [szL, ih]; omega
theorem fold_sz : ∀ (l : List T_Node) (t : Int), l.foldl (fun t x => t + (szT x : Int)) t = t + szL l
  | [], t => by simp [szL]
  | x :: l, t => by rw [List.foldl_cons, fold_sz l]; simp [szL]; omega
theorem fold_dp : ∀ (l : List T_Node) (t : Nat), l.foldl (fun t x => ((max t.toNat (dpT x) : Nat) : Int)) (t : Int) = ((max t (dpL l) : Nat) : Int)
  | [], t => by simp [dpL]
  | x :: l, t => by
    rw [List.foldl_cons, Int.toNat_natCast, fold_dp l]
    simp only [dpL, Nat.max_assoc]
theorem dpL_take (l : List T_Node) (i : Nat) : dpL (l.take i) ≤ dpL l := by
  induction l generalizing i with
  | nil => simp
  | cons x l ih =>
    cases i with
    | zero => simp [dpL]
    | succ i => simp only [List.take_succ_cons, dpL]; have := ih i; omega
theorem szL_take (l : List T_Node) (i : Nat) : szL (l.take i) ≤ szL l := by
  have := szL_app (l.take i) (l.drop i)
  rw [List.take_append_drop] at this; omega
theorem szL_mem {l : List T_Node} {x : T_Node} (h : x ∈ l) : szT x ≤ szL l := by
  induction l with
  | nil => cases h
  | cons y l ih =>
    simp only [szL]
    rcases List.mem_cons.1 h with rfl | h
    · omega
    · have := ih h; omega
theorem dpL_mem {l : List T_Node} {x : T_Node} (h : x ∈ l) : dpT x ≤ dpL l := by
  induction l with
  | nil => cases h
  | cons y l ih =>
    simp only [dpL]
    rcases List.mem_cons.1 h with rfl | h
    · omega
    · have := ih h; omega
theorem szL_take1 {l : List T_Node} {i : Nat} {x : T_Node} (h : l[i]? = some x) : szL (l.take i) + szT x ≤ szL l := by
  have h1 := szL_take l (i + 1)
  rw [List.take_add_one, h, szL_app] at h1
  simp only [Option.toList_some, szL] at h1; omega
theorem s_Size : ∀ (n : Nat) (op : Int) (s : ByteArray) (k : Int) (ks : List T_Node), sN ks < n → sN ks ≤ 1048576 → Fs_Sizen n op s k ks = some ((1 + szL ks : Nat) : Int) := by
  intro n
  induction n with
  | zero => intro op s k ks h; omega
  | succ n ih =>
    intro op s k ks h h1
    have hl := sN_len ks
    have hs := szL_le ks
    show Ss_Size (Fs_Sizen n) op s k ks = _
    unfold Ss_Size
    rw [fold_loop (fun m t i => Ls_Size_0 (Fs_Sizen n) m t i op s k ks) ks (fun t x => t + (szT x : Int)) id 1 (by omega)
      (by intro m t _; simp only [Ls_Size_0]; rw [if_neg (by omega)]; rfl)
      (by
        intro m i x t hx ht
        have hm := sN_mem (List.mem_of_getElem? hx)
        have hw := wN_eq x
        have hi := ltN hx
        have h2 := szL_take1 hx
        rw [fold_sz] at ht
        simp only [Ls_Size_0]
        rw [if_pos (ltI hx), getI_n hx, bS_s, ih _ _ _ _ (by omega) (by omega), bS_s, wrI (by omega), ← szT_eq, wrap64_id _ (by omega) (by omega)]), bS_s]
    simp only [id, fold_sz]; congr 1
theorem i_Size : ∀ (n : Nat) (op : Int) (s : ByteArray) (k : Int) (ks : List T_Node), sN ks < n → sN ks ≤ 1048576 → Fi_Sizen n op s k ks = some ((1 + szL ks : Nat) : Int) := by
  intro n
  induction n with
  | zero => intro op s k ks h; omega
  | succ n ih =>
    intro op s k ks h h1
    have hl := sN_len ks
    have hs := szL_le ks
    show Si_Size (Fi_Sizen n) op s k ks = _
    unfold Si_Size
    rw [fold_loop (fun m t i => Li_Size_0 (Fi_Sizen n) m t ks ks.length i) ks (fun t x => t + (szT x : Int)) id 1 (by omega)
      (by intro m t _; simp only [Li_Size_0]; rw [if_neg (by omega)]; rfl)
      (by
        intro m i x t hx ht
        have hm := sN_mem (List.mem_of_getElem? hx)
        have hw := wN_eq x
        have hi := ltN hx
        have h2 := szL_take1 hx
        rw [fold_sz] at ht
        simp only [Li_Size_0]
        rw [if_pos (ltI hx), getI_n hx, bS_s, ih _ _ _ _ (by omega) (by omega), bS_s, wrI (by omega), ← szT_eq, wrap64_id _ (by omega) (by omega)]), bS_s]
    simp only [id, fold_sz]; congr 1
theorem s_max (a b : Nat) : Fs_l1Max (a : Int) (b : Int) = some ((max a b : Nat) : Int) := by
  unfold Fs_l1Max
  split <;> (congr 1; omega)
theorem s_Deep : ∀ (n : Nat) (op : Int) (s : ByteArray) (k : Int) (ks : List T_Node), sN ks < n → sN ks ≤ 1048576 → Fs_Deepn n op s k ks = some ((dpL ks + 1 : Nat) : Int) := by
  intro n
  induction n with
  | zero => intro op s k ks h; omega
  | succ n ih =>
    intro op s k ks h h1
    have hl := sN_len ks
    have hs := dpL_le ks
    show Ss_Deep (Fs_Deepn n) op s k ks = _
    unfold Ss_Deep
    rw [fold_loop (fun m t i => Ls_Deep_0 (Fs_Deepn n) m t i op s k ks) ks (fun t x => ((max t.toNat (dpT x) : Nat) : Int)) id 0 (by omega)
      (by intro m t _; simp only [Ls_Deep_0]; rw [if_neg (by omega)]; rfl)
      (by
        intro m i x t hx ht
        have hm := sN_mem (List.mem_of_getElem? hx)
        have hw := wN_eq x
        have hi := ltN hx
        have ht' : t = ((max 0 (dpL (ks.take i)) : Nat) : Int) := by rw [ht]; exact fold_dp _ 0
        simp only [Ls_Deep_0]
        rw [if_pos (ltI hx), getI_n hx, bS_s, ih _ _ _ _ (by omega) (by omega), bS_s, wrI (by omega), ← dpT_eq, ht', s_max, bS_s, Int.toNat_natCast]), bS_s]
    have := fold_dp ks 0
    rw [show ((0 : Nat) : Int) = 0 from rfl] at this
    simp only [id, this]
    rw [wrap64_id _ (by omega) (by omega)]
    congr 1
theorem i_Deep : ∀ (n : Nat) (op : Int) (s : ByteArray) (k : Int) (ks : List T_Node), sN ks < n → sN ks ≤ 1048576 → Fi_Deepn n op s k ks = some ((dpL ks + 1 : Nat) : Int) := by
  intro n
  induction n with
  | zero => intro op s k ks h; omega
  | succ n ih =>
    intro op s k ks h h1
    have hl := sN_len ks
    have hs := dpL_le ks
    show Si_Deep (Fi_Deepn n) op s k ks = _
    unfold Si_Deep
    rw [fold_loop (fun m t i => Li_Deep_0 (Fi_Deepn n) m t ks ks.length i) ks (fun t x => ((max t.toNat (dpT x) : Nat) : Int)) id 0 (by omega)
      (by intro m t _; simp only [Li_Deep_0]; rw [if_neg (by omega)]; rfl)
      (by
        intro m i x t hx ht
        have hm := sN_mem (List.mem_of_getElem? hx)
        have hw := wN_eq x
        have hi := ltN hx
        have ht' : t = ((max 0 (dpL (ks.take i)) : Nat) : Int) := by rw [ht]; exact fold_dp _ 0
        simp only [Li_Deep_0]
        rw [if_pos (ltI hx), getI_n hx, bS_s, ih _ _ _ _ (by omega) (by omega), bS_s, wrI (by omega), ← dpT_eq, ht', Int.toNat_natCast]
        split
        · congr 1; omega
        · congr 1; omega), bS_s]
    have := fold_dp ks 0
    rw [show ((0 : Nat) : Int) = 0 from rfl] at this
    simp only [id, this]
    rw [wrap64_id _ (by omega) (by omega)]
    congr 1
/-! what kids a node may have -/
def isStm (x : T_Node) : Bool := decide (2 ≤ x.op_) && decide (x.op_ ≤ 9)
def isExp (x : T_Node) : Bool := (decide (10 ≤ x.op_) && decide (x.op_ ≤ 27)) && !decide (x.op_ = 26)
def isOp (k : Int) (x : T_Node) : Bool := decide (x.op_ = k)
theorem s_in (a b c : Int) : Fs_l1In a b c = some (decide (b ≤ a) && decide (a ≤ c)) := by
  unfold Fs_l1In
  by_cases h : b ≤ a <;> simp [h]
theorem i_within (a b c : Int) : Fi_within a b c = some (decide (b ≤ a) && decide (a ≤ c)) := by
  unfold Fi_within
  by_cases h : b ≤ a <;> simp [h]
theorem all_and {τ : Type} (p q : τ → Bool) : ∀ l : List τ, (l.all fun x => p x && q x) = (l.all p && l.all q)
  | [] => rfl
  | x :: l => by simp only [List.all_cons, all_and p q l]; cases p x <;> cases q x <;> simp
theorem s_kids1 (R : Int → ByteArray → Int → List T_Node → Option Bool) (A : T_Node → Bool) (op : Int) (s : ByteArray) (k : Int) (ks : List T_Node) (hB : ks.length ≤ 4194303) (hR : ∀ x ∈ ks, R x.op_ x.s_ x.n_ x.kids_ = some (A x)) :
    Ls_l13Kids_1 R FU ks.length 0 op s k ks = some (if (ks.all fun x => isStm x && A x) then .inr () else .inl false) :=
  all_loop0 (fun m i => Ls_l13Kids_1 R m ks.length i op s k ks) ks _ (.inr ()) (.inl false) hB
    (by intro m; simp only [Ls_l13Kids_1]; rw [if_neg (by omega)])
    (by
      intro m i x hx hp
      have hi := ltN hx
      simp only [Bool.and_eq_true] at hp
      simp only [Ls_l13Kids_1]
      have h1 : (decide (2 ≤ x.op_) && decide (x.op_ ≤ 9)) = true := hp.1
      rw [if_pos (ltI hx), getI_n hx, bS_s, s_in, bS_s, if_pos h1, hR x (List.mem_of_getElem? hx), bS_s, if_pos hp.2, wrI (by omega)])
    (by
      intro m i x hx hp
      simp only [Ls_l13Kids_1]
      rw [if_pos (ltI hx), getI_n hx, bS_s, s_in, bS_s]
      by_cases c : isStm x = true
      · have h1 : (decide (2 ≤ x.op_) && decide (x.op_ ≤ 9)) = true := c
        rw [if_pos h1, hR x (List.mem_of_getElem? hx), bS_s, if_neg (by simp [c] at hp; simp [hp])]
      · have h1 : ¬ (decide (2 ≤ x.op_) && decide (x.op_ ≤ 9)) = true := c
        rw [if_neg h1])
theorem s_kids0 (R : Int → ByteArray → Int → List T_Node → Option Bool) (A : T_Node → Bool) (op : Int) (s : ByteArray) (k : Int) (ks : List T_Node) (hB : ks.length ≤ 4194303) (hR : ∀ x ∈ ks, R x.op_ x.s_ x.n_ x.kids_ = some (A x)) :
    Ls_l13Kids_0 R FU ks.length 0 op s k ks = some (if (ks.all fun x => isOp 26 x && A x) then .inr () else .inl false) :=
  all_loop0 (fun m i => Ls_l13Kids_0 R m ks.length i op s k ks) ks _ (.inr ()) (.inl false) hB
    (by intro m; simp only [Ls_l13Kids_0]; rw [if_neg (by omega)])
    (by
      intro m i x hx hp
      have hi := ltN hx
      simp only [Bool.and_eq_true, isOp, decide_eq_true_eq] at hp
      simp only [Ls_l13Kids_0]
      rw [if_pos (ltI hx), getI_n hx, bS_s, if_pos hp.1, hR x (List.mem_of_getElem? hx), bS_s, if_pos hp.2, wrI (by omega)])
    (by
      intro m i x hx hp
      simp only [Ls_l13Kids_0]
      rw [if_pos (ltI hx), getI_n hx, bS_s]
      by_cases c : x.op_ = 26
      · rw [if_pos c, hR x (List.mem_of_getElem? hx), bS_s, if_neg (by simp [isOp, c] at hp; simp [hp])]
      · rw [if_neg c])
theorem s_exprs (R : Int → ByteArray → Int → List T_Node → Option Bool) (A : T_Node → Bool) (op : Int) (s : ByteArray) (k : Int) (ks : List T_Node) (many : Nat) (hB : ks.length ≤ 4194303) (hR : ∀ x ∈ ks, R x.op_ x.s_ x.n_ x.kids_ = some (A x)) :
    Fs_l13Exprs R op s k ks many = some (((ks.take many).all fun x => isExp x && A x) && decide (many ≤ ks.length)) := by
  unfold Fs_l13Exprs
  have hl : (ks.take many).length = min many ks.length := List.length_take
  have tk : ∀ {i : Nat} {x : T_Node}, (ks.take many)[i]? = some x → ks[i]? = some x ∧ i < many := by
    intro i x h
    have hi := ltN h
    rw [List.getElem?_take] at h
    rw [hl] at hi
    rw [if_pos (by omega)] at h
    exact ⟨h, by omega⟩
  rw [all_loop0 (fun m i => Ls_l13Exprs_0 R m many i op s k ks) (ks.take many) (fun x => isExp x && A x) (.inr ()) (.inl false) (by omega)
    (by
      intro m; rw [hl]; simp only [Ls_l13Exprs_0]
      by_cases c : ((min many ks.length : Nat) : Int) < (many : Int)
      · rw [if_pos c, if_neg (by omega)]
      · rw [if_neg c])
    (by
      intro m i x hx hp
      obtain ⟨h1, h2⟩ := tk hx
      have hi := ltN h1
      simp only [Bool.and_eq_true] at hp
      have hr := hR x (List.mem_of_getElem? h1)
      simp only [Ls_l13Exprs_0]
      rw [if_pos (by omega), if_pos (ltI h1), getI_n h1, bS_s, s_in, bS_s]
      by_cases c : (decide (10 ≤ x.op_) && decide (x.op_ ≤ 25)) = true
      · rw [if_pos c, hr, bS_s, if_pos hp.2, wrI (by omega)]
      · have hq := hp.1
        simp only [isExp, Bool.and_eq_true, decide_eq_true_eq, Bool.not_eq_true', decide_eq_false_iff_not] at hq c
        rw [if_neg (by simp only [Bool.and_eq_true, decide_eq_true_eq]; exact c), if_pos (by omega), hr, bS_s, if_pos hp.2, wrI (by omega)])
    (by
      intro m i x hx hp
      obtain ⟨h1, h2⟩ := tk hx
      have hr := hR x (List.mem_of_getElem? h1)
      simp only [Ls_l13Exprs_0]
      rw [if_pos (by omega), if_pos (ltI h1), getI_n h1, bS_s, s_in, bS_s]
      by_cases ce : isExp x = true
      · have ha : ¬ A x = true := by simp [ce] at hp; simp [hp]
        by_cases c : (decide (10 ≤ x.op_) && decide (x.op_ ≤ 25)) = true
        · rw [if_pos c, hr, bS_s, if_neg ha]
        · simp only [isExp, Bool.and_eq_true, decide_eq_true_eq, Bool.not_eq_true', decide_eq_false_iff_not] at ce c
          rw [if_neg (by simp only [Bool.and_eq_true, decide_eq_true_eq]; exact c), if_pos (by omega), hr, bS_s, if_neg ha]
      · simp only [isExp, Bool.and_eq_true, decide_eq_true_eq, Bool.not_eq_true', decide_eq_false_iff_not] at ce
        rw [if_neg (by simp only [Bool.and_eq_true, decide_eq_true_eq]; omega), if_neg (by omega)]), bS_s]
  cases ((ks.take many).all fun x => isExp x && A x) with
  | true => simp
  | false => simp
theorem s_blocks (R : Int → ByteArray → Int → List T_Node → Option Bool) (A : T_Node → Bool) (op : Int) (s : ByteArray) (k : Int) (ks : List T_Node) (fr : Nat) (hf : fr ≤ ks.length) (hB : ks.length ≤ 4194303) (hR : ∀ x ∈ ks, R x.op_ x.s_ x.n_ x.kids_ = some (A x)) :
    Fs_l13Blocks R op s k ks fr = some ((ks.drop fr).all fun x => isOp 1 x && A x) := by
  unfold Fs_l13Blocks
  rw [all_loop (fun m i => Ls_l13Blocks_0 R m i op s k ks) ks (fun x => isOp 1 x && A x) (.inr ()) (.inl false) hB
    (by intro m; simp only [Ls_l13Blocks_0]; rw [if_neg (by omega)])
    (by
      intro m i x hx hp
      have hi := ltN hx
      simp only [Bool.and_eq_true, isOp, decide_eq_true_eq] at hp
      simp only [Ls_l13Blocks_0]
      rw [if_pos (ltI hx), getI_n hx, bS_s, if_pos hp.1, hR x (List.mem_of_getElem? hx), bS_s, if_pos hp.2, wrI (by omega)])
    (by
      intro m i x hx hp
      simp only [Ls_l13Blocks_0]
      rw [if_pos (ltI hx), getI_n hx, bS_s]
      by_cases c : x.op_ = 1
      · rw [if_pos c, hR x (List.mem_of_getElem? hx), bS_s, if_neg (by simp [isOp, c] at hp; simp [hp])]
      · rw [if_neg c]) fr hf, bS_s]
  cases ((ks.drop fr).all fun x => isOp 1 x && A x) <;> simp
end Go.Pv

namespace Go.Pv
set_option maxRecDepth 100000
set_option maxHeartbeats 4000000
set_option linter.unusedSimpArgs false
set_option linter.unusedVariables false
theorem ite_or {α : Type} {c d : Prop} [Decidable c] [Decidable d] (x z : α) : (if c then x else if d then x else z) = if c ∨ d then x else z := by
  by_cases h1 : c <;> by_cases h2 : d <;> simp [h1, h2]
abbrev one8 (op : Int) : Prop := ((((((op = 2 ∨ op = 3) ∨ op = 7) ∨ op = 8) ∨ op = 9) ∨ op = 17) ∨ op = 24) ∨ op = 26
abbrev two6 (op : Int) : Prop := ((((op = 4 ∨ op = 19) ∨ op = 20) ∨ op = 21) ∨ op = 22) ∨ op = 23
def ifK (ks : List T_Node) : Bool := (ks.take 1).all isExp && (ks.drop 1).all (isOp 1)
/-- the kids that an op has; 'd': what else -/
def shapeD (d : Bool) (op : Int) (ks : List T_Node) : Bool :=
  if op = 1 then ks.all isStm else
  if one8 op then decide (ks.length = 1) && ks.all isExp else
  if two6 op then decide (ks.length = 2) && ks.all isExp else
  if op = 5 then (decide (2 ≤ ks.length) && decide (ks.length ≤ 3)) && ifK ks else
  if op = 6 then decide (ks.length = 2) && ifK ks else
  if op = 18 then decide (1 ≤ ks.length) && ks.all isExp else
  if op = 25 then ks.all (isOp 26) else
  if op = 27 then decide (ks.length = 1) && ks.all (isOp 1) else
  d && decide (ks.length = 0)
theorem split1 (A : T_Node → Bool) (p q : T_Node → Bool) (ks : List T_Node) : ((ks.take 1).all (fun x => p x && A x) && (ks.drop 1).all (fun x => q x && A x)) = (((ks.take 1).all p && (ks.drop 1).all q) && ks.all A) := by
  rw [all_and, all_and]
  have e : ks.all A = ((ks.take 1).all A && (ks.drop 1).all A) := by rw [← List.all_append, List.take_append_drop]
  rw [e]
  cases (ks.take 1).all p <;> cases (ks.take 1).all A <;> cases (ks.drop 1).all q <;> cases (ks.drop 1).all A <;> rfl
theorem decI (n m : Nat) : ((n : Int) = (m : Int)) = (n = m) := propext (by omega)
theorem s_kids (R : Int → ByteArray → Int → List T_Node → Option Bool) (A : T_Node → Bool) (op : Int) (s : ByteArray) (k : Int) (ks : List T_Node) (hB : ks.length ≤ 4194303) (hR : ∀ x ∈ ks, R x.op_ x.s_ x.n_ x.kids_ = some (A x)) :
    Fs_l13Kids R op s k ks = some (shapeD true op ks && ks.all A) := by
  have e1 := s_exprs R A op s k ks 1 hB hR
  have e2 := s_exprs R A op s k ks 2 hB hR
  have e3 := s_exprs R A op s k ks ks.length hB hR
  rw [show ((1 : Nat) : Int) = 1 from rfl] at e1
  rw [show ((2 : Nat) : Int) = 2 from rfl] at e2
  unfold Fs_l13Kids shapeD
  by_cases c1 : op = 1
  · rw [if_pos c1, if_pos c1, s_kids1 R A op s k ks hB hR, bS_s, all_and]
    cases ks.all isStm <;> cases ks.all A <;> rfl
  rw [if_neg c1, if_neg c1, ite_or, ite_or, ite_or, ite_or, ite_or, ite_or, ite_or]
  by_cases c2 : one8 op
  · rw [if_pos c2, if_pos c2]
    by_cases h : ks.length = 1
    · rw [if_pos (by omega), e1, bS_s, List.take_of_length_le (by omega), all_and]
      simp [h]
    · rw [if_neg (by omega)]; simp [h]
  rw [if_neg c2, if_neg c2, ite_or, ite_or, ite_or, ite_or, ite_or]
  by_cases c3 : two6 op
  · rw [if_pos c3, if_pos c3]
    by_cases h : ks.length = 2
    · rw [if_pos (by omega), e2, bS_s, List.take_of_length_le (by omega), all_and]
      simp [h]
    · rw [if_neg (by omega)]; simp [h]
  rw [if_neg c3, if_neg c3]
  have hif : ∀ (h : 1 ≤ ks.length), (bS (Fs_l13Exprs R op s k ks 1) fun r46 => if r46 = true then bS (Fs_l13Blocks R op s k ks 1) fun r49 => some r49 else some false) = some (ifK ks && ks.all A) := by
    intro h
    have eb := s_blocks R A op s k ks 1 h hB hR
    rw [show ((1 : Nat) : Int) = 1 from rfl] at eb
    rw [e1, bS_s, eb]
    have := split1 A isExp (isOp 1) ks
    unfold ifK
    rw [← this]
    cases ((ks.take 1).all fun x => isExp x && A x) <;> simp [h]
  by_cases c4 : op = 5
  · rw [if_pos c4, if_pos c4, s_in, bS_s]
    by_cases h : 2 ≤ ks.length ∧ ks.length ≤ 3
    · rw [if_pos (by simp; omega), hif (by omega)]
      simp [h.1, h.2]
    · rw [if_neg (by simp; omega)]
      have : (decide (2 ≤ ks.length) && decide (ks.length ≤ 3)) = false := by simp; omega
      rw [this]; rfl
  rw [if_neg c4, if_neg c4]
  by_cases c5 : op = 6
  · rw [if_pos c5, if_pos c5]
    by_cases h : ks.length = 2
    · rw [if_pos (by omega), hif (by omega)]; simp [h]
    · rw [if_neg (by omega)]; simp [h]
  rw [if_neg c5, if_neg c5]
  by_cases c6 : op = 18
  · rw [if_pos c6, if_pos c6]
    by_cases h : 1 ≤ ks.length
    · rw [if_pos (by omega), e3, bS_s, List.take_length, all_and]; simp [h]
    · rw [if_neg (by omega)]; simp [h]
  rw [if_neg c6, if_neg c6]
  by_cases c7 : op = 25
  · rw [if_pos c7, if_pos c7, s_kids0 R A op s k ks hB hR, bS_s, all_and]
    cases ks.all (isOp 26) <;> cases ks.all A <;> rfl
  rw [if_neg c7, if_neg c7]
  by_cases c8 : op = 27
  · rw [if_pos c8, if_pos c8]
    by_cases h : ks.length = 1
    · have eb := s_blocks R A op s k ks 0 (by omega) hB hR
      rw [show ((0 : Nat) : Int) = 0 from rfl, List.drop_zero, all_and] at eb
      rw [if_pos (by omega), eb, bS_s]; simp [h]
    · rw [if_neg (by omega)]; simp [h]
  rw [if_neg c8, if_neg c8]
  by_cases h : ks.length = 0
  · have : ks = [] := List.length_eq_zero_iff.1 h
    subst this; rfl
  · simp [h]
/-! the same of the program -/
theorem i_idx1 (ks : List T_Node) (hB : ks.length ≤ 4194303) : Fi_kidsOk_c1 ks = some (ks.all isStm) := by
  unfold Fi_kidsOk_c1 Fslices_ContainsFunc_Node Fslices_IndexFunc_Node
  rw [idx_loop (fun m i => Lslices_IndexFunc_Node_0 m ks ks.length i) ks (fun x => !isStm x) .inl (.inr ()) hB
    (by intro m; simp only [Lslices_IndexFunc_Node_0]; rw [if_neg (by omega)])
    (by
      intro m i x hx hp
      have hi := ltN hx
      have hp' : isStm x = true := by simpa using hp
      change (decide (2 ≤ x.op_) && decide (x.op_ ≤ 9)) = true at hp'
      simp only [Lslices_IndexFunc_Node_0]
      rw [if_pos (ltI hx), getI_n hx, bS_s, Fi_kidsOk_c1_c1, Fi_isStatement, i_within, bS_s, bS_s, bS_s, if_neg (by simp [hp']), wrI (by omega)])
    (by
      intro m i x hx hp
      have hp' : isStm x = false := by simpa using hp
      change (decide (2 ≤ x.op_) && decide (x.op_ ≤ 9)) = false at hp'
      simp only [Lslices_IndexFunc_Node_0]
      rw [if_pos (ltI hx), getI_n hx, bS_s, Fi_kidsOk_c1_c1, Fi_isStatement, i_within, bS_s, bS_s, bS_s, if_pos (by simp [hp'])]), bS_s]
  have e : ks.all isStm = !(ks.any fun x => !isStm x) := by rw [any_not]; simp
  rw [e, any_find]
  cases ks.findIdx? fun x => !isStm x with
  | none => rfl
  | some i => simp
theorem i_isExpr (x : T_Node) : Fi_isExpr x.op_ x.s_ x.n_ x.kids_ = some (isExp x) := by
  unfold Fi_isExpr isExp
  rw [i_within, bS_s]
  cases decide (10 ≤ x.op_) && decide (x.op_ ≤ 27) <;> simp
theorem i_idx2 (ks : List T_Node) (hB : ks.length ≤ 4194303) : Fi_kidsOk_c1_2 ks = some (ks.all isExp) := by
  unfold Fi_kidsOk_c1_2 Fslices_ContainsFunc_Node_2 Fslices_IndexFunc_Node_2
  rw [idx_loop (fun m i => Lslices_IndexFunc_Node_0_2 m ks ks.length i) ks (fun x => !isExp x) .inl (.inr ()) hB
    (by intro m; simp only [Lslices_IndexFunc_Node_0_2]; rw [if_neg (by omega)])
    (by
      intro m i x hx hp
      have hi := ltN hx
      simp only [Lslices_IndexFunc_Node_0_2]
      rw [if_pos (ltI hx), getI_n hx, bS_s, Fi_kidsOk_c1_c1_2, i_isExpr, bS_s, bS_s, if_neg (by simpa using hp), wrI (by omega)])
    (by
      intro m i x hx hp
      simp only [Lslices_IndexFunc_Node_0_2]
      rw [if_pos (ltI hx), getI_n hx, bS_s, Fi_kidsOk_c1_c1_2, i_isExpr, bS_s, bS_s, if_pos (by simpa using hp)]), bS_s]
  have e : ks.all isExp = !(ks.any fun x => !isExp x) := by rw [any_not]; simp
  rw [e, any_find]
  cases ks.findIdx? fun x => !isExp x with
  | none => rfl
  | some i => simp
theorem i_idx3 (ks : List T_Node) (k : Int) (hB : ks.length ≤ 4194303) : Fi_kidsOk_c1_3 ks k = some (ks.all (isOp k), k) := by
  unfold Fi_kidsOk_c1_3 Fslices_ContainsFunc_Node_3 Fslices_IndexFunc_Node_3
  rw [idx_loop (fun m i => Lslices_IndexFunc_Node_0_3 m ks ks.length i k) ks (fun x => !isOp k x) (fun i => .inl (i, k)) (.inr k) hB
    (by intro m; simp only [Lslices_IndexFunc_Node_0_3]; rw [if_neg (by omega)])
    (by
      intro m i x hx hp
      have hi := ltN hx
      have hp' : x.op_ = k := by simpa [isOp] using hp
      simp only [Lslices_IndexFunc_Node_0_3]
      rw [if_pos (ltI hx), getI_n hx, bS_s, Fi_kidsOk_c1_c1_3, Fi_kidsOk_c2_c1, bS_s, bS_s]
      simp only
      rw [if_neg (by simp [hp']), wrI (by omega)])
    (by
      intro m i x hx hp
      have hp' : ¬ x.op_ = k := by simpa [isOp] using hp
      simp only [Lslices_IndexFunc_Node_0_3]
      rw [if_pos (ltI hx), getI_n hx, bS_s, Fi_kidsOk_c1_c1_3, Fi_kidsOk_c2_c1, bS_s, bS_s]
      simp only
      rw [if_pos (by simp [hp'])]), bS_s]
  have e : ks.all (isOp k) = !(ks.any fun x => !isOp k x) := by rw [any_not]; simp
  rw [e, any_find]
  cases ks.findIdx? fun x => !isOp k x with
  | none => rfl
  | some i => simp
def midB (op : Int) : Bool := decide (10 ≤ op) && decide (op ≤ 16)
theorem i_kids (op : Int) (s : ByteArray) (k : Int) (ks : List T_Node) (hB : ks.length ≤ 4194303) : Fi_kidsOk op s k ks = some (shapeD (midB op) op ks) := by
  unfold Fi_kidsOk shapeD
  by_cases c1 : op = 1
  · rw [if_pos c1, if_pos c1, i_idx1 ks hB, bS_s]
  rw [if_neg c1, if_neg c1, ite_or, ite_or, ite_or, ite_or, ite_or, ite_or, ite_or]
  by_cases c2 : one8 op
  · rw [if_pos c2, if_pos c2]
    by_cases h : ks.length = 1
    · rw [if_pos (by omega), i_idx2 ks hB, bS_s]; simp [h]
    · rw [if_neg (by omega)]; simp [h]
  rw [if_neg c2, if_neg c2, ite_or, ite_or, ite_or, ite_or, ite_or]
  by_cases c3 : two6 op
  · rw [if_pos c3, if_pos c3]
    by_cases h : ks.length = 2
    · rw [if_pos (by omega), i_idx2 ks hB, bS_s]; simp [h]
    · rw [if_neg (by omega)]; simp [h]
  rw [if_neg c3, if_neg c3]
  by_cases c4 : op = 5
  · rw [if_pos c4, if_pos c4, i_within, bS_s]
    by_cases h : 2 ≤ ks.length ∧ ks.length ≤ 3
    · rw [if_pos (by simp; omega)]
      obtain ⟨x, hx⟩ := lt_get (xs := ks) (i := 0) (by omega)
      have hg := getI_n hx
      rw [show ((0 : Nat) : Int) = 0 from rfl] at hg
      have ht : ks.take 1 = [x] := by
        match ks, hx with
        | y :: l, hx => simp at hx; subst hx; rfl
      rw [hg, bS_s, i_isExpr, bS_s]
      unfold ifK
      rw [ht]
      cases hc : isExp x with
      | true =>
        rw [if_pos rfl, if_pos ⟨by omega, Nat.le_refl _, Nat.le_refl _⟩, Fi_kidsOk_c2, bS_s, i_idx3 _ _ (by rw [List.length_take, List.length_drop]; omega), bS_s]
        rw [List.take_of_length_le (by rw [List.length_drop]; omega)]
        simp [h.1, h.2, hc]
      | false => simp [hc]
    · rw [if_neg (by simp; omega)]
      have : (decide (2 ≤ ks.length) && decide (ks.length ≤ 3)) = false := by simp; omega
      rw [this]; rfl
  rw [if_neg c4, if_neg c4]
  by_cases c5 : op = 6
  · rw [if_pos c5, if_pos c5]
    by_cases h : ks.length = 2
    · rw [if_pos (by omega)]
      match ks, h with
      | [x, y], _ =>
        have g0 : getI [x, y] 0 = some x := rfl
        have g1 : getI [x, y] 1 = some y := rfl
        rw [g0, bS_s, i_isExpr, bS_s, g1, bS_s]
        unfold ifK
        cases hc : isExp x <;> simp [hc, isOp]
    · rw [if_neg (by omega)]; simp [h]
  rw [if_neg c5, if_neg c5]
  by_cases c6 : op = 18
  · rw [if_pos c6, if_pos c6]
    by_cases h : 1 ≤ ks.length
    · rw [if_pos (by omega), i_idx2 ks hB, bS_s]; simp [h]
    · rw [if_neg (by omega)]; simp [h]
  rw [if_neg c6, if_neg c6]
  by_cases c7 : op = 25
  · rw [if_pos c7, if_pos c7, Fi_kidsOk_c2, bS_s, i_idx3 ks 26 hB, bS_s]
  rw [if_neg c7, if_neg c7]
  by_cases c8 : op = 27
  · rw [if_pos c8, if_pos c8]
    by_cases h : ks.length = 1
    · rw [if_pos (by omega)]
      match ks, h with
      | [x], _ =>
        have g0 : getI [x] 0 = some x := rfl
        rw [g0, bS_s]; simp [isOp]
    · rw [if_neg (by omega)]; simp [h]
  rw [if_neg c8, if_neg c8, i_within, bS_s]
  unfold midB
  cases decide (10 ≤ op) && decide (op ≤ 16) with
  | true => by_cases h : ks.length = 0 <;> simp [h]
  | false => rfl
/-! names and texts -/
theorem i_letter (b : UInt8) : Fi_letter (b.toNat : Int) = some (letB b) := s_letter b
theorem i_digit (b : UInt8) : Fi_digit (b.toNat : Int) = some (digB b) := s_digit b
theorem i_nm (b : UInt8) : Fi_nameOk_c1 (b.toNat : Int) = some (nmB b) := by
  unfold Fi_nameOk_c1 nmB
  rw [i_letter, bS_s]
  cases letB b with
  | true => rfl
  | false => simp [i_digit]
theorem i_run1 (s : ByteArray) (hB : s.size ≤ 1048576) : Fi_run s 0 = some (runE nmB s 0 : Int) := by
  unfold Fi_run
  have := run_loop (fun n k => Li_run_0 n s k) s nmB id (by omega)
    (by intro n; simp only [Li_run_0]; rw [if_neg (by omega)]; rfl)
    (by
      intro n k b hb hp
      have hk := ltN hb
      rw [bl_len] at hk
      simp only [Li_run_0]
      rw [if_pos (sz_bl hb), getB_bl hb, bS_s, i_nm, bS_s, if_pos hp, wrI (by omega)])
    (by
      intro n k b hb hp
      simp only [Li_run_0]
      rw [if_pos (sz_bl hb), getB_bl hb, bS_s, i_nm, bS_s, if_neg (by simp [hp])]; rfl) 0 (by omega)
  rw [show ((0 : Nat) : Int) = 0 from rfl] at this
  rw [this, bS_s]; rfl
theorem i_tx (b : UInt8) : Fi_textByte (b.toNat : Int) = some (txB b) := by
  have e1 : ((32 : Int) ≤ b.toNat) = (32 ≤ b.toNat) := propext (by omega)
  have e2 : ((b.toNat : Int) ≤ 126) = (b.toNat ≤ 126) := propext (by omega)
  have e3 : ((b.toNat : Int) = 34) = (b.toNat = 34) := propext (by omega)
  simp only [Fi_textByte, txB, e1, e2, e3]
  by_cases h1 : 32 ≤ b.toNat <;> by_cases h2 : b.toNat ≤ 126 <;> simp [h1, h2]
theorem i_run2 (s : ByteArray) (hB : s.size ≤ 1048576) : Fi_run_2 s 0 = some (runE txB s 0 : Int) := by
  unfold Fi_run_2
  have := run_loop (fun n k => Li_run_0_2 n s k) s txB id (by omega)
    (by intro n; simp only [Li_run_0_2]; rw [if_neg (by omega)]; rfl)
    (by
      intro n k b hb hp
      have hk := ltN hb
      rw [bl_len] at hk
      simp only [Li_run_0_2]
      rw [if_pos (sz_bl hb), getB_bl hb, bS_s, i_tx, bS_s, if_pos hp, wrI (by omega)])
    (by
      intro n k b hb hp
      simp only [Li_run_0_2]
      rw [if_pos (sz_bl hb), getB_bl hb, bS_s, i_tx, bS_s, if_neg (by simp [hp])]; rfl) 0 (by omega)
  rw [show ((0 : Nat) : Int) = 0 from rfl] at this
  rw [this, bS_s]; rfl
theorem tw_len {τ : Type} (p : τ → Bool) : ∀ l : List τ, decide ((l.takeWhile p).length = l.length) = l.all p
  | [] => rfl
  | x :: l => by
    rw [List.all_cons, List.takeWhile_cons]
    have := tw_len p l
    cases hp : p x with
    | true => simp at this ⊢; exact this
    | false => simp
theorem runE_all (p : UInt8 → Bool) (s : ByteArray) : decide ((runE p s 0 : Int) = (s.size : Int)) = (bl s).all p := by
  rw [← tw_len p (bl s)]
  unfold runE
  rw [List.drop_zero, bl_len, decide_eq_decide]
  omega
theorem i_nameOk (s : ByteArray) (hB : s.size ≤ 1048576) : Fi_nameOk s = some (nameL (bl s)) := by
  unfold Fi_nameOk nameL
  rw [i_within, bS_s, bl_len]
  by_cases h : 1 ≤ s.size ∧ s.size ≤ 12
  · rw [if_pos (by simp; omega)]
    obtain ⟨b, hb⟩ := lt_get (xs := bl s) (i := 0) (by rw [bl_len]; omega)
    have hg := getB_bl hb
    rw [show ((0 : Nat) : Int) = 0 from rfl] at hg
    rw [hg, bS_s, i_letter, bS_s, i_run1 s hB, bS_s, runE_all]
    have hm : hdB (bl s) = letB b := by
      cases hl : bl s with
      | nil => rw [hl] at hb; cases hb
      | cons x l => rw [hl] at hb; simp at hb; subst hb; rfl
    rw [hm, decide_eq_true h.2]
    cases letB b <;> simp
  · rw [if_neg (by simp; omega)]
    by_cases h0 : s.size = 0
    · have : bl s = [] := List.length_eq_zero_iff.1 ((bl_len s).trans h0)
      rw [this]; simp [hdB]
    · have : ¬ s.size ≤ 12 := by omega
      simp [this]
theorem i_contains (xs : List ByteArray) (s : ByteArray) (hB : xs.length ≤ 4194303) : Fslices_Contains_string xs s = some (xs.any fun w => decide (s = w)) := by
  unfold Fslices_Contains_string Fslices_Index_string
  rw [idx_loop (fun m i => Lslices_Index_string_0 m xs s xs.length i) xs (fun w => decide (s = w)) .inl (.inr ()) hB
    (by intro m; simp only [Lslices_Index_string_0]; rw [if_neg (by omega)])
    (by
      intro m i x hx hp
      have hi := ltN hx
      simp only [Lslices_Index_string_0]
      rw [if_pos (ltI hx), getI_n hx, bS_s, if_neg (by simpa using hp), wrI (by omega)])
    (by
      intro m i x hx hp
      simp only [Lslices_Index_string_0]
      rw [if_pos (ltI hx), getI_n hx, bS_s, if_pos (by simpa using hp)]), bS_s, any_find]
  cases xs.findIdx? fun w => decide (s = w) with
  | none => rfl
  | some i => simp
theorem i_isWord (s : ByteArray) : Fi_isWord s = some (isW s) := by
  unfold Fi_isWord
  have := i_contains wordsB s (by decide)
  show bS (Fslices_Contains_string wordsB s) _ = _
  rw [this]; rfl
theorem i_proper (s : ByteArray) (hB : s.size ≤ 1048576) : Fi_properName s = some (nameB s false) := by
  unfold Fi_properName nameB
  rw [i_nameOk s hB, bS_s, i_isWord, bS_s]
  cases nameL (bl s) <;> simp
end Go.Pv

namespace Go.Pv
set_option maxRecDepth 100000
set_option maxHeartbeats 4000000
set_option linter.unusedSimpArgs false
set_option linter.unusedVariables false
def textB (s : ByteArray) : Bool := (bl s).all txB && decide (s.size ≤ 30)
def namesAll (s : ByteArray) : Bool := (wordsL s).all fun w => nameB w false
def numB (op n : Int) : Bool := if op = 10 then decide (-2147483647 ≤ n) && decide (n ≤ 2147483647) else decide (n = 0)
def textF (d : Bool) (op : Int) (s : ByteArray) : Bool :=
  if ((op = 2 ∨ op = 3) ∨ op = 16) ∨ op = 26 then nameB s false else
  if op = 4 ∨ op = 17 then nameB s true else
  if op = 11 then textB s else
  if op = 27 then namesAll s else d && decide (s = ⟨#[]⟩)
theorem s_l13Text (s : ByteArray) (hB : s.size ≤ 1048576) : Fs_l13Text s = some (textB s) := by
  unfold Fs_l13Text textB
  rw [all_loop0 (fun m i => Ls_l13Text_0 m s i) (bl s) txB (.inr ()) (.inl false) (by rw [bl_len]; omega)
    (by intro m; rw [bl_len]; simp only [Ls_l13Text_0]; rw [if_neg (by omega)])
    (by
      intro m i b hb hp
      have hk := ltN hb
      rw [bl_len] at hk
      simp only [txB, Bool.and_eq_true, decide_eq_true_eq, Bool.not_eq_true', decide_eq_false_iff_not] at hp
      simp only [Ls_l13Text_0]
      rw [if_pos (sz_bl hb), getB_bl hb, bS_s, if_neg (by omega), if_neg (by omega), if_neg (by omega), wrI (by omega)])
    (by
      intro m i b hb hp
      simp only [Ls_l13Text_0]
      rw [if_pos (sz_bl hb), getB_bl hb, bS_s]
      by_cases c1 : (b.toNat : Int) < 32
      · rw [if_pos c1]
      rw [if_neg c1]
      by_cases c2 : 126 < (b.toNat : Int)
      · rw [if_pos c2]
      rw [if_neg c2]
      by_cases c3 : (b.toNat : Int) = 34
      · rw [if_pos c3]
      · exfalso
        have h1 : 32 ≤ b.toNat := by omega
        have h2 : b.toNat ≤ 126 := by omega
        have h3 : ¬ b.toNat = 34 := by omega
        simp [txB, h1, h2, h3] at hp), bS_s]
  cases (bl s).all txB with
  | true => simp only [if_true, Bool.true_and]; congr 1; rw [decide_eq_decide]; omega
  | false => rfl
theorem names_loop (s : ByteArray) (hs : s.size ≤ 1048576) (hne : s ≠ ⟨#[]⟩) : ∀ (m n i a : Nat), i + m = s.size + 1 → m < n → a ≤ i → i ≤ s.size → (∀ k, a ≤ k → k < i → s.data.toList[k]? ≠ some 32) →
    Ls_l13Names_0 n s a i = some (if ((splitL (s.extract a s.size)).all fun w => nameB w false) then .inl () else .inr false) := by
  intro m
  induction m with
  | zero => intro n i a h1 h2 h3 h4; omega
  | succ m ih =>
    intro n i a h1 h2 h3 h4 h6
    obtain ⟨n, rfl⟩ : ∃ n', n = n' + 1 := ⟨n - 1, by omega⟩
    simp only [Ls_l13Names_0]
    rw [if_pos (by omega), if_neg hne]
    by_cases c : (i : Int) = s.size
    · rw [if_pos c, if_pos (by omega), if_pos (by omega), if_pos ⟨by omega, by omega⟩]
      have he : ∀ k, a ≤ k → s.data.toList[k]? ≠ some 32 := by
        intro k hk
        by_cases hki : k < i
        · exact h6 k hk hki
        · rw [List.getElem?_eq_none (by rw [blen]; omega)]; simp
      rw [splitL_at s a he]
      have hi : i = s.size := by omega
      simp only [Int.toNat_natCast]
      rw [s_l13Name _ _ (by rw [ByteArray.size_extract]; omega), bS_s, hi, wrI (by omega)]
      simp only [List.all_cons, List.all_nil, Bool.and_true]
      cases nameB (s.extract a s.size) false with
      | true =>
        obtain ⟨n, rfl⟩ : ∃ n', n = n' + 1 := ⟨n - 1, by omega⟩
        simp only [if_true, Ls_l13Names_0]
        rw [if_neg (by omega)]
      | false => rfl
    · rw [if_neg c]
      have hlt : i < s.data.toList.length := by rw [blen]; omega
      rw [getB_n, List.getElem?_eq_getElem hlt, bS_s]
      generalize hb : s.data.toList[i] = b
      have hbi : s.data.toList[i]? = some b := by rw [List.getElem?_eq_getElem hlt, hb]
      by_cases d : ((b.toNat : Nat) : Int) = 32
      · rw [if_pos d, if_pos (by omega), if_pos (by omega), if_pos ⟨by omega, by omega⟩, wrI (by omega)]
        have hb32 : b = 32 := by
          apply UInt8.toNat_inj.1
          show b.toNat = 32
          omega
        subst hb32
        rw [splitL_hit s a i h3 h6 hbi]
        simp only [Int.toNat_natCast, List.all_cons]
        rw [s_l13Name _ _ (by rw [ByteArray.size_extract]; omega), bS_s]
        by_cases hnb : nameB (s.extract a i) false = true
        · rw [if_pos hnb, ih n (i + 1) (i + 1) (by omega) (by omega) (by omega) (by omega) (by intro k hk1 hk2; omega)]
          simp only [hnb, Bool.true_and]
        · rw [if_neg hnb]; simp [hnb]
      · rw [if_neg d, wrI (by omega)]
        exact ih n (i + 1) a (by omega) (by omega) (by omega) (by omega) (by
          intro k hk1 hk2
          by_cases e : k = i
          · subst e; rw [hbi]; intro e2; injection e2 with e2; subst e2; exact d (by decide)
          · exact h6 k hk1 (by omega))
theorem s_l13Names (s : ByteArray) (hs : s.size ≤ 1048576) : Fs_l13Names s = some (namesAll s) := by
  unfold Fs_l13Names namesAll wordsL
  by_cases c : s = ⟨#[]⟩
  · rw [if_pos c]
    subst c
    have h0 : ∀ n, Ls_l13Names_0 (n + 1) ⟨#[]⟩ 0 0 = some (.inl ()) := by
      intro n
      simp only [Ls_l13Names_0]
      rw [if_pos (by decide)]; simp only [if_true]
    have : Ls_l13Names_0 FU ⟨#[]⟩ 0 0 = some (.inl ()) := h0 4194303
    rw [this]; rfl
  · rw [if_neg c]
    have := names_loop s hs c (s.size + 1) FU 0 0 (by omega) (by unfold FU; omega) (by omega) (by omega) (by intro k h1 h2; omega)
    have he : s.extract 0 s.size = s := by simp
    rw [he] at this
    rw [show ((0 : Nat) : Int) = 0 from rfl] at this
    rw [this, bS_s]
    cases (splitL s).all fun w => nameB w false <;> rfl
theorem i_namesOf (a b : Int) (s : ByteArray) (ks : List T_Node) (hs : s.size ≤ 1048576) : Fi_namesOf a s b ks = some (wordsL s) := by
  unfold Fi_namesOf wordsL
  split
  · rfl
  · unfold Fstrings_Split
    rw [if_pos ⟨rfl, by omega⟩]; rfl
theorem words_small {s w : ByteArray} (h : w ∈ wordsL s) : w.size ≤ s.size := by
  unfold wordsL at h
  split at h
  · cases h
  · have key : ∀ (m a : Nat), a + m = s.size + 1 → ∀ w ∈ splitL (s.extract a s.size), w.size ≤ s.size := by
      intro m
      induction m using Nat.strongRecOn with
      | ind m ih =>
        intro a ha w hw
        by_cases c : ∀ k, a ≤ k → s.data.toList[k]? ≠ some 32
        · rw [splitL_at s a c] at hw
          simp only [List.mem_singleton] at hw
          subst hw; rw [ByteArray.size_extract]; omega
        · have : ∃ p, a ≤ p ∧ s.data.toList[p]? = some 32 ∧ ∀ k, a ≤ k → k < p → s.data.toList[k]? ≠ some 32 := by
            obtain ⟨p, hp⟩ := Classical.not_forall.1 c
            have hp1 : a ≤ p := Decidable.byContradiction fun h => hp fun h' => absurd h' h
            have hp2 : s.data.toList[p]? = some 32 := Classical.byContradiction fun h => hp fun _ => h
            clear hp
            induction p using Nat.strongRecOn with
            | ind p ihp =>
              by_cases d : ∃ k, a ≤ k ∧ k < p ∧ s.data.toList[k]? = some 32
              · obtain ⟨k, h1, h2, h3⟩ := d
                exact ihp k h2 h1 h3
              · exact ⟨p, hp1, hp2, fun k h1 h2 h3 => d ⟨k, h1, h2, h3⟩⟩
          obtain ⟨p, hp1, hp2, hp3⟩ := this
          rw [splitL_hit s a p hp1 hp3 hp2] at hw
          have hps : p < s.size := by have := (List.getElem?_eq_some_iff.1 hp2).1; rw [blen] at this; exact this
          rcases List.mem_cons.1 hw with rfl | hw
          · rw [ByteArray.size_extract]; omega
          · exact ih (s.size - p) (by omega) (p + 1) (by omega) w hw
    have he : s.extract 0 s.size = s := by simp
    have := key (s.size + 1) 0 (by omega) w
    rw [he] at this
    exact this h
theorem i_containsF (s : ByteArray) (hs : s.size ≤ 1048576) : Fslices_ContainsFunc_string (wordsL s) = some (!namesAll s) := by
  have hl := wordsL_len s
  unfold Fslices_ContainsFunc_string Fslices_IndexFunc_string
  have hpr : ∀ w ∈ wordsL s, Fi_fieldsOk_c1 w = some (!nameB w false) := by
    intro w hw
    unfold Fi_fieldsOk_c1
    rw [i_proper w (Nat.le_trans (words_small hw) hs), bS_s]
  rw [idx_loop (fun m i => Lslices_IndexFunc_string_0 m (wordsL s) (wordsL s).length i) (wordsL s) (fun w => !nameB w false) .inl (.inr ()) (by omega)
    (by intro m; simp only [Lslices_IndexFunc_string_0]; rw [if_neg (by omega)])
    (by
      intro m i x hx hp
      have hi := ltN hx
      simp only [Lslices_IndexFunc_string_0]
      rw [if_pos (ltI hx), getI_n hx, bS_s, hpr x (List.mem_of_getElem? hx), bS_s, if_neg (by rw [hp]; simp), wrI (by omega)])
    (by
      intro m i x hx hp
      simp only [Lslices_IndexFunc_string_0]
      rw [if_pos (ltI hx), getI_n hx, bS_s, hpr x (List.mem_of_getElem? hx), bS_s, if_pos hp]), bS_s]
  have e : namesAll s = !((wordsL s).any fun w => !nameB w false) := by unfold namesAll; rw [any_not]; simp
  rw [e, any_find]
  cases (wordsL s).findIdx? fun w => !nameB w false with
  | none => rfl
  | some i => simp
theorem i_num (op n : Int) : (if op = 10 then bS (Fi_within n (-2147483647) 2147483647) fun r => if r = true then some true else some (decide (n = 0)) else some (decide (n = 0))) = some (numB op n) := by
  unfold numB
  split
  · rw [i_within, bS_s]
    by_cases h : -2147483647 ≤ n ∧ n ≤ 2147483647
    · simp [h.1, h.2]
    · have h0 : ¬ n = 0 := by omega
      have : (decide (-2147483647 ≤ n) && decide (n ≤ 2147483647)) = false := by simp; omega
      rw [this]; simp [h0]
  · rfl
theorem nameB_proto (s : ByteArray) : (nameB s false || decide (s = protoB)) = nameB s true := by
  by_cases h : s = protoB
  · subst h; decide
  · unfold nameB; simp [h]
theorem i_fields (op : Int) (s : ByteArray) (n : Int) (ks : List T_Node) (hs : s.size ≤ 1048576) : Fi_fieldsOk op s n ks = some (textF true op s && numB op n) := by
  unfold Fi_fieldsOk textF
  simp only [i_num]
  rw [ite_or, ite_or, ite_or]
  by_cases c1 : ((op = 2 ∨ op = 3) ∨ op = 16) ∨ op = 26
  · rw [if_pos c1, if_pos c1, i_proper s hs, bS_s]
    cases nameB s false <;> rfl
  rw [if_neg c1, if_neg c1, ite_or]
  by_cases c2 : op = 4 ∨ op = 17
  · rw [if_pos c2, if_pos c2, i_proper s hs, bS_s, ← nameB_proto]
    cases nameB s false with
    | true => rfl
    | false =>
      by_cases h : s = protoB
      · have h' : s = ⟨#[112, 114, 111, 116, 111]⟩ := h
        rw [if_neg (by simp), if_pos h']; simp [h]
      · have h' : ¬ s = ⟨#[112, 114, 111, 116, 111]⟩ := h
        rw [if_neg (by simp), if_neg h']; simp [h]
  rw [if_neg c2, if_neg c2]
  by_cases c3 : op = 11
  · rw [if_pos c3, if_pos c3]
    unfold textB
    by_cases h : s.size ≤ 30
    · rw [if_pos (by omega), i_run2 s hs, bS_s, ← runE_all txB s]
      by_cases h2 : (runE txB s 0 : Int) = s.size
      · rw [if_pos h2]; simp [h, h2]
      · rw [if_neg h2]; simp [h2]
    · rw [if_neg (by omega)]; simp [h]
  rw [if_neg c3, if_neg c3]
  by_cases c4 : op = 27
  · rw [if_pos c4, if_pos c4, i_namesOf _ _ _ _ hs, bS_s, i_containsF s hs, bS_s]
    cases namesAll s <;> rfl
  rw [if_neg c4, if_neg c4]
  by_cases h : s = ⟨#[]⟩
  · rw [if_pos h]; simp [h]
  · rw [if_neg h]; simp [h]
mutual
def okB : T_Node → Bool
  | ⟨op, s, n, ks⟩ => shapeD (midB op) op ks && (textF true op s && numB op n) && okBL ks
def okBL : List T_Node → Bool
  | [] => true
  | x :: l => okB x && okBL l
end
theorem okBL_all : ∀ l : List T_Node, okBL l = l.all okB
  | [] => by simp [okBL]
  | x :: l => by simp [okBL, okBL_all l]
theorem okB_eq (x : T_Node) : okB x = (shapeD (midB x.op_) x.op_ x.kids_ && (textF true x.op_ x.s_ && numB x.op_ x.n_) && x.kids_.all okB) := by
  cases x; simp only [okB, okBL_all]
theorem i_allOk : ∀ (m : Nat) (op : Int) (s : ByteArray) (n : Int) (ks : List T_Node), s.size + sN ks < m → s.size + sN ks ≤ 1048576 → Fi_allOkn m op s n ks = some (okB ⟨op, s, n, ks⟩) := by
  intro m
  induction m with
  | zero => intro op s n ks h; omega
  | succ m ih =>
    intro op s n ks h h1
    have hl := sN_len ks
    have hk : ∀ x ∈ ks, Fi_allOk_c1 (Fi_allOkn m) x.op_ x.s_ x.n_ x.kids_ = some (!okB x) := by
      intro x hx
      have hm := sN_mem hx
      have hw := wN_eq x
      unfold Fi_allOk_c1
      rw [ih _ _ _ _ (by omega) (by omega), bS_s, eta_N]
    show Si_allOk (Fi_allOkn m) op s n ks = _
    unfold Si_allOk
    rw [i_kids op s n ks (by omega), bS_s, i_fields op s n ks (by omega), bS_s]
    have e : Fslices_ContainsFunc_Node_4 (Fi_allOkn m) ks = some (!ks.all okB) := by
      unfold Fslices_ContainsFunc_Node_4 Fslices_IndexFunc_Node_4
      rw [idx_loop (fun q i => Lslices_IndexFunc_Node_0_4 (Fi_allOkn m) q ks ks.length i) ks (fun x => !okB x) .inl (.inr ()) (by omega)
        (by intro q; simp only [Lslices_IndexFunc_Node_0_4]; rw [if_neg (by omega)])
        (by
          intro q i x hx hp
          have hi := ltN hx
          simp only [Lslices_IndexFunc_Node_0_4]
          rw [if_pos (ltI hx), getI_n hx, bS_s, hk x (List.mem_of_getElem? hx), bS_s, if_neg (by rw [hp]; simp), wrI (by omega)])
        (by
          intro q i x hx hp
          simp only [Lslices_IndexFunc_Node_0_4]
          rw [if_pos (ltI hx), getI_n hx, bS_s, hk x (List.mem_of_getElem? hx), bS_s, if_pos hp]), bS_s]
      have e2 : ks.all okB = !(ks.any fun x => !okB x) := by rw [any_not]; simp
      rw [e2, any_find]
      cases ks.findIdx? fun x => !okB x with
      | none => rfl
      | some i => simp
    rw [e, bS_s, okB_eq]
    cases shapeD (midB op) op ks with
    | true => cases (textF true op s && numB op n) <;> simp
    | false => rfl
def rngB (op : Int) : Bool := decide (1 ≤ op) && decide (op ≤ 27)
theorem shape_text (op : Int) (ks : List T_Node) (s : ByteArray) : (shapeD true op ks && textF (rngB op) op s) = (shapeD (midB op) op ks && textF true op s) := by
  by_cases h : op = 1 ∨ one8 op ∨ two6 op ∨ op = 5 ∨ op = 6 ∨ op = 18 ∨ op = 25 ∨ op = 27
  · have h1 : shapeD true op ks = shapeD (midB op) op ks := by
      unfold shapeD
      by_cases c1 : op = 1
      · rw [if_pos c1, if_pos c1]
      rw [if_neg c1, if_neg c1]
      by_cases c2 : one8 op
      · rw [if_pos c2, if_pos c2]
      rw [if_neg c2, if_neg c2]
      by_cases c3 : two6 op
      · rw [if_pos c3, if_pos c3]
      rw [if_neg c3, if_neg c3]
      by_cases c4 : op = 5
      · rw [if_pos c4, if_pos c4]
      rw [if_neg c4, if_neg c4]
      by_cases c5 : op = 6
      · rw [if_pos c5, if_pos c5]
      rw [if_neg c5, if_neg c5]
      by_cases c6 : op = 18
      · rw [if_pos c6, if_pos c6]
      rw [if_neg c6, if_neg c6]
      by_cases c7 : op = 25
      · rw [if_pos c7, if_pos c7]
      rw [if_neg c7, if_neg c7]
      by_cases c8 : op = 27
      · rw [if_pos c8, if_pos c8]
      · exact absurd h (by simp [c1, c2, c3, c4, c5, c6, c7, c8])
    have h2 : rngB op = true := by
      unfold rngB
      simp only [Bool.and_eq_true, decide_eq_true_eq]
      unfold one8 two6 at h
      omega
    rw [h1, h2]
  · simp only [not_or] at h
    obtain ⟨c1, c2, c3, c4, c5, c6, c7, c8⟩ := h
    have hs : ∀ d, shapeD d op ks = (d && decide (ks.length = 0)) := by
      intro d
      unfold shapeD
      rw [if_neg c1, if_neg (by unfold one8; simp only [not_or]; exact c2), if_neg (by unfold two6; simp only [not_or]; exact c3), if_neg c4, if_neg c5, if_neg c6, if_neg c7, if_neg c8]
    rw [hs, hs]
    by_cases hm : midB op = true
    · have hr : rngB op = true := by
        unfold rngB; unfold midB at hm
        simp only [Bool.and_eq_true, decide_eq_true_eq] at hm ⊢
        omega
      rw [hm, hr]
    · have hm' : midB op = false := by simpa using hm
      have hr : rngB op = false := by
        unfold rngB; unfold midB at hm
        simp only [Bool.and_eq_true, decide_eq_true_eq] at hm
        rw [Bool.eq_false_iff]
        simp only [ne_eq, Bool.and_eq_true, decide_eq_true_eq]
        omega
      have ht : textF false op s = false := by
        unfold midB at hm
        simp only [Bool.and_eq_true, decide_eq_true_eq] at hm
        unfold textF
        rw [if_neg (by omega), if_neg (by omega), if_neg (by omega), if_neg (by omega)]; rfl
      rw [hm', hr, ht]; simp
theorem s_l13Ok : ∀ (m : Nat) (op : Int) (s : ByteArray) (n : Int) (ks : List T_Node), s.size + sN ks < m → s.size + sN ks ≤ 1048576 → Fs_l13Okn m op s n ks = some (okB ⟨op, s, n, ks⟩) := by
  intro m
  induction m with
  | zero => intro op s n ks h; omega
  | succ m ih =>
    intro op s n ks h h1
    have hl := sN_len ks
    have hk : ∀ x ∈ ks, Fs_l13Okn m x.op_ x.s_ x.n_ x.kids_ = some (okB x) := by
      intro x hx
      have hm := sN_mem hx
      have hw := wN_eq x
      rw [ih _ _ _ _ (by omega) (by omega), eta_N]
    show Ss_l13Ok (Fs_l13Okn m) op s n ks = _
    unfold Ss_l13Ok
    rw [s_kids (Fs_l13Okn m) okB op s n ks (by omega) hk, bS_s, bS_s, s_l13Name s false (by omega), s_l13Name s true (by omega), s_l13Text s (by omega), s_l13Names s (by omega), s_in, s_in]
    simp only [bS_s]
    rw [okB_eq]
    have hst := shape_text op ks s
    have e : (shapeD (midB op) op ks && (textF true op s && numB op n) && ks.all okB) = ((shapeD true op ks && ks.all okB) && (textF (rngB op) op s && numB op n)) := by
      have : (shapeD (midB op) op ks && (textF true op s && numB op n) && ks.all okB) = ((shapeD (midB op) op ks && textF true op s) && numB op n && ks.all okB) := by
        cases shapeD (midB op) op ks <;> cases textF true op s <;> rfl
      rw [this, ← hst]
      cases shapeD true op ks <;> cases textF (rngB op) op s <;> cases numB op n <;> cases ks.all okB <;> rfl
    rw [e]
    cases (shapeD true op ks && ks.all okB) with
    | false => simp
    | true =>
      simp only [if_true, Bool.true_and]
      rw [ite_or, ite_or, ite_or, ite_or]
      rw [ite_or, ite_or, ite_or, ite_or]
      unfold textF
      have hc : (op = 17 ∨ op = 4) = (op = 4 ∨ op = 17) := propext ⟨Or.symm, Or.symm⟩
      by_cases c10 : op = 10
      · subst c10
        simp only [numB, rngB]
        by_cases c0 : n = 0
        · subst c0; simp
          split <;> simp_all
        · simp [c0]
          split <;> simp_all
      · have hnum : numB op n = decide (n = 0) := by unfold numB; rw [if_neg c10]
        rw [hnum]
        by_cases c0 : n = 0
        · simp only [c0, if_true, c10, if_false, hc, decide_true, Bool.and_true]
          by_cases d1 : ((op = 2 ∨ op = 3) ∨ op = 16) ∨ op = 26
          · rw [if_pos d1, if_pos d1]
          rw [if_neg d1, if_neg d1]
          by_cases d2 : op = 4 ∨ op = 17
          · rw [if_pos d2, if_pos d2]
          rw [if_neg d2, if_neg d2]
          by_cases d3 : op = 11
          · rw [if_pos d3, if_pos d3]
          rw [if_neg d3, if_neg d3]
          by_cases d4 : op = 27
          · rw [if_pos d4, if_pos d4]
          rw [if_neg d4, if_neg d4]
          unfold rngB
          by_cases d5 : s = ⟨#[]⟩
          · rw [if_pos d5]; simp [d5]
          · rw [if_neg d5]; simp [d5]
        · simp [c0, c10]
def nodeB (x : T_Node) : Bool := decide (x.op_ = 1) && (decide (szT x ≤ 200) && decide (dpT x ≤ 20)) && okB x
theorem nodeOk_r (op : Int) (s : ByteArray) (k : Int) (ks : List T_Node) (hw : s.size + sN ks ≤ 1048576) : Fs_NodeOk op s k ks = some (nodeB ⟨op, s, k, ks⟩) ∧ Fi_NodeOk op s k ks = some (nodeB ⟨op, s, k, ks⟩) := by
  have a1 : Fs_Deep op s k ks = some ((dpL ks + 1 : Nat) : Int) := s_Deep FU op s k ks (by unfold FU; omega) (by omega)
  have a2 : Fi_Deep op s k ks = some ((dpL ks + 1 : Nat) : Int) := i_Deep FU op s k ks (by unfold FU; omega) (by omega)
  have a3 : Fs_Size op s k ks = some ((1 + szL ks : Nat) : Int) := s_Size FU op s k ks (by unfold FU; omega) (by omega)
  have a4 : Fi_Size op s k ks = some ((1 + szL ks : Nat) : Int) := i_Size FU op s k ks (by unfold FU; omega) (by omega)
  have a5 : Fs_l13Ok op s k ks = some (okB ⟨op, s, k, ks⟩) := s_l13Ok FU op s k ks (by unfold FU; omega) (by omega)
  have a6 : Fi_allOk op s k ks = some (okB ⟨op, s, k, ks⟩) := i_allOk FU op s k ks (by unfold FU; omega) (by omega)
  unfold Fs_NodeOk Fi_NodeOk nodeB
  rw [a1, a2, a3, a4, a5, a6]
  simp only [bS_s, szT, dpT]
  have e1 : (((1 + szL ks : Nat) : Int) ≤ 200) = (1 + szL ks ≤ 200) := propext (by omega)
  have e2 : (((dpL ks + 1 : Nat) : Int) ≤ 20) = (dpL ks + 1 ≤ 20) := propext (by omega)
  simp only [e1, e2]
  by_cases c1 : op = 1 <;> by_cases c2 : 1 + szL ks ≤ 200 <;> by_cases c3 : dpL ks + 1 ≤ 20 <;> cases okB ⟨op, s, k, ks⟩ <;> simp [c1, c2, c3]
end Go.Pv

namespace Go.Pv
set_option maxRecDepth 100000
set_option maxHeartbeats 4000000
set_option linter.unusedSimpArgs false
set_option linter.unusedVariables false
/-! copies of trees -/
theorem fold_app {τ : Type} : ∀ (l a : List τ), l.foldl (fun acc x => acc ++ [x]) a = a ++ l
  | [], a => by simp
  | x :: l, a => by rw [List.foldl_cons, fold_app l]; simp
theorem s_copy : ∀ (n : Nat) (op : Int) (s : ByteArray) (k : Int) (ks : List T_Node), sN ks < n → sN ks ≤ 1048576 → Fs_l12Copyn n op s k ks = some (op, s, k, ks) := by
  intro n
  induction n with
  | zero => intro op s k ks h; omega
  | succ n ih =>
    intro op s k ks h h1
    have hl := sN_len ks
    show Ss_l12Copy (Fs_l12Copyn n) op s k ks = _
    unfold Ss_l12Copy
    rw [fold_loop (fun m (acc : List T_Node) i => Ls_l12Copy_0 (Fs_l12Copyn n) m i op s k ks 0 (⟨#[]⟩ : ByteArray) 0 [] op s k acc) ks (fun acc x => acc ++ [x]) id [] (by omega)
      (by intro m t _; simp only [Ls_l12Copy_0]; rw [if_neg (by omega)]; rfl)
      (by
        intro m i x t hx ht
        have hm := sN_mem (List.mem_of_getElem? hx)
        have hw := wN_eq x
        have hi := ltN hx
        rw [fold_app, List.nil_append] at ht
        have htl : t.length ≤ ks.length := by rw [ht, List.length_take]; omega
        simp only [Ls_l12Copy_0]
        rw [if_pos (ltI hx), getI_n hx, bS_s, ih _ _ _ _ (by omega) (by omega), bS_s]
        simp only
        rw [if_pos (lim_le (by simp only [maxB]; omega)), wrI (by omega), eta_N]), bS_s]
    simp only [fold_app, id, List.nil_append]
theorem i_copy : ∀ (n : Nat) (op : Int) (s : ByteArray) (k : Int) (ks : List T_Node), sN ks < n → sN ks ≤ 1048576 → Fi_copyNoden n op s k ks = some (op, s, k, ks) := by
  intro n
  induction n with
  | zero => intro op s k ks h; omega
  | succ n ih =>
    intro op s k ks h h1
    have hl := sN_len ks
    show Si_copyNode (Fi_copyNoden n) op s k ks = _
    unfold Si_copyNode
    rw [fold_loop (fun m (acc : List T_Node) i => Li_copyNode_0 (Fi_copyNoden n) m ks ks.length i op s k acc 0 (⟨#[]⟩ : ByteArray) 0 []) ks (fun acc x => acc ++ [x]) id [] (by omega)
      (by intro m t _; simp only [Li_copyNode_0]; rw [if_neg (by omega)]; rfl)
      (by
        intro m i x t hx ht
        have hm := sN_mem (List.mem_of_getElem? hx)
        have hw := wN_eq x
        have hi := ltN hx
        rw [fold_app, List.nil_append] at ht
        have htl : t.length ≤ ks.length := by rw [ht, List.length_take]; omega
        simp only [Li_copyNode_0]
        rw [if_pos (ltI hx), getI_n hx, bS_s, ih _ _ _ _ (by omega) (by omega), bS_s]
        simp only
        rw [if_pos (lim_le (by simp only [maxB]; omega)), wrI (by omega), eta_N]), bS_s]
    simp only [fold_app, id, List.nil_append]
/-! the functions within a tree -/
def fn1 (x : T_Node) : List T_Node := if x.op_ = 27 then [x] else []
mutual
def fnT : T_Node → List T_Node
  | ⟨op, s, k, ks⟩ => (if op = 27 then [⟨op, s, k, ks⟩] else []) ++ fnL ks
def fnL : List T_Node → List T_Node
  | [] => []
  | x :: l => fnT x ++ fnL l
end
theorem fnT_eq (x : T_Node) : fnT x = fn1 x ++ fnL x.kids_ := by cases x; simp only [fnT, fn1]
theorem fnL_app (a b : List T_Node) : fnL (a ++ b) = fnL a ++ fnL b := by
  induction a with
  | nil => simp [fnL]
  | cons x l ih => simp [fnL, ih]
theorem fold_fn : ∀ (l a : List T_Node), l.foldl (fun acc x => acc ++ fnT x) a = a ++ fnL l
  | [], a => by simp [fnL]
  | x :: l, a => by rw [List.foldl_cons, fold_fn l]; simp [fnL]
theorem fn1_len (x : T_Node) : (fn1 x).length ≤ 1 := by unfold fn1; split <;> simp
mutual
theorem fnT_len : ∀ x : T_Node, (fnT x).length ≤ szT x
  | ⟨op, s, k, ks⟩ => by
    have := fnL_len ks
    simp only [fnT, szT, List.length_append]
    split <;> simp <;> omega
theorem fnL_len : ∀ l : List T_Node, (fnL l).length ≤ szL l
  | [] => by simp [fnL, szL]
  | x :: l => by
    have := fnT_len x; have := fnL_len l
    simp only [fnL, szL, List.length_append]; omega
end
mutual
theorem fnT_mem : ∀ (x : T_Node) (f : T_Node), f ∈ fnT x → wN f ≤ wN x ∧ szT f ≤ szT x ∧ dpT f ≤ dpT x
  | ⟨op, s, k, ks⟩, f, h => by
    simp only [fnT] at h
    rcases List.mem_append.1 h with h | h
    · split at h
      · simp only [List.mem_singleton] at h; subst h; exact ⟨Nat.le_refl _, Nat.le_refl _, Nat.le_refl _⟩
      · cases h
    · have := fnL_mem ks f h
      simp only [wN, szT, dpT]; omega
theorem fnL_mem : ∀ (l : List T_Node) (f : T_Node), f ∈ fnL l → wN f ≤ sN l ∧ szT f ≤ szL l ∧ dpT f ≤ dpL l
  | [], f, h => by cases h
  | x :: l, f, h => by
    simp only [fnL] at h
    rcases List.mem_append.1 h with h | h
    · have := fnT_mem x f h
      simp only [sN, szL, dpL]; omega
    · have := fnL_mem l f h
      simp only [sN, szL, dpL]; omega
end
theorem s_funs : ∀ (n : Nat) (op : Int) (s : ByteArray) (k : Int) (ks : List T_Node), sN ks < n → sN ks ≤ 1048576 → Fs_l14Funsn n op s k ks = some (fnT ⟨op, s, k, ks⟩) := by
  intro n
  induction n with
  | zero => intro op s k ks h; omega
  | succ n ih =>
    intro op s k ks h h1
    have hl := sN_len ks
    have hz := szL_le ks
    show Ss_l14Funs (Fs_l14Funsn n) op s k ks = _
    have loop : ∀ a : List T_Node, a.length ≤ 1 → Ls_l14Funs_0 (Fs_l14Funsn n) FU a 0 op s k ks = some (a ++ fnL ks) := by
      intro a ha
      rw [fold_loop (fun m (acc : List T_Node) i => Ls_l14Funs_0 (Fs_l14Funsn n) m acc i op s k ks) ks (fun acc x => acc ++ fnT x) id a (by omega)
        (by intro m t _; simp only [Ls_l14Funs_0]; rw [if_neg (by omega)]; rfl)
        (by
          intro m i x t hx ht
          have hm := sN_mem (List.mem_of_getElem? hx)
          have hw := wN_eq x
          have hi := ltN hx
          have hz1 := szL_take1 hx
          have hf := fnT_len x
          have hf2 := fnL_len (ks.take i)
          rw [fold_fn] at ht
          have htl : t.length ≤ 1 + szL (ks.take i) := by rw [ht, List.length_append]; omega
          simp only [Ls_l14Funs_0]
          rw [if_pos (ltI hx), getI_n hx, bS_s, ih _ _ _ _ (by omega) (by omega), bS_s, eta_N, if_pos (lim_le (by simp only [maxB]; omega)), wrI (by omega)])]
      simp only [fold_fn, id]
    unfold Ss_l14Funs
    simp only [fnT]
    by_cases c : op = 27
    · have hc : Fs_l12Copy op s k ks = some (op, s, k, ks) := s_copy FU op s k ks (by unfold FU; omega) (by omega)
      rw [if_pos c, if_pos c, hc, bS_s]
      simp only
      rw [loop _ (by simp), bS_s]
    · rw [if_neg c, if_neg c, loop _ (by simp), bS_s]
theorem i_funs : ∀ (n : Nat) (op : Int) (s : ByteArray) (k : Int) (ks : List T_Node), sN ks < n → sN ks ≤ 1048576 → Fi_funsn n op s k ks = some (fnT ⟨op, s, k, ks⟩) := by
  intro n
  induction n with
  | zero => intro op s k ks h; omega
  | succ n ih =>
    intro op s k ks h h1
    have hl := sN_len ks
    have hz := szL_le ks
    show Si_funs (Fi_funsn n) op s k ks = _
    have loop : ∀ a : List T_Node, a.length ≤ 1 → Li_funs_0 (Fi_funsn n) FU a ks ks.length 0 = some (a ++ fnL ks) := by
      intro a ha
      rw [fold_loop (fun m (acc : List T_Node) i => Li_funs_0 (Fi_funsn n) m acc ks ks.length i) ks (fun acc x => acc ++ fnT x) id a (by omega)
        (by intro m t _; simp only [Li_funs_0]; rw [if_neg (by omega)]; rfl)
        (by
          intro m i x t hx ht
          have hm := sN_mem (List.mem_of_getElem? hx)
          have hw := wN_eq x
          have hi := ltN hx
          have hz1 := szL_take1 hx
          have hf := fnT_len x
          have hf2 := fnL_len (ks.take i)
          rw [fold_fn] at ht
          have htl : t.length ≤ 1 + szL (ks.take i) := by rw [ht, List.length_append]; omega
          simp only [Li_funs_0]
          rw [if_pos (ltI hx), getI_n hx, bS_s, ih _ _ _ _ (by omega) (by omega), bS_s, eta_N, if_pos (lim_le (by simp only [maxB]; omega)), wrI (by omega)])]
      simp only [fold_fn, id]
    unfold Si_funs
    simp only [fnT]
    by_cases c : op = 27
    · rw [if_pos c, if_pos c, loop _ (by simp), bS_s]
    · rw [if_neg c, if_neg c, loop _ (by simp), bS_s]
/-- all functions of a program -/
def funsOf (x : T_Node) : List T_Node := if nodeB x = true then x :: fnT x else []
theorem s_Funs (op : Int) (s : ByteArray) (k : Int) (ks : List T_Node) (hw : s.size + sN ks ≤ 1048576) : Fs_Funs op s k ks = some (funsOf ⟨op, s, k, ks⟩) := by
  have hz := szL_le ks
  unfold Fs_Funs funsOf
  rw [(nodeOk_r op s k ks hw).1, bS_s]
  have hc : Fs_l12Copy op s k ks = some (op, s, k, ks) := s_copy FU op s k ks (by unfold FU; omega) (by omega)
  have hf : Fs_l14Funs op s k ks = some (fnT ⟨op, s, k, ks⟩) := s_funs FU op s k ks (by unfold FU; omega) (by omega)
  have hl := fnT_len ⟨op, s, k, ks⟩
  simp only [szT] at hl
  by_cases c : nodeB ⟨op, s, k, ks⟩ = true
  · rw [if_pos c, if_pos c, hc, bS_s]
    simp only
    rw [hf, bS_s, if_pos (lim_le (by simp only [maxB, List.length_cons, List.length_nil]; omega))]; rfl
  · rw [if_neg c, if_neg c]
theorem i_Funs (op : Int) (s : ByteArray) (k : Int) (ks : List T_Node) (hw : s.size + sN ks ≤ 1048576) : Fi_Funs op s k ks = some (funsOf ⟨op, s, k, ks⟩) := by
  have hz := szL_le ks
  unfold Fi_Funs funsOf
  rw [(nodeOk_r op s k ks hw).2, bS_s]
  have hc : Fi_copyNode op s k ks = some (op, s, k, ks) := i_copy FU op s k ks (by unfold FU; omega) (by omega)
  have hf : Fi_funs op s k ks = some (fnT ⟨op, s, k, ks⟩) := i_funs FU op s k ks (by unfold FU; omega) (by omega)
  have hl := fnT_len ⟨op, s, k, ks⟩
  simp only [szT] at hl
  by_cases c : nodeB ⟨op, s, k, ks⟩ = true
  · rw [if_pos c, if_pos c, hc, bS_s]
    simp only
    rw [hf, bS_s, fold_loop (fun m (acc : List T_Node) i => Li_Funs_0 m acc (fnT ⟨op, s, k, ks⟩) (fnT ⟨op, s, k, ks⟩).length i) (fnT ⟨op, s, k, ks⟩) (fun acc x => acc ++ [x]) id [⟨op, s, k, ks⟩] (by omega)
      (by intro m t _; simp only [Li_Funs_0]; rw [if_neg (by omega)]; rfl)
      (by
        intro m i x t hx ht
        have hm := fnT_mem _ x (List.mem_of_getElem? hx)
        have hw2 := wN_eq x
        simp only [wN] at hm
        have hi := ltN hx
        rw [fold_app] at ht
        have htl : t.length ≤ 1 + (fnT ⟨op, s, k, ks⟩).length := by rw [ht]; simp; omega
        have hcx : Fi_copyNode x.op_ x.s_ x.n_ x.kids_ = some (x.op_, x.s_, x.n_, x.kids_) := i_copy FU _ _ _ _ (by unfold FU; omega) (by omega)
        simp only [Li_Funs_0]
        rw [if_pos (ltI hx), getI_n hx, bS_s, hcx, bS_s]
        simp only
        rw [if_pos (lim_le (by simp only [maxB]; omega)), wrI (by omega), eta_N]), bS_s]
    simp only [fold_app, id]; rfl
  · rw [if_neg c, if_neg c]
/-! two rows of trees that are alike -/
theorem eqNodeS_r : ∀ (n : Nat) (ks : List T_Node), dpL ks < n → szL ks ≤ 1048576 → ks.length ≤ 4194303 → Fw_eqNodeSn n ks ks = some true := by
  intro n
  induction n with
  | zero => intro ks h; omega
  | succ n ih =>
    intro ks h h1 h2
    show Sw_eqNodeS (Fw_eqNodeSn n) ks ks = _
    unfold Sw_eqNodeS
    rw [if_pos rfl, all_loop0 (fun m i => Lw_eqNodeS_0 (Fw_eqNodeSn n) m ks ks i) ks (fun _ => true) (.inr ()) (.inl false) h2
      (by intro m; simp only [Lw_eqNodeS_0]; rw [if_neg (by omega)])
      (by
        intro m i x hx _
        have hi := ltN hx
        have hm := List.mem_of_getElem? hx
        have hd := dpL_mem hm
        have hz := szL_mem hm
        rw [dpT_eq] at hd
        rw [szT_eq] at hz
        have hle : x.kids_.length ≤ szL x.kids_ := by
          generalize x.kids_ = l
          induction l with
          | nil => simp
          | cons y l ih => have := szT_eq y; simp only [List.length_cons, szL]; omega
        simp only [Lw_eqNodeS_0]
        rw [if_pos (ltI hx), getI_n hx, bS_s, bS_s]
        unfold Fw_eqNode
        rw [if_pos rfl, if_pos rfl, if_pos rfl, ih _ (by omega) (by omega) (by omega), bS_s, if_pos rfl, bS_s, if_pos rfl, wrI (by omega)])
      (by intro m i x _ h; cases h), bS_s]
    simp
theorem szL_len (l : List T_Node) : l.length ≤ szL l := by
  induction l with
  | nil => simp
  | cons y l ih => have := szT_eq y; simp only [List.length_cons, szL]; omega
/-! marks -/
def HL (n : Nat) : List T_Node → Int → Int → Prop
  | [], c, m => c = m
  | x :: l, c, m => x.op_ = c ∧ Fw_markText (c + 1) = some x.s_ ∧ x.n_ = c + 1 + 1 ∧ ∃ m', 0 ≤ m' ∧ m' ≤ 4503599627370496 ∧ Fw_heldNodeSn n x.kids_ (c + 1 + 1 + 1) = some m' ∧ HL n l m' m
theorem HL_app {n : Nat} : ∀ {a b : List T_Node} {c m p : Int}, HL n a c m → HL n b m p → HL n (a ++ b) c p
  | [], b, c, m, p, h1, h2 => by simp only [HL] at h1; subst h1; exact h2
  | x :: a, b, c, m, p, h1, h2 => by
    obtain ⟨e1, e2, e3, m', e4, e4', e5, e6⟩ := h1
    exact ⟨e1, e2, e3, m', e4, e4', e5, HL_app e6 h2⟩
theorem held_loop (n : Nat) (xs : List T_Node) (hB : xs.length ≤ 4194303) : ∀ (q i : Nat) (c m : Int), xs.length - i < q → i ≤ xs.length → 0 ≤ c → c ≤ 4503599627370496 → HL n (xs.drop i) c m → Lw_heldNodeS_0 (Fw_heldNodeSn n) q xs c i = some (.inr m) := by
  intro q
  induction q with
  | zero => intro i c m h; omega
  | succ q ih =>
    intro i c m h1 h2 h3 h4 h5
    simp only [Lw_heldNodeS_0]
    by_cases d : i < xs.length
    · obtain ⟨x, hx⟩ := lt_get d
      rw [drop_some hx] at h5
      obtain ⟨e1, e2, e3, m', e4, e4', e5, e6⟩ := h5
      have w1 : IntKind.i64.wrap (c + 1) = c + 1 := wr1 h3 (by omega)
      have w2 : IntKind.i64.wrap (c + 1 + 1) = c + 1 + 1 := wr1 (by omega) (by omega)
      have w3 : IntKind.i64.wrap (c + 1 + 1 + 1) = c + 1 + 1 + 1 := wr1 (by omega) (by omega)
      rw [if_pos (by omega), getI_n hx, bS_s, if_pos e1, w1, e2, bS_s, if_pos rfl, w2, if_pos e3, w3, e5, bS_s, if_neg (by omega), wrI (by omega)]
      exact ih (i + 1) m' m (by omega) (by omega) e4 e4' e6
    · rw [if_neg (by omega)]
      rw [List.drop_eq_nil_of_le (by omega)] at h5
      simp only [HL] at h5
      rw [h5]
theorem marks_r : ∀ (n : Nat) (ks : List T_Node) (k : Int), dpL ks < n → szL ks ≤ 1048576 → 0 ≤ k → k + 3 * szL ks ≤ 4503599627370496 → ∃ (m : Int) (ys : List T_Node), Fw_markNodeSn n ks k = some (m, ys) ∧ ys.length = ks.length ∧ k ≤ m ∧ m ≤ k + 3 * szL ks ∧ Fw_heldNodeSn n ys k = some m := by
  intro n
  induction n with
  | zero => intro ks k h; omega
  | succ n ih =>
    intro ks k h h1 hk hk2
    have hl := szL_len ks
    obtain ⟨r, e, hr⟩ := inv_loop (fun n' (s : List T_Node × Int) i => Lw_markNodeS_0 (Fw_markNodeSn n) n' s.1 s.2 i) ks.length
      (fun i s => s.1.length = ks.length ∧ (∀ j, i ≤ j → s.1[j]? = ks[j]?) ∧ k ≤ s.2 ∧ s.2 ≤ k + 3 * szL (ks.take i) ∧ HL n (s.1.take i) k s.2) (fun r => r.1.length = ks.length ∧ k ≤ r.2 ∧ r.2 ≤ k + 3 * szL ks ∧ HL n r.1 k r.2) (by omega)
      (by
        rintro n' i ⟨l, m⟩ hi c ⟨h2, h3, h4, h5, h6⟩
        simp only at h2 h3 h4 h5 h6
        refine ⟨(l, m), ?_, h2, h4, ?_, ?_⟩
        · simp only [Lw_markNodeS_0]; rw [if_neg (by omega)]
        · rw [List.take_of_length_le (by omega)] at h5; exact h5
        · rw [List.take_of_length_le (by omega)] at h6; exact h6)
      (by
        rintro n' i ⟨l, m⟩ c ⟨h2, h3, h4, h5, h6⟩
        simp only at h2 h3 h4 h5 h6
        have hx : l[i]? = some ks[i] := by rw [h3 i (by omega), List.getElem?_eq_getElem c]
        have hxk : ks[i]? = some ks[i] := List.getElem?_eq_getElem c
        generalize ks[i] = x at hx hxk
        have hmem := List.mem_of_getElem? hxk
        have hz := szL_take1 hxk
        have hd := dpL_mem hmem
        rw [dpT_eq] at hd
        rw [szT_eq] at hz
        have ht1 : szL (ks.take (i + 1)) = szL (ks.take i) + (1 + szL x.kids_) := by
          rw [List.take_add_one, hxk, szL_app]; simp [szL, szT_eq]
        obtain ⟨r, hr⟩ := markText_tot (m + 1) (by omega)
        have w1 := wr1 (i := m) (by omega) (by omega)
        have w2 := wr1 (i := m + 1) (by omega) (by omega)
        have w3 := wr1 (i := m + 1 + 1) (by omega) (by omega)
        obtain ⟨m', ys, hy, hyl, hm1, hm2, hh⟩ := ih x.kids_ (m + 1 + 1 + 1) (by omega) (by omega) (by omega) (by omega)
        refine .inl ⟨((((l.set i ⟨m, x.s_, x.n_, x.kids_⟩).set i ⟨m, r, x.n_, x.kids_⟩).set i ⟨m, r, m + 1 + 1, x.kids_⟩).set i ⟨m, r, m + 1 + 1, ys⟩, m'), ?_, ?_, ?_, by simp only; omega, ?_, ?_⟩
        · simp only [Lw_markNodeS_0, Int.toNat_natCast]
          rw [if_pos (by omega), getI_n hx, bS_s, w1, hr, bS_s, getI_n (gset (by (try simp only [List.length_set]); omega)), bS_s, getI_n (gset (by (try simp only [List.length_set]); omega)), bS_s, w2, getI_n (gset (by (try simp only [List.length_set]); omega)), bS_s, w3, hy, bS_s]
          simp only
          rw [if_pos hyl, wr1 (i := i) (by omega) (by omega)]; rfl
        · simp [h2]
        · intro j hj
          simp only
          rw [List.getElem?_set_ne (by omega), List.getElem?_set_ne (by omega), List.getElem?_set_ne (by omega), List.getElem?_set_ne (by omega)]
          exact h3 j (by omega)
        · simp only
          rw [ht1]; omega
        · simp only
          have ht : ((((l.set i ⟨m, x.s_, x.n_, x.kids_⟩).set i ⟨m, r, x.n_, x.kids_⟩).set i ⟨m, r, m + 1 + 1, x.kids_⟩).set i ⟨m, r, m + 1 + 1, ys⟩).take (i + 1) = l.take i ++ [⟨m, r, m + 1 + 1, ys⟩] := by
            simp only [List.set_set]
            rw [List.take_add_one, List.take_set_of_le (Nat.le_refl _), gset (by omega)]; rfl
          rw [ht]
          exact HL_app h6 ⟨rfl, hr, rfl, m', by omega, by omega, hh, rfl⟩) (ks, k) ⟨rfl, fun _ _ => rfl, by simp, by simp [szL], by simp [HL]⟩
    obtain ⟨l, m⟩ := r
    obtain ⟨h2, h3, h4, h5⟩ := hr
    simp only at h2 h3 h4 h5 e
    refine ⟨m, l, ?_, h2, h3, h4, ?_⟩
    · show Sw_markNodeS (Fw_markNodeSn n) ks k = _
      unfold Sw_markNodeS
      rw [e]; simp
    · show Sw_heldNodeS (Fw_heldNodeSn n) l k = _
      unfold Sw_heldNodeS
      have := held_loop n l (by omega) FU 0 k m (by unfold FU; omega) (by omega) hk (by omega) (by simpa using h5)
      rw [show ((0 : Nat) : Int) = 0 from rfl] at this
      rw [this, bS_s]
theorem funsOf_small (x : T_Node) : dpL (funsOf x) ≤ 20 ∧ szL (funsOf x) ≤ 40200 := by
  unfold funsOf
  split
  · rename_i h
    have hb := h
    unfold nodeB at hb
    simp only [Bool.and_eq_true, decide_eq_true_eq] at hb
    have hz := hb.1.2.1
    have hd := hb.1.2.2
    have hl := fnT_len x
    have key : ∀ l : List T_Node, (∀ f ∈ l, szT f ≤ 200 ∧ dpT f ≤ 20) → dpL l ≤ 20 ∧ szL l ≤ 200 * l.length := by
      intro l
      induction l with
      | nil => intro _; simp [dpL, szL]
      | cons y l ih =>
        intro hy
        have h1 := hy y (List.mem_cons_self ..)
        have h2 := ih (fun f hf => hy f (List.mem_cons_of_mem _ hf))
        simp only [dpL, szL, List.length_cons]; omega
    have := key (x :: fnT x) (by
      intro f hf
      rcases List.mem_cons.1 hf with rfl | hf
      · exact ⟨hz, hd⟩
      · have := fnT_mem x f hf; omega)
    simp only [List.length_cons] at this
    omega
  · simp [dpL, szL]
theorem Funs_all {op : Int} {s : ByteArray} {k : Int} {ks : List T_Node} (hs : s.size ≤ 9223372036854775807) (hl : ks.length ≤ 9223372036854775807) (ho : okL ks) : Fw_FnExactFuns op s k ks = some true := by
  obtain ⟨r, e, hr⟩ := szNode_r FU op s k ks 1048576 hs hl ho (by omega) (by omega) (by unfold FU; omega)
  unfold Fw_FnExactFuns Fw_szNode
  rw [e, bS_s]
  by_cases c : r < 0
  · rw [if_pos c]
  rw [if_neg c]
  obtain ⟨h1, h2⟩ := hr.resolve_left c
  have hw : s.size + sN ks ≤ 1048576 := by omega
  have hz := szL_le ks
  have hd := dpL_le ks
  have hle := szL_len ks
  have e8 : Fw_toNode op s k ks = some (op, s, k, ks) := toNode_r FU op s k ks (by unfold FU; omega) (by omega)
  have hf := funsOf_small ⟨op, s, k, ks⟩
  have hfl := szL_len (funsOf ⟨op, s, k, ks⟩)
  have q1 : Fw_eqNodeS (funsOf ⟨op, s, k, ks⟩) (funsOf ⟨op, s, k, ks⟩) = some true := eqNodeS_r FU _ (by unfold FU; omega) (by omega) (by omega)
  have q2 : Fw_eqNodeS ks ks = some true := eqNodeS_r FU _ (by unfold FU; omega) (by omega) (by omega)
  obtain ⟨m1, y1, a1, a2, a3, a4, a5⟩ := marks_r FU ks 1 (by unfold FU; omega) (by omega) (by omega) (by omega)
  obtain ⟨m2, y2, b1, b2, b3, b4, b5⟩ := marks_r FU (funsOf ⟨op, s, k, ks⟩) 1 (by unfold FU; omega) (by omega) (by omega) (by omega)
  have a1' : Fw_markNodeS ks 1 = some (m1, y1) := a1
  have b1' : Fw_markNodeS (funsOf ⟨op, s, k, ks⟩) 1 = some (m2, y2) := b1
  have b5' : Fw_heldNodeS y2 1 = some m2 := b5
  rw [e8, bS_s]
  simp only
  rw [s_Funs op s k ks hw, bS_s, i_Funs op s k ks hw, bS_s, q1, bS_s, if_pos rfl]
  unfold Fw_eqNode_2
  rw [if_pos rfl, if_pos rfl, if_pos rfl, q2, bS_s, if_pos rfl, bS_s, if_pos rfl]
  unfold Fw_markNode
  rw [a1', bS_s]
  simp only
  rw [if_pos a2, bS_s]
  simp only
  rw [if_pos a2, if_neg (by omega), b1', bS_s]
  simp only
  rw [if_pos b2, b5', bS_s, if_neg (by omega), if_pos rfl]
end Go.Pv
